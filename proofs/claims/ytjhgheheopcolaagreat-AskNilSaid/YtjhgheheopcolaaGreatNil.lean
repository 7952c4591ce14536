/- Of a replica that is not there nothing is read: for any letter and any key the law AskNil returns true. -/
import Derived.Test.YtjhgheheopcolaaGreatCd
import Derived.Test.YtjhgheheopcolaaGreatRows
open Go Go.Abs Go.Proofs
set_option maxRecDepth 100000
set_option maxHeartbeats 4000000
set_option linter.unusedSimpArgs false
set_option linter.unusedVariables false
def isT38 (e : AV) : Prop := ∃ (fa0 : Int) (fa1 : Int) (fa2 : Int) (fa3 : Int) (fa4 : Int) (fa5 : Int) (fa6 : Int) (fa7 : Int) (fa8 : Int) (fa9 : Int) (fa10 : Bool) (fa11 : Int) (fa12 : Int) (fa13 : AV) (fa14 : AV) (fa15 : AV) (fa16 : Int) (fa17 : Int) (fa18 : Bool) (fa19 : AV) (fa20 : AV) (fa21 : Int) (fa22 : Int) (fa23 : ByteArray) (fa24 : Int) (fa25 : Int), e = .agg [.int .i64 fa0, .int .i64 fa1, .int .i64 fa2, .int .i64 fa3, .int .i64 fa4, .int .i64 fa5, .int .u64 fa6, .int .i64 fa7, .int .i64 fa8, .int .i64 fa9, .bool fa10, .int .u64 fa11, .int .i64 fa12, fa13, fa14, fa15, .int .i64 fa16, .int .u64 fa17, .bool fa18, fa19, fa20, .int .i64 fa21, .int .u64 fa22, .str fa23, .int .u64 fa24, .int .i64 fa25] ∧ isSl 4 isT72 fa13 ∧ isSl 4 isT77 fa14 ∧ isSl 10 isT80 fa15 ∧ isSl 2 isT112 fa19 ∧ isSl 3 isT114 fa20
def isT9 (e : AV) : Prop := ∃ (fa0 : ByteArray), e = .str fa0
theorem has3_7 {cs : List AV} (h : hasCs Tryz.prog 7 3 cs) : ∃ (fa0 : Int), cs = [.int .i64 fa0] := by
  unfold hasCs at h
  simp only [Tryz.underlying3] at h
  obtain ⟨fa0, rfl, _⟩ := h
  exact ⟨fa0, rfl⟩
theorem has23_8 {cs : List AV} (h : hasCs Tryz.prog 8 23 cs) : ∃ (fa0 : Int) (fa1 : Int), cs = [.int .i64 fa0, .int .i64 fa1] := by
  unfold hasCs at h
  simp only [Tryz.underlying23, hasFs] at h
  obtain ⟨x0, y0, rfl, h0, x1, y1, rfl, h1, rfl⟩ := h
  obtain ⟨fa0, rfl⟩ := has3_7 h0
  obtain ⟨fa1, rfl⟩ := has3_7 h1
  exact ⟨fa0, fa1, rfl⟩
theorem has3_8 {cs : List AV} (h : hasCs Tryz.prog 8 3 cs) : ∃ (fa0 : Int), cs = [.int .i64 fa0] := by
  unfold hasCs at h
  simp only [Tryz.underlying3] at h
  obtain ⟨fa0, rfl, _⟩ := h
  exact ⟨fa0, rfl⟩
theorem has24_8 {cs : List AV} (h : hasCs Tryz.prog 8 24 cs) : ∃ (fa0 : Int), cs = [.int .u64 fa0] := by
  unfold hasCs at h
  simp only [Tryz.underlying24] at h
  obtain ⟨fa0, rfl, _⟩ := h
  exact ⟨fa0, rfl⟩
theorem has4_8 {cs : List AV} (h : hasCs Tryz.prog 8 4 cs) : ∃ (fa0 : Bool), cs = [.bool fa0] := by
  unfold hasCs at h
  simp only [Tryz.underlying4] at h
  obtain ⟨fa0, rfl⟩ := h
  exact ⟨fa0, rfl⟩
theorem has24_7 {cs : List AV} (h : hasCs Tryz.prog 7 24 cs) : ∃ (fa0 : Int), cs = [.int .u64 fa0] := by
  unfold hasCs at h
  simp only [Tryz.underlying24] at h
  obtain ⟨fa0, rfl, _⟩ := h
  exact ⟨fa0, rfl⟩
theorem has26_8 {cs : List AV} (h : hasCs Tryz.prog 8 26 cs) : ∃ (fa0 : Int) (fa1 : Int), cs = [.int .u64 fa0, .int .i64 fa1] := by
  unfold hasCs at h
  simp only [Tryz.underlying26, hasFs] at h
  obtain ⟨x0, y0, rfl, h0, x1, y1, rfl, h1, rfl⟩ := h
  obtain ⟨fa0, rfl⟩ := has24_7 h0
  obtain ⟨fa1, rfl⟩ := has3_7 h1
  exact ⟨fa0, fa1, rfl⟩
theorem has3_6 {cs : List AV} (h : hasCs Tryz.prog 6 3 cs) : ∃ (fa0 : Int), cs = [.int .i64 fa0] := by
  unfold hasCs at h
  simp only [Tryz.underlying3] at h
  obtain ⟨fa0, rfl, _⟩ := h
  exact ⟨fa0, rfl⟩
theorem has24_5 {cs : List AV} (h : hasCs Tryz.prog 5 24 cs) : ∃ (fa0 : Int), cs = [.int .u64 fa0] := by
  unfold hasCs at h
  simp only [Tryz.underlying24] at h
  obtain ⟨fa0, rfl, _⟩ := h
  exact ⟨fa0, rfl⟩
theorem has3_5 {cs : List AV} (h : hasCs Tryz.prog 5 3 cs) : ∃ (fa0 : Int), cs = [.int .i64 fa0] := by
  unfold hasCs at h
  simp only [Tryz.underlying3] at h
  obtain ⟨fa0, rfl, _⟩ := h
  exact ⟨fa0, rfl⟩
theorem has26_6 {cs : List AV} (h : hasCs Tryz.prog 6 26 cs) : ∃ (fa0 : Int) (fa1 : Int), cs = [.int .u64 fa0, .int .i64 fa1] := by
  unfold hasCs at h
  simp only [Tryz.underlying26, hasFs] at h
  obtain ⟨x0, y0, rfl, h0, x1, y1, rfl, h1, rfl⟩ := h
  obtain ⟨fa0, rfl⟩ := has24_5 h0
  obtain ⟨fa1, rfl⟩ := has3_5 h1
  exact ⟨fa0, fa1, rfl⟩
theorem has9_6 {cs : List AV} (h : hasCs Tryz.prog 6 9 cs) : ∃ (fa0 : ByteArray), cs = [.str fa0] := by
  unfold hasCs at h
  simp only [Tryz.underlying9] at h
  obtain ⟨fa0, rfl, _⟩ := h
  exact ⟨fa0, rfl⟩
theorem has72_7 {cs : List AV} (h : hasCs Tryz.prog 7 72 cs) : ∃ (fa0 : Int) (fa1 : Int) (fa2 : Int) (fa3 : ByteArray), cs = [.int .i64 fa0, .int .u64 fa1, .int .i64 fa2, .str fa3] := by
  unfold hasCs at h
  simp only [Tryz.underlying72, hasFs] at h
  obtain ⟨x0, y0, rfl, h0, x1, y1, rfl, h1, x2, y2, rfl, h2, rfl⟩ := h
  obtain ⟨fa0, rfl⟩ := has3_6 h0
  obtain ⟨fa1, fa2, rfl⟩ := has26_6 h1
  obtain ⟨fa3, rfl⟩ := has9_6 h2
  exact ⟨fa0, fa1, fa2, fa3, rfl⟩
theorem has27_8 {cs : List AV} (h : hasCs Tryz.prog 8 27 cs) : ∃ x, cs = [x] ∧ isSl 4 isT72 x := by
  have hz : Tryz.prog.cellsOf 72 = 4 := by kernel_rfl
  unfold hasCs at h
  simp only [Tryz.underlying27, hz] at h
  rcases h with rfl | ⟨es, rfl, hl, he⟩
  · exact ⟨_, rfl, .inl rfl⟩
  · refine ⟨_, rfl, .inr ⟨es, rfl, Nat.le_trans hl (by decide), fun x hx => ?_⟩⟩
    obtain ⟨_, xs, e, hc⟩ := he x hx
    have ha : isAggT Tryz.prog 72 = true := by kernel_rfl
    simp only [Go.Abs.elemOf, ha, if_true] at e
    obtain ⟨v0, v1, v2, v3, rfl⟩ := has72_7 hc
    exact ⟨v0, v1, v2, v3, e⟩
theorem has24_6 {cs : List AV} (h : hasCs Tryz.prog 6 24 cs) : ∃ (fa0 : Int), cs = [.int .u64 fa0] := by
  unfold hasCs at h
  simp only [Tryz.underlying24] at h
  obtain ⟨fa0, rfl, _⟩ := h
  exact ⟨fa0, rfl⟩
theorem has3_4 {cs : List AV} (h : hasCs Tryz.prog 4 3 cs) : ∃ (fa0 : Int), cs = [.int .i64 fa0] := by
  unfold hasCs at h
  simp only [Tryz.underlying3] at h
  obtain ⟨fa0, rfl, _⟩ := h
  exact ⟨fa0, rfl⟩
theorem has4_4 {cs : List AV} (h : hasCs Tryz.prog 4 4 cs) : ∃ (fa0 : Bool), cs = [.bool fa0] := by
  unfold hasCs at h
  simp only [Tryz.underlying4] at h
  obtain ⟨fa0, rfl⟩ := h
  exact ⟨fa0, rfl⟩
theorem has116_5 {cs : List AV} (h : hasCs Tryz.prog 5 116 cs) : ∃ (fa0 : Int) (fa1 : Bool), cs = [.int .i64 fa0, .bool fa1] := by
  unfold hasCs at h
  simp only [Tryz.underlying116, hasFs] at h
  obtain ⟨x0, y0, rfl, h0, x1, y1, rfl, h1, rfl⟩ := h
  obtain ⟨fa0, rfl⟩ := has3_4 h0
  obtain ⟨fa1, rfl⟩ := has4_4 h1
  exact ⟨fa0, fa1, rfl⟩
theorem has75_6 {cs : List AV} (h : hasCs Tryz.prog 6 75 cs) : ∃ x, cs = [x] ∧ isSl 2 isT116 x := by
  have hz : Tryz.prog.cellsOf 116 = 2 := by kernel_rfl
  unfold hasCs at h
  simp only [Tryz.underlying75, hz] at h
  rcases h with rfl | ⟨es, rfl, hl, he⟩
  · exact ⟨_, rfl, .inl rfl⟩
  · refine ⟨_, rfl, .inr ⟨es, rfl, Nat.le_trans hl (by decide), fun x hx => ?_⟩⟩
    obtain ⟨_, xs, e, hc⟩ := he x hx
    have ha : isAggT Tryz.prog 116 = true := by kernel_rfl
    simp only [Go.Abs.elemOf, ha, if_true] at e
    obtain ⟨v0, v1, rfl⟩ := has116_5 hc
    exact ⟨v0, v1, e⟩
theorem has77_7 {cs : List AV} (h : hasCs Tryz.prog 7 77 cs) : ∃ (fa0 : Int) (fa1 : Int) (fa2 : AV) (fa3 : Int), cs = [.int .u64 fa0, .int .i64 fa1, fa2, .int .i64 fa3] ∧ isSl 2 isT116 fa2 := by
  unfold hasCs at h
  simp only [Tryz.underlying77, hasFs] at h
  obtain ⟨x0, y0, rfl, h0, x1, y1, rfl, h1, x2, y2, rfl, h2, x3, y3, rfl, h3, rfl⟩ := h
  obtain ⟨fa0, rfl⟩ := has24_6 h0
  obtain ⟨fa1, rfl⟩ := has3_6 h1
  obtain ⟨fa2, rfl, qa2⟩ := has75_6 h2
  obtain ⟨fa3, rfl⟩ := has3_6 h3
  exact ⟨fa0, fa1, fa2, fa3, rfl, qa2⟩
theorem has28_8 {cs : List AV} (h : hasCs Tryz.prog 8 28 cs) : ∃ x, cs = [x] ∧ isSl 4 isT77 x := by
  have hz : Tryz.prog.cellsOf 77 = 4 := by kernel_rfl
  unfold hasCs at h
  simp only [Tryz.underlying28, hz] at h
  rcases h with rfl | ⟨es, rfl, hl, he⟩
  · exact ⟨_, rfl, .inl rfl⟩
  · refine ⟨_, rfl, .inr ⟨es, rfl, Nat.le_trans hl (by decide), fun x hx => ?_⟩⟩
    obtain ⟨_, xs, e, hc⟩ := he x hx
    have ha : isAggT Tryz.prog 77 = true := by kernel_rfl
    simp only [Go.Abs.elemOf, ha, if_true] at e
    obtain ⟨v0, v1, v2, v3, rfl, q2⟩ := has77_7 hc
    exact ⟨v0, v1, v2, v3, e, q2⟩
theorem has24_4 {cs : List AV} (h : hasCs Tryz.prog 4 24 cs) : ∃ (fa0 : Int), cs = [.int .u64 fa0] := by
  unfold hasCs at h
  simp only [Tryz.underlying24] at h
  obtain ⟨fa0, rfl, _⟩ := h
  exact ⟨fa0, rfl⟩
theorem has31_5 {cs : List AV} (h : hasCs Tryz.prog 5 31 cs) : ∃ (fa0 : Int) (fa1 : Int), cs = [.int .i64 fa0, .int .u64 fa1] := by
  unfold hasCs at h
  simp only [Tryz.underlying31, hasFs] at h
  obtain ⟨x0, y0, rfl, h0, x1, y1, rfl, h1, rfl⟩ := h
  obtain ⟨fa0, rfl⟩ := has3_4 h0
  obtain ⟨fa1, rfl⟩ := has24_4 h1
  exact ⟨fa0, fa1, rfl⟩
theorem has4_5 {cs : List AV} (h : hasCs Tryz.prog 5 4 cs) : ∃ (fa0 : Bool), cs = [.bool fa0] := by
  unfold hasCs at h
  simp only [Tryz.underlying4] at h
  obtain ⟨fa0, rfl⟩ := h
  exact ⟨fa0, rfl⟩
theorem has9_3 {cs : List AV} (h : hasCs Tryz.prog 3 9 cs) : ∃ (fa0 : ByteArray), cs = [.str fa0] := by
  unfold hasCs at h
  simp only [Tryz.underlying9] at h
  obtain ⟨fa0, rfl, _⟩ := h
  exact ⟨fa0, rfl⟩
theorem has24_3 {cs : List AV} (h : hasCs Tryz.prog 3 24 cs) : ∃ (fa0 : Int), cs = [.int .u64 fa0] := by
  unfold hasCs at h
  simp only [Tryz.underlying24] at h
  obtain ⟨fa0, rfl, _⟩ := h
  exact ⟨fa0, rfl⟩
theorem has112_4 {cs : List AV} (h : hasCs Tryz.prog 4 112 cs) : ∃ (fa0 : ByteArray) (fa1 : Int), cs = [.str fa0, .int .u64 fa1] := by
  unfold hasCs at h
  simp only [Tryz.underlying112, hasFs] at h
  obtain ⟨x0, y0, rfl, h0, x1, y1, rfl, h1, rfl⟩ := h
  obtain ⟨fa0, rfl⟩ := has9_3 h0
  obtain ⟨fa1, rfl⟩ := has24_3 h1
  exact ⟨fa0, fa1, rfl⟩
theorem has32_5 {cs : List AV} (h : hasCs Tryz.prog 5 32 cs) : ∃ x, cs = [x] ∧ isSl 2 isT112 x := by
  have hz : Tryz.prog.cellsOf 112 = 2 := by kernel_rfl
  unfold hasCs at h
  simp only [Tryz.underlying32, hz] at h
  rcases h with rfl | ⟨es, rfl, hl, he⟩
  · exact ⟨_, rfl, .inl rfl⟩
  · refine ⟨_, rfl, .inr ⟨es, rfl, Nat.le_trans hl (by decide), fun x hx => ?_⟩⟩
    obtain ⟨_, xs, e, hc⟩ := he x hx
    have ha : isAggT Tryz.prog 112 = true := by kernel_rfl
    simp only [Go.Abs.elemOf, ha, if_true] at e
    obtain ⟨v0, v1, rfl⟩ := has112_4 hc
    exact ⟨v0, v1, e⟩
theorem has4_3 {cs : List AV} (h : hasCs Tryz.prog 3 4 cs) : ∃ (fa0 : Bool), cs = [.bool fa0] := by
  unfold hasCs at h
  simp only [Tryz.underlying4] at h
  obtain ⟨fa0, rfl⟩ := h
  exact ⟨fa0, rfl⟩
theorem has114_4 {cs : List AV} (h : hasCs Tryz.prog 4 114 cs) : ∃ (fa0 : ByteArray) (fa1 : ByteArray) (fa2 : Bool), cs = [.str fa0, .str fa1, .bool fa2] := by
  unfold hasCs at h
  simp only [Tryz.underlying114, hasFs] at h
  obtain ⟨x0, y0, rfl, h0, x1, y1, rfl, h1, x2, y2, rfl, h2, rfl⟩ := h
  obtain ⟨fa0, rfl⟩ := has9_3 h0
  obtain ⟨fa1, rfl⟩ := has9_3 h1
  obtain ⟨fa2, rfl⟩ := has4_3 h2
  exact ⟨fa0, fa1, fa2, rfl⟩
theorem has33_5 {cs : List AV} (h : hasCs Tryz.prog 5 33 cs) : ∃ x, cs = [x] ∧ isSl 3 isT114 x := by
  have hz : Tryz.prog.cellsOf 114 = 3 := by kernel_rfl
  unfold hasCs at h
  simp only [Tryz.underlying33, hz] at h
  rcases h with rfl | ⟨es, rfl, hl, he⟩
  · exact ⟨_, rfl, .inl rfl⟩
  · refine ⟨_, rfl, .inr ⟨es, rfl, Nat.le_trans hl (by decide), fun x hx => ?_⟩⟩
    obtain ⟨_, xs, e, hc⟩ := he x hx
    have ha : isAggT Tryz.prog 114 = true := by kernel_rfl
    simp only [Go.Abs.elemOf, ha, if_true] at e
    obtain ⟨v0, v1, v2, rfl⟩ := has114_4 hc
    exact ⟨v0, v1, v2, e⟩
theorem has35_6 {cs : List AV} (h : hasCs Tryz.prog 6 35 cs) : ∃ (fa0 : Int) (fa1 : Int) (fa2 : Bool) (fa3 : AV) (fa4 : AV), cs = [.int .i64 fa0, .int .u64 fa1, .bool fa2, fa3, fa4] ∧ isSl 2 isT112 fa3 ∧ isSl 3 isT114 fa4 := by
  unfold hasCs at h
  simp only [Tryz.underlying35, hasFs] at h
  obtain ⟨x0, y0, rfl, h0, x1, y1, rfl, h1, x2, y2, rfl, h2, x3, y3, rfl, h3, rfl⟩ := h
  obtain ⟨fa0, fa1, rfl⟩ := has31_5 h0
  obtain ⟨fa2, rfl⟩ := has4_5 h1
  obtain ⟨fa3, rfl, qa3⟩ := has32_5 h2
  obtain ⟨fa4, rfl, qa4⟩ := has33_5 h3
  exact ⟨fa0, fa1, fa2, fa3, fa4, rfl, qa3, qa4⟩
theorem has31_6 {cs : List AV} (h : hasCs Tryz.prog 6 31 cs) : ∃ (fa0 : Int) (fa1 : Int), cs = [.int .i64 fa0, .int .u64 fa1] := by
  unfold hasCs at h
  simp only [Tryz.underlying31, hasFs] at h
  obtain ⟨x0, y0, rfl, h0, x1, y1, rfl, h1, rfl⟩ := h
  obtain ⟨fa0, rfl⟩ := has3_5 h0
  obtain ⟨fa1, rfl⟩ := has24_5 h1
  exact ⟨fa0, fa1, rfl⟩
theorem has36_6 {cs : List AV} (h : hasCs Tryz.prog 6 36 cs) : ∃ (fa0 : Int), cs = [.int .i64 fa0] := by
  unfold hasCs at h
  simp only [Tryz.underlying36] at h
  obtain ⟨fa0, rfl, _⟩ := h
  exact ⟨fa0, rfl⟩
theorem has80_7 {cs : List AV} (h : hasCs Tryz.prog 7 80 cs) : ∃ (fa0 : Int) (fa1 : Int) (fa2 : Int) (fa3 : Int) (fa4 : Bool) (fa5 : AV) (fa6 : AV) (fa7 : Int) (fa8 : Int) (fa9 : Int), cs = [.int .u64 fa0, .int .i64 fa1, .int .i64 fa2, .int .u64 fa3, .bool fa4, fa5, fa6, .int .i64 fa7, .int .u64 fa8, .int .i64 fa9] ∧ isSl 2 isT112 fa5 ∧ isSl 3 isT114 fa6 := by
  unfold hasCs at h
  simp only [Tryz.underlying80, hasFs] at h
  obtain ⟨x0, y0, rfl, h0, x1, y1, rfl, h1, x2, y2, rfl, h2, x3, y3, rfl, h3, x4, y4, rfl, h4, rfl⟩ := h
  obtain ⟨fa0, rfl⟩ := has24_6 h0
  obtain ⟨fa1, rfl⟩ := has3_6 h1
  obtain ⟨fa2, fa3, fa4, fa5, fa6, rfl, qa5, qa6⟩ := has35_6 h2
  obtain ⟨fa7, fa8, rfl⟩ := has31_6 h3
  obtain ⟨fa9, rfl⟩ := has36_6 h4
  exact ⟨fa0, fa1, fa2, fa3, fa4, fa5, fa6, fa7, fa8, fa9, rfl, qa5, qa6⟩
theorem has29_8 {cs : List AV} (h : hasCs Tryz.prog 8 29 cs) : ∃ x, cs = [x] ∧ isSl 10 isT80 x := by
  have hz : Tryz.prog.cellsOf 80 = 10 := by kernel_rfl
  unfold hasCs at h
  simp only [Tryz.underlying29, hz] at h
  rcases h with rfl | ⟨es, rfl, hl, he⟩
  · exact ⟨_, rfl, .inl rfl⟩
  · refine ⟨_, rfl, .inr ⟨es, rfl, Nat.le_trans hl (by decide), fun x hx => ?_⟩⟩
    obtain ⟨_, xs, e, hc⟩ := he x hx
    have ha : isAggT Tryz.prog 80 = true := by kernel_rfl
    simp only [Go.Abs.elemOf, ha, if_true] at e
    obtain ⟨v0, v1, v2, v3, v4, v5, v6, v7, v8, v9, rfl, q5, q6⟩ := has80_7 hc
    exact ⟨v0, v1, v2, v3, v4, v5, v6, v7, v8, v9, e, q5, q6⟩
theorem has31_7 {cs : List AV} (h : hasCs Tryz.prog 7 31 cs) : ∃ (fa0 : Int) (fa1 : Int), cs = [.int .i64 fa0, .int .u64 fa1] := by
  unfold hasCs at h
  simp only [Tryz.underlying31, hasFs] at h
  obtain ⟨x0, y0, rfl, h0, x1, y1, rfl, h1, rfl⟩ := h
  obtain ⟨fa0, rfl⟩ := has3_6 h0
  obtain ⟨fa1, rfl⟩ := has24_6 h1
  exact ⟨fa0, fa1, rfl⟩
theorem has4_7 {cs : List AV} (h : hasCs Tryz.prog 7 4 cs) : ∃ (fa0 : Bool), cs = [.bool fa0] := by
  unfold hasCs at h
  simp only [Tryz.underlying4] at h
  obtain ⟨fa0, rfl⟩ := h
  exact ⟨fa0, rfl⟩
theorem has9_5 {cs : List AV} (h : hasCs Tryz.prog 5 9 cs) : ∃ (fa0 : ByteArray), cs = [.str fa0] := by
  unfold hasCs at h
  simp only [Tryz.underlying9] at h
  obtain ⟨fa0, rfl, _⟩ := h
  exact ⟨fa0, rfl⟩
theorem has112_6 {cs : List AV} (h : hasCs Tryz.prog 6 112 cs) : ∃ (fa0 : ByteArray) (fa1 : Int), cs = [.str fa0, .int .u64 fa1] := by
  unfold hasCs at h
  simp only [Tryz.underlying112, hasFs] at h
  obtain ⟨x0, y0, rfl, h0, x1, y1, rfl, h1, rfl⟩ := h
  obtain ⟨fa0, rfl⟩ := has9_5 h0
  obtain ⟨fa1, rfl⟩ := has24_5 h1
  exact ⟨fa0, fa1, rfl⟩
theorem has32_7 {cs : List AV} (h : hasCs Tryz.prog 7 32 cs) : ∃ x, cs = [x] ∧ isSl 2 isT112 x := by
  have hz : Tryz.prog.cellsOf 112 = 2 := by kernel_rfl
  unfold hasCs at h
  simp only [Tryz.underlying32, hz] at h
  rcases h with rfl | ⟨es, rfl, hl, he⟩
  · exact ⟨_, rfl, .inl rfl⟩
  · refine ⟨_, rfl, .inr ⟨es, rfl, Nat.le_trans hl (by decide), fun x hx => ?_⟩⟩
    obtain ⟨_, xs, e, hc⟩ := he x hx
    have ha : isAggT Tryz.prog 112 = true := by kernel_rfl
    simp only [Go.Abs.elemOf, ha, if_true] at e
    obtain ⟨v0, v1, rfl⟩ := has112_6 hc
    exact ⟨v0, v1, e⟩
theorem has114_6 {cs : List AV} (h : hasCs Tryz.prog 6 114 cs) : ∃ (fa0 : ByteArray) (fa1 : ByteArray) (fa2 : Bool), cs = [.str fa0, .str fa1, .bool fa2] := by
  unfold hasCs at h
  simp only [Tryz.underlying114, hasFs] at h
  obtain ⟨x0, y0, rfl, h0, x1, y1, rfl, h1, x2, y2, rfl, h2, rfl⟩ := h
  obtain ⟨fa0, rfl⟩ := has9_5 h0
  obtain ⟨fa1, rfl⟩ := has9_5 h1
  obtain ⟨fa2, rfl⟩ := has4_5 h2
  exact ⟨fa0, fa1, fa2, rfl⟩
theorem has33_7 {cs : List AV} (h : hasCs Tryz.prog 7 33 cs) : ∃ x, cs = [x] ∧ isSl 3 isT114 x := by
  have hz : Tryz.prog.cellsOf 114 = 3 := by kernel_rfl
  unfold hasCs at h
  simp only [Tryz.underlying33, hz] at h
  rcases h with rfl | ⟨es, rfl, hl, he⟩
  · exact ⟨_, rfl, .inl rfl⟩
  · refine ⟨_, rfl, .inr ⟨es, rfl, Nat.le_trans hl (by decide), fun x hx => ?_⟩⟩
    obtain ⟨_, xs, e, hc⟩ := he x hx
    have ha : isAggT Tryz.prog 114 = true := by kernel_rfl
    simp only [Go.Abs.elemOf, ha, if_true] at e
    obtain ⟨v0, v1, v2, rfl⟩ := has114_6 hc
    exact ⟨v0, v1, v2, e⟩
theorem has35_8 {cs : List AV} (h : hasCs Tryz.prog 8 35 cs) : ∃ (fa0 : Int) (fa1 : Int) (fa2 : Bool) (fa3 : AV) (fa4 : AV), cs = [.int .i64 fa0, .int .u64 fa1, .bool fa2, fa3, fa4] ∧ isSl 2 isT112 fa3 ∧ isSl 3 isT114 fa4 := by
  unfold hasCs at h
  simp only [Tryz.underlying35, hasFs] at h
  obtain ⟨x0, y0, rfl, h0, x1, y1, rfl, h1, x2, y2, rfl, h2, x3, y3, rfl, h3, rfl⟩ := h
  obtain ⟨fa0, fa1, rfl⟩ := has31_7 h0
  obtain ⟨fa2, rfl⟩ := has4_7 h1
  obtain ⟨fa3, rfl, qa3⟩ := has32_7 h2
  obtain ⟨fa4, rfl, qa4⟩ := has33_7 h3
  exact ⟨fa0, fa1, fa2, fa3, fa4, rfl, qa3, qa4⟩
theorem has31_8 {cs : List AV} (h : hasCs Tryz.prog 8 31 cs) : ∃ (fa0 : Int) (fa1 : Int), cs = [.int .i64 fa0, .int .u64 fa1] := by
  unfold hasCs at h
  simp only [Tryz.underlying31, hasFs] at h
  obtain ⟨x0, y0, rfl, h0, x1, y1, rfl, h1, rfl⟩ := h
  obtain ⟨fa0, rfl⟩ := has3_7 h0
  obtain ⟨fa1, rfl⟩ := has24_7 h1
  exact ⟨fa0, fa1, rfl⟩
theorem has9_8 {cs : List AV} (h : hasCs Tryz.prog 8 9 cs) : ∃ (fa0 : ByteArray), cs = [.str fa0] := by
  unfold hasCs at h
  simp only [Tryz.underlying9] at h
  obtain ⟨fa0, rfl, _⟩ := h
  exact ⟨fa0, rfl⟩
theorem has36_8 {cs : List AV} (h : hasCs Tryz.prog 8 36 cs) : ∃ (fa0 : Int), cs = [.int .i64 fa0] := by
  unfold hasCs at h
  simp only [Tryz.underlying36] at h
  obtain ⟨fa0, rfl, _⟩ := h
  exact ⟨fa0, rfl⟩
theorem has38_9 {cs : List AV} (h : hasCs Tryz.prog 9 38 cs) : ∃ (fa0 : Int) (fa1 : Int) (fa2 : Int) (fa3 : Int) (fa4 : Int) (fa5 : Int) (fa6 : Int) (fa7 : Int) (fa8 : Int) (fa9 : Int) (fa10 : Bool) (fa11 : Int) (fa12 : Int) (fa13 : AV) (fa14 : AV) (fa15 : AV) (fa16 : Int) (fa17 : Int) (fa18 : Bool) (fa19 : AV) (fa20 : AV) (fa21 : Int) (fa22 : Int) (fa23 : ByteArray) (fa24 : Int) (fa25 : Int), cs = [.int .i64 fa0, .int .i64 fa1, .int .i64 fa2, .int .i64 fa3, .int .i64 fa4, .int .i64 fa5, .int .u64 fa6, .int .i64 fa7, .int .i64 fa8, .int .i64 fa9, .bool fa10, .int .u64 fa11, .int .i64 fa12, fa13, fa14, fa15, .int .i64 fa16, .int .u64 fa17, .bool fa18, fa19, fa20, .int .i64 fa21, .int .u64 fa22, .str fa23, .int .u64 fa24, .int .i64 fa25] ∧ isSl 4 isT72 fa13 ∧ isSl 4 isT77 fa14 ∧ isSl 10 isT80 fa15 ∧ isSl 2 isT112 fa19 ∧ isSl 3 isT114 fa20 := by
  unfold hasCs at h
  simp only [Tryz.underlying38, hasFs] at h
  obtain ⟨x0, y0, rfl, h0, x1, y1, rfl, h1, x2, y2, rfl, h2, x3, y3, rfl, h3, x4, y4, rfl, h4, x5, y5, rfl, h5, x6, y6, rfl, h6, x7, y7, rfl, h7, x8, y8, rfl, h8, x9, y9, rfl, h9, x10, y10, rfl, h10, x11, y11, rfl, h11, x12, y12, rfl, h12, x13, y13, rfl, h13, x14, y14, rfl, h14, x15, y15, rfl, h15, x16, y16, rfl, h16, x17, y17, rfl, h17, rfl⟩ := h
  obtain ⟨fa0, fa1, rfl⟩ := has23_8 h0
  obtain ⟨fa2, fa3, rfl⟩ := has23_8 h1
  obtain ⟨fa4, rfl⟩ := has3_8 h2
  obtain ⟨fa5, rfl⟩ := has3_8 h3
  obtain ⟨fa6, rfl⟩ := has24_8 h4
  obtain ⟨fa7, rfl⟩ := has3_8 h5
  obtain ⟨fa8, rfl⟩ := has3_8 h6
  obtain ⟨fa9, rfl⟩ := has3_8 h7
  obtain ⟨fa10, rfl⟩ := has4_8 h8
  obtain ⟨fa11, fa12, rfl⟩ := has26_8 h9
  obtain ⟨fa13, rfl, qa13⟩ := has27_8 h10
  obtain ⟨fa14, rfl, qa14⟩ := has28_8 h11
  obtain ⟨fa15, rfl, qa15⟩ := has29_8 h12
  obtain ⟨fa16, fa17, fa18, fa19, fa20, rfl, qa19, qa20⟩ := has35_8 h13
  obtain ⟨fa21, fa22, rfl⟩ := has31_8 h14
  obtain ⟨fa23, rfl⟩ := has9_8 h15
  obtain ⟨fa24, rfl⟩ := has24_8 h16
  obtain ⟨fa25, rfl⟩ := has36_8 h17
  exact ⟨fa0, fa1, fa2, fa3, fa4, fa5, fa6, fa7, fa8, fa9, fa10, fa11, fa12, fa13, fa14, fa15, fa16, fa17, fa18, fa19, fa20, fa21, fa22, fa23, fa24, fa25, rfl, qa13, qa14, qa15, qa19, qa20⟩
theorem has9_9 {cs : List AV} (h : hasCs Tryz.prog 9 9 cs) : ∃ (fa0 : ByteArray), cs = [.str fa0] := by
  unfold hasCs at h
  simp only [Tryz.underlying9] at h
  obtain ⟨fa0, rfl, _⟩ := h
  exact ⟨fa0, rfl⟩
theorem arg0 {c : AV} (h : hasT Tryz.prog 9 38 c) : ∃ (fa0 : Int) (fa1 : Int) (fa2 : Int) (fa3 : Int) (fa4 : Int) (fa5 : Int) (fa6 : Int) (fa7 : Int) (fa8 : Int) (fa9 : Int) (fa10 : Bool) (fa11 : Int) (fa12 : Int) (fa13 : AV) (fa14 : AV) (fa15 : AV) (fa16 : Int) (fa17 : Int) (fa18 : Bool) (fa19 : AV) (fa20 : AV) (fa21 : Int) (fa22 : Int) (fa23 : ByteArray) (fa24 : Int) (fa25 : Int), c = .agg [.int .i64 fa0, .int .i64 fa1, .int .i64 fa2, .int .i64 fa3, .int .i64 fa4, .int .i64 fa5, .int .u64 fa6, .int .i64 fa7, .int .i64 fa8, .int .i64 fa9, .bool fa10, .int .u64 fa11, .int .i64 fa12, fa13, fa14, fa15, .int .i64 fa16, .int .u64 fa17, .bool fa18, fa19, fa20, .int .i64 fa21, .int .u64 fa22, .str fa23, .int .u64 fa24, .int .i64 fa25] ∧ isSl 4 isT72 fa13 ∧ isSl 4 isT77 fa14 ∧ isSl 10 isT80 fa15 ∧ isSl 2 isT112 fa19 ∧ isSl 3 isT114 fa20 := by
  obtain ⟨cs, e, h⟩ := h
  have ha : isAggT Tryz.prog 38 = true := by kernel_rfl
  simp only [Go.Abs.elemOf, ha, if_true] at e
  subst e
  obtain ⟨fa0, fa1, fa2, fa3, fa4, fa5, fa6, fa7, fa8, fa9, fa10, fa11, fa12, fa13, fa14, fa15, fa16, fa17, fa18, fa19, fa20, fa21, fa22, fa23, fa24, fa25, rfl, q13, q14, q15, q19, q20⟩ := has38_9 h
  exact ⟨fa0, fa1, fa2, fa3, fa4, fa5, fa6, fa7, fa8, fa9, fa10, fa11, fa12, fa13, fa14, fa15, fa16, fa17, fa18, fa19, fa20, fa21, fa22, fa23, fa24, fa25, rfl, q13, q14, q15, q19, q20⟩
theorem arg1 {c : AV} (h : hasT Tryz.prog 9 9 c) : ∃ (fa0 : ByteArray), c = .str fa0 := by
  obtain ⟨cs, e, h⟩ := h
  have ha : isAggT Tryz.prog 9 = false := by kernel_rfl
  simp only [Go.Abs.elemOf, ha, Bool.false_eq_true, if_false] at e
  subst e
  obtain ⟨fa0, e⟩ := has9_9 h
  exact ⟨fa0, (List.cons.inj e).1⟩
namespace Go.Proofs.YtjhgheheopcolaaGreat
def bodyTab : List (Nat × Flags) := [(3, {}), (4, { tails := [2000002, 2000004] }), (5, { tails := [2000009, 2000010, 2000011] }), (6, {}), (7, { tails := [2000005, 2000008, 2000010, 2000012] }), (8, {}), (9, { tails := [2000004] }), (10, {}), (11, {}), (12, {}), (13, {}), (14, {}), (15, {}), (16, {}), (17, {}), (18, { tails := [2000004, 2000009, 2000013] }), (19, { tails := [2000001] }), (20, {}), (21, { tails := [2000003] }), (22, {}), (23, {}), (24, {}), (25, { tails := [2000002, 2000007] }), (26, {}), (27, {}), (28, {}), (29, { esc := [13] }), (30, { tails := [2000005, 2000007] }), (31, {}), (32, {}), (33, {}), (34, {}), (35, {}), (36, {}), (37, {}), (38, {}), (39, { tails := [2000001] }), (40, { tails := [2000001] }), (41, {}), (42, {}), (43, {}), (44, { tails := [2000005] }), (45, {}), (46, {}), (47, {}), (48, { tails := [2000001] }), (49, {}), (50, {}), (51, {}), (52, {}), (53, {}), (54, { tails := [2000001, 2000003] }), (55, {}), (56, {}), (57, {}), (58, {}), (59, {}), (60, {}), (61, {}), (62, {}), (63, {}), (64, {}), (65, {}), (66, {}), (67, {}), (68, {}), (69, {}), (70, {}), (71, {}), (72, {}), (73, {}), (74, {}), (75, { esc := [2] }), (76, { esc := [15] }), (77, { tails := [2000004] }), (78, {}), (79, { tails := [2000003, 2000007] }), (80, {}), (81, { tails := [2000001] }), (82, { tails := [2000003, 2000006] }), (83, {}), (84, {}), (85, {}), (86, {}), (87, { esc := [6] }), (88, {}), (89, {}), (90, {}), (91, {}), (92, {}), (93, {}), (94, {}), (95, {}), (96, {}), (97, {}), (98, {}), (99, {}), (100, {}), (101, {}), (102, { esc := [1, 3] }), (103, { esc := [2] }), (104, { esc := [1, 3] }), (105, { keep := true }), (106, { keep := true }), (107, { tails := [2000001] }), (108, {}), (109, { tails := [2000001] }), (110, { tails := [2000001, 2000005, 2000006, 2000010, 2000011, 2000013, 2000014, 2000015] }), (111, { tails := [2000004, 2000006, 2000007] }), (112, {}), (113, { tails := [2000001, 2000006, 2000012] }), (114, { tails := [2000001] }), (115, {}), (116, {}), (117, {}), (118, {}), (119, {}), (120, {}), (121, {}), (122, {}), (123, {}), (124, {}), (125, {}), (126, {}), (127, {}), (128, {}), (129, { tails := [2000003] }), (130, {}), (131, {}), (132, { tails := [2000003] }), (133, {}), (134, {}), (135, { tails := [2000009] }), (136, { tails := [2000003] }), (137, {}), (138, {}), (139, { tails := [2000005] }), (140, {}), (141, {}), (142, { tails := [2000003, 2000004] }), (143, {}), (144, {}), (145, {}), (146, {}), (147, {}), (148, { tails := [2000001] }), (149, {}), (150, {}), (151, { tails := [2000001] }), (152, { tails := [2000007] }), (153, {}), (154, {}), (155, {}), (156, {}), (157, {}), (158, {}), (159, {}), (160, {}), (161, {}), (162, {}), (163, {}), (164, {}), (165, {}), (166, {}), (167, {}), (168, { tails := [2000006] }), (169, {}), (170, {}), (171, {}), (172, {}), (173, { keep := true }), (174, {})]
def bodyHow (f : FuncId) : Option How := (bodyTab.find? fun p => p.1 == f).map fun p => How.body p.2
def how : FuncId → Option How := fun f => bodyHow f
/-- What a function's text asks of the interpreter. -/
def fnOk (P : Program) (how : FuncId → Option How) (f : Nat) : Bool :=
  match how f with
  | some (.body fl) => match P.funcs[f]? with
    | some fn => match fn.body with
      | some c => codeOk P fl.tails c && !(fn.name == "runtime.NumGoroutine")
      | none => true
    | none => true
  | _ => true
theorem fnOk_body {P : Program} {how : FuncId → Option How} {f : Nat} (h : fnOk P how f = true) {fl : Flags} {fn : Func} {c : Code} (h1 : how f = some (.body fl)) (h2 : P.funcs[f]? = some fn) (h3 : fn.body = some c) : codeOk P fl.tails c = true ∧ (fn.name == "runtime.NumGoroutine") = false := by
  unfold fnOk at h
  rw [h1] at h
  simp only [h2, h3] at h
  simpa using h
theorem allOk : ∀ f, f < 175 → fnOk Tryz.prog bodyHow f = true := by
  have h : (List.range 175).all (fnOk Tryz.prog bodyHow) = true := by kernel_rfl
  intro f hf
  exact List.all_eq_true.1 h f (List.mem_range.2 hf)
theorem tabLow : (bodyTab.all fun p => decide (p.1 < 175)) = true := by decide
theorem bodyHow_low {f : FuncId} {x : How} (h : bodyHow f = some x) : f < 175 := by
  unfold bodyHow at h
  obtain ⟨p, hp, _⟩ := Option.map_eq_some_iff.1 h
  have h1 := List.all_eq_true.1 tabLow p (List.mem_of_find?_eq_some hp)
  have h2 := List.find?_some hp
  simp only [beq_iff_eq] at h2
  rw [← h2]
  simpa using h1
theorem bodyHow_body {f : FuncId} {p : List AV → AS → Option Nat → Option (AV × AS)} : bodyHow f ≠ some (.prim p) := by
  unfold bodyHow
  intro h
  obtain ⟨p, _, h1⟩ := Option.map_eq_some_iff.1 h
  cases h1
theorem howOk : HowOk Tryz.prog how := {
  body := by
    intro f fl fn c h1 h2 h3
    unfold how at h1
    exact fnOk_body (allOk f (bodyHow_low h1)) h1 h2 h3
  prim := by
    intro f p h
    unfold how at h
    exact absurd h bodyHow_body }
theorem hm : Tryz.prog.follows .mixedOrders = true := by kernel_rfl
open Go.ChangeShapes Go.WideShapes Go.ChangeAt Go.RowKit
theorem own : ownKnob Tryz.prog.godebug = none := by kernel_rfl
theorem laidOut : laidOutB Tryz.prog = true := by kernel_rfl
theorem shape : shapeOk Tryz.prog 9 Tryz.f3 = true := by kernel_rfl
@[simp] theorem zz31 : zeroA Tryz.prog 31 = some (.agg [.int .i64 0, .int .u64 0]) := by kernel_rfl
@[simp] theorem zs31 : sizeA Tryz.prog 31 = some 2 := by kernel_rfl
attribute [simp] Tryz.underlying31
def lett (a0_0 : Int) (a0_1 : Int) (a0_2 : Int) (a0_3 : Int) (a0_4 : Int) (a0_5 : Int) (a0_6 : Int) (a0_7 : Int) (a0_8 : Int) (a0_9 : Int) (a0_10 : Bool) (a0_11 : Int) (a0_12 : Int) (a0_13 : AV) (a0_14 : AV) (a0_15 : AV) (a0_16 : Int) (a0_17 : Int) (a0_18 : Bool) (a0_19 : AV) (a0_20 : AV) (a0_21 : Int) (a0_22 : Int) (a0_23 : ByteArray) (a0_24 : Int) (a0_25 : Int) (y0 y1 y2 y3 y4 : AV) : AV := .agg [.int .i64 a0_0, .int .i64 a0_1, .int .i64 a0_2, .int .i64 a0_3, .int .i64 a0_4, .int .i64 a0_5, .int .u64 a0_6, .int .i64 a0_7, .int .i64 a0_8, .int .i64 a0_9, .bool a0_10, .int .u64 a0_11, .int .i64 a0_12, y0, y1, y2, .int .i64 a0_16, .int .u64 a0_17, .bool a0_18, y3, y4, .int .i64 a0_21, .int .u64 a0_22, .str a0_23, .int .u64 a0_24, .int .i64 a0_25]
theorem c4 (a0_0 : Int) (a0_1 : Int) (a0_2 : Int) (a0_3 : Int) (a0_4 : Int) (a0_5 : Int) (a0_6 : Int) (a0_7 : Int) (a0_8 : Int) (a0_9 : Int) (a0_10 : Bool) (a0_11 : Int) (a0_12 : Int) (a0_13 : AV) (a0_14 : AV) (a0_15 : AV) (a0_16 : Int) (a0_17 : Int) (a0_18 : Bool) (a0_19 : AV) (a0_20 : AV) (a0_21 : Int) (a0_22 : Int) (a0_23 : ByteArray) (a0_24 : Int) (a0_25 : Int) (a1_0 : ByteArray) : callN Tryz.prog how 40 4 [.nilp, .agg [.int .i64 0, .int .u64 1], .str a1_0] ⟨[], [.cells [.int .i64 a0_0, .int .i64 a0_1, .int .i64 a0_2, .int .i64 a0_3, .int .i64 a0_4, .int .i64 a0_5, .int .u64 a0_6, .int .i64 a0_7, .int .i64 a0_8, .int .i64 a0_9, .bool a0_10, .int .u64 a0_11, .int .i64 a0_12, a0_13, a0_14, a0_15, .int .i64 a0_16, .int .u64 a0_17, .bool a0_18, a0_19, a0_20, .int .i64 a0_21, .int .u64 a0_22, .str a0_23, .int .u64 a0_24, .int .i64 a0_25]]⟩ none = some (.nils, ⟨[], [.cells [.int .i64 a0_0, .int .i64 a0_1, .int .i64 a0_2, .int .i64 a0_3, .int .i64 a0_4, .int .i64 a0_5, .int .u64 a0_6, .int .i64 a0_7, .int .i64 a0_8, .int .i64 a0_9, .bool a0_10, .int .u64 a0_11, .int .i64 a0_12, a0_13, a0_14, a0_15, .int .i64 a0_16, .int .u64 a0_17, .bool a0_18, a0_19, a0_20, .int .i64 a0_21, .int .u64 a0_22, .str a0_23, .int .u64 a0_24, .int .i64 a0_25]]⟩) := by kernel_rfl
theorem c5 (a0_0 : Int) (a0_1 : Int) (a0_2 : Int) (a0_3 : Int) (a0_4 : Int) (a0_5 : Int) (a0_6 : Int) (a0_7 : Int) (a0_8 : Int) (a0_9 : Int) (a0_10 : Bool) (a0_11 : Int) (a0_12 : Int) (a0_13 : AV) (a0_14 : AV) (a0_15 : AV) (a0_16 : Int) (a0_17 : Int) (a0_18 : Bool) (a0_19 : AV) (a0_20 : AV) (a0_21 : Int) (a0_22 : Int) (a0_23 : ByteArray) (a0_24 : Int) (a0_25 : Int) (y0 y1 y2 y3 y4 : AV) : callN Tryz.prog how 40 5 [.nilp, lett a0_0 a0_1 a0_2 a0_3 a0_4 a0_5 a0_6 a0_7 a0_8 a0_9 a0_10 a0_11 a0_12 a0_13 a0_14 a0_15 a0_16 a0_17 a0_18 a0_19 a0_20 a0_21 a0_22 a0_23 a0_24 a0_25 y0 y1 y2 y3 y4] ⟨[], [.cells [.int .i64 a0_0, .int .i64 a0_1, .int .i64 a0_2, .int .i64 a0_3, .int .i64 a0_4, .int .i64 a0_5, .int .u64 a0_6, .int .i64 a0_7, .int .i64 a0_8, .int .i64 a0_9, .bool a0_10, .int .u64 a0_11, .int .i64 a0_12, a0_13, a0_14, a0_15, .int .i64 a0_16, .int .u64 a0_17, .bool a0_18, a0_19, a0_20, .int .i64 a0_21, .int .u64 a0_22, .str a0_23, .int .u64 a0_24, .int .i64 a0_25]]⟩ none = some (.tup [.nils, .bool false], ⟨[], [.cells [.int .i64 a0_0, .int .i64 a0_1, .int .i64 a0_2, .int .i64 a0_3, .int .i64 a0_4, .int .i64 a0_5, .int .u64 a0_6, .int .i64 a0_7, .int .i64 a0_8, .int .i64 a0_9, .bool a0_10, .int .u64 a0_11, .int .i64 a0_12, a0_13, a0_14, a0_15, .int .i64 a0_16, .int .u64 a0_17, .bool a0_18, a0_19, a0_20, .int .i64 a0_21, .int .u64 a0_22, .str a0_23, .int .u64 a0_24, .int .i64 a0_25]]⟩) := by kernel_rfl
theorem c7 (a0_0 : Int) (a0_1 : Int) (a0_2 : Int) (a0_3 : Int) (a0_4 : Int) (a0_5 : Int) (a0_6 : Int) (a0_7 : Int) (a0_8 : Int) (a0_9 : Int) (a0_10 : Bool) (a0_11 : Int) (a0_12 : Int) (a0_13 : AV) (a0_14 : AV) (a0_15 : AV) (a0_16 : Int) (a0_17 : Int) (a0_18 : Bool) (a0_19 : AV) (a0_20 : AV) (a0_21 : Int) (a0_22 : Int) (a0_23 : ByteArray) (a0_24 : Int) (a0_25 : Int) (y0 y1 y2 y3 y4 : AV) : callN Tryz.prog how 40 7 [.nilp, lett a0_0 a0_1 a0_2 a0_3 a0_4 a0_5 a0_6 a0_7 a0_8 a0_9 a0_10 a0_11 a0_12 a0_13 a0_14 a0_15 a0_16 a0_17 a0_18 a0_19 a0_20 a0_21 a0_22 a0_23 a0_24 a0_25 y0 y1 y2 y3 y4] ⟨[], [.cells [.int .i64 a0_0, .int .i64 a0_1, .int .i64 a0_2, .int .i64 a0_3, .int .i64 a0_4, .int .i64 a0_5, .int .u64 a0_6, .int .i64 a0_7, .int .i64 a0_8, .int .i64 a0_9, .bool a0_10, .int .u64 a0_11, .int .i64 a0_12, a0_13, a0_14, a0_15, .int .i64 a0_16, .int .u64 a0_17, .bool a0_18, a0_19, a0_20, .int .i64 a0_21, .int .u64 a0_22, .str a0_23, .int .u64 a0_24, .int .i64 a0_25]]⟩ none = some (.tup [.nils, .bool false], ⟨[], [.cells [.int .i64 a0_0, .int .i64 a0_1, .int .i64 a0_2, .int .i64 a0_3, .int .i64 a0_4, .int .i64 a0_5, .int .u64 a0_6, .int .i64 a0_7, .int .i64 a0_8, .int .i64 a0_9, .bool a0_10, .int .u64 a0_11, .int .i64 a0_12, a0_13, a0_14, a0_15, .int .i64 a0_16, .int .u64 a0_17, .bool a0_18, a0_19, a0_20, .int .i64 a0_21, .int .u64 a0_22, .str a0_23, .int .u64 a0_24, .int .i64 a0_25]]⟩) := by kernel_rfl
theorem c8 (a0_0 : Int) (a0_1 : Int) (a0_2 : Int) (a0_3 : Int) (a0_4 : Int) (a0_5 : Int) (a0_6 : Int) (a0_7 : Int) (a0_8 : Int) (a0_9 : Int) (a0_10 : Bool) (a0_11 : Int) (a0_12 : Int) (a0_13 : AV) (a0_14 : AV) (a0_15 : AV) (a0_16 : Int) (a0_17 : Int) (a0_18 : Bool) (a0_19 : AV) (a0_20 : AV) (a0_21 : Int) (a0_22 : Int) (a0_23 : ByteArray) (a0_24 : Int) (a0_25 : Int) : (callN Tryz.prog how 60 8 [] ⟨[], [.cells [.int .i64 a0_0, .int .i64 a0_1, .int .i64 a0_2, .int .i64 a0_3, .int .i64 a0_4, .int .i64 a0_5, .int .u64 a0_6, .int .i64 a0_7, .int .i64 a0_8, .int .i64 a0_9, .bool a0_10, .int .u64 a0_11, .int .i64 a0_12, a0_13, a0_14, a0_15, .int .i64 a0_16, .int .u64 a0_17, .bool a0_18, a0_19, a0_20, .int .i64 a0_21, .int .u64 a0_22, .str a0_23, .int .u64 a0_24, .int .i64 a0_25]]⟩ none).map (·.1) = some (.bool true) := by kernel_rfl
theorem law_run (a0_0 : Int) (a0_1 : Int) (a0_2 : Int) (a0_3 : Int) (a0_4 : Int) (a0_5 : Int) (a0_6 : Int) (a0_7 : Int) (a0_8 : Int) (a0_9 : Int) (a0_10 : Bool) (a0_11 : Int) (a0_12 : Int) (a0_13 : AV) (a0_14 : AV) (a0_15 : AV) (a0_16 : Int) (a0_17 : Int) (a0_18 : Bool) (a0_19 : AV) (a0_20 : AV) (a0_21 : Int) (a0_22 : Int) (a0_23 : ByteArray) (a0_24 : Int) (a0_25 : Int) (a1_0 : ByteArray) (ha0_13 : isSl 4 isT72 a0_13) (ha0_14 : isSl 4 isT77 a0_14) (ha0_15 : isSl 10 isT80 a0_15) (ha0_19 : isSl 2 isT112 a0_19) (ha0_20 : isSl 3 isT114 a0_20) : ∃ σ', callW Tryz.prog how 3 [.agg [.int .i64 a0_0, .int .i64 a0_1, .int .i64 a0_2, .int .i64 a0_3, .int .i64 a0_4, .int .i64 a0_5, .int .u64 a0_6, .int .i64 a0_7, .int .i64 a0_8, .int .i64 a0_9, .bool a0_10, .int .u64 a0_11, .int .i64 a0_12, a0_13, a0_14, a0_15, .int .i64 a0_16, .int .u64 a0_17, .bool a0_18, a0_19, a0_20, .int .i64 a0_21, .int .u64 a0_22, .str a0_23, .int .u64 a0_24, .int .i64 a0_25], .str a1_0] ⟨[], []⟩ none = some (.bool true, σ') := by
  obtain ⟨y0, y1, y2, y3, y4, h6, p0, p1, p2, p3, p4⟩ := f6_ok (how := how) (by kernel_rfl) (by kernel_rfl) (by kernel_rfl) (by kernel_rfl) [] [.cells [.int .i64 a0_0, .int .i64 a0_1, .int .i64 a0_2, .int .i64 a0_3, .int .i64 a0_4, .int .i64 a0_5, .int .u64 a0_6, .int .i64 a0_7, .int .i64 a0_8, .int .i64 a0_9, .bool a0_10, .int .u64 a0_11, .int .i64 a0_12, a0_13, a0_14, a0_15, .int .i64 a0_16, .int .u64 a0_17, .bool a0_18, a0_19, a0_20, .int .i64 a0_21, .int .u64 a0_22, .str a0_23, .int .u64 a0_24, .int .i64 a0_25]] none a0_0 a0_1 a0_2 a0_3 a0_4 a0_5 a0_6 a0_7 a0_8 a0_9 a0_10 a0_11 a0_12 a0_13 a0_14 a0_15 a0_16 a0_17 a0_18 a0_19 a0_20 a0_21 a0_22 a0_23 a0_24 a0_25 ha0_13 ha0_14 ha0_15 ha0_19 ha0_20 (fun k hk => by cases hk)
  have h4 := callW_of (c4 a0_0 a0_1 a0_2 a0_3 a0_4 a0_5 a0_6 a0_7 a0_8 a0_9 a0_10 a0_11 a0_12 a0_13 a0_14 a0_15 a0_16 a0_17 a0_18 a0_19 a0_20 a0_21 a0_22 a0_23 a0_24 a0_25 a1_0)
  have h5 := callW_of (c5 a0_0 a0_1 a0_2 a0_3 a0_4 a0_5 a0_6 a0_7 a0_8 a0_9 a0_10 a0_11 a0_12 a0_13 a0_14 a0_15 a0_16 a0_17 a0_18 a0_19 a0_20 a0_21 a0_22 a0_23 a0_24 a0_25 y0 y1 y2 y3 y4)
  have h7 := callW_of (c7 a0_0 a0_1 a0_2 a0_3 a0_4 a0_5 a0_6 a0_7 a0_8 a0_9 a0_10 a0_11 a0_12 a0_13 a0_14 a0_15 a0_16 a0_17 a0_18 a0_19 a0_20 a0_21 a0_22 a0_23 a0_24 a0_25 y0 y1 y2 y3 y4)
  obtain ⟨⟨v, σ8⟩, h8, h8'⟩ := Option.map_eq_some_iff.1 (c8 a0_0 a0_1 a0_2 a0_3 a0_4 a0_5 a0_6 a0_7 a0_8 a0_9 a0_10 a0_11 a0_12 a0_13 a0_14 a0_15 a0_16 a0_17 a0_18 a0_19 a0_20 a0_21 a0_22 a0_23 a0_24 a0_25)
  simp only at h8'
  subst h8'
  have h8 := callW_of h8
  unfold lett at h5 h7
  suffices h : ∀ r, finishA Tryz.prog {} Tryz.f3 0 (execW Tryz.prog (cxOf {} ⟨[], []⟩ none) [] (callW Tryz.prog how) (bodyOf Tryz.f3) (frameA Tryz.f3 [.agg [.int .i64 a0_0, .int .i64 a0_1, .int .i64 a0_2, .int .i64 a0_3, .int .i64 a0_4, .int .i64 a0_5, .int .u64 a0_6, .int .i64 a0_7, .int .i64 a0_8, .int .i64 a0_9, .bool a0_10, .int .u64 a0_11, .int .i64 a0_12, a0_13, a0_14, a0_15, .int .i64 a0_16, .int .u64 a0_17, .bool a0_18, a0_19, a0_20, .int .i64 a0_21, .int .u64 a0_22, .str a0_23, .int .u64 a0_24, .int .i64 a0_25], .str a1_0], ⟨[], []⟩)) = r → ∃ σ', r = some (.bool true, σ') by
    obtain ⟨σ', e⟩ := h _ rfl
    exact ⟨σ', callW_body (by kernel_rfl) Tryz.func3 rfl e⟩
  intro r hr
  have henv : ∃ e, e = frameA Tryz.f3 [.agg [.int .i64 a0_0, .int .i64 a0_1, .int .i64 a0_2, .int .i64 a0_3, .int .i64 a0_4, .int .i64 a0_5, .int .u64 a0_6, .int .i64 a0_7, .int .i64 a0_8, .int .i64 a0_9, .bool a0_10, .int .u64 a0_11, .int .i64 a0_12, a0_13, a0_14, a0_15, .int .i64 a0_16, .int .u64 a0_17, .bool a0_18, a0_19, a0_20, .int .i64 a0_21, .int .u64 a0_22, .str a0_23, .int .u64 a0_24, .int .i64 a0_25], .str a1_0] := ⟨_, rfl⟩
  obtain ⟨env0, henv⟩ := henv
  have hfl : env0.length = 45 := by rw [henv]; rfl
  have hf0 : Env.get env0 0 = .agg [.int .i64 a0_0, .int .i64 a0_1, .int .i64 a0_2, .int .i64 a0_3, .int .i64 a0_4, .int .i64 a0_5, .int .u64 a0_6, .int .i64 a0_7, .int .i64 a0_8, .int .i64 a0_9, .bool a0_10, .int .u64 a0_11, .int .i64 a0_12, a0_13, a0_14, a0_15, .int .i64 a0_16, .int .u64 a0_17, .bool a0_18, a0_19, a0_20, .int .i64 a0_21, .int .u64 a0_22, .str a0_23, .int .u64 a0_24, .int .i64 a0_25] := by rw [henv]; rfl
  have hf1 : Env.get env0 1 = .str a1_0 := by rw [henv]; rfl
  rw [← henv] at hr
  clear henv
  simp -implicitDefEqProofs [ofV, ofCell, ofCells, seqA_nil, seqA_cons, seqVK_eq, seqEK_eq, wantedA, yieldedA, isVal, effA, ev, evs, evps, putE, optsA, optsOk, valA, fieldAddrA, fieldA, loadA, partA, aggA, isAggD, buildA, placesA, fillA, lay, storeA, AV.withCells, buildSliceA, elemsA, rowParts, fzL, promL, okE, isSrc, bytesOk, pushA, cxOf, lenA, binA, intBinA, strBinA, unA, indexAddrA, eqA, AVs.inb, AV.inb, Loc.inb, calleeA, opsOf, sub, bodyOf, Env.get_set, AS.get_push_at, AS.get_push_old, AS.push_len, AS.set_st_len, AS.next_st', AS.set_push_at, AS.get_set_self, AS.get_set_other, quietA_nil, quietA_cons, quietK_none, quietK_some, qstep, newA, isNew, escNew, boxOk, newLoc, flat, rowPartsQ, finishA_eq, finK_ret, finK_normal, retK, backK, resA, oneA, AV.back, AVs.back, execW_seq_eq, seqK_normal, seqK_ret, seqK_exit, execW_cond_eq, condK_true, condK_false, execW_block_eq, blockK_exit, blockK_normal, blockK_ret, execW_region_eq, regK_eq, execW_skip, execW_exit, execW_ret, regionA_plain, regionA_quiet0, tailK_eq, wr_ok, AS.get, Tryz.f3, hfl, hf0, hf1, h4, h5, h6, h7, h8] at hr
  subst hr
  exact ⟨_, rfl⟩

theorem askNil_lifted (os : Os) (started : os.Started) (H : Type) (enc : TypeId × Value → H) :
    ReturnsInHanded {} Tryz.checked os 3 .any (Rows.askNilSpec.pre6 enc Tryz.prog Tryz.f3 Rows.askNilRow.domain false) (Rows.askNilSpec.post enc Tryz.prog Tryz.f3 false true false false) := by
  refine law_lifted hm howOk 9 os started own (by kernel_rfl) Tryz.func3 laidOut shape rfl ?_ ?_ ?_
  · intro H ds h
    match ds, h with
    | [d0, d1], _ => rfl
  · exact ChangeSpec.witness6 (enc := enc) (C := Tryz.checked) false ⟨#[], #[.agg #[.int .i64 0, .int .i64 0, .int .i64 0, .int .i64 0, .int .i64 0, .int .i64 0, .int .u64 0, .int .i64 0, .int .i64 0, .int .i64 0, .bool false, .int .u64 0, .int .i64 0, .slice none 0 0, .slice none 0 0, .slice none 0 0, .int .i64 0, .int .u64 0, .bool false, .slice none 0 0, .slice none 0 0, .int .i64 0, .int .u64 0, .string ⟨#[]⟩, .int .u64 0, .int .i64 0], .string ⟨#[]⟩], []⟩ 8 (by kernel_rfl) (by kernel_rfl) (by kernel_rfl) (by kernel_rfl)
  · intro cs h
    rw [show Tryz.f3.params.toList = [38, 9] by rw [Tryz.params3]] at h
    obtain ⟨c0, q0, rfl, k0, h⟩ := h
    obtain ⟨c1, q1, rfl, k1, h⟩ := h
    subst h
    obtain ⟨a0_0, a0_1, a0_2, a0_3, a0_4, a0_5, a0_6, a0_7, a0_8, a0_9, a0_10, a0_11, a0_12, a0_13, a0_14, a0_15, a0_16, a0_17, a0_18, a0_19, a0_20, a0_21, a0_22, a0_23, a0_24, a0_25, rfl, ha0_13, ha0_14, ha0_15, ha0_19, ha0_20⟩ := arg0 k0
    obtain ⟨a1_0, rfl⟩ := arg1 k1
    obtain ⟨σ', e⟩ := law_run a0_0 a0_1 a0_2 a0_3 a0_4 a0_5 a0_6 a0_7 a0_8 a0_9 a0_10 a0_11 a0_12 a0_13 a0_14 a0_15 a0_16 a0_17 a0_18 a0_19 a0_20 a0_21 a0_22 a0_23 a0_24 a0_25 a1_0 ha0_13 ha0_14 ha0_15 ha0_19 ha0_20
    obtain ⟨m, e⟩ := callW_inv e
    exact ⟨m, _, e⟩
theorem askNil_holds : Rows.AskNilSaid :=
  OpenClaim.holds_of_wide 3 Tryz.f3 rfl rfl rfl rfl rfl rfl rfl ⟨rfl, rfl, rfl, rfl, rfl⟩ rfl rfl rfl rfl rfl (by kernel_rfl) Tryz.func3 (by kernel_rfl)
    (of_decide_eq_true (by kernel_rfl)) (by unfold Func.isWrapper; first | (rw [if_pos (by decide +kernel)]; kernel_rfl) | (rw [if_neg (by decide +kernel)]; exact ⟨rfl, rfl⟩))
    (fun os started H enc _ => askNil_lifted os started H enc)
#print axioms askNil_holds
end Go.Proofs.YtjhgheheopcolaaGreat
