/- The law's run, and what it says of calls. -/
import Derived.Test.YthikbholekngfaaGreatDoorAbs14
import Derived.Test.YthikbholekngfaaGreatDoorCg
import Derived.Test.YthikbholekngfaaGreatDoorCh
import Derived.Test.YthikbholekngfaaGreatDoorRows
import Derived.Test.YthikbholekngfaaGreatDoorTie
import Derived.Test.YthikbholekngfaaGreatDoorCards
import Derived.SevenTiedAt
open Go Go.Abs Go.Proofs
set_option maxRecDepth 100000
set_option maxHeartbeats 4000000
set_option linter.unusedSimpArgs false
set_option linter.unusedVariables false
def isT38 (e : AV) : Prop := ∃ (fa0 : Int) (fa1 : Int) (fa2 : Int) (fa3 : Int) (fa4 : Int) (fa5 : Int) (fa6 : Int) (fa7 : Int) (fa8 : Int) (fa9 : Int) (fa10 : Bool) (fa11 : Int) (fa12 : Int) (fa13 : AV) (fa14 : AV) (fa15 : AV) (fa16 : Int) (fa17 : Int) (fa18 : Bool) (fa19 : AV) (fa20 : AV) (fa21 : Int) (fa22 : Int) (fa23 : ByteArray) (fa24 : Int) (fa25 : Int), e = .agg [.int .i64 fa0, .int .i64 fa1, .int .i64 fa2, .int .i64 fa3, .int .i64 fa4, .int .i64 fa5, .int .u64 fa6, .int .i64 fa7, .int .i64 fa8, .int .i64 fa9, .bool fa10, .int .u64 fa11, .int .i64 fa12, fa13, fa14, fa15, .int .i64 fa16, .int .u64 fa17, .bool fa18, fa19, fa20, .int .i64 fa21, .int .u64 fa22, .str fa23, .int .u64 fa24, .int .i64 fa25] ∧ isSl 4 isT95 fa13 ∧ isSl 4 isT100 fa14 ∧ isSl 10 isT107 fa15 ∧ isSl 2 isT177 fa19 ∧ isSl 3 isT180 fa20
theorem has3_7 {cs : List AV} (h : hasCs Tryz.prog 7 3 cs) : ∃ (fa0 : Int), cs = [.int .i64 fa0] := by
  unfold hasCs at h
  simp only [Tryz.underlying3] at h
  obtain ⟨fa0, rfl, _⟩ := h
  exact ⟨fa0, rfl⟩
theorem has23_8 {cs : List AV} (h : hasCs Tryz.prog 8 23 cs) : ∃ (fa0 : Int) (fa1 : Int), cs = [.int .i64 fa0, .int .i64 fa1] := by
  unfold hasCs at h
  simp only [Tryz.underlying23, hasFs] at h
  obtain ⟨x0, y0, rfl, h0, x1, y1, rfl, h1, rfl⟩ := h
  obtain ⟨fa0, rfl⟩ := has3_7 h0
  obtain ⟨fa1, rfl⟩ := has3_7 h1
  exact ⟨fa0, fa1, rfl⟩
theorem has3_8 {cs : List AV} (h : hasCs Tryz.prog 8 3 cs) : ∃ (fa0 : Int), cs = [.int .i64 fa0] := by
  unfold hasCs at h
  simp only [Tryz.underlying3] at h
  obtain ⟨fa0, rfl, _⟩ := h
  exact ⟨fa0, rfl⟩
theorem has24_8 {cs : List AV} (h : hasCs Tryz.prog 8 24 cs) : ∃ (fa0 : Int), cs = [.int .u64 fa0] := by
  unfold hasCs at h
  simp only [Tryz.underlying24] at h
  obtain ⟨fa0, rfl, _⟩ := h
  exact ⟨fa0, rfl⟩
theorem has4_8 {cs : List AV} (h : hasCs Tryz.prog 8 4 cs) : ∃ (fa0 : Bool), cs = [.bool fa0] := by
  unfold hasCs at h
  simp only [Tryz.underlying4] at h
  obtain ⟨fa0, rfl⟩ := h
  exact ⟨fa0, rfl⟩
theorem has24_7 {cs : List AV} (h : hasCs Tryz.prog 7 24 cs) : ∃ (fa0 : Int), cs = [.int .u64 fa0] := by
  unfold hasCs at h
  simp only [Tryz.underlying24] at h
  obtain ⟨fa0, rfl, _⟩ := h
  exact ⟨fa0, rfl⟩
theorem has26_8 {cs : List AV} (h : hasCs Tryz.prog 8 26 cs) : ∃ (fa0 : Int) (fa1 : Int), cs = [.int .u64 fa0, .int .i64 fa1] := by
  unfold hasCs at h
  simp only [Tryz.underlying26, hasFs] at h
  obtain ⟨x0, y0, rfl, h0, x1, y1, rfl, h1, rfl⟩ := h
  obtain ⟨fa0, rfl⟩ := has24_7 h0
  obtain ⟨fa1, rfl⟩ := has3_7 h1
  exact ⟨fa0, fa1, rfl⟩
theorem has3_6 {cs : List AV} (h : hasCs Tryz.prog 6 3 cs) : ∃ (fa0 : Int), cs = [.int .i64 fa0] := by
  unfold hasCs at h
  simp only [Tryz.underlying3] at h
  obtain ⟨fa0, rfl, _⟩ := h
  exact ⟨fa0, rfl⟩
theorem has24_5 {cs : List AV} (h : hasCs Tryz.prog 5 24 cs) : ∃ (fa0 : Int), cs = [.int .u64 fa0] := by
  unfold hasCs at h
  simp only [Tryz.underlying24] at h
  obtain ⟨fa0, rfl, _⟩ := h
  exact ⟨fa0, rfl⟩
theorem has3_5 {cs : List AV} (h : hasCs Tryz.prog 5 3 cs) : ∃ (fa0 : Int), cs = [.int .i64 fa0] := by
  unfold hasCs at h
  simp only [Tryz.underlying3] at h
  obtain ⟨fa0, rfl, _⟩ := h
  exact ⟨fa0, rfl⟩
theorem has26_6 {cs : List AV} (h : hasCs Tryz.prog 6 26 cs) : ∃ (fa0 : Int) (fa1 : Int), cs = [.int .u64 fa0, .int .i64 fa1] := by
  unfold hasCs at h
  simp only [Tryz.underlying26, hasFs] at h
  obtain ⟨x0, y0, rfl, h0, x1, y1, rfl, h1, rfl⟩ := h
  obtain ⟨fa0, rfl⟩ := has24_5 h0
  obtain ⟨fa1, rfl⟩ := has3_5 h1
  exact ⟨fa0, fa1, rfl⟩
theorem has9_6 {cs : List AV} (h : hasCs Tryz.prog 6 9 cs) : ∃ (fa0 : ByteArray), cs = [.str fa0] := by
  unfold hasCs at h
  simp only [Tryz.underlying9] at h
  obtain ⟨fa0, rfl, _⟩ := h
  exact ⟨fa0, rfl⟩
theorem has95_7 {cs : List AV} (h : hasCs Tryz.prog 7 95 cs) : ∃ (fa0 : Int) (fa1 : Int) (fa2 : Int) (fa3 : ByteArray), cs = [.int .i64 fa0, .int .u64 fa1, .int .i64 fa2, .str fa3] := by
  unfold hasCs at h
  simp only [Tryz.underlying95, hasFs] at h
  obtain ⟨x0, y0, rfl, h0, x1, y1, rfl, h1, x2, y2, rfl, h2, rfl⟩ := h
  obtain ⟨fa0, rfl⟩ := has3_6 h0
  obtain ⟨fa1, fa2, rfl⟩ := has26_6 h1
  obtain ⟨fa3, rfl⟩ := has9_6 h2
  exact ⟨fa0, fa1, fa2, fa3, rfl⟩
theorem has27_8 {cs : List AV} (h : hasCs Tryz.prog 8 27 cs) : ∃ x, cs = [x] ∧ isSl 4 isT95 x := by
  have hz : Tryz.prog.cellsOf 95 = 4 := by kernel_rfl
  unfold hasCs at h
  simp only [Tryz.underlying27, hz] at h
  rcases h with rfl | ⟨es, rfl, hl, he⟩
  · exact ⟨_, rfl, .inl rfl⟩
  · refine ⟨_, rfl, .inr ⟨es, rfl, Nat.le_trans hl (by decide), fun x hx => ?_⟩⟩
    obtain ⟨_, xs, e, hc⟩ := he x hx
    have ha : isAggT Tryz.prog 95 = true := by kernel_rfl
    simp only [Go.Abs.elemOf, ha, if_true] at e
    obtain ⟨v0, v1, v2, v3, rfl⟩ := has95_7 hc
    exact ⟨v0, v1, v2, v3, e⟩
theorem has24_6 {cs : List AV} (h : hasCs Tryz.prog 6 24 cs) : ∃ (fa0 : Int), cs = [.int .u64 fa0] := by
  unfold hasCs at h
  simp only [Tryz.underlying24] at h
  obtain ⟨fa0, rfl, _⟩ := h
  exact ⟨fa0, rfl⟩
theorem has3_4 {cs : List AV} (h : hasCs Tryz.prog 4 3 cs) : ∃ (fa0 : Int), cs = [.int .i64 fa0] := by
  unfold hasCs at h
  simp only [Tryz.underlying3] at h
  obtain ⟨fa0, rfl, _⟩ := h
  exact ⟨fa0, rfl⟩
theorem has4_4 {cs : List AV} (h : hasCs Tryz.prog 4 4 cs) : ∃ (fa0 : Bool), cs = [.bool fa0] := by
  unfold hasCs at h
  simp only [Tryz.underlying4] at h
  obtain ⟨fa0, rfl⟩ := h
  exact ⟨fa0, rfl⟩
theorem has183_5 {cs : List AV} (h : hasCs Tryz.prog 5 183 cs) : ∃ (fa0 : Int) (fa1 : Bool), cs = [.int .i64 fa0, .bool fa1] := by
  unfold hasCs at h
  simp only [Tryz.underlying183, hasFs] at h
  obtain ⟨x0, y0, rfl, h0, x1, y1, rfl, h1, rfl⟩ := h
  obtain ⟨fa0, rfl⟩ := has3_4 h0
  obtain ⟨fa1, rfl⟩ := has4_4 h1
  exact ⟨fa0, fa1, rfl⟩
theorem has98_6 {cs : List AV} (h : hasCs Tryz.prog 6 98 cs) : ∃ x, cs = [x] ∧ isSl 2 isT183 x := by
  have hz : Tryz.prog.cellsOf 183 = 2 := by kernel_rfl
  unfold hasCs at h
  simp only [Tryz.underlying98, hz] at h
  rcases h with rfl | ⟨es, rfl, hl, he⟩
  · exact ⟨_, rfl, .inl rfl⟩
  · refine ⟨_, rfl, .inr ⟨es, rfl, Nat.le_trans hl (by decide), fun x hx => ?_⟩⟩
    obtain ⟨_, xs, e, hc⟩ := he x hx
    have ha : isAggT Tryz.prog 183 = true := by kernel_rfl
    simp only [Go.Abs.elemOf, ha, if_true] at e
    obtain ⟨v0, v1, rfl⟩ := has183_5 hc
    exact ⟨v0, v1, e⟩
theorem has100_7 {cs : List AV} (h : hasCs Tryz.prog 7 100 cs) : ∃ (fa0 : Int) (fa1 : Int) (fa2 : AV) (fa3 : Int), cs = [.int .u64 fa0, .int .i64 fa1, fa2, .int .i64 fa3] ∧ isSl 2 isT183 fa2 := by
  unfold hasCs at h
  simp only [Tryz.underlying100, hasFs] at h
  obtain ⟨x0, y0, rfl, h0, x1, y1, rfl, h1, x2, y2, rfl, h2, x3, y3, rfl, h3, rfl⟩ := h
  obtain ⟨fa0, rfl⟩ := has24_6 h0
  obtain ⟨fa1, rfl⟩ := has3_6 h1
  obtain ⟨fa2, rfl, qa2⟩ := has98_6 h2
  obtain ⟨fa3, rfl⟩ := has3_6 h3
  exact ⟨fa0, fa1, fa2, fa3, rfl, qa2⟩
theorem has28_8 {cs : List AV} (h : hasCs Tryz.prog 8 28 cs) : ∃ x, cs = [x] ∧ isSl 4 isT100 x := by
  have hz : Tryz.prog.cellsOf 100 = 4 := by kernel_rfl
  unfold hasCs at h
  simp only [Tryz.underlying28, hz] at h
  rcases h with rfl | ⟨es, rfl, hl, he⟩
  · exact ⟨_, rfl, .inl rfl⟩
  · refine ⟨_, rfl, .inr ⟨es, rfl, Nat.le_trans hl (by decide), fun x hx => ?_⟩⟩
    obtain ⟨_, xs, e, hc⟩ := he x hx
    have ha : isAggT Tryz.prog 100 = true := by kernel_rfl
    simp only [Go.Abs.elemOf, ha, if_true] at e
    obtain ⟨v0, v1, v2, v3, rfl, q2⟩ := has100_7 hc
    exact ⟨v0, v1, v2, v3, e, q2⟩
theorem has24_4 {cs : List AV} (h : hasCs Tryz.prog 4 24 cs) : ∃ (fa0 : Int), cs = [.int .u64 fa0] := by
  unfold hasCs at h
  simp only [Tryz.underlying24] at h
  obtain ⟨fa0, rfl, _⟩ := h
  exact ⟨fa0, rfl⟩
theorem has31_5 {cs : List AV} (h : hasCs Tryz.prog 5 31 cs) : ∃ (fa0 : Int) (fa1 : Int), cs = [.int .i64 fa0, .int .u64 fa1] := by
  unfold hasCs at h
  simp only [Tryz.underlying31, hasFs] at h
  obtain ⟨x0, y0, rfl, h0, x1, y1, rfl, h1, rfl⟩ := h
  obtain ⟨fa0, rfl⟩ := has3_4 h0
  obtain ⟨fa1, rfl⟩ := has24_4 h1
  exact ⟨fa0, fa1, rfl⟩
theorem has4_5 {cs : List AV} (h : hasCs Tryz.prog 5 4 cs) : ∃ (fa0 : Bool), cs = [.bool fa0] := by
  unfold hasCs at h
  simp only [Tryz.underlying4] at h
  obtain ⟨fa0, rfl⟩ := h
  exact ⟨fa0, rfl⟩
theorem has9_3 {cs : List AV} (h : hasCs Tryz.prog 3 9 cs) : ∃ (fa0 : ByteArray), cs = [.str fa0] := by
  unfold hasCs at h
  simp only [Tryz.underlying9] at h
  obtain ⟨fa0, rfl, _⟩ := h
  exact ⟨fa0, rfl⟩
theorem has24_3 {cs : List AV} (h : hasCs Tryz.prog 3 24 cs) : ∃ (fa0 : Int), cs = [.int .u64 fa0] := by
  unfold hasCs at h
  simp only [Tryz.underlying24] at h
  obtain ⟨fa0, rfl, _⟩ := h
  exact ⟨fa0, rfl⟩
theorem has177_4 {cs : List AV} (h : hasCs Tryz.prog 4 177 cs) : ∃ (fa0 : ByteArray) (fa1 : Int), cs = [.str fa0, .int .u64 fa1] := by
  unfold hasCs at h
  simp only [Tryz.underlying177, hasFs] at h
  obtain ⟨x0, y0, rfl, h0, x1, y1, rfl, h1, rfl⟩ := h
  obtain ⟨fa0, rfl⟩ := has9_3 h0
  obtain ⟨fa1, rfl⟩ := has24_3 h1
  exact ⟨fa0, fa1, rfl⟩
theorem has32_5 {cs : List AV} (h : hasCs Tryz.prog 5 32 cs) : ∃ x, cs = [x] ∧ isSl 2 isT177 x := by
  have hz : Tryz.prog.cellsOf 177 = 2 := by kernel_rfl
  unfold hasCs at h
  simp only [Tryz.underlying32, hz] at h
  rcases h with rfl | ⟨es, rfl, hl, he⟩
  · exact ⟨_, rfl, .inl rfl⟩
  · refine ⟨_, rfl, .inr ⟨es, rfl, Nat.le_trans hl (by decide), fun x hx => ?_⟩⟩
    obtain ⟨_, xs, e, hc⟩ := he x hx
    have ha : isAggT Tryz.prog 177 = true := by kernel_rfl
    simp only [Go.Abs.elemOf, ha, if_true] at e
    obtain ⟨v0, v1, rfl⟩ := has177_4 hc
    exact ⟨v0, v1, e⟩
theorem has4_3 {cs : List AV} (h : hasCs Tryz.prog 3 4 cs) : ∃ (fa0 : Bool), cs = [.bool fa0] := by
  unfold hasCs at h
  simp only [Tryz.underlying4] at h
  obtain ⟨fa0, rfl⟩ := h
  exact ⟨fa0, rfl⟩
theorem has180_4 {cs : List AV} (h : hasCs Tryz.prog 4 180 cs) : ∃ (fa0 : ByteArray) (fa1 : ByteArray) (fa2 : Bool), cs = [.str fa0, .str fa1, .bool fa2] := by
  unfold hasCs at h
  simp only [Tryz.underlying180, hasFs] at h
  obtain ⟨x0, y0, rfl, h0, x1, y1, rfl, h1, x2, y2, rfl, h2, rfl⟩ := h
  obtain ⟨fa0, rfl⟩ := has9_3 h0
  obtain ⟨fa1, rfl⟩ := has9_3 h1
  obtain ⟨fa2, rfl⟩ := has4_3 h2
  exact ⟨fa0, fa1, fa2, rfl⟩
theorem has33_5 {cs : List AV} (h : hasCs Tryz.prog 5 33 cs) : ∃ x, cs = [x] ∧ isSl 3 isT180 x := by
  have hz : Tryz.prog.cellsOf 180 = 3 := by kernel_rfl
  unfold hasCs at h
  simp only [Tryz.underlying33, hz] at h
  rcases h with rfl | ⟨es, rfl, hl, he⟩
  · exact ⟨_, rfl, .inl rfl⟩
  · refine ⟨_, rfl, .inr ⟨es, rfl, Nat.le_trans hl (by decide), fun x hx => ?_⟩⟩
    obtain ⟨_, xs, e, hc⟩ := he x hx
    have ha : isAggT Tryz.prog 180 = true := by kernel_rfl
    simp only [Go.Abs.elemOf, ha, if_true] at e
    obtain ⟨v0, v1, v2, rfl⟩ := has180_4 hc
    exact ⟨v0, v1, v2, e⟩
theorem has35_6 {cs : List AV} (h : hasCs Tryz.prog 6 35 cs) : ∃ (fa0 : Int) (fa1 : Int) (fa2 : Bool) (fa3 : AV) (fa4 : AV), cs = [.int .i64 fa0, .int .u64 fa1, .bool fa2, fa3, fa4] ∧ isSl 2 isT177 fa3 ∧ isSl 3 isT180 fa4 := by
  unfold hasCs at h
  simp only [Tryz.underlying35, hasFs] at h
  obtain ⟨x0, y0, rfl, h0, x1, y1, rfl, h1, x2, y2, rfl, h2, x3, y3, rfl, h3, rfl⟩ := h
  obtain ⟨fa0, fa1, rfl⟩ := has31_5 h0
  obtain ⟨fa2, rfl⟩ := has4_5 h1
  obtain ⟨fa3, rfl, qa3⟩ := has32_5 h2
  obtain ⟨fa4, rfl, qa4⟩ := has33_5 h3
  exact ⟨fa0, fa1, fa2, fa3, fa4, rfl, qa3, qa4⟩
theorem has31_6 {cs : List AV} (h : hasCs Tryz.prog 6 31 cs) : ∃ (fa0 : Int) (fa1 : Int), cs = [.int .i64 fa0, .int .u64 fa1] := by
  unfold hasCs at h
  simp only [Tryz.underlying31, hasFs] at h
  obtain ⟨x0, y0, rfl, h0, x1, y1, rfl, h1, rfl⟩ := h
  obtain ⟨fa0, rfl⟩ := has3_5 h0
  obtain ⟨fa1, rfl⟩ := has24_5 h1
  exact ⟨fa0, fa1, rfl⟩
theorem has36_6 {cs : List AV} (h : hasCs Tryz.prog 6 36 cs) : ∃ (fa0 : Int), cs = [.int .i64 fa0] := by
  unfold hasCs at h
  simp only [Tryz.underlying36] at h
  obtain ⟨fa0, rfl, _⟩ := h
  exact ⟨fa0, rfl⟩
theorem has107_7 {cs : List AV} (h : hasCs Tryz.prog 7 107 cs) : ∃ (fa0 : Int) (fa1 : Int) (fa2 : Int) (fa3 : Int) (fa4 : Bool) (fa5 : AV) (fa6 : AV) (fa7 : Int) (fa8 : Int) (fa9 : Int), cs = [.int .u64 fa0, .int .i64 fa1, .int .i64 fa2, .int .u64 fa3, .bool fa4, fa5, fa6, .int .i64 fa7, .int .u64 fa8, .int .i64 fa9] ∧ isSl 2 isT177 fa5 ∧ isSl 3 isT180 fa6 := by
  unfold hasCs at h
  simp only [Tryz.underlying107, hasFs] at h
  obtain ⟨x0, y0, rfl, h0, x1, y1, rfl, h1, x2, y2, rfl, h2, x3, y3, rfl, h3, x4, y4, rfl, h4, rfl⟩ := h
  obtain ⟨fa0, rfl⟩ := has24_6 h0
  obtain ⟨fa1, rfl⟩ := has3_6 h1
  obtain ⟨fa2, fa3, fa4, fa5, fa6, rfl, qa5, qa6⟩ := has35_6 h2
  obtain ⟨fa7, fa8, rfl⟩ := has31_6 h3
  obtain ⟨fa9, rfl⟩ := has36_6 h4
  exact ⟨fa0, fa1, fa2, fa3, fa4, fa5, fa6, fa7, fa8, fa9, rfl, qa5, qa6⟩
theorem has29_8 {cs : List AV} (h : hasCs Tryz.prog 8 29 cs) : ∃ x, cs = [x] ∧ isSl 10 isT107 x := by
  have hz : Tryz.prog.cellsOf 107 = 10 := by kernel_rfl
  unfold hasCs at h
  simp only [Tryz.underlying29, hz] at h
  rcases h with rfl | ⟨es, rfl, hl, he⟩
  · exact ⟨_, rfl, .inl rfl⟩
  · refine ⟨_, rfl, .inr ⟨es, rfl, Nat.le_trans hl (by decide), fun x hx => ?_⟩⟩
    obtain ⟨_, xs, e, hc⟩ := he x hx
    have ha : isAggT Tryz.prog 107 = true := by kernel_rfl
    simp only [Go.Abs.elemOf, ha, if_true] at e
    obtain ⟨v0, v1, v2, v3, v4, v5, v6, v7, v8, v9, rfl, q5, q6⟩ := has107_7 hc
    exact ⟨v0, v1, v2, v3, v4, v5, v6, v7, v8, v9, e, q5, q6⟩
theorem has31_7 {cs : List AV} (h : hasCs Tryz.prog 7 31 cs) : ∃ (fa0 : Int) (fa1 : Int), cs = [.int .i64 fa0, .int .u64 fa1] := by
  unfold hasCs at h
  simp only [Tryz.underlying31, hasFs] at h
  obtain ⟨x0, y0, rfl, h0, x1, y1, rfl, h1, rfl⟩ := h
  obtain ⟨fa0, rfl⟩ := has3_6 h0
  obtain ⟨fa1, rfl⟩ := has24_6 h1
  exact ⟨fa0, fa1, rfl⟩
theorem has4_7 {cs : List AV} (h : hasCs Tryz.prog 7 4 cs) : ∃ (fa0 : Bool), cs = [.bool fa0] := by
  unfold hasCs at h
  simp only [Tryz.underlying4] at h
  obtain ⟨fa0, rfl⟩ := h
  exact ⟨fa0, rfl⟩
theorem has9_5 {cs : List AV} (h : hasCs Tryz.prog 5 9 cs) : ∃ (fa0 : ByteArray), cs = [.str fa0] := by
  unfold hasCs at h
  simp only [Tryz.underlying9] at h
  obtain ⟨fa0, rfl, _⟩ := h
  exact ⟨fa0, rfl⟩
theorem has177_6 {cs : List AV} (h : hasCs Tryz.prog 6 177 cs) : ∃ (fa0 : ByteArray) (fa1 : Int), cs = [.str fa0, .int .u64 fa1] := by
  unfold hasCs at h
  simp only [Tryz.underlying177, hasFs] at h
  obtain ⟨x0, y0, rfl, h0, x1, y1, rfl, h1, rfl⟩ := h
  obtain ⟨fa0, rfl⟩ := has9_5 h0
  obtain ⟨fa1, rfl⟩ := has24_5 h1
  exact ⟨fa0, fa1, rfl⟩
theorem has32_7 {cs : List AV} (h : hasCs Tryz.prog 7 32 cs) : ∃ x, cs = [x] ∧ isSl 2 isT177 x := by
  have hz : Tryz.prog.cellsOf 177 = 2 := by kernel_rfl
  unfold hasCs at h
  simp only [Tryz.underlying32, hz] at h
  rcases h with rfl | ⟨es, rfl, hl, he⟩
  · exact ⟨_, rfl, .inl rfl⟩
  · refine ⟨_, rfl, .inr ⟨es, rfl, Nat.le_trans hl (by decide), fun x hx => ?_⟩⟩
    obtain ⟨_, xs, e, hc⟩ := he x hx
    have ha : isAggT Tryz.prog 177 = true := by kernel_rfl
    simp only [Go.Abs.elemOf, ha, if_true] at e
    obtain ⟨v0, v1, rfl⟩ := has177_6 hc
    exact ⟨v0, v1, e⟩
theorem has180_6 {cs : List AV} (h : hasCs Tryz.prog 6 180 cs) : ∃ (fa0 : ByteArray) (fa1 : ByteArray) (fa2 : Bool), cs = [.str fa0, .str fa1, .bool fa2] := by
  unfold hasCs at h
  simp only [Tryz.underlying180, hasFs] at h
  obtain ⟨x0, y0, rfl, h0, x1, y1, rfl, h1, x2, y2, rfl, h2, rfl⟩ := h
  obtain ⟨fa0, rfl⟩ := has9_5 h0
  obtain ⟨fa1, rfl⟩ := has9_5 h1
  obtain ⟨fa2, rfl⟩ := has4_5 h2
  exact ⟨fa0, fa1, fa2, rfl⟩
theorem has33_7 {cs : List AV} (h : hasCs Tryz.prog 7 33 cs) : ∃ x, cs = [x] ∧ isSl 3 isT180 x := by
  have hz : Tryz.prog.cellsOf 180 = 3 := by kernel_rfl
  unfold hasCs at h
  simp only [Tryz.underlying33, hz] at h
  rcases h with rfl | ⟨es, rfl, hl, he⟩
  · exact ⟨_, rfl, .inl rfl⟩
  · refine ⟨_, rfl, .inr ⟨es, rfl, Nat.le_trans hl (by decide), fun x hx => ?_⟩⟩
    obtain ⟨_, xs, e, hc⟩ := he x hx
    have ha : isAggT Tryz.prog 180 = true := by kernel_rfl
    simp only [Go.Abs.elemOf, ha, if_true] at e
    obtain ⟨v0, v1, v2, rfl⟩ := has180_6 hc
    exact ⟨v0, v1, v2, e⟩
theorem has35_8 {cs : List AV} (h : hasCs Tryz.prog 8 35 cs) : ∃ (fa0 : Int) (fa1 : Int) (fa2 : Bool) (fa3 : AV) (fa4 : AV), cs = [.int .i64 fa0, .int .u64 fa1, .bool fa2, fa3, fa4] ∧ isSl 2 isT177 fa3 ∧ isSl 3 isT180 fa4 := by
  unfold hasCs at h
  simp only [Tryz.underlying35, hasFs] at h
  obtain ⟨x0, y0, rfl, h0, x1, y1, rfl, h1, x2, y2, rfl, h2, x3, y3, rfl, h3, rfl⟩ := h
  obtain ⟨fa0, fa1, rfl⟩ := has31_7 h0
  obtain ⟨fa2, rfl⟩ := has4_7 h1
  obtain ⟨fa3, rfl, qa3⟩ := has32_7 h2
  obtain ⟨fa4, rfl, qa4⟩ := has33_7 h3
  exact ⟨fa0, fa1, fa2, fa3, fa4, rfl, qa3, qa4⟩
theorem has31_8 {cs : List AV} (h : hasCs Tryz.prog 8 31 cs) : ∃ (fa0 : Int) (fa1 : Int), cs = [.int .i64 fa0, .int .u64 fa1] := by
  unfold hasCs at h
  simp only [Tryz.underlying31, hasFs] at h
  obtain ⟨x0, y0, rfl, h0, x1, y1, rfl, h1, rfl⟩ := h
  obtain ⟨fa0, rfl⟩ := has3_7 h0
  obtain ⟨fa1, rfl⟩ := has24_7 h1
  exact ⟨fa0, fa1, rfl⟩
theorem has9_8 {cs : List AV} (h : hasCs Tryz.prog 8 9 cs) : ∃ (fa0 : ByteArray), cs = [.str fa0] := by
  unfold hasCs at h
  simp only [Tryz.underlying9] at h
  obtain ⟨fa0, rfl, _⟩ := h
  exact ⟨fa0, rfl⟩
theorem has36_8 {cs : List AV} (h : hasCs Tryz.prog 8 36 cs) : ∃ (fa0 : Int), cs = [.int .i64 fa0] := by
  unfold hasCs at h
  simp only [Tryz.underlying36] at h
  obtain ⟨fa0, rfl, _⟩ := h
  exact ⟨fa0, rfl⟩
theorem has38_9 {cs : List AV} (h : hasCs Tryz.prog 9 38 cs) : ∃ (fa0 : Int) (fa1 : Int) (fa2 : Int) (fa3 : Int) (fa4 : Int) (fa5 : Int) (fa6 : Int) (fa7 : Int) (fa8 : Int) (fa9 : Int) (fa10 : Bool) (fa11 : Int) (fa12 : Int) (fa13 : AV) (fa14 : AV) (fa15 : AV) (fa16 : Int) (fa17 : Int) (fa18 : Bool) (fa19 : AV) (fa20 : AV) (fa21 : Int) (fa22 : Int) (fa23 : ByteArray) (fa24 : Int) (fa25 : Int), cs = [.int .i64 fa0, .int .i64 fa1, .int .i64 fa2, .int .i64 fa3, .int .i64 fa4, .int .i64 fa5, .int .u64 fa6, .int .i64 fa7, .int .i64 fa8, .int .i64 fa9, .bool fa10, .int .u64 fa11, .int .i64 fa12, fa13, fa14, fa15, .int .i64 fa16, .int .u64 fa17, .bool fa18, fa19, fa20, .int .i64 fa21, .int .u64 fa22, .str fa23, .int .u64 fa24, .int .i64 fa25] ∧ isSl 4 isT95 fa13 ∧ isSl 4 isT100 fa14 ∧ isSl 10 isT107 fa15 ∧ isSl 2 isT177 fa19 ∧ isSl 3 isT180 fa20 := by
  unfold hasCs at h
  simp only [Tryz.underlying38, hasFs] at h
  obtain ⟨x0, y0, rfl, h0, x1, y1, rfl, h1, x2, y2, rfl, h2, x3, y3, rfl, h3, x4, y4, rfl, h4, x5, y5, rfl, h5, x6, y6, rfl, h6, x7, y7, rfl, h7, x8, y8, rfl, h8, x9, y9, rfl, h9, x10, y10, rfl, h10, x11, y11, rfl, h11, x12, y12, rfl, h12, x13, y13, rfl, h13, x14, y14, rfl, h14, x15, y15, rfl, h15, x16, y16, rfl, h16, x17, y17, rfl, h17, rfl⟩ := h
  obtain ⟨fa0, fa1, rfl⟩ := has23_8 h0
  obtain ⟨fa2, fa3, rfl⟩ := has23_8 h1
  obtain ⟨fa4, rfl⟩ := has3_8 h2
  obtain ⟨fa5, rfl⟩ := has3_8 h3
  obtain ⟨fa6, rfl⟩ := has24_8 h4
  obtain ⟨fa7, rfl⟩ := has3_8 h5
  obtain ⟨fa8, rfl⟩ := has3_8 h6
  obtain ⟨fa9, rfl⟩ := has3_8 h7
  obtain ⟨fa10, rfl⟩ := has4_8 h8
  obtain ⟨fa11, fa12, rfl⟩ := has26_8 h9
  obtain ⟨fa13, rfl, qa13⟩ := has27_8 h10
  obtain ⟨fa14, rfl, qa14⟩ := has28_8 h11
  obtain ⟨fa15, rfl, qa15⟩ := has29_8 h12
  obtain ⟨fa16, fa17, fa18, fa19, fa20, rfl, qa19, qa20⟩ := has35_8 h13
  obtain ⟨fa21, fa22, rfl⟩ := has31_8 h14
  obtain ⟨fa23, rfl⟩ := has9_8 h15
  obtain ⟨fa24, rfl⟩ := has24_8 h16
  obtain ⟨fa25, rfl⟩ := has36_8 h17
  exact ⟨fa0, fa1, fa2, fa3, fa4, fa5, fa6, fa7, fa8, fa9, fa10, fa11, fa12, fa13, fa14, fa15, fa16, fa17, fa18, fa19, fa20, fa21, fa22, fa23, fa24, fa25, rfl, qa13, qa14, qa15, qa19, qa20⟩
theorem arg0 {c : AV} (h : hasT Tryz.prog 9 38 c) : ∃ (fa0 : Int) (fa1 : Int) (fa2 : Int) (fa3 : Int) (fa4 : Int) (fa5 : Int) (fa6 : Int) (fa7 : Int) (fa8 : Int) (fa9 : Int) (fa10 : Bool) (fa11 : Int) (fa12 : Int) (fa13 : AV) (fa14 : AV) (fa15 : AV) (fa16 : Int) (fa17 : Int) (fa18 : Bool) (fa19 : AV) (fa20 : AV) (fa21 : Int) (fa22 : Int) (fa23 : ByteArray) (fa24 : Int) (fa25 : Int), c = .agg [.int .i64 fa0, .int .i64 fa1, .int .i64 fa2, .int .i64 fa3, .int .i64 fa4, .int .i64 fa5, .int .u64 fa6, .int .i64 fa7, .int .i64 fa8, .int .i64 fa9, .bool fa10, .int .u64 fa11, .int .i64 fa12, fa13, fa14, fa15, .int .i64 fa16, .int .u64 fa17, .bool fa18, fa19, fa20, .int .i64 fa21, .int .u64 fa22, .str fa23, .int .u64 fa24, .int .i64 fa25] ∧ isSl 4 isT95 fa13 ∧ isSl 4 isT100 fa14 ∧ isSl 10 isT107 fa15 ∧ isSl 2 isT177 fa19 ∧ isSl 3 isT180 fa20 := by
  obtain ⟨cs, e, h⟩ := h
  have ha : isAggT Tryz.prog 38 = true := by kernel_rfl
  simp only [Go.Abs.elemOf, ha, if_true] at e
  subst e
  obtain ⟨fa0, fa1, fa2, fa3, fa4, fa5, fa6, fa7, fa8, fa9, fa10, fa11, fa12, fa13, fa14, fa15, fa16, fa17, fa18, fa19, fa20, fa21, fa22, fa23, fa24, fa25, rfl, q13, q14, q15, q19, q20⟩ := has38_9 h
  exact ⟨fa0, fa1, fa2, fa3, fa4, fa5, fa6, fa7, fa8, fa9, fa10, fa11, fa12, fa13, fa14, fa15, fa16, fa17, fa18, fa19, fa20, fa21, fa22, fa23, fa24, fa25, rfl, q13, q14, q15, q19, q20⟩
namespace Go.Proofs.YthikbholekngfaaGreatDoor
def bodyTab : List (Nat × Flags) := [(3, {}), (4, { esc := [3] }), (5, {}), (6, { tails := [2000001] }), (7, {}), (8, {}), (9, {}), (10, {}), (11, {}), (12, {}), (13, {}), (14, {}), (15, {}), (16, { esc := [1, 23], tails := [2000002] }), (17, { esc := [6, 23] }), (18, { tails := [2000006, 2000013] }), (19, {}), (20, { tails := [2000000] }), (21, { tails := [2000005] }), (22, {}), (23, { tails := [2000000, 2000002] }), (24, { tails := [2000001, 2000003, 2000004] }), (25, { tails := [2000001] }), (26, {}), (27, {}), (28, { tails := [2000002, 2000007] }), (29, {}), (30, {}), (31, {}), (32, {}), (33, {}), (34, {}), (35, {}), (36, {}), (37, {}), (38, { esc := [7] }), (39, {}), (40, { esc := [1, 3] }), (41, { esc := [12] }), (42, { esc := [2] }), (43, { esc := [1, 15, 5], tails := [2000014, 4000014] }), (44, { esc := [7] }), (45, { tails := [2000011, 2000013] }), (46, { tails := [2000003, 2000004, 2000005] }), (47, {}), (48, {}), (49, { esc := [6] }), (50, {}), (51, { tails := [2000005] }), (52, {}), (53, { esc := [11] }), (54, {}), (55, {}), (56, { tails := [2000005, 2000007, 2000011] }), (57, { tails := [2000011] }), (58, {}), (59, {}), (60, {}), (61, {}), (62, {}), (63, { tails := [2000007] }), (64, {}), (65, { tails := [2000003, 2000004] }), (66, {}), (67, { tails := [2000004] }), (68, { esc := [46, 47], tails := [2000005, 2000008] }), (69, {}), (70, {}), (71, { tails := [2000002] }), (72, { tails := [2000001, 2000007, 2000008, 2000009, 2000011] }), (73, {}), (74, { tails := [2000001] }), (75, {}), (76, {}), (77, {}), (78, {}), (79, {}), (80, {}), (81, {}), (82, {}), (83, { tails := [2000005] }), (84, {}), (85, {}), (86, { tails := [2000001] }), (87, {}), (88, { tails := [2000002] }), (89, { tails := [2000001] }), (90, {}), (91, { tails := [2000001, 2000004, 2000005] }), (92, { tails := [2000001] }), (93, { tails := [2000002] }), (94, { tails := [2000001] }), (95, {}), (96, { esc := [1] }), (97, { tails := [2000001] }), (98, {}), (99, {}), (100, {}), (101, {}), (102, {}), (103, {}), (104, {}), (105, {}), (106, {}), (107, { keep := true }), (108, {}), (109, {}), (110, {}), (111, {}), (112, {}), (113, {}), (114, {}), (115, {}), (116, {}), (117, {}), (118, {}), (119, {}), (120, { tails := [2000002] }), (121, { tails := [2000013] }), (122, { tails := [2000001, 2000002] }), (123, { esc := [1] }), (124, {}), (125, {}), (126, {}), (127, { tails := [2000001] }), (128, { tails := [2000001] }), (129, {}), (130, { keep := true }), (131, { tails := [2000002] }), (132, { tails := [2000001, 2000007] }), (133, {}), (134, {}), (135, {}), (136, {}), (137, {}), (138, {}), (139, {}), (140, { tails := [2000008] }), (141, {}), (142, {}), (143, {}), (144, {}), (145, {}), (146, {}), (147, {}), (148, {}), (149, {}), (150, {}), (151, {}), (152, {}), (153, {}), (154, {}), (155, {}), (156, {}), (157, {}), (158, {}), (159, {}), (160, {}), (161, {}), (162, { tails := [2000001] }), (163, { tails := [2000001] }), (164, {}), (165, { tails := [2000005] }), (166, {}), (167, {}), (168, {}), (169, {}), (170, {}), (171, {}), (172, {}), (173, {}), (174, {}), (175, {}), (176, {}), (177, {}), (178, {}), (179, {}), (180, {}), (181, {}), (182, {}), (183, { tails := [2000003, 2000005, 2000007] }), (184, {}), (185, { tails := [2000001] }), (186, { tails := [2000012] }), (187, { tails := [2000002] }), (188, {}), (189, {}), (190, { tails := [2000003] }), (191, {}), (192, { tails := [2000001] }), (193, {}), (194, { tails := [2000007] }), (195, { tails := [2000004] }), (196, {}), (197, {}), (198, { keep := true }), (199, {}), (200, {}), (201, {}), (202, {}), (203, { esc := [6] }), (204, {}), (205, {}), (206, {}), (207, {}), (208, {}), (209, {}), (210, {}), (211, {}), (212, {}), (213, {}), (214, {}), (215, {}), (216, { tails := [2000001] }), (217, {}), (218, {}), (219, { tails := [2000017] }), (220, {}), (221, {}), (222, {}), (223, {}), (224, {}), (225, {}), (226, {}), (227, { tails := [1000006] }), (228, { tails := [2000008] }), (229, { tails := [2000004] }), (230, {}), (231, { tails := [2000005] }), (232, { tails := [2000005] }), (233, {}), (234, { tails := [2000004, 2000006] }), (235, { tails := [2000005, 2000011, 2000017, 2000023, 2000035] }), (236, {}), (237, {}), (238, {}), (239, {}), (240, {}), (241, {}), (242, {}), (243, {}), (244, { tails := [2000004, 2000006] }), (245, { tails := [2000010] }), (246, { tails := [2000010] }), (247, {}), (248, { tails := [2000003] }), (249, { tails := [2000005, 2000011, 2000016, 2000017, 2000022, 2000023] }), (250, {}), (251, { tails := [2000001, 2000003, 2000005, 2000008] }), (252, { tails := [2000001, 2000003, 2000005, 2000008, 2000010, 2000013, 2000015, 2000018, 2000021] }), (253, {}), (254, {}), (255, {}), (256, {}), (257, {}), (258, {}), (259, {}), (260, { tails := [2000003, 2000005, 2000006] }), (261, {}), (262, { tails := [2000001, 2000002, 2000003] }), (263, {}), (264, {}), (265, {}), (266, {}), (267, { tails := [2000003] }), (268, {}), (269, { tails := [2000001] })]
def bodyHow (f : FuncId) : Option How := (bodyTab.find? fun p => p.1 == f).map fun p => How.body p.2
def how : FuncId → Option How := fun f => if f = 19 then some (.prim (codeP 218 36)) else if f = 14 then some (.prim trueP) else bodyHow f
/-- What a function's text asks of the interpreter. -/
def fnOk (P : Program) (how : FuncId → Option How) (f : Nat) : Bool :=
  match how f with
  | some (.body fl) => match P.funcs[f]? with
    | some fn => match fn.body with
      | some c => codeOk P fl.tails c && !(fn.name == "runtime.NumGoroutine")
      | none => true
    | none => true
  | _ => true
theorem fnOk_body {P : Program} {how : FuncId → Option How} {f : Nat} (h : fnOk P how f = true) {fl : Flags} {fn : Func} {c : Code} (h1 : how f = some (.body fl)) (h2 : P.funcs[f]? = some fn) (h3 : fn.body = some c) : codeOk P fl.tails c = true ∧ (fn.name == "runtime.NumGoroutine") = false := by
  unfold fnOk at h
  rw [h1] at h
  simp only [h2, h3] at h
  simpa using h
theorem allOk_0 : ((List.range 40).all fun i => fnOk Tryz.prog bodyHow (0 + i)) = true := by kernel_rfl
theorem allOk_1 : ((List.range 40).all fun i => fnOk Tryz.prog bodyHow (40 + i)) = true := by kernel_rfl
theorem allOk_2 : ((List.range 40).all fun i => fnOk Tryz.prog bodyHow (80 + i)) = true := by kernel_rfl
theorem allOk_3 : ((List.range 40).all fun i => fnOk Tryz.prog bodyHow (120 + i)) = true := by kernel_rfl
theorem allOk_4 : ((List.range 40).all fun i => fnOk Tryz.prog bodyHow (160 + i)) = true := by kernel_rfl
theorem allOk_5 : ((List.range 40).all fun i => fnOk Tryz.prog bodyHow (200 + i)) = true := by kernel_rfl
theorem allOk_6 : ((List.range 40).all fun i => fnOk Tryz.prog bodyHow (240 + i)) = true := by kernel_rfl
theorem allOk : ∀ f, f < 270 → fnOk Tryz.prog bodyHow f = true := by
  intro f hf
  by_cases h0 : f < 40
  · have this : fnOk Tryz.prog bodyHow (0 + (f - 0)) = true := List.all_eq_true.1 allOk_0 (f - 0) (List.mem_range.2 (by omega))
    rwa [show 0 + (f - 0) = f by omega] at this
  by_cases h1 : f < 80
  · have this : fnOk Tryz.prog bodyHow (40 + (f - 40)) = true := List.all_eq_true.1 allOk_1 (f - 40) (List.mem_range.2 (by omega))
    rwa [show 40 + (f - 40) = f by omega] at this
  by_cases h2 : f < 120
  · have this : fnOk Tryz.prog bodyHow (80 + (f - 80)) = true := List.all_eq_true.1 allOk_2 (f - 80) (List.mem_range.2 (by omega))
    rwa [show 80 + (f - 80) = f by omega] at this
  by_cases h3 : f < 160
  · have this : fnOk Tryz.prog bodyHow (120 + (f - 120)) = true := List.all_eq_true.1 allOk_3 (f - 120) (List.mem_range.2 (by omega))
    rwa [show 120 + (f - 120) = f by omega] at this
  by_cases h4 : f < 200
  · have this : fnOk Tryz.prog bodyHow (160 + (f - 160)) = true := List.all_eq_true.1 allOk_4 (f - 160) (List.mem_range.2 (by omega))
    rwa [show 160 + (f - 160) = f by omega] at this
  by_cases h5 : f < 240
  · have this : fnOk Tryz.prog bodyHow (200 + (f - 200)) = true := List.all_eq_true.1 allOk_5 (f - 200) (List.mem_range.2 (by omega))
    rwa [show 200 + (f - 200) = f by omega] at this
  by_cases h6 : f < 280
  · have this : fnOk Tryz.prog bodyHow (240 + (f - 240)) = true := List.all_eq_true.1 allOk_6 (f - 240) (List.mem_range.2 (by omega))
    rwa [show 240 + (f - 240) = f by omega] at this
  omega
theorem tabLow : (bodyTab.all fun p => decide (p.1 < 270)) = true := by decide
theorem bodyHow_low {f : FuncId} {x : How} (h : bodyHow f = some x) : f < 270 := by
  unfold bodyHow at h
  obtain ⟨p, hp, _⟩ := Option.map_eq_some_iff.1 h
  have h1 := List.all_eq_true.1 tabLow p (List.mem_of_find?_eq_some hp)
  have h2 := List.find?_some hp
  simp only [beq_iff_eq] at h2
  rw [← h2]
  simpa using h1
theorem bodyHow_body {f : FuncId} {p : List AV → AS → Option Nat → Option (AV × AS)} : bodyHow f ≠ some (.prim p) := by
  unfold bodyHow
  intro h
  obtain ⟨p, _, h1⟩ := Option.map_eq_some_iff.1 h
  cases h1
theorem howOk : HowOk Tryz.prog how := {
  body := by
    intro f fl fn c h1 h2 h3
    unfold how at h1
    by_cases h19 : f = 19
    · rw [if_pos h19] at h1; cases h1
    rw [if_neg h19] at h1
    by_cases h14 : f = 14
    · rw [if_pos h14] at h1; cases h1
    rw [if_neg h14] at h1
    exact fnOk_body (allOk f (bodyHow_low h1)) h1 h2 h3
  prim := by
    intro f p h
    unfold how at h
    by_cases h19 : f = 19
    · rw [if_pos h19] at h
      cases h
      rw [h19]
      exact code_ok
    rw [if_neg h19] at h
    by_cases h14 : f = 14
    · rw [if_pos h14] at h
      cases h
      rw [h14]
      exact awake_ok
    rw [if_neg h14] at h
    exact absurd h bodyHow_body }
theorem hm : Tryz.prog.follows .mixedOrders = true := by kernel_rfl
open Go.ChangeShapes Go.WideShapes Go.ChangeAt Go.RowKit
theorem own : ownKnob Tryz.prog.godebug = none := by kernel_rfl
theorem laidOut : laidOutB Tryz.prog = true := by kernel_rfl
theorem shape : shapeOk Tryz.prog 9 Tryz.f3 = true := by kernel_rfl
noncomputable def p0 : Code := sub [.l] (bodyOf Tryz.f3)
noncomputable def p1 : Code := sub [.r, .l] (bodyOf Tryz.f3)
noncomputable def p2 : Code := sub [.r, .r, .l] (bodyOf Tryz.f3)
noncomputable def p3 : Code := sub [.r, .r, .r, .l] (bodyOf Tryz.f3)
theorem bodyL : Tryz.f3.body = some (p0.seq (p1.seq (p2.seq (p3.seq .ret)))) := by kernel_rfl
noncomputable def opsr : List Oper := opsOf p3
theorem pr_eq : p3 = .region 3 opsr.toArray false := by kernel_rfl
def cx0 : Cx := { h := 0, ro := none, esc := [] }
noncomputable def A0 (a0_0 : Int) (a0_1 : Int) (a0_2 : Int) (a0_3 : Int) (a0_4 : Int) (a0_5 : Int) (a0_6 : Int) (a0_7 : Int) (a0_8 : Int) (a0_9 : Int) (a0_10 : Bool) (a0_11 : Int) (a0_12 : Int) (a0_13 : AV) (a0_14 : AV) (a0_15 : AV) (a0_16 : Int) (a0_17 : Int) (a0_18 : Bool) (a0_19 : AV) (a0_20 : AV) (a0_21 : Int) (a0_22 : Int) (a0_23 : ByteArray) (a0_24 : Int) (a0_25 : Int) : Option (AExit × St) := execA Tryz.prog cx0 [] (callN Tryz.prog how 60) 60 p0 (frameA Tryz.f3 [.agg [.int .i64 a0_0, .int .i64 a0_1, .int .i64 a0_2, .int .i64 a0_3, .int .i64 a0_4, .int .i64 a0_5, .int .u64 a0_6, .int .i64 a0_7, .int .i64 a0_8, .int .i64 a0_9, .bool a0_10, .int .u64 a0_11, .int .i64 a0_12, a0_13, a0_14, a0_15, .int .i64 a0_16, .int .u64 a0_17, .bool a0_18, a0_19, a0_20, .int .i64 a0_21, .int .u64 a0_22, .str a0_23, .int .u64 a0_24, .int .i64 a0_25]], AS.mk [] [])
theorem A0_ok (a0_0 : Int) (a0_1 : Int) (a0_2 : Int) (a0_3 : Int) (a0_4 : Int) (a0_5 : Int) (a0_6 : Int) (a0_7 : Int) (a0_8 : Int) (a0_9 : Int) (a0_10 : Bool) (a0_11 : Int) (a0_12 : Int) (a0_13 : AV) (a0_14 : AV) (a0_15 : AV) (a0_16 : Int) (a0_17 : Int) (a0_18 : Bool) (a0_19 : AV) (a0_20 : AV) (a0_21 : Int) (a0_22 : Int) (a0_23 : ByteArray) (a0_24 : Int) (a0_25 : Int) : A0 a0_0 a0_1 a0_2 a0_3 a0_4 a0_5 a0_6 a0_7 a0_8 a0_9 a0_10 a0_11 a0_12 a0_13 a0_14 a0_15 a0_16 a0_17 a0_18 a0_19 a0_20 a0_21 a0_22 a0_23 a0_24 a0_25 = some (.normal, stOf (A0 a0_0 a0_1 a0_2 a0_3 a0_4 a0_5 a0_6 a0_7 a0_8 a0_9 a0_10 a0_11 a0_12 a0_13 a0_14 a0_15 a0_16 a0_17 a0_18 a0_19 a0_20 a0_21 a0_22 a0_23 a0_24 a0_25)) := by kernel_rfl
theorem A0_eq (a0_0 : Int) (a0_1 : Int) (a0_2 : Int) (a0_3 : Int) (a0_4 : Int) (a0_5 : Int) (a0_6 : Int) (a0_7 : Int) (a0_8 : Int) (a0_9 : Int) (a0_10 : Bool) (a0_11 : Int) (a0_12 : Int) (a0_13 : AV) (a0_14 : AV) (a0_15 : AV) (a0_16 : Int) (a0_17 : Int) (a0_18 : Bool) (a0_19 : AV) (a0_20 : AV) (a0_21 : Int) (a0_22 : Int) (a0_23 : ByteArray) (a0_24 : Int) (a0_25 : Int) : execA Tryz.prog cx0 [] (callN Tryz.prog how 60) 60 p0 (frameA Tryz.f3 [.agg [.int .i64 a0_0, .int .i64 a0_1, .int .i64 a0_2, .int .i64 a0_3, .int .i64 a0_4, .int .i64 a0_5, .int .u64 a0_6, .int .i64 a0_7, .int .i64 a0_8, .int .i64 a0_9, .bool a0_10, .int .u64 a0_11, .int .i64 a0_12, a0_13, a0_14, a0_15, .int .i64 a0_16, .int .u64 a0_17, .bool a0_18, a0_19, a0_20, .int .i64 a0_21, .int .u64 a0_22, .str a0_23, .int .u64 a0_24, .int .i64 a0_25]], AS.mk [] []) = A0 a0_0 a0_1 a0_2 a0_3 a0_4 a0_5 a0_6 a0_7 a0_8 a0_9 a0_10 a0_11 a0_12 a0_13 a0_14 a0_15 a0_16 a0_17 a0_18 a0_19 a0_20 a0_21 a0_22 a0_23 a0_24 a0_25 := rfl
noncomputable def A1 (a0_0 : Int) (a0_1 : Int) (a0_2 : Int) (a0_3 : Int) (a0_4 : Int) (a0_5 : Int) (a0_6 : Int) (a0_7 : Int) (a0_8 : Int) (a0_9 : Int) (a0_10 : Bool) (a0_11 : Int) (a0_12 : Int) (a0_13 : AV) (a0_14 : AV) (a0_15 : AV) (a0_16 : Int) (a0_17 : Int) (a0_18 : Bool) (a0_19 : AV) (a0_20 : AV) (a0_21 : Int) (a0_22 : Int) (a0_23 : ByteArray) (a0_24 : Int) (a0_25 : Int) : Option (AExit × St) := execA Tryz.prog cx0 [] (callN Tryz.prog how 60) 60 p1 (stOf (A0 a0_0 a0_1 a0_2 a0_3 a0_4 a0_5 a0_6 a0_7 a0_8 a0_9 a0_10 a0_11 a0_12 a0_13 a0_14 a0_15 a0_16 a0_17 a0_18 a0_19 a0_20 a0_21 a0_22 a0_23 a0_24 a0_25))
theorem A1_ok (a0_0 : Int) (a0_1 : Int) (a0_2 : Int) (a0_3 : Int) (a0_4 : Int) (a0_5 : Int) (a0_6 : Int) (a0_7 : Int) (a0_8 : Int) (a0_9 : Int) (a0_10 : Bool) (a0_11 : Int) (a0_12 : Int) (a0_13 : AV) (a0_14 : AV) (a0_15 : AV) (a0_16 : Int) (a0_17 : Int) (a0_18 : Bool) (a0_19 : AV) (a0_20 : AV) (a0_21 : Int) (a0_22 : Int) (a0_23 : ByteArray) (a0_24 : Int) (a0_25 : Int) : A1 a0_0 a0_1 a0_2 a0_3 a0_4 a0_5 a0_6 a0_7 a0_8 a0_9 a0_10 a0_11 a0_12 a0_13 a0_14 a0_15 a0_16 a0_17 a0_18 a0_19 a0_20 a0_21 a0_22 a0_23 a0_24 a0_25 = some (.normal, stOf (A1 a0_0 a0_1 a0_2 a0_3 a0_4 a0_5 a0_6 a0_7 a0_8 a0_9 a0_10 a0_11 a0_12 a0_13 a0_14 a0_15 a0_16 a0_17 a0_18 a0_19 a0_20 a0_21 a0_22 a0_23 a0_24 a0_25)) := by kernel_rfl
theorem A1_eq (a0_0 : Int) (a0_1 : Int) (a0_2 : Int) (a0_3 : Int) (a0_4 : Int) (a0_5 : Int) (a0_6 : Int) (a0_7 : Int) (a0_8 : Int) (a0_9 : Int) (a0_10 : Bool) (a0_11 : Int) (a0_12 : Int) (a0_13 : AV) (a0_14 : AV) (a0_15 : AV) (a0_16 : Int) (a0_17 : Int) (a0_18 : Bool) (a0_19 : AV) (a0_20 : AV) (a0_21 : Int) (a0_22 : Int) (a0_23 : ByteArray) (a0_24 : Int) (a0_25 : Int) : execA Tryz.prog cx0 [] (callN Tryz.prog how 60) 60 p1 (stOf (A0 a0_0 a0_1 a0_2 a0_3 a0_4 a0_5 a0_6 a0_7 a0_8 a0_9 a0_10 a0_11 a0_12 a0_13 a0_14 a0_15 a0_16 a0_17 a0_18 a0_19 a0_20 a0_21 a0_22 a0_23 a0_24 a0_25)) = A1 a0_0 a0_1 a0_2 a0_3 a0_4 a0_5 a0_6 a0_7 a0_8 a0_9 a0_10 a0_11 a0_12 a0_13 a0_14 a0_15 a0_16 a0_17 a0_18 a0_19 a0_20 a0_21 a0_22 a0_23 a0_24 a0_25 := rfl
noncomputable def A2 (a0_0 : Int) (a0_1 : Int) (a0_2 : Int) (a0_3 : Int) (a0_4 : Int) (a0_5 : Int) (a0_6 : Int) (a0_7 : Int) (a0_8 : Int) (a0_9 : Int) (a0_10 : Bool) (a0_11 : Int) (a0_12 : Int) (a0_13 : AV) (a0_14 : AV) (a0_15 : AV) (a0_16 : Int) (a0_17 : Int) (a0_18 : Bool) (a0_19 : AV) (a0_20 : AV) (a0_21 : Int) (a0_22 : Int) (a0_23 : ByteArray) (a0_24 : Int) (a0_25 : Int) : Option (AExit × St) := execA Tryz.prog cx0 [] (callN Tryz.prog how 60) 60 p2 (stOf (A1 a0_0 a0_1 a0_2 a0_3 a0_4 a0_5 a0_6 a0_7 a0_8 a0_9 a0_10 a0_11 a0_12 a0_13 a0_14 a0_15 a0_16 a0_17 a0_18 a0_19 a0_20 a0_21 a0_22 a0_23 a0_24 a0_25))
theorem A2_ok (a0_0 : Int) (a0_1 : Int) (a0_2 : Int) (a0_3 : Int) (a0_4 : Int) (a0_5 : Int) (a0_6 : Int) (a0_7 : Int) (a0_8 : Int) (a0_9 : Int) (a0_10 : Bool) (a0_11 : Int) (a0_12 : Int) (a0_13 : AV) (a0_14 : AV) (a0_15 : AV) (a0_16 : Int) (a0_17 : Int) (a0_18 : Bool) (a0_19 : AV) (a0_20 : AV) (a0_21 : Int) (a0_22 : Int) (a0_23 : ByteArray) (a0_24 : Int) (a0_25 : Int) : A2 a0_0 a0_1 a0_2 a0_3 a0_4 a0_5 a0_6 a0_7 a0_8 a0_9 a0_10 a0_11 a0_12 a0_13 a0_14 a0_15 a0_16 a0_17 a0_18 a0_19 a0_20 a0_21 a0_22 a0_23 a0_24 a0_25 = some (.normal, stOf (A2 a0_0 a0_1 a0_2 a0_3 a0_4 a0_5 a0_6 a0_7 a0_8 a0_9 a0_10 a0_11 a0_12 a0_13 a0_14 a0_15 a0_16 a0_17 a0_18 a0_19 a0_20 a0_21 a0_22 a0_23 a0_24 a0_25)) := by kernel_rfl
theorem A2_eq (a0_0 : Int) (a0_1 : Int) (a0_2 : Int) (a0_3 : Int) (a0_4 : Int) (a0_5 : Int) (a0_6 : Int) (a0_7 : Int) (a0_8 : Int) (a0_9 : Int) (a0_10 : Bool) (a0_11 : Int) (a0_12 : Int) (a0_13 : AV) (a0_14 : AV) (a0_15 : AV) (a0_16 : Int) (a0_17 : Int) (a0_18 : Bool) (a0_19 : AV) (a0_20 : AV) (a0_21 : Int) (a0_22 : Int) (a0_23 : ByteArray) (a0_24 : Int) (a0_25 : Int) : execA Tryz.prog cx0 [] (callN Tryz.prog how 60) 60 p2 (stOf (A1 a0_0 a0_1 a0_2 a0_3 a0_4 a0_5 a0_6 a0_7 a0_8 a0_9 a0_10 a0_11 a0_12 a0_13 a0_14 a0_15 a0_16 a0_17 a0_18 a0_19 a0_20 a0_21 a0_22 a0_23 a0_24 a0_25)) = A2 a0_0 a0_1 a0_2 a0_3 a0_4 a0_5 a0_6 a0_7 a0_8 a0_9 a0_10 a0_11 a0_12 a0_13 a0_14 a0_15 a0_16 a0_17 a0_18 a0_19 a0_20 a0_21 a0_22 a0_23 a0_24 a0_25 := rfl
noncomputable def B0 (a0_0 : Int) (a0_1 : Int) (a0_2 : Int) (a0_3 : Int) (a0_4 : Int) (a0_5 : Int) (a0_6 : Int) (a0_7 : Int) (a0_8 : Int) (a0_9 : Int) (a0_10 : Bool) (a0_11 : Int) (a0_12 : Int) (a0_13 : AV) (a0_14 : AV) (a0_15 : AV) (a0_16 : Int) (a0_17 : Int) (a0_18 : Bool) (a0_19 : AV) (a0_20 : AV) (a0_21 : Int) (a0_22 : Int) (a0_23 : ByteArray) (a0_24 : Int) (a0_25 : Int) : Option (Env × AS) := seqA Tryz.prog cx0 (callN Tryz.prog how 60) opsr (opsr.take 7) (stOf (A2 a0_0 a0_1 a0_2 a0_3 a0_4 a0_5 a0_6 a0_7 a0_8 a0_9 a0_10 a0_11 a0_12 a0_13 a0_14 a0_15 a0_16 a0_17 a0_18 a0_19 a0_20 a0_21 a0_22 a0_23 a0_24 a0_25)).1 (stOf (A2 a0_0 a0_1 a0_2 a0_3 a0_4 a0_5 a0_6 a0_7 a0_8 a0_9 a0_10 a0_11 a0_12 a0_13 a0_14 a0_15 a0_16 a0_17 a0_18 a0_19 a0_20 a0_21 a0_22 a0_23 a0_24 a0_25)).2
theorem B0_ok (a0_0 : Int) (a0_1 : Int) (a0_2 : Int) (a0_3 : Int) (a0_4 : Int) (a0_5 : Int) (a0_6 : Int) (a0_7 : Int) (a0_8 : Int) (a0_9 : Int) (a0_10 : Bool) (a0_11 : Int) (a0_12 : Int) (a0_13 : AV) (a0_14 : AV) (a0_15 : AV) (a0_16 : Int) (a0_17 : Int) (a0_18 : Bool) (a0_19 : AV) (a0_20 : AV) (a0_21 : Int) (a0_22 : Int) (a0_23 : ByteArray) (a0_24 : Int) (a0_25 : Int) : B0 a0_0 a0_1 a0_2 a0_3 a0_4 a0_5 a0_6 a0_7 a0_8 a0_9 a0_10 a0_11 a0_12 a0_13 a0_14 a0_15 a0_16 a0_17 a0_18 a0_19 a0_20 a0_21 a0_22 a0_23 a0_24 a0_25 = some (sOf (B0 a0_0 a0_1 a0_2 a0_3 a0_4 a0_5 a0_6 a0_7 a0_8 a0_9 a0_10 a0_11 a0_12 a0_13 a0_14 a0_15 a0_16 a0_17 a0_18 a0_19 a0_20 a0_21 a0_22 a0_23 a0_24 a0_25)) := by kernel_rfl
theorem B0_eq (a0_0 : Int) (a0_1 : Int) (a0_2 : Int) (a0_3 : Int) (a0_4 : Int) (a0_5 : Int) (a0_6 : Int) (a0_7 : Int) (a0_8 : Int) (a0_9 : Int) (a0_10 : Bool) (a0_11 : Int) (a0_12 : Int) (a0_13 : AV) (a0_14 : AV) (a0_15 : AV) (a0_16 : Int) (a0_17 : Int) (a0_18 : Bool) (a0_19 : AV) (a0_20 : AV) (a0_21 : Int) (a0_22 : Int) (a0_23 : ByteArray) (a0_24 : Int) (a0_25 : Int) : seqA Tryz.prog cx0 (callN Tryz.prog how 60) opsr (opsr.take 7) (stOf (A2 a0_0 a0_1 a0_2 a0_3 a0_4 a0_5 a0_6 a0_7 a0_8 a0_9 a0_10 a0_11 a0_12 a0_13 a0_14 a0_15 a0_16 a0_17 a0_18 a0_19 a0_20 a0_21 a0_22 a0_23 a0_24 a0_25)).1 (stOf (A2 a0_0 a0_1 a0_2 a0_3 a0_4 a0_5 a0_6 a0_7 a0_8 a0_9 a0_10 a0_11 a0_12 a0_13 a0_14 a0_15 a0_16 a0_17 a0_18 a0_19 a0_20 a0_21 a0_22 a0_23 a0_24 a0_25)).2 = B0 a0_0 a0_1 a0_2 a0_3 a0_4 a0_5 a0_6 a0_7 a0_8 a0_9 a0_10 a0_11 a0_12 a0_13 a0_14 a0_15 a0_16 a0_17 a0_18 a0_19 a0_20 a0_21 a0_22 a0_23 a0_24 a0_25 := rfl
noncomputable def oc : Oper := (opsr.drop 7).headD default
theorem opsr_split : opsr = opsr.take 7 ++ ([oc] ++ opsr.drop 8) := by kernel_rfl
noncomputable def D0 (a0_0 : Int) (a0_1 : Int) (a0_2 : Int) (a0_3 : Int) (a0_4 : Int) (a0_5 : Int) (a0_6 : Int) (a0_7 : Int) (a0_8 : Int) (a0_9 : Int) (a0_10 : Bool) (a0_11 : Int) (a0_12 : Int) (a0_13 : AV) (a0_14 : AV) (a0_15 : AV) (a0_16 : Int) (a0_17 : Int) (a0_18 : Bool) (a0_19 : AV) (a0_20 : AV) (a0_21 : Int) (a0_22 : Int) (a0_23 : ByteArray) (a0_24 : Int) (a0_25 : Int) (y0 y1 y2 y47_0 y47_1 : AV) : Option (Env × AS) := seqA Tryz.prog cx0 (callN Tryz.prog how 60) opsr (opsr.drop 8) (putE (sOf (B0 a0_0 a0_1 a0_2 a0_3 a0_4 a0_5 a0_6 a0_7 a0_8 a0_9 a0_10 a0_11 a0_12 a0_13 a0_14 a0_15 a0_16 a0_17 a0_18 a0_19 a0_20 a0_21 a0_22 a0_23 a0_24 a0_25)).1 (some 19) (.agg [.int .i64 a0_0, .int .i64 a0_1, .int .i64 a0_2, .int .i64 a0_3, .int .i64 a0_4, .int .i64 a0_5, .int .u64 a0_6, .int .i64 a0_7, .int .i64 a0_8, .int .i64 a0_9, .bool a0_10, .int .u64 a0_11, .int .i64 a0_12, y0, y1, y2, .int .i64 a0_16, .int .u64 a0_17, .bool a0_18, y47_0, y47_1, .int .i64 a0_21, .int .u64 a0_22, .str a0_23, .int .u64 a0_24, .int .i64 a0_25])) (sOf (B0 a0_0 a0_1 a0_2 a0_3 a0_4 a0_5 a0_6 a0_7 a0_8 a0_9 a0_10 a0_11 a0_12 a0_13 a0_14 a0_15 a0_16 a0_17 a0_18 a0_19 a0_20 a0_21 a0_22 a0_23 a0_24 a0_25)).2
theorem D0_ok (a0_0 : Int) (a0_1 : Int) (a0_2 : Int) (a0_3 : Int) (a0_4 : Int) (a0_5 : Int) (a0_6 : Int) (a0_7 : Int) (a0_8 : Int) (a0_9 : Int) (a0_10 : Bool) (a0_11 : Int) (a0_12 : Int) (a0_13 : AV) (a0_14 : AV) (a0_15 : AV) (a0_16 : Int) (a0_17 : Int) (a0_18 : Bool) (a0_19 : AV) (a0_20 : AV) (a0_21 : Int) (a0_22 : Int) (a0_23 : ByteArray) (a0_24 : Int) (a0_25 : Int) (y0 y1 y2 y47_0 y47_1 : AV) : D0 a0_0 a0_1 a0_2 a0_3 a0_4 a0_5 a0_6 a0_7 a0_8 a0_9 a0_10 a0_11 a0_12 a0_13 a0_14 a0_15 a0_16 a0_17 a0_18 a0_19 a0_20 a0_21 a0_22 a0_23 a0_24 a0_25 y0 y1 y2 y47_0 y47_1 = some (sOf (D0 a0_0 a0_1 a0_2 a0_3 a0_4 a0_5 a0_6 a0_7 a0_8 a0_9 a0_10 a0_11 a0_12 a0_13 a0_14 a0_15 a0_16 a0_17 a0_18 a0_19 a0_20 a0_21 a0_22 a0_23 a0_24 a0_25 y0 y1 y2 y47_0 y47_1)) := by kernel_rfl
theorem D0_eq (a0_0 : Int) (a0_1 : Int) (a0_2 : Int) (a0_3 : Int) (a0_4 : Int) (a0_5 : Int) (a0_6 : Int) (a0_7 : Int) (a0_8 : Int) (a0_9 : Int) (a0_10 : Bool) (a0_11 : Int) (a0_12 : Int) (a0_13 : AV) (a0_14 : AV) (a0_15 : AV) (a0_16 : Int) (a0_17 : Int) (a0_18 : Bool) (a0_19 : AV) (a0_20 : AV) (a0_21 : Int) (a0_22 : Int) (a0_23 : ByteArray) (a0_24 : Int) (a0_25 : Int) (y0 y1 y2 y47_0 y47_1 : AV) : seqA Tryz.prog cx0 (callN Tryz.prog how 60) opsr (opsr.drop 8) (putE (sOf (B0 a0_0 a0_1 a0_2 a0_3 a0_4 a0_5 a0_6 a0_7 a0_8 a0_9 a0_10 a0_11 a0_12 a0_13 a0_14 a0_15 a0_16 a0_17 a0_18 a0_19 a0_20 a0_21 a0_22 a0_23 a0_24 a0_25)).1 (some 19) (.agg [.int .i64 a0_0, .int .i64 a0_1, .int .i64 a0_2, .int .i64 a0_3, .int .i64 a0_4, .int .i64 a0_5, .int .u64 a0_6, .int .i64 a0_7, .int .i64 a0_8, .int .i64 a0_9, .bool a0_10, .int .u64 a0_11, .int .i64 a0_12, y0, y1, y2, .int .i64 a0_16, .int .u64 a0_17, .bool a0_18, y47_0, y47_1, .int .i64 a0_21, .int .u64 a0_22, .str a0_23, .int .u64 a0_24, .int .i64 a0_25])) (sOf (B0 a0_0 a0_1 a0_2 a0_3 a0_4 a0_5 a0_6 a0_7 a0_8 a0_9 a0_10 a0_11 a0_12 a0_13 a0_14 a0_15 a0_16 a0_17 a0_18 a0_19 a0_20 a0_21 a0_22 a0_23 a0_24 a0_25)).2 = D0 a0_0 a0_1 a0_2 a0_3 a0_4 a0_5 a0_6 a0_7 a0_8 a0_9 a0_10 a0_11 a0_12 a0_13 a0_14 a0_15 a0_16 a0_17 a0_18 a0_19 a0_20 a0_21 a0_22 a0_23 a0_24 a0_25 y0 y1 y2 y47_0 y47_1 := rfl
noncomputable def F0 (a0_0 : Int) (a0_1 : Int) (a0_2 : Int) (a0_3 : Int) (a0_4 : Int) (a0_5 : Int) (a0_6 : Int) (a0_7 : Int) (a0_8 : Int) (a0_9 : Int) (a0_10 : Bool) (a0_11 : Int) (a0_12 : Int) (a0_13 : AV) (a0_14 : AV) (a0_15 : AV) (a0_16 : Int) (a0_17 : Int) (a0_18 : Bool) (a0_19 : AV) (a0_20 : AV) (a0_21 : Int) (a0_22 : Int) (a0_23 : ByteArray) (a0_24 : Int) (a0_25 : Int) (y0 y1 y2 y47_0 y47_1 : AV) : Option (AExit × St) := execA Tryz.prog cx0 [] (callN Tryz.prog how 60) 60 .ret (sOf (D0 a0_0 a0_1 a0_2 a0_3 a0_4 a0_5 a0_6 a0_7 a0_8 a0_9 a0_10 a0_11 a0_12 a0_13 a0_14 a0_15 a0_16 a0_17 a0_18 a0_19 a0_20 a0_21 a0_22 a0_23 a0_24 a0_25 y0 y1 y2 y47_0 y47_1))
theorem F0_ok (a0_0 : Int) (a0_1 : Int) (a0_2 : Int) (a0_3 : Int) (a0_4 : Int) (a0_5 : Int) (a0_6 : Int) (a0_7 : Int) (a0_8 : Int) (a0_9 : Int) (a0_10 : Bool) (a0_11 : Int) (a0_12 : Int) (a0_13 : AV) (a0_14 : AV) (a0_15 : AV) (a0_16 : Int) (a0_17 : Int) (a0_18 : Bool) (a0_19 : AV) (a0_20 : AV) (a0_21 : Int) (a0_22 : Int) (a0_23 : ByteArray) (a0_24 : Int) (a0_25 : Int) (y0 y1 y2 y47_0 y47_1 : AV) : F0 a0_0 a0_1 a0_2 a0_3 a0_4 a0_5 a0_6 a0_7 a0_8 a0_9 a0_10 a0_11 a0_12 a0_13 a0_14 a0_15 a0_16 a0_17 a0_18 a0_19 a0_20 a0_21 a0_22 a0_23 a0_24 a0_25 y0 y1 y2 y47_0 y47_1 = some (.ret, stOf (F0 a0_0 a0_1 a0_2 a0_3 a0_4 a0_5 a0_6 a0_7 a0_8 a0_9 a0_10 a0_11 a0_12 a0_13 a0_14 a0_15 a0_16 a0_17 a0_18 a0_19 a0_20 a0_21 a0_22 a0_23 a0_24 a0_25 y0 y1 y2 y47_0 y47_1)) := by kernel_rfl
theorem F0_eq (a0_0 : Int) (a0_1 : Int) (a0_2 : Int) (a0_3 : Int) (a0_4 : Int) (a0_5 : Int) (a0_6 : Int) (a0_7 : Int) (a0_8 : Int) (a0_9 : Int) (a0_10 : Bool) (a0_11 : Int) (a0_12 : Int) (a0_13 : AV) (a0_14 : AV) (a0_15 : AV) (a0_16 : Int) (a0_17 : Int) (a0_18 : Bool) (a0_19 : AV) (a0_20 : AV) (a0_21 : Int) (a0_22 : Int) (a0_23 : ByteArray) (a0_24 : Int) (a0_25 : Int) (y0 y1 y2 y47_0 y47_1 : AV) : execA Tryz.prog cx0 [] (callN Tryz.prog how 60) 60 .ret (sOf (D0 a0_0 a0_1 a0_2 a0_3 a0_4 a0_5 a0_6 a0_7 a0_8 a0_9 a0_10 a0_11 a0_12 a0_13 a0_14 a0_15 a0_16 a0_17 a0_18 a0_19 a0_20 a0_21 a0_22 a0_23 a0_24 a0_25 y0 y1 y2 y47_0 y47_1)) = F0 a0_0 a0_1 a0_2 a0_3 a0_4 a0_5 a0_6 a0_7 a0_8 a0_9 a0_10 a0_11 a0_12 a0_13 a0_14 a0_15 a0_16 a0_17 a0_18 a0_19 a0_20 a0_21 a0_22 a0_23 a0_24 a0_25 y0 y1 y2 y47_0 y47_1 := rfl
noncomputable def E0 (a0_0 : Int) (a0_1 : Int) (a0_2 : Int) (a0_3 : Int) (a0_4 : Int) (a0_5 : Int) (a0_6 : Int) (a0_7 : Int) (a0_8 : Int) (a0_9 : Int) (a0_10 : Bool) (a0_11 : Int) (a0_12 : Int) (a0_13 : AV) (a0_14 : AV) (a0_15 : AV) (a0_16 : Int) (a0_17 : Int) (a0_18 : Bool) (a0_19 : AV) (a0_20 : AV) (a0_21 : Int) (a0_22 : Int) (a0_23 : ByteArray) (a0_24 : Int) (a0_25 : Int) (y0 y1 y2 y47_0 y47_1 : AV) : Option (AV × AS) := finishA Tryz.prog {} Tryz.f3 0 (some (.ret, stOf (F0 a0_0 a0_1 a0_2 a0_3 a0_4 a0_5 a0_6 a0_7 a0_8 a0_9 a0_10 a0_11 a0_12 a0_13 a0_14 a0_15 a0_16 a0_17 a0_18 a0_19 a0_20 a0_21 a0_22 a0_23 a0_24 a0_25 y0 y1 y2 y47_0 y47_1)))
theorem E0_ok (a0_0 : Int) (a0_1 : Int) (a0_2 : Int) (a0_3 : Int) (a0_4 : Int) (a0_5 : Int) (a0_6 : Int) (a0_7 : Int) (a0_8 : Int) (a0_9 : Int) (a0_10 : Bool) (a0_11 : Int) (a0_12 : Int) (a0_13 : AV) (a0_14 : AV) (a0_15 : AV) (a0_16 : Int) (a0_17 : Int) (a0_18 : Bool) (a0_19 : AV) (a0_20 : AV) (a0_21 : Int) (a0_22 : Int) (a0_23 : ByteArray) (a0_24 : Int) (a0_25 : Int) (y0 y1 y2 y47_0 y47_1 : AV) : (E0 a0_0 a0_1 a0_2 a0_3 a0_4 a0_5 a0_6 a0_7 a0_8 a0_9 a0_10 a0_11 a0_12 a0_13 a0_14 a0_15 a0_16 a0_17 a0_18 a0_19 a0_20 a0_21 a0_22 a0_23 a0_24 a0_25 y0 y1 y2 y47_0 y47_1).map (fun x => x.1) = some (.bool true) := by kernel_rfl
theorem E0_eq (a0_0 : Int) (a0_1 : Int) (a0_2 : Int) (a0_3 : Int) (a0_4 : Int) (a0_5 : Int) (a0_6 : Int) (a0_7 : Int) (a0_8 : Int) (a0_9 : Int) (a0_10 : Bool) (a0_11 : Int) (a0_12 : Int) (a0_13 : AV) (a0_14 : AV) (a0_15 : AV) (a0_16 : Int) (a0_17 : Int) (a0_18 : Bool) (a0_19 : AV) (a0_20 : AV) (a0_21 : Int) (a0_22 : Int) (a0_23 : ByteArray) (a0_24 : Int) (a0_25 : Int) (y0 y1 y2 y47_0 y47_1 : AV) : E0 a0_0 a0_1 a0_2 a0_3 a0_4 a0_5 a0_6 a0_7 a0_8 a0_9 a0_10 a0_11 a0_12 a0_13 a0_14 a0_15 a0_16 a0_17 a0_18 a0_19 a0_20 a0_21 a0_22 a0_23 a0_24 a0_25 y0 y1 y2 y47_0 y47_1 = finishA Tryz.prog {} Tryz.f3 0 (some (.ret, stOf (F0 a0_0 a0_1 a0_2 a0_3 a0_4 a0_5 a0_6 a0_7 a0_8 a0_9 a0_10 a0_11 a0_12 a0_13 a0_14 a0_15 a0_16 a0_17 a0_18 a0_19 a0_20 a0_21 a0_22 a0_23 a0_24 a0_25 y0 y1 y2 y47_0 y47_1))) := rfl
theorem oc_op : oc.op = .call { callee := .value (.func 7), args := #[.tmp 18], argTypes := #[38] } := by kernel_rfl
theorem oc_dst : oc.dst = some 19 := by kernel_rfl
theorem oc_w (a0_0 : Int) (a0_1 : Int) (a0_2 : Int) (a0_3 : Int) (a0_4 : Int) (a0_5 : Int) (a0_6 : Int) (a0_7 : Int) (a0_8 : Int) (a0_9 : Int) (a0_10 : Bool) (a0_11 : Int) (a0_12 : Int) (a0_13 : AV) (a0_14 : AV) (a0_15 : AV) (a0_16 : Int) (a0_17 : Int) (a0_18 : Bool) (a0_19 : AV) (a0_20 : AV) (a0_21 : Int) (a0_22 : Int) (a0_23 : ByteArray) (a0_24 : Int) (a0_25 : Int) : wantedA opsr (sOf (B0 a0_0 a0_1 a0_2 a0_3 a0_4 a0_5 a0_6 a0_7 a0_8 a0_9 a0_10 a0_11 a0_12 a0_13 a0_14 a0_15 a0_16 a0_17 a0_18 a0_19 a0_20 a0_21 a0_22 a0_23 a0_24 a0_25)).1 oc = true := by kernel_rfl
theorem oc_a (a0_0 : Int) (a0_1 : Int) (a0_2 : Int) (a0_3 : Int) (a0_4 : Int) (a0_5 : Int) (a0_6 : Int) (a0_7 : Int) (a0_8 : Int) (a0_9 : Int) (a0_10 : Bool) (a0_11 : Int) (a0_12 : Int) (a0_13 : AV) (a0_14 : AV) (a0_15 : AV) (a0_16 : Int) (a0_17 : Int) (a0_18 : Bool) (a0_19 : AV) (a0_20 : AV) (a0_21 : Int) (a0_22 : Int) (a0_23 : ByteArray) (a0_24 : Int) (a0_25 : Int) : evs (sOf (B0 a0_0 a0_1 a0_2 a0_3 a0_4 a0_5 a0_6 a0_7 a0_8 a0_9 a0_10 a0_11 a0_12 a0_13 a0_14 a0_15 a0_16 a0_17 a0_18 a0_19 a0_20 a0_21 a0_22 a0_23 a0_24 a0_25)).1 [.tmp 18] = some [.agg [.int .i64 a0_0, .int .i64 a0_1, .int .i64 a0_2, .int .i64 a0_3, .int .i64 a0_4, .int .i64 a0_5, .int .u64 a0_6, .int .i64 a0_7, .int .i64 a0_8, .int .i64 a0_9, .bool a0_10, .int .u64 a0_11, .int .i64 a0_12, a0_13, a0_14, a0_15, .int .i64 a0_16, .int .u64 a0_17, .bool a0_18, a0_19, a0_20, .int .i64 a0_21, .int .u64 a0_22, .str a0_23, .int .u64 a0_24, .int .i64 a0_25]] := by kernel_rfl
attribute [local irreducible] sOf stOf A0 A1 A2 B0 D0 F0 E0 opsr oc p0 p1 p2 p3
theorem law_run (a0_0 : Int) (a0_1 : Int) (a0_2 : Int) (a0_3 : Int) (a0_4 : Int) (a0_5 : Int) (a0_6 : Int) (a0_7 : Int) (a0_8 : Int) (a0_9 : Int) (a0_10 : Bool) (a0_11 : Int) (a0_12 : Int) (a0_13 : AV) (a0_14 : AV) (a0_15 : AV) (a0_16 : Int) (a0_17 : Int) (a0_18 : Bool) (a0_19 : AV) (a0_20 : AV) (a0_21 : Int) (a0_22 : Int) (a0_23 : ByteArray) (a0_24 : Int) (a0_25 : Int) (ha0_13 : isSl 4 isT95 a0_13) (ha0_14 : isSl 4 isT100 a0_14) (ha0_15 : isSl 10 isT107 a0_15) (ha0_19 : isSl 2 isT177 a0_19) (ha0_20 : isSl 3 isT180 a0_20) : ∃ σ', callW Tryz.prog how 3 [.agg [.int .i64 a0_0, .int .i64 a0_1, .int .i64 a0_2, .int .i64 a0_3, .int .i64 a0_4, .int .i64 a0_5, .int .u64 a0_6, .int .i64 a0_7, .int .i64 a0_8, .int .i64 a0_9, .bool a0_10, .int .u64 a0_11, .int .i64 a0_12, a0_13, a0_14, a0_15, .int .i64 a0_16, .int .u64 a0_17, .bool a0_18, a0_19, a0_20, .int .i64 a0_21, .int .u64 a0_22, .str a0_23, .int .u64 a0_24, .int .i64 a0_25]] ⟨[], []⟩ none = some (.bool true, σ') := by
  have hs : Sub (callN Tryz.prog how 60) (callW Tryz.prog how) := fun f a σ ro r h => callW_of h
  have a0 := execW_ofA hs _ _ _ ((A0_eq a0_0 a0_1 a0_2 a0_3 a0_4 a0_5 a0_6 a0_7 a0_8 a0_9 a0_10 a0_11 a0_12 a0_13 a0_14 a0_15 a0_16 a0_17 a0_18 a0_19 a0_20 a0_21 a0_22 a0_23 a0_24 a0_25).trans (A0_ok a0_0 a0_1 a0_2 a0_3 a0_4 a0_5 a0_6 a0_7 a0_8 a0_9 a0_10 a0_11 a0_12 a0_13 a0_14 a0_15 a0_16 a0_17 a0_18 a0_19 a0_20 a0_21 a0_22 a0_23 a0_24 a0_25))
  have a1 := execW_ofA hs _ _ _ ((A1_eq a0_0 a0_1 a0_2 a0_3 a0_4 a0_5 a0_6 a0_7 a0_8 a0_9 a0_10 a0_11 a0_12 a0_13 a0_14 a0_15 a0_16 a0_17 a0_18 a0_19 a0_20 a0_21 a0_22 a0_23 a0_24 a0_25).trans (A1_ok a0_0 a0_1 a0_2 a0_3 a0_4 a0_5 a0_6 a0_7 a0_8 a0_9 a0_10 a0_11 a0_12 a0_13 a0_14 a0_15 a0_16 a0_17 a0_18 a0_19 a0_20 a0_21 a0_22 a0_23 a0_24 a0_25))
  have a2 := execW_ofA hs _ _ _ ((A2_eq a0_0 a0_1 a0_2 a0_3 a0_4 a0_5 a0_6 a0_7 a0_8 a0_9 a0_10 a0_11 a0_12 a0_13 a0_14 a0_15 a0_16 a0_17 a0_18 a0_19 a0_20 a0_21 a0_22 a0_23 a0_24 a0_25).trans (A2_ok a0_0 a0_1 a0_2 a0_3 a0_4 a0_5 a0_6 a0_7 a0_8 a0_9 a0_10 a0_11 a0_12 a0_13 a0_14 a0_15 a0_16 a0_17 a0_18 a0_19 a0_20 a0_21 a0_22 a0_23 a0_24 a0_25))
  have b := seqA_mono hs _ _ _ _ ((B0_eq a0_0 a0_1 a0_2 a0_3 a0_4 a0_5 a0_6 a0_7 a0_8 a0_9 a0_10 a0_11 a0_12 a0_13 a0_14 a0_15 a0_16 a0_17 a0_18 a0_19 a0_20 a0_21 a0_22 a0_23 a0_24 a0_25).trans (B0_ok a0_0 a0_1 a0_2 a0_3 a0_4 a0_5 a0_6 a0_7 a0_8 a0_9 a0_10 a0_11 a0_12 a0_13 a0_14 a0_15 a0_16 a0_17 a0_18 a0_19 a0_20 a0_21 a0_22 a0_23 a0_24 a0_25))
  obtain ⟨y0, y1, y2, y47_0, y47_1, c, _⟩ := f7_ok (how := how) (by kernel_rfl) (by kernel_rfl) (by kernel_rfl) (by kernel_rfl) (sOf (B0 a0_0 a0_1 a0_2 a0_3 a0_4 a0_5 a0_6 a0_7 a0_8 a0_9 a0_10 a0_11 a0_12 a0_13 a0_14 a0_15 a0_16 a0_17 a0_18 a0_19 a0_20 a0_21 a0_22 a0_23 a0_24 a0_25)).2.hp (sOf (B0 a0_0 a0_1 a0_2 a0_3 a0_4 a0_5 a0_6 a0_7 a0_8 a0_9 a0_10 a0_11 a0_12 a0_13 a0_14 a0_15 a0_16 a0_17 a0_18 a0_19 a0_20 a0_21 a0_22 a0_23 a0_24 a0_25)).2.st none a0_0 a0_1 a0_2 a0_3 a0_4 a0_5 a0_6 a0_7 a0_8 a0_9 a0_10 a0_11 a0_12 a0_13 a0_14 a0_15 a0_16 a0_17 a0_18 a0_19 a0_20 a0_21 a0_22 a0_23 a0_24 a0_25 ha0_13 ha0_14 ha0_15 ha0_19 ha0_20 (fun k hk => by cases hk)
  have c' := seqA_call (P := Tryz.prog) (cx := cx0) (call := callW Tryz.prog how) oc_op (oc_w a0_0 a0_1 a0_2 a0_3 a0_4 a0_5 a0_6 a0_7 a0_8 a0_9 a0_10 a0_11 a0_12 a0_13 a0_14 a0_15 a0_16 a0_17 a0_18 a0_19 a0_20 a0_21 a0_22 a0_23 a0_24 a0_25) rfl (oc_a a0_0 a0_1 a0_2 a0_3 a0_4 a0_5 a0_6 a0_7 a0_8 a0_9 a0_10 a0_11 a0_12 a0_13 a0_14 a0_15 a0_16 a0_17 a0_18 a0_19 a0_20 a0_21 a0_22 a0_23 a0_24 a0_25) rfl c
  rw [oc_dst] at c'
  have d := seqA_mono hs _ _ _ _ ((D0_eq a0_0 a0_1 a0_2 a0_3 a0_4 a0_5 a0_6 a0_7 a0_8 a0_9 a0_10 a0_11 a0_12 a0_13 a0_14 a0_15 a0_16 a0_17 a0_18 a0_19 a0_20 a0_21 a0_22 a0_23 a0_24 a0_25 y0 y1 y2 y47_0 y47_1).trans (D0_ok a0_0 a0_1 a0_2 a0_3 a0_4 a0_5 a0_6 a0_7 a0_8 a0_9 a0_10 a0_11 a0_12 a0_13 a0_14 a0_15 a0_16 a0_17 a0_18 a0_19 a0_20 a0_21 a0_22 a0_23 a0_24 a0_25 y0 y1 y2 y47_0 y47_1))
  have g := execW_ofA hs _ _ _ ((F0_eq a0_0 a0_1 a0_2 a0_3 a0_4 a0_5 a0_6 a0_7 a0_8 a0_9 a0_10 a0_11 a0_12 a0_13 a0_14 a0_15 a0_16 a0_17 a0_18 a0_19 a0_20 a0_21 a0_22 a0_23 a0_24 a0_25 y0 y1 y2 y47_0 y47_1).trans (F0_ok a0_0 a0_1 a0_2 a0_3 a0_4 a0_5 a0_6 a0_7 a0_8 a0_9 a0_10 a0_11 a0_12 a0_13 a0_14 a0_15 a0_16 a0_17 a0_18 a0_19 a0_20 a0_21 a0_22 a0_23 a0_24 a0_25 y0 y1 y2 y47_0 y47_1))
  obtain ⟨⟨v, σ'⟩, e1, e2⟩ := Option.map_eq_some_iff.1 (E0_ok a0_0 a0_1 a0_2 a0_3 a0_4 a0_5 a0_6 a0_7 a0_8 a0_9 a0_10 a0_11 a0_12 a0_13 a0_14 a0_15 a0_16 a0_17 a0_18 a0_19 a0_20 a0_21 a0_22 a0_23 a0_24 a0_25 y0 y1 y2 y47_0 y47_1)
  simp only at e2
  subst e2
  refine ⟨σ', callW_body (fl := {}) (by kernel_rfl) Tryz.func3 bodyL ?_⟩
  rw [← e1]
  have h5 : seqA Tryz.prog cx0 (callW Tryz.prog how) opsr opsr (stOf (A2 a0_0 a0_1 a0_2 a0_3 a0_4 a0_5 a0_6 a0_7 a0_8 a0_9 a0_10 a0_11 a0_12 a0_13 a0_14 a0_15 a0_16 a0_17 a0_18 a0_19 a0_20 a0_21 a0_22 a0_23 a0_24 a0_25)).1 (stOf (A2 a0_0 a0_1 a0_2 a0_3 a0_4 a0_5 a0_6 a0_7 a0_8 a0_9 a0_10 a0_11 a0_12 a0_13 a0_14 a0_15 a0_16 a0_17 a0_18 a0_19 a0_20 a0_21 a0_22 a0_23 a0_24 a0_25)).2 = some (sOf (D0 a0_0 a0_1 a0_2 a0_3 a0_4 a0_5 a0_6 a0_7 a0_8 a0_9 a0_10 a0_11 a0_12 a0_13 a0_14 a0_15 a0_16 a0_17 a0_18 a0_19 a0_20 a0_21 a0_22 a0_23 a0_24 a0_25 y0 y1 y2 y47_0 y47_1)) := by
    conv => lhs; arg 5; rw [opsr_split]
    exact (seqA_append b).trans ((seqA_append c').trans d)
  have h6 := execW_plain (tails := []) (id := 3) (ops := opsr.toArray) h5
  rw [← pr_eq] at h6
  rw [E0_eq]
  refine congrArg (finishA Tryz.prog {} Tryz.f3 0) ?_
  exact (execW_seq_of a0 (execW_seq_of a1 (execW_seq_of a2 (execW_seq_of h6 g))))

/-- A world in which the listed variable reads as listed. -/
noncomputable def laidWorld (os : Os) : World :=
  let w0 := World.holding Tryz.prog os ⟨#[], #[], []⟩
  { w0 with heap := w0.heap.modify 0 fun
      | .cells _ t frozen => .cells #[.iface 286 (.agg #[.pointer (some ⟨1, 85, none⟩)])] t frozen
      | o => o }
def laidL : List (String × DataW Unit) := [("errors.errorType", Rows.laid_errors_errorType)]
theorem fg_et : Tryz.prog.globalNamed "errors.errorType" = some 0 := by kernel_rfl
theorem fg_rt : (Tryz.prog.cutTypes.find? (·.1 == "internal/reflectlite.rtype")).map (·.2) = some 286 := by kernel_rfl
theorem fg_one : ((List.range 394).filter fun t => Tryz.prog.rowNamed t [101, 114, 114, 111, 114]) = [85] := by kernel_rfl
theorem fg_size : Tryz.prog.types.size = 394 := by kernel_rfl
/-- What the condition says of the variable's cell. -/
theorem glb_of_laid {W : World} (h : laidMetH Tryz.prog laidL W) : GlbOk W := by
  have h' : laidMet Tryz.prog [] W ∧ handlesMet Tryz.prog laidL W := h
  obtain ⟨name, u, ty, e1, e2, e3, e4, e5⟩ := h'.2 _ (List.mem_singleton.2 rfl)
  have en : name = [101, 114, 114, 111, 114] := (Option.some.inj e1).symm
  subst en
  obtain rfl := Option.some.inj (fg_rt.symm.trans e2)
  have hm : ty ∈ (List.range 394).filter fun t => Tryz.prog.rowNamed t [101, 114, 114, 111, 114] := List.mem_filter.2 ⟨List.mem_range.2 (by rw [← fg_size]; exact e3), e4⟩
  rw [fg_one] at hm
  obtain rfl := List.mem_singleton.1 hm
  have hh : typeHandle Tryz.prog 85 = .pointer (some ⟨1, 85, none⟩) := by kernel_rfl
  rw [hh] at e5
  have hc : W.cell? ⟨0, 0, none⟩ = some (.iface 286 (.agg #[.pointer (some ⟨1, 85, none⟩)])) := by simpa using World.var?_cell fg_et e5 0
  intro x hx
  have hx : x ∈ [((0 : Nat), Value.iface 286 (.agg #[.pointer (some ⟨1, 85, none⟩)]))] := hx
  obtain rfl := List.mem_singleton.1 hx
  refine ⟨?_, hc⟩
  rcases Nat.lt_or_ge 0 W.heap.size with h | h
  · exact h
  · rw [World.cell?, Array.getElem?_eq_none h] at hc
    cases hc
theorem laidWorld_met (os : Os) (args : Array Value) : laidMetH Tryz.prog laidL ((laidWorld os).forCall (fun _ _ => 0) ⟨#[], args, []⟩).memory :=
  laidMetH_of_parts (laidMet_nil _ _) (by kernel_rfl)
theorem masterNil_lifted (os : Os) (started : os.Started) (H : Type) (enc : TypeId × Value → H) :
    ReturnsInHanded {} Tryz.checked os 3 .any (fun w args => (Rows.masterNilSpec.pre enc Tryz.prog Tryz.f3 [] false w args ∧ laidMetH Tryz.prog laidL w) ∧ sizedMet enc Tryz.prog Tryz.f3 (OpenSpec.ofChange Rows.masterNilSpec) false w args) (Rows.masterNilSpec.post enc Tryz.prog Tryz.f3 false true false false) := by
  refine law_lifted_laid hm howOk 9 os started own (by kernel_rfl) Tryz.func3 laidOut shape rfl ?_ ?_ ?_ ?_
  · intro H ds h
    match ds, h with
    | [d0], _ => rfl
  · exact ChangeSpec.witness_at (enc := enc) (C := Tryz.checked) (os := os) (X := fun w _ => laidMetH Tryz.prog laidL w) false (laidWorld os) #[.agg #[.int .i64 0, .int .i64 0, .int .i64 0, .int .i64 0, .int .i64 0, .int .i64 0, .int .u64 0, .int .i64 0, .int .i64 0, .int .i64 0, .bool false, .int .u64 0, .int .i64 0, .slice none 0 0, .slice none 0 0, .slice none 0 0, .int .i64 0, .int .u64 0, .bool false, .slice none 0 0, .slice none 0 0, .int .i64 0, .int .u64 0, .string ⟨#[]⟩, .int .u64 0, .int .i64 0]] 8 rfl (by kernel_rfl) (by kernel_rfl) (by kernel_rfl) (by kernel_rfl) (by kernel_rfl) (laidWorld_met os _)
  · exact fun W h => glb_of_laid h
  · intro cs h
    rw [show Tryz.f3.params.toList = [38] by rw [Tryz.params3]] at h
    obtain ⟨c0, q0, rfl, k0, h⟩ := h
    subst h
    obtain ⟨a0_0, a0_1, a0_2, a0_3, a0_4, a0_5, a0_6, a0_7, a0_8, a0_9, a0_10, a0_11, a0_12, a0_13, a0_14, a0_15, a0_16, a0_17, a0_18, a0_19, a0_20, a0_21, a0_22, a0_23, a0_24, a0_25, rfl, ha0_13, ha0_14, ha0_15, ha0_19, ha0_20⟩ := arg0 k0
    obtain ⟨σ', e⟩ := law_run a0_0 a0_1 a0_2 a0_3 a0_4 a0_5 a0_6 a0_7 a0_8 a0_9 a0_10 a0_11 a0_12 a0_13 a0_14 a0_15 a0_16 a0_17 a0_18 a0_19 a0_20 a0_21 a0_22 a0_23 a0_24 a0_25 ha0_13 ha0_14 ha0_15 ha0_19 ha0_20
    obtain ⟨m, e⟩ := callW_inv e
    exact ⟨m, _, e⟩
end Go.Proofs.YthikbholekngfaaGreatDoor
