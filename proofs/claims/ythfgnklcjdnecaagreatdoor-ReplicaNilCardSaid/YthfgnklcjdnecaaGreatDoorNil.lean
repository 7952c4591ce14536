/- A replica that is not there does nothing: for any letter and any bytes the law ReplicaNil returns true. -/
import Derived.Test.YthfgnklcjdnecaaGreatDoorAbs12
import Derived.Test.YthfgnklcjdnecaaGreatDoorCd
import Derived.Test.YthfgnklcjdnecaaGreatDoorRows
import Derived.Test.YthfgnklcjdnecaaGreatDoorTie
import Derived.Test.YthfgnklcjdnecaaGreatDoorCards
import Derived.SevenTiedAt
open Go Go.Abs Go.Proofs
set_option maxRecDepth 100000
set_option maxHeartbeats 4000000
set_option linter.unusedSimpArgs false
set_option linter.unusedVariables false
def isT38 (e : AV) : Prop := ∃ (fa0 : Int) (fa1 : Int) (fa2 : Int) (fa3 : Int) (fa4 : Int) (fa5 : Int) (fa6 : Int) (fa7 : Int) (fa8 : Int) (fa9 : Int) (fa10 : Bool) (fa11 : Int) (fa12 : Int) (fa13 : AV) (fa14 : AV) (fa15 : AV) (fa16 : Int) (fa17 : Int) (fa18 : Bool) (fa19 : AV) (fa20 : AV) (fa21 : Int) (fa22 : Int) (fa23 : ByteArray) (fa24 : Int) (fa25 : Int), e = .agg [.int .i64 fa0, .int .i64 fa1, .int .i64 fa2, .int .i64 fa3, .int .i64 fa4, .int .i64 fa5, .int .u64 fa6, .int .i64 fa7, .int .i64 fa8, .int .i64 fa9, .bool fa10, .int .u64 fa11, .int .i64 fa12, fa13, fa14, fa15, .int .i64 fa16, .int .u64 fa17, .bool fa18, fa19, fa20, .int .i64 fa21, .int .u64 fa22, .str fa23, .int .u64 fa24, .int .i64 fa25] ∧ isSl 4 isT87 fa13 ∧ isSl 4 isT92 fa14 ∧ isSl 10 isT95 fa15 ∧ isSl 2 isT131 fa19 ∧ isSl 3 isT134 fa20
def isT5 (e : AV) : Prop := ∃ (fa0 : Int), e = .int .u8 fa0
def isT39 (e : AV) : Prop := ∃ (fa0 : AV), e = fa0 ∧ isSl 1 isT5 fa0
theorem has3_7 {cs : List AV} (h : hasCs Tryz.prog 7 3 cs) : ∃ (fa0 : Int), cs = [.int .i64 fa0] := by
  unfold hasCs at h
  simp only [Tryz.underlying3] at h
  obtain ⟨fa0, rfl, _⟩ := h
  exact ⟨fa0, rfl⟩
theorem has23_8 {cs : List AV} (h : hasCs Tryz.prog 8 23 cs) : ∃ (fa0 : Int) (fa1 : Int), cs = [.int .i64 fa0, .int .i64 fa1] := by
  unfold hasCs at h
  simp only [Tryz.underlying23, hasFs] at h
  obtain ⟨x0, y0, rfl, h0, x1, y1, rfl, h1, rfl⟩ := h
  obtain ⟨fa0, rfl⟩ := has3_7 h0
  obtain ⟨fa1, rfl⟩ := has3_7 h1
  exact ⟨fa0, fa1, rfl⟩
theorem has3_8 {cs : List AV} (h : hasCs Tryz.prog 8 3 cs) : ∃ (fa0 : Int), cs = [.int .i64 fa0] := by
  unfold hasCs at h
  simp only [Tryz.underlying3] at h
  obtain ⟨fa0, rfl, _⟩ := h
  exact ⟨fa0, rfl⟩
theorem has24_8 {cs : List AV} (h : hasCs Tryz.prog 8 24 cs) : ∃ (fa0 : Int), cs = [.int .u64 fa0] := by
  unfold hasCs at h
  simp only [Tryz.underlying24] at h
  obtain ⟨fa0, rfl, _⟩ := h
  exact ⟨fa0, rfl⟩
theorem has4_8 {cs : List AV} (h : hasCs Tryz.prog 8 4 cs) : ∃ (fa0 : Bool), cs = [.bool fa0] := by
  unfold hasCs at h
  simp only [Tryz.underlying4] at h
  obtain ⟨fa0, rfl⟩ := h
  exact ⟨fa0, rfl⟩
theorem has24_7 {cs : List AV} (h : hasCs Tryz.prog 7 24 cs) : ∃ (fa0 : Int), cs = [.int .u64 fa0] := by
  unfold hasCs at h
  simp only [Tryz.underlying24] at h
  obtain ⟨fa0, rfl, _⟩ := h
  exact ⟨fa0, rfl⟩
theorem has26_8 {cs : List AV} (h : hasCs Tryz.prog 8 26 cs) : ∃ (fa0 : Int) (fa1 : Int), cs = [.int .u64 fa0, .int .i64 fa1] := by
  unfold hasCs at h
  simp only [Tryz.underlying26, hasFs] at h
  obtain ⟨x0, y0, rfl, h0, x1, y1, rfl, h1, rfl⟩ := h
  obtain ⟨fa0, rfl⟩ := has24_7 h0
  obtain ⟨fa1, rfl⟩ := has3_7 h1
  exact ⟨fa0, fa1, rfl⟩
theorem has3_6 {cs : List AV} (h : hasCs Tryz.prog 6 3 cs) : ∃ (fa0 : Int), cs = [.int .i64 fa0] := by
  unfold hasCs at h
  simp only [Tryz.underlying3] at h
  obtain ⟨fa0, rfl, _⟩ := h
  exact ⟨fa0, rfl⟩
theorem has24_5 {cs : List AV} (h : hasCs Tryz.prog 5 24 cs) : ∃ (fa0 : Int), cs = [.int .u64 fa0] := by
  unfold hasCs at h
  simp only [Tryz.underlying24] at h
  obtain ⟨fa0, rfl, _⟩ := h
  exact ⟨fa0, rfl⟩
theorem has3_5 {cs : List AV} (h : hasCs Tryz.prog 5 3 cs) : ∃ (fa0 : Int), cs = [.int .i64 fa0] := by
  unfold hasCs at h
  simp only [Tryz.underlying3] at h
  obtain ⟨fa0, rfl, _⟩ := h
  exact ⟨fa0, rfl⟩
theorem has26_6 {cs : List AV} (h : hasCs Tryz.prog 6 26 cs) : ∃ (fa0 : Int) (fa1 : Int), cs = [.int .u64 fa0, .int .i64 fa1] := by
  unfold hasCs at h
  simp only [Tryz.underlying26, hasFs] at h
  obtain ⟨x0, y0, rfl, h0, x1, y1, rfl, h1, rfl⟩ := h
  obtain ⟨fa0, rfl⟩ := has24_5 h0
  obtain ⟨fa1, rfl⟩ := has3_5 h1
  exact ⟨fa0, fa1, rfl⟩
theorem has9_6 {cs : List AV} (h : hasCs Tryz.prog 6 9 cs) : ∃ (fa0 : ByteArray), cs = [.str fa0] := by
  unfold hasCs at h
  simp only [Tryz.underlying9] at h
  obtain ⟨fa0, rfl, _⟩ := h
  exact ⟨fa0, rfl⟩
theorem has87_7 {cs : List AV} (h : hasCs Tryz.prog 7 87 cs) : ∃ (fa0 : Int) (fa1 : Int) (fa2 : Int) (fa3 : ByteArray), cs = [.int .i64 fa0, .int .u64 fa1, .int .i64 fa2, .str fa3] := by
  unfold hasCs at h
  simp only [Tryz.underlying87, hasFs] at h
  obtain ⟨x0, y0, rfl, h0, x1, y1, rfl, h1, x2, y2, rfl, h2, rfl⟩ := h
  obtain ⟨fa0, rfl⟩ := has3_6 h0
  obtain ⟨fa1, fa2, rfl⟩ := has26_6 h1
  obtain ⟨fa3, rfl⟩ := has9_6 h2
  exact ⟨fa0, fa1, fa2, fa3, rfl⟩
theorem has27_8 {cs : List AV} (h : hasCs Tryz.prog 8 27 cs) : ∃ x, cs = [x] ∧ isSl 4 isT87 x := by
  have hz : Tryz.prog.cellsOf 87 = 4 := by kernel_rfl
  unfold hasCs at h
  simp only [Tryz.underlying27, hz] at h
  rcases h with rfl | ⟨es, rfl, hl, he⟩
  · exact ⟨_, rfl, .inl rfl⟩
  · refine ⟨_, rfl, .inr ⟨es, rfl, Nat.le_trans hl (by decide), fun x hx => ?_⟩⟩
    obtain ⟨_, xs, e, hc⟩ := he x hx
    have ha : isAggT Tryz.prog 87 = true := by kernel_rfl
    simp only [Go.Abs.elemOf, ha, if_true] at e
    obtain ⟨v0, v1, v2, v3, rfl⟩ := has87_7 hc
    exact ⟨v0, v1, v2, v3, e⟩
theorem has24_6 {cs : List AV} (h : hasCs Tryz.prog 6 24 cs) : ∃ (fa0 : Int), cs = [.int .u64 fa0] := by
  unfold hasCs at h
  simp only [Tryz.underlying24] at h
  obtain ⟨fa0, rfl, _⟩ := h
  exact ⟨fa0, rfl⟩
theorem has3_4 {cs : List AV} (h : hasCs Tryz.prog 4 3 cs) : ∃ (fa0 : Int), cs = [.int .i64 fa0] := by
  unfold hasCs at h
  simp only [Tryz.underlying3] at h
  obtain ⟨fa0, rfl, _⟩ := h
  exact ⟨fa0, rfl⟩
theorem has4_4 {cs : List AV} (h : hasCs Tryz.prog 4 4 cs) : ∃ (fa0 : Bool), cs = [.bool fa0] := by
  unfold hasCs at h
  simp only [Tryz.underlying4] at h
  obtain ⟨fa0, rfl⟩ := h
  exact ⟨fa0, rfl⟩
theorem has137_5 {cs : List AV} (h : hasCs Tryz.prog 5 137 cs) : ∃ (fa0 : Int) (fa1 : Bool), cs = [.int .i64 fa0, .bool fa1] := by
  unfold hasCs at h
  simp only [Tryz.underlying137, hasFs] at h
  obtain ⟨x0, y0, rfl, h0, x1, y1, rfl, h1, rfl⟩ := h
  obtain ⟨fa0, rfl⟩ := has3_4 h0
  obtain ⟨fa1, rfl⟩ := has4_4 h1
  exact ⟨fa0, fa1, rfl⟩
theorem has90_6 {cs : List AV} (h : hasCs Tryz.prog 6 90 cs) : ∃ x, cs = [x] ∧ isSl 2 isT137 x := by
  have hz : Tryz.prog.cellsOf 137 = 2 := by kernel_rfl
  unfold hasCs at h
  simp only [Tryz.underlying90, hz] at h
  rcases h with rfl | ⟨es, rfl, hl, he⟩
  · exact ⟨_, rfl, .inl rfl⟩
  · refine ⟨_, rfl, .inr ⟨es, rfl, Nat.le_trans hl (by decide), fun x hx => ?_⟩⟩
    obtain ⟨_, xs, e, hc⟩ := he x hx
    have ha : isAggT Tryz.prog 137 = true := by kernel_rfl
    simp only [Go.Abs.elemOf, ha, if_true] at e
    obtain ⟨v0, v1, rfl⟩ := has137_5 hc
    exact ⟨v0, v1, e⟩
theorem has92_7 {cs : List AV} (h : hasCs Tryz.prog 7 92 cs) : ∃ (fa0 : Int) (fa1 : Int) (fa2 : AV) (fa3 : Int), cs = [.int .u64 fa0, .int .i64 fa1, fa2, .int .i64 fa3] ∧ isSl 2 isT137 fa2 := by
  unfold hasCs at h
  simp only [Tryz.underlying92, hasFs] at h
  obtain ⟨x0, y0, rfl, h0, x1, y1, rfl, h1, x2, y2, rfl, h2, x3, y3, rfl, h3, rfl⟩ := h
  obtain ⟨fa0, rfl⟩ := has24_6 h0
  obtain ⟨fa1, rfl⟩ := has3_6 h1
  obtain ⟨fa2, rfl, qa2⟩ := has90_6 h2
  obtain ⟨fa3, rfl⟩ := has3_6 h3
  exact ⟨fa0, fa1, fa2, fa3, rfl, qa2⟩
theorem has28_8 {cs : List AV} (h : hasCs Tryz.prog 8 28 cs) : ∃ x, cs = [x] ∧ isSl 4 isT92 x := by
  have hz : Tryz.prog.cellsOf 92 = 4 := by kernel_rfl
  unfold hasCs at h
  simp only [Tryz.underlying28, hz] at h
  rcases h with rfl | ⟨es, rfl, hl, he⟩
  · exact ⟨_, rfl, .inl rfl⟩
  · refine ⟨_, rfl, .inr ⟨es, rfl, Nat.le_trans hl (by decide), fun x hx => ?_⟩⟩
    obtain ⟨_, xs, e, hc⟩ := he x hx
    have ha : isAggT Tryz.prog 92 = true := by kernel_rfl
    simp only [Go.Abs.elemOf, ha, if_true] at e
    obtain ⟨v0, v1, v2, v3, rfl, q2⟩ := has92_7 hc
    exact ⟨v0, v1, v2, v3, e, q2⟩
theorem has24_4 {cs : List AV} (h : hasCs Tryz.prog 4 24 cs) : ∃ (fa0 : Int), cs = [.int .u64 fa0] := by
  unfold hasCs at h
  simp only [Tryz.underlying24] at h
  obtain ⟨fa0, rfl, _⟩ := h
  exact ⟨fa0, rfl⟩
theorem has31_5 {cs : List AV} (h : hasCs Tryz.prog 5 31 cs) : ∃ (fa0 : Int) (fa1 : Int), cs = [.int .i64 fa0, .int .u64 fa1] := by
  unfold hasCs at h
  simp only [Tryz.underlying31, hasFs] at h
  obtain ⟨x0, y0, rfl, h0, x1, y1, rfl, h1, rfl⟩ := h
  obtain ⟨fa0, rfl⟩ := has3_4 h0
  obtain ⟨fa1, rfl⟩ := has24_4 h1
  exact ⟨fa0, fa1, rfl⟩
theorem has4_5 {cs : List AV} (h : hasCs Tryz.prog 5 4 cs) : ∃ (fa0 : Bool), cs = [.bool fa0] := by
  unfold hasCs at h
  simp only [Tryz.underlying4] at h
  obtain ⟨fa0, rfl⟩ := h
  exact ⟨fa0, rfl⟩
theorem has9_3 {cs : List AV} (h : hasCs Tryz.prog 3 9 cs) : ∃ (fa0 : ByteArray), cs = [.str fa0] := by
  unfold hasCs at h
  simp only [Tryz.underlying9] at h
  obtain ⟨fa0, rfl, _⟩ := h
  exact ⟨fa0, rfl⟩
theorem has24_3 {cs : List AV} (h : hasCs Tryz.prog 3 24 cs) : ∃ (fa0 : Int), cs = [.int .u64 fa0] := by
  unfold hasCs at h
  simp only [Tryz.underlying24] at h
  obtain ⟨fa0, rfl, _⟩ := h
  exact ⟨fa0, rfl⟩
theorem has131_4 {cs : List AV} (h : hasCs Tryz.prog 4 131 cs) : ∃ (fa0 : ByteArray) (fa1 : Int), cs = [.str fa0, .int .u64 fa1] := by
  unfold hasCs at h
  simp only [Tryz.underlying131, hasFs] at h
  obtain ⟨x0, y0, rfl, h0, x1, y1, rfl, h1, rfl⟩ := h
  obtain ⟨fa0, rfl⟩ := has9_3 h0
  obtain ⟨fa1, rfl⟩ := has24_3 h1
  exact ⟨fa0, fa1, rfl⟩
theorem has32_5 {cs : List AV} (h : hasCs Tryz.prog 5 32 cs) : ∃ x, cs = [x] ∧ isSl 2 isT131 x := by
  have hz : Tryz.prog.cellsOf 131 = 2 := by kernel_rfl
  unfold hasCs at h
  simp only [Tryz.underlying32, hz] at h
  rcases h with rfl | ⟨es, rfl, hl, he⟩
  · exact ⟨_, rfl, .inl rfl⟩
  · refine ⟨_, rfl, .inr ⟨es, rfl, Nat.le_trans hl (by decide), fun x hx => ?_⟩⟩
    obtain ⟨_, xs, e, hc⟩ := he x hx
    have ha : isAggT Tryz.prog 131 = true := by kernel_rfl
    simp only [Go.Abs.elemOf, ha, if_true] at e
    obtain ⟨v0, v1, rfl⟩ := has131_4 hc
    exact ⟨v0, v1, e⟩
theorem has4_3 {cs : List AV} (h : hasCs Tryz.prog 3 4 cs) : ∃ (fa0 : Bool), cs = [.bool fa0] := by
  unfold hasCs at h
  simp only [Tryz.underlying4] at h
  obtain ⟨fa0, rfl⟩ := h
  exact ⟨fa0, rfl⟩
theorem has134_4 {cs : List AV} (h : hasCs Tryz.prog 4 134 cs) : ∃ (fa0 : ByteArray) (fa1 : ByteArray) (fa2 : Bool), cs = [.str fa0, .str fa1, .bool fa2] := by
  unfold hasCs at h
  simp only [Tryz.underlying134, hasFs] at h
  obtain ⟨x0, y0, rfl, h0, x1, y1, rfl, h1, x2, y2, rfl, h2, rfl⟩ := h
  obtain ⟨fa0, rfl⟩ := has9_3 h0
  obtain ⟨fa1, rfl⟩ := has9_3 h1
  obtain ⟨fa2, rfl⟩ := has4_3 h2
  exact ⟨fa0, fa1, fa2, rfl⟩
theorem has33_5 {cs : List AV} (h : hasCs Tryz.prog 5 33 cs) : ∃ x, cs = [x] ∧ isSl 3 isT134 x := by
  have hz : Tryz.prog.cellsOf 134 = 3 := by kernel_rfl
  unfold hasCs at h
  simp only [Tryz.underlying33, hz] at h
  rcases h with rfl | ⟨es, rfl, hl, he⟩
  · exact ⟨_, rfl, .inl rfl⟩
  · refine ⟨_, rfl, .inr ⟨es, rfl, Nat.le_trans hl (by decide), fun x hx => ?_⟩⟩
    obtain ⟨_, xs, e, hc⟩ := he x hx
    have ha : isAggT Tryz.prog 134 = true := by kernel_rfl
    simp only [Go.Abs.elemOf, ha, if_true] at e
    obtain ⟨v0, v1, v2, rfl⟩ := has134_4 hc
    exact ⟨v0, v1, v2, e⟩
theorem has35_6 {cs : List AV} (h : hasCs Tryz.prog 6 35 cs) : ∃ (fa0 : Int) (fa1 : Int) (fa2 : Bool) (fa3 : AV) (fa4 : AV), cs = [.int .i64 fa0, .int .u64 fa1, .bool fa2, fa3, fa4] ∧ isSl 2 isT131 fa3 ∧ isSl 3 isT134 fa4 := by
  unfold hasCs at h
  simp only [Tryz.underlying35, hasFs] at h
  obtain ⟨x0, y0, rfl, h0, x1, y1, rfl, h1, x2, y2, rfl, h2, x3, y3, rfl, h3, rfl⟩ := h
  obtain ⟨fa0, fa1, rfl⟩ := has31_5 h0
  obtain ⟨fa2, rfl⟩ := has4_5 h1
  obtain ⟨fa3, rfl, qa3⟩ := has32_5 h2
  obtain ⟨fa4, rfl, qa4⟩ := has33_5 h3
  exact ⟨fa0, fa1, fa2, fa3, fa4, rfl, qa3, qa4⟩
theorem has31_6 {cs : List AV} (h : hasCs Tryz.prog 6 31 cs) : ∃ (fa0 : Int) (fa1 : Int), cs = [.int .i64 fa0, .int .u64 fa1] := by
  unfold hasCs at h
  simp only [Tryz.underlying31, hasFs] at h
  obtain ⟨x0, y0, rfl, h0, x1, y1, rfl, h1, rfl⟩ := h
  obtain ⟨fa0, rfl⟩ := has3_5 h0
  obtain ⟨fa1, rfl⟩ := has24_5 h1
  exact ⟨fa0, fa1, rfl⟩
theorem has36_6 {cs : List AV} (h : hasCs Tryz.prog 6 36 cs) : ∃ (fa0 : Int), cs = [.int .i64 fa0] := by
  unfold hasCs at h
  simp only [Tryz.underlying36] at h
  obtain ⟨fa0, rfl, _⟩ := h
  exact ⟨fa0, rfl⟩
theorem has95_7 {cs : List AV} (h : hasCs Tryz.prog 7 95 cs) : ∃ (fa0 : Int) (fa1 : Int) (fa2 : Int) (fa3 : Int) (fa4 : Bool) (fa5 : AV) (fa6 : AV) (fa7 : Int) (fa8 : Int) (fa9 : Int), cs = [.int .u64 fa0, .int .i64 fa1, .int .i64 fa2, .int .u64 fa3, .bool fa4, fa5, fa6, .int .i64 fa7, .int .u64 fa8, .int .i64 fa9] ∧ isSl 2 isT131 fa5 ∧ isSl 3 isT134 fa6 := by
  unfold hasCs at h
  simp only [Tryz.underlying95, hasFs] at h
  obtain ⟨x0, y0, rfl, h0, x1, y1, rfl, h1, x2, y2, rfl, h2, x3, y3, rfl, h3, x4, y4, rfl, h4, rfl⟩ := h
  obtain ⟨fa0, rfl⟩ := has24_6 h0
  obtain ⟨fa1, rfl⟩ := has3_6 h1
  obtain ⟨fa2, fa3, fa4, fa5, fa6, rfl, qa5, qa6⟩ := has35_6 h2
  obtain ⟨fa7, fa8, rfl⟩ := has31_6 h3
  obtain ⟨fa9, rfl⟩ := has36_6 h4
  exact ⟨fa0, fa1, fa2, fa3, fa4, fa5, fa6, fa7, fa8, fa9, rfl, qa5, qa6⟩
theorem has29_8 {cs : List AV} (h : hasCs Tryz.prog 8 29 cs) : ∃ x, cs = [x] ∧ isSl 10 isT95 x := by
  have hz : Tryz.prog.cellsOf 95 = 10 := by kernel_rfl
  unfold hasCs at h
  simp only [Tryz.underlying29, hz] at h
  rcases h with rfl | ⟨es, rfl, hl, he⟩
  · exact ⟨_, rfl, .inl rfl⟩
  · refine ⟨_, rfl, .inr ⟨es, rfl, Nat.le_trans hl (by decide), fun x hx => ?_⟩⟩
    obtain ⟨_, xs, e, hc⟩ := he x hx
    have ha : isAggT Tryz.prog 95 = true := by kernel_rfl
    simp only [Go.Abs.elemOf, ha, if_true] at e
    obtain ⟨v0, v1, v2, v3, v4, v5, v6, v7, v8, v9, rfl, q5, q6⟩ := has95_7 hc
    exact ⟨v0, v1, v2, v3, v4, v5, v6, v7, v8, v9, e, q5, q6⟩
theorem has31_7 {cs : List AV} (h : hasCs Tryz.prog 7 31 cs) : ∃ (fa0 : Int) (fa1 : Int), cs = [.int .i64 fa0, .int .u64 fa1] := by
  unfold hasCs at h
  simp only [Tryz.underlying31, hasFs] at h
  obtain ⟨x0, y0, rfl, h0, x1, y1, rfl, h1, rfl⟩ := h
  obtain ⟨fa0, rfl⟩ := has3_6 h0
  obtain ⟨fa1, rfl⟩ := has24_6 h1
  exact ⟨fa0, fa1, rfl⟩
theorem has4_7 {cs : List AV} (h : hasCs Tryz.prog 7 4 cs) : ∃ (fa0 : Bool), cs = [.bool fa0] := by
  unfold hasCs at h
  simp only [Tryz.underlying4] at h
  obtain ⟨fa0, rfl⟩ := h
  exact ⟨fa0, rfl⟩
theorem has9_5 {cs : List AV} (h : hasCs Tryz.prog 5 9 cs) : ∃ (fa0 : ByteArray), cs = [.str fa0] := by
  unfold hasCs at h
  simp only [Tryz.underlying9] at h
  obtain ⟨fa0, rfl, _⟩ := h
  exact ⟨fa0, rfl⟩
theorem has131_6 {cs : List AV} (h : hasCs Tryz.prog 6 131 cs) : ∃ (fa0 : ByteArray) (fa1 : Int), cs = [.str fa0, .int .u64 fa1] := by
  unfold hasCs at h
  simp only [Tryz.underlying131, hasFs] at h
  obtain ⟨x0, y0, rfl, h0, x1, y1, rfl, h1, rfl⟩ := h
  obtain ⟨fa0, rfl⟩ := has9_5 h0
  obtain ⟨fa1, rfl⟩ := has24_5 h1
  exact ⟨fa0, fa1, rfl⟩
theorem has32_7 {cs : List AV} (h : hasCs Tryz.prog 7 32 cs) : ∃ x, cs = [x] ∧ isSl 2 isT131 x := by
  have hz : Tryz.prog.cellsOf 131 = 2 := by kernel_rfl
  unfold hasCs at h
  simp only [Tryz.underlying32, hz] at h
  rcases h with rfl | ⟨es, rfl, hl, he⟩
  · exact ⟨_, rfl, .inl rfl⟩
  · refine ⟨_, rfl, .inr ⟨es, rfl, Nat.le_trans hl (by decide), fun x hx => ?_⟩⟩
    obtain ⟨_, xs, e, hc⟩ := he x hx
    have ha : isAggT Tryz.prog 131 = true := by kernel_rfl
    simp only [Go.Abs.elemOf, ha, if_true] at e
    obtain ⟨v0, v1, rfl⟩ := has131_6 hc
    exact ⟨v0, v1, e⟩
theorem has134_6 {cs : List AV} (h : hasCs Tryz.prog 6 134 cs) : ∃ (fa0 : ByteArray) (fa1 : ByteArray) (fa2 : Bool), cs = [.str fa0, .str fa1, .bool fa2] := by
  unfold hasCs at h
  simp only [Tryz.underlying134, hasFs] at h
  obtain ⟨x0, y0, rfl, h0, x1, y1, rfl, h1, x2, y2, rfl, h2, rfl⟩ := h
  obtain ⟨fa0, rfl⟩ := has9_5 h0
  obtain ⟨fa1, rfl⟩ := has9_5 h1
  obtain ⟨fa2, rfl⟩ := has4_5 h2
  exact ⟨fa0, fa1, fa2, rfl⟩
theorem has33_7 {cs : List AV} (h : hasCs Tryz.prog 7 33 cs) : ∃ x, cs = [x] ∧ isSl 3 isT134 x := by
  have hz : Tryz.prog.cellsOf 134 = 3 := by kernel_rfl
  unfold hasCs at h
  simp only [Tryz.underlying33, hz] at h
  rcases h with rfl | ⟨es, rfl, hl, he⟩
  · exact ⟨_, rfl, .inl rfl⟩
  · refine ⟨_, rfl, .inr ⟨es, rfl, Nat.le_trans hl (by decide), fun x hx => ?_⟩⟩
    obtain ⟨_, xs, e, hc⟩ := he x hx
    have ha : isAggT Tryz.prog 134 = true := by kernel_rfl
    simp only [Go.Abs.elemOf, ha, if_true] at e
    obtain ⟨v0, v1, v2, rfl⟩ := has134_6 hc
    exact ⟨v0, v1, v2, e⟩
theorem has35_8 {cs : List AV} (h : hasCs Tryz.prog 8 35 cs) : ∃ (fa0 : Int) (fa1 : Int) (fa2 : Bool) (fa3 : AV) (fa4 : AV), cs = [.int .i64 fa0, .int .u64 fa1, .bool fa2, fa3, fa4] ∧ isSl 2 isT131 fa3 ∧ isSl 3 isT134 fa4 := by
  unfold hasCs at h
  simp only [Tryz.underlying35, hasFs] at h
  obtain ⟨x0, y0, rfl, h0, x1, y1, rfl, h1, x2, y2, rfl, h2, x3, y3, rfl, h3, rfl⟩ := h
  obtain ⟨fa0, fa1, rfl⟩ := has31_7 h0
  obtain ⟨fa2, rfl⟩ := has4_7 h1
  obtain ⟨fa3, rfl, qa3⟩ := has32_7 h2
  obtain ⟨fa4, rfl, qa4⟩ := has33_7 h3
  exact ⟨fa0, fa1, fa2, fa3, fa4, rfl, qa3, qa4⟩
theorem has31_8 {cs : List AV} (h : hasCs Tryz.prog 8 31 cs) : ∃ (fa0 : Int) (fa1 : Int), cs = [.int .i64 fa0, .int .u64 fa1] := by
  unfold hasCs at h
  simp only [Tryz.underlying31, hasFs] at h
  obtain ⟨x0, y0, rfl, h0, x1, y1, rfl, h1, rfl⟩ := h
  obtain ⟨fa0, rfl⟩ := has3_7 h0
  obtain ⟨fa1, rfl⟩ := has24_7 h1
  exact ⟨fa0, fa1, rfl⟩
theorem has9_8 {cs : List AV} (h : hasCs Tryz.prog 8 9 cs) : ∃ (fa0 : ByteArray), cs = [.str fa0] := by
  unfold hasCs at h
  simp only [Tryz.underlying9] at h
  obtain ⟨fa0, rfl, _⟩ := h
  exact ⟨fa0, rfl⟩
theorem has36_8 {cs : List AV} (h : hasCs Tryz.prog 8 36 cs) : ∃ (fa0 : Int), cs = [.int .i64 fa0] := by
  unfold hasCs at h
  simp only [Tryz.underlying36] at h
  obtain ⟨fa0, rfl, _⟩ := h
  exact ⟨fa0, rfl⟩
theorem has38_9 {cs : List AV} (h : hasCs Tryz.prog 9 38 cs) : ∃ (fa0 : Int) (fa1 : Int) (fa2 : Int) (fa3 : Int) (fa4 : Int) (fa5 : Int) (fa6 : Int) (fa7 : Int) (fa8 : Int) (fa9 : Int) (fa10 : Bool) (fa11 : Int) (fa12 : Int) (fa13 : AV) (fa14 : AV) (fa15 : AV) (fa16 : Int) (fa17 : Int) (fa18 : Bool) (fa19 : AV) (fa20 : AV) (fa21 : Int) (fa22 : Int) (fa23 : ByteArray) (fa24 : Int) (fa25 : Int), cs = [.int .i64 fa0, .int .i64 fa1, .int .i64 fa2, .int .i64 fa3, .int .i64 fa4, .int .i64 fa5, .int .u64 fa6, .int .i64 fa7, .int .i64 fa8, .int .i64 fa9, .bool fa10, .int .u64 fa11, .int .i64 fa12, fa13, fa14, fa15, .int .i64 fa16, .int .u64 fa17, .bool fa18, fa19, fa20, .int .i64 fa21, .int .u64 fa22, .str fa23, .int .u64 fa24, .int .i64 fa25] ∧ isSl 4 isT87 fa13 ∧ isSl 4 isT92 fa14 ∧ isSl 10 isT95 fa15 ∧ isSl 2 isT131 fa19 ∧ isSl 3 isT134 fa20 := by
  unfold hasCs at h
  simp only [Tryz.underlying38, hasFs] at h
  obtain ⟨x0, y0, rfl, h0, x1, y1, rfl, h1, x2, y2, rfl, h2, x3, y3, rfl, h3, x4, y4, rfl, h4, x5, y5, rfl, h5, x6, y6, rfl, h6, x7, y7, rfl, h7, x8, y8, rfl, h8, x9, y9, rfl, h9, x10, y10, rfl, h10, x11, y11, rfl, h11, x12, y12, rfl, h12, x13, y13, rfl, h13, x14, y14, rfl, h14, x15, y15, rfl, h15, x16, y16, rfl, h16, x17, y17, rfl, h17, rfl⟩ := h
  obtain ⟨fa0, fa1, rfl⟩ := has23_8 h0
  obtain ⟨fa2, fa3, rfl⟩ := has23_8 h1
  obtain ⟨fa4, rfl⟩ := has3_8 h2
  obtain ⟨fa5, rfl⟩ := has3_8 h3
  obtain ⟨fa6, rfl⟩ := has24_8 h4
  obtain ⟨fa7, rfl⟩ := has3_8 h5
  obtain ⟨fa8, rfl⟩ := has3_8 h6
  obtain ⟨fa9, rfl⟩ := has3_8 h7
  obtain ⟨fa10, rfl⟩ := has4_8 h8
  obtain ⟨fa11, fa12, rfl⟩ := has26_8 h9
  obtain ⟨fa13, rfl, qa13⟩ := has27_8 h10
  obtain ⟨fa14, rfl, qa14⟩ := has28_8 h11
  obtain ⟨fa15, rfl, qa15⟩ := has29_8 h12
  obtain ⟨fa16, fa17, fa18, fa19, fa20, rfl, qa19, qa20⟩ := has35_8 h13
  obtain ⟨fa21, fa22, rfl⟩ := has31_8 h14
  obtain ⟨fa23, rfl⟩ := has9_8 h15
  obtain ⟨fa24, rfl⟩ := has24_8 h16
  obtain ⟨fa25, rfl⟩ := has36_8 h17
  exact ⟨fa0, fa1, fa2, fa3, fa4, fa5, fa6, fa7, fa8, fa9, fa10, fa11, fa12, fa13, fa14, fa15, fa16, fa17, fa18, fa19, fa20, fa21, fa22, fa23, fa24, fa25, rfl, qa13, qa14, qa15, qa19, qa20⟩
theorem has5_8 {cs : List AV} (h : hasCs Tryz.prog 8 5 cs) : ∃ (fa0 : Int), cs = [.int .u8 fa0] := by
  unfold hasCs at h
  simp only [Tryz.underlying5] at h
  obtain ⟨fa0, rfl, _⟩ := h
  exact ⟨fa0, rfl⟩
theorem has39_9 {cs : List AV} (h : hasCs Tryz.prog 9 39 cs) : ∃ x, cs = [x] ∧ isSl 1 isT5 x := by
  have hz : Tryz.prog.cellsOf 5 = 1 := by kernel_rfl
  unfold hasCs at h
  simp only [Tryz.underlying39, hz] at h
  rcases h with rfl | ⟨es, rfl, hl, he⟩
  · exact ⟨_, rfl, .inl rfl⟩
  · refine ⟨_, rfl, .inr ⟨es, rfl, Nat.le_trans hl (by decide), fun x hx => ?_⟩⟩
    obtain ⟨_, xs, e, hc⟩ := he x hx
    have ha : isAggT Tryz.prog 5 = false := by kernel_rfl
    simp only [Go.Abs.elemOf, ha, Bool.false_eq_true, if_false] at e
    obtain ⟨v0, rfl⟩ := has5_8 hc
    exact ⟨v0, (List.cons.inj e).1.symm⟩
theorem arg0 {c : AV} (h : hasT Tryz.prog 9 38 c) : ∃ (fa0 : Int) (fa1 : Int) (fa2 : Int) (fa3 : Int) (fa4 : Int) (fa5 : Int) (fa6 : Int) (fa7 : Int) (fa8 : Int) (fa9 : Int) (fa10 : Bool) (fa11 : Int) (fa12 : Int) (fa13 : AV) (fa14 : AV) (fa15 : AV) (fa16 : Int) (fa17 : Int) (fa18 : Bool) (fa19 : AV) (fa20 : AV) (fa21 : Int) (fa22 : Int) (fa23 : ByteArray) (fa24 : Int) (fa25 : Int), c = .agg [.int .i64 fa0, .int .i64 fa1, .int .i64 fa2, .int .i64 fa3, .int .i64 fa4, .int .i64 fa5, .int .u64 fa6, .int .i64 fa7, .int .i64 fa8, .int .i64 fa9, .bool fa10, .int .u64 fa11, .int .i64 fa12, fa13, fa14, fa15, .int .i64 fa16, .int .u64 fa17, .bool fa18, fa19, fa20, .int .i64 fa21, .int .u64 fa22, .str fa23, .int .u64 fa24, .int .i64 fa25] ∧ isSl 4 isT87 fa13 ∧ isSl 4 isT92 fa14 ∧ isSl 10 isT95 fa15 ∧ isSl 2 isT131 fa19 ∧ isSl 3 isT134 fa20 := by
  obtain ⟨cs, e, h⟩ := h
  have ha : isAggT Tryz.prog 38 = true := by kernel_rfl
  simp only [Go.Abs.elemOf, ha, if_true] at e
  subst e
  obtain ⟨fa0, fa1, fa2, fa3, fa4, fa5, fa6, fa7, fa8, fa9, fa10, fa11, fa12, fa13, fa14, fa15, fa16, fa17, fa18, fa19, fa20, fa21, fa22, fa23, fa24, fa25, rfl, q13, q14, q15, q19, q20⟩ := has38_9 h
  exact ⟨fa0, fa1, fa2, fa3, fa4, fa5, fa6, fa7, fa8, fa9, fa10, fa11, fa12, fa13, fa14, fa15, fa16, fa17, fa18, fa19, fa20, fa21, fa22, fa23, fa24, fa25, rfl, q13, q14, q15, q19, q20⟩
theorem arg1 {c : AV} (h : hasT Tryz.prog 9 39 c) : ∃ (fa0 : AV), c = fa0 ∧ isSl 1 isT5 fa0 := by
  obtain ⟨cs, e, h⟩ := h
  have ha : isAggT Tryz.prog 39 = false := by kernel_rfl
  simp only [Go.Abs.elemOf, ha, Bool.false_eq_true, if_false] at e
  subst e
  obtain ⟨fa0, e, q0⟩ := has39_9 h
  exact ⟨fa0, (List.cons.inj e).1, q0⟩
namespace Go.Proofs.YthfgnklcjdnecaaGreatDoor
def bodyTab : List (Nat × Flags) := [(3, {}), (4, {}), (5, { tails := [2000009, 2000014] }), (6, {}), (7, { tails := [2000005, 2000007] }), (8, {}), (9, {}), (10, { tails := [2000004] }), (11, { tails := [2000002, 2000004, 2000008] }), (12, {}), (13, {}), (14, {}), (15, {}), (16, {}), (17, {}), (18, {}), (19, { tails := [2000001] }), (20, {}), (21, {}), (22, { tails := [2000001] }), (23, { tails := [2000001] }), (24, { tails := [2000001] }), (25, {}), (26, {}), (27, {}), (28, { tails := [2000002, 2000007] }), (29, { tails := [2000003] }), (30, { tails := [2000002, 2000005, 2000006] }), (31, { tails := [2000004, 2000006] }), (32, { tails := [2000003] }), (33, { tails := [2000005] }), (34, {}), (35, {}), (36, {}), (37, {}), (38, {}), (39, {}), (40, {}), (41, {}), (42, {}), (43, {}), (44, { tails := [2000001, 2000003] }), (45, {}), (46, {}), (47, { tails := [2000008] }), (48, { tails := [2000001] }), (49, { tails := [2000001] }), (50, {}), (51, { tails := [2000001, 2000002, 2000003] }), (52, { tails := [2000001] }), (53, {}), (54, {}), (55, { esc := [13] }), (56, {}), (57, {}), (58, {}), (59, {}), (60, {}), (61, { tails := [2000005] }), (62, {}), (63, {}), (64, {}), (65, {}), (66, {}), (67, {}), (68, {}), (69, { tails := [2000001] }), (70, { tails := [2000004] }), (71, {}), (72, { tails := [2000003, 2000007] }), (73, {}), (74, { tails := [2000003, 2000006] }), (75, {}), (76, {}), (77, {}), (78, { tails := [2000006, 2000007] }), (79, {}), (80, {}), (81, { tails := [2000003] }), (82, { tails := [2000002] }), (83, {}), (84, {}), (85, {}), (86, {}), (87, {}), (88, {}), (89, {}), (90, {}), (91, {}), (92, {}), (93, {}), (94, {}), (95, {}), (96, {}), (97, {}), (98, {}), (99, {}), (100, { tails := [2000004] }), (101, {}), (102, { esc := [2] }), (103, { esc := [15] }), (104, { keep := true }), (105, { keep := true }), (106, { tails := [2000001] }), (107, {}), (108, { tails := [2000001] }), (109, { tails := [2000001, 2000005, 2000006, 2000010, 2000011, 2000013, 2000014, 2000015] }), (110, { tails := [2000004, 2000006, 2000007] }), (111, { tails := [2000001, 2000006, 2000012] }), (112, { tails := [2000001] }), (113, {}), (114, {}), (115, {}), (116, {}), (117, {}), (118, {}), (119, {}), (120, {}), (121, {}), (122, {}), (123, {}), (124, {}), (125, {}), (126, {}), (127, {}), (128, {}), (129, {}), (130, {}), (131, { esc := [6] }), (132, {}), (133, {}), (134, {}), (135, {}), (136, {}), (137, {}), (138, {}), (139, {}), (140, {}), (141, {}), (142, { esc := [1, 3] }), (143, { esc := [2] }), (144, { esc := [1, 3] }), (145, {}), (146, {}), (147, {}), (148, {}), (149, {}), (150, {}), (151, { tails := [2000003] }), (152, {}), (153, {}), (154, { tails := [2000003] }), (155, {}), (156, { tails := [2000009] }), (157, { tails := [2000003] }), (158, {}), (159, {}), (160, { tails := [2000005] }), (161, {}), (162, {}), (163, {}), (164, {}), (165, {}), (166, {}), (167, {}), (168, {}), (169, {}), (170, {}), (171, {}), (172, {}), (173, {}), (174, {}), (175, {}), (176, {}), (177, {}), (178, {}), (179, { tails := [2000003, 2000004] }), (180, {}), (181, {}), (182, {}), (183, {}), (184, {}), (185, { tails := [2000001] }), (186, {}), (187, {}), (188, { tails := [2000001] }), (189, { tails := [2000007] }), (190, {}), (191, {}), (192, {}), (193, {}), (194, {}), (195, {}), (196, {}), (197, {}), (198, {}), (199, {}), (200, {}), (201, {}), (202, {}), (203, {}), (204, {}), (205, {}), (206, {}), (207, {}), (208, {}), (209, { tails := [2000006] }), (210, {}), (211, {}), (212, {}), (213, {}), (214, {}), (215, {}), (216, { keep := true }), (217, {})]
def bodyHow (f : FuncId) : Option How := (bodyTab.find? fun p => p.1 == f).map fun p => How.body p.2
def how : FuncId → Option How := fun f => bodyHow f
/-- What a function's text asks of the interpreter. -/
def fnOk (P : Program) (how : FuncId → Option How) (f : Nat) : Bool :=
  match how f with
  | some (.body fl) => match P.funcs[f]? with
    | some fn => match fn.body with
      | some c => codeOk P fl.tails c && !(fn.name == "runtime.NumGoroutine")
      | none => true
    | none => true
  | _ => true
theorem fnOk_body {P : Program} {how : FuncId → Option How} {f : Nat} (h : fnOk P how f = true) {fl : Flags} {fn : Func} {c : Code} (h1 : how f = some (.body fl)) (h2 : P.funcs[f]? = some fn) (h3 : fn.body = some c) : codeOk P fl.tails c = true ∧ (fn.name == "runtime.NumGoroutine") = false := by
  unfold fnOk at h
  rw [h1] at h
  simp only [h2, h3] at h
  simpa using h
theorem allOk : ∀ f, f < 218 → fnOk Tryz.prog bodyHow f = true := by
  have h : (List.range 218).all (fnOk Tryz.prog bodyHow) = true := by kernel_rfl
  intro f hf
  exact List.all_eq_true.1 h f (List.mem_range.2 hf)
theorem tabLow : (bodyTab.all fun p => decide (p.1 < 218)) = true := by decide
theorem bodyHow_low {f : FuncId} {x : How} (h : bodyHow f = some x) : f < 218 := by
  unfold bodyHow at h
  obtain ⟨p, hp, _⟩ := Option.map_eq_some_iff.1 h
  have h1 := List.all_eq_true.1 tabLow p (List.mem_of_find?_eq_some hp)
  have h2 := List.find?_some hp
  simp only [beq_iff_eq] at h2
  rw [← h2]
  simpa using h1
theorem bodyHow_body {f : FuncId} {p : List AV → AS → Option Nat → Option (AV × AS)} : bodyHow f ≠ some (.prim p) := by
  unfold bodyHow
  intro h
  obtain ⟨p, _, h1⟩ := Option.map_eq_some_iff.1 h
  cases h1
theorem howOk : HowOk Tryz.prog how := {
  body := by
    intro f fl fn c h1 h2 h3
    unfold how at h1
    exact fnOk_body (allOk f (bodyHow_low h1)) h1 h2 h3
  prim := by
    intro f p h
    unfold how at h
    exact absurd h bodyHow_body }
theorem hm : Tryz.prog.follows .mixedOrders = true := by kernel_rfl
open Go.ChangeShapes Go.WideShapes Go.ChangeAt Go.RowKit
theorem own : ownKnob Tryz.prog.godebug = none := by kernel_rfl
theorem laidOut : laidOutB Tryz.prog = true := by kernel_rfl
theorem shape : shapeOk Tryz.prog 9 Tryz.f3 = true := by kernel_rfl
noncomputable def p0 : Code := sub [.l] (bodyOf Tryz.f3)
noncomputable def p1 : Code := sub [.r, .l] (bodyOf Tryz.f3)
noncomputable def p2 : Code := sub [.r, .r, .l] (bodyOf Tryz.f3)
noncomputable def p3 : Code := sub [.r, .r, .r, .l] (bodyOf Tryz.f3)
noncomputable def p4 : Code := sub [.r, .r, .r, .r, .l] (bodyOf Tryz.f3)
noncomputable def p5 : Code := sub [.r, .r, .r, .r, .r, .l] (bodyOf Tryz.f3)
noncomputable def p6 : Code := sub [.r, .r, .r, .r, .r, .r, .l] (bodyOf Tryz.f3)
theorem bodyL : Tryz.f3.body = some (p0.seq (p1.seq (p2.seq (p3.seq (p4.seq (p5.seq (p6.seq .ret))))))) := by kernel_rfl
noncomputable def opsr : List Oper := opsOf p3
theorem pr_eq : p3 = .region 3 opsr.toArray false := by kernel_rfl
def cx0 : Cx := { h := 0, ro := none, esc := [] }
noncomputable def A0 (a0_0 : Int) (a0_1 : Int) (a0_2 : Int) (a0_3 : Int) (a0_4 : Int) (a0_5 : Int) (a0_6 : Int) (a0_7 : Int) (a0_8 : Int) (a0_9 : Int) (a0_10 : Bool) (a0_11 : Int) (a0_12 : Int) (a0_13 : AV) (a0_14 : AV) (a0_15 : AV) (a0_16 : Int) (a0_17 : Int) (a0_18 : Bool) (a0_19 : AV) (a0_20 : AV) (a0_21 : Int) (a0_22 : Int) (a0_23 : ByteArray) (a0_24 : Int) (a0_25 : Int) (a1_0 : AV) : Option (AExit × St) := execA Tryz.prog cx0 [] (callN Tryz.prog how 60) 60 p0 (frameA Tryz.f3 [.agg [.int .i64 a0_0, .int .i64 a0_1, .int .i64 a0_2, .int .i64 a0_3, .int .i64 a0_4, .int .i64 a0_5, .int .u64 a0_6, .int .i64 a0_7, .int .i64 a0_8, .int .i64 a0_9, .bool a0_10, .int .u64 a0_11, .int .i64 a0_12, a0_13, a0_14, a0_15, .int .i64 a0_16, .int .u64 a0_17, .bool a0_18, a0_19, a0_20, .int .i64 a0_21, .int .u64 a0_22, .str a0_23, .int .u64 a0_24, .int .i64 a0_25], a1_0], AS.mk [] [])
theorem A0_ok (a0_0 : Int) (a0_1 : Int) (a0_2 : Int) (a0_3 : Int) (a0_4 : Int) (a0_5 : Int) (a0_6 : Int) (a0_7 : Int) (a0_8 : Int) (a0_9 : Int) (a0_10 : Bool) (a0_11 : Int) (a0_12 : Int) (a0_13 : AV) (a0_14 : AV) (a0_15 : AV) (a0_16 : Int) (a0_17 : Int) (a0_18 : Bool) (a0_19 : AV) (a0_20 : AV) (a0_21 : Int) (a0_22 : Int) (a0_23 : ByteArray) (a0_24 : Int) (a0_25 : Int) (a1_0 : AV) : A0 a0_0 a0_1 a0_2 a0_3 a0_4 a0_5 a0_6 a0_7 a0_8 a0_9 a0_10 a0_11 a0_12 a0_13 a0_14 a0_15 a0_16 a0_17 a0_18 a0_19 a0_20 a0_21 a0_22 a0_23 a0_24 a0_25 a1_0 = some (.normal, stOf (A0 a0_0 a0_1 a0_2 a0_3 a0_4 a0_5 a0_6 a0_7 a0_8 a0_9 a0_10 a0_11 a0_12 a0_13 a0_14 a0_15 a0_16 a0_17 a0_18 a0_19 a0_20 a0_21 a0_22 a0_23 a0_24 a0_25 a1_0)) := by kernel_rfl
theorem A0_eq (a0_0 : Int) (a0_1 : Int) (a0_2 : Int) (a0_3 : Int) (a0_4 : Int) (a0_5 : Int) (a0_6 : Int) (a0_7 : Int) (a0_8 : Int) (a0_9 : Int) (a0_10 : Bool) (a0_11 : Int) (a0_12 : Int) (a0_13 : AV) (a0_14 : AV) (a0_15 : AV) (a0_16 : Int) (a0_17 : Int) (a0_18 : Bool) (a0_19 : AV) (a0_20 : AV) (a0_21 : Int) (a0_22 : Int) (a0_23 : ByteArray) (a0_24 : Int) (a0_25 : Int) (a1_0 : AV) : execA Tryz.prog cx0 [] (callN Tryz.prog how 60) 60 p0 (frameA Tryz.f3 [.agg [.int .i64 a0_0, .int .i64 a0_1, .int .i64 a0_2, .int .i64 a0_3, .int .i64 a0_4, .int .i64 a0_5, .int .u64 a0_6, .int .i64 a0_7, .int .i64 a0_8, .int .i64 a0_9, .bool a0_10, .int .u64 a0_11, .int .i64 a0_12, a0_13, a0_14, a0_15, .int .i64 a0_16, .int .u64 a0_17, .bool a0_18, a0_19, a0_20, .int .i64 a0_21, .int .u64 a0_22, .str a0_23, .int .u64 a0_24, .int .i64 a0_25], a1_0], AS.mk [] []) = A0 a0_0 a0_1 a0_2 a0_3 a0_4 a0_5 a0_6 a0_7 a0_8 a0_9 a0_10 a0_11 a0_12 a0_13 a0_14 a0_15 a0_16 a0_17 a0_18 a0_19 a0_20 a0_21 a0_22 a0_23 a0_24 a0_25 a1_0 := rfl
noncomputable def A1 (a0_0 : Int) (a0_1 : Int) (a0_2 : Int) (a0_3 : Int) (a0_4 : Int) (a0_5 : Int) (a0_6 : Int) (a0_7 : Int) (a0_8 : Int) (a0_9 : Int) (a0_10 : Bool) (a0_11 : Int) (a0_12 : Int) (a0_13 : AV) (a0_14 : AV) (a0_15 : AV) (a0_16 : Int) (a0_17 : Int) (a0_18 : Bool) (a0_19 : AV) (a0_20 : AV) (a0_21 : Int) (a0_22 : Int) (a0_23 : ByteArray) (a0_24 : Int) (a0_25 : Int) (a1_0 : AV) : Option (AExit × St) := execA Tryz.prog cx0 [] (callN Tryz.prog how 60) 60 p1 (stOf (A0 a0_0 a0_1 a0_2 a0_3 a0_4 a0_5 a0_6 a0_7 a0_8 a0_9 a0_10 a0_11 a0_12 a0_13 a0_14 a0_15 a0_16 a0_17 a0_18 a0_19 a0_20 a0_21 a0_22 a0_23 a0_24 a0_25 a1_0))
theorem A1_ok (a0_0 : Int) (a0_1 : Int) (a0_2 : Int) (a0_3 : Int) (a0_4 : Int) (a0_5 : Int) (a0_6 : Int) (a0_7 : Int) (a0_8 : Int) (a0_9 : Int) (a0_10 : Bool) (a0_11 : Int) (a0_12 : Int) (a0_13 : AV) (a0_14 : AV) (a0_15 : AV) (a0_16 : Int) (a0_17 : Int) (a0_18 : Bool) (a0_19 : AV) (a0_20 : AV) (a0_21 : Int) (a0_22 : Int) (a0_23 : ByteArray) (a0_24 : Int) (a0_25 : Int) (a1_0 : AV) : A1 a0_0 a0_1 a0_2 a0_3 a0_4 a0_5 a0_6 a0_7 a0_8 a0_9 a0_10 a0_11 a0_12 a0_13 a0_14 a0_15 a0_16 a0_17 a0_18 a0_19 a0_20 a0_21 a0_22 a0_23 a0_24 a0_25 a1_0 = some (.normal, stOf (A1 a0_0 a0_1 a0_2 a0_3 a0_4 a0_5 a0_6 a0_7 a0_8 a0_9 a0_10 a0_11 a0_12 a0_13 a0_14 a0_15 a0_16 a0_17 a0_18 a0_19 a0_20 a0_21 a0_22 a0_23 a0_24 a0_25 a1_0)) := by kernel_rfl
theorem A1_eq (a0_0 : Int) (a0_1 : Int) (a0_2 : Int) (a0_3 : Int) (a0_4 : Int) (a0_5 : Int) (a0_6 : Int) (a0_7 : Int) (a0_8 : Int) (a0_9 : Int) (a0_10 : Bool) (a0_11 : Int) (a0_12 : Int) (a0_13 : AV) (a0_14 : AV) (a0_15 : AV) (a0_16 : Int) (a0_17 : Int) (a0_18 : Bool) (a0_19 : AV) (a0_20 : AV) (a0_21 : Int) (a0_22 : Int) (a0_23 : ByteArray) (a0_24 : Int) (a0_25 : Int) (a1_0 : AV) : execA Tryz.prog cx0 [] (callN Tryz.prog how 60) 60 p1 (stOf (A0 a0_0 a0_1 a0_2 a0_3 a0_4 a0_5 a0_6 a0_7 a0_8 a0_9 a0_10 a0_11 a0_12 a0_13 a0_14 a0_15 a0_16 a0_17 a0_18 a0_19 a0_20 a0_21 a0_22 a0_23 a0_24 a0_25 a1_0)) = A1 a0_0 a0_1 a0_2 a0_3 a0_4 a0_5 a0_6 a0_7 a0_8 a0_9 a0_10 a0_11 a0_12 a0_13 a0_14 a0_15 a0_16 a0_17 a0_18 a0_19 a0_20 a0_21 a0_22 a0_23 a0_24 a0_25 a1_0 := rfl
noncomputable def A2 (a0_0 : Int) (a0_1 : Int) (a0_2 : Int) (a0_3 : Int) (a0_4 : Int) (a0_5 : Int) (a0_6 : Int) (a0_7 : Int) (a0_8 : Int) (a0_9 : Int) (a0_10 : Bool) (a0_11 : Int) (a0_12 : Int) (a0_13 : AV) (a0_14 : AV) (a0_15 : AV) (a0_16 : Int) (a0_17 : Int) (a0_18 : Bool) (a0_19 : AV) (a0_20 : AV) (a0_21 : Int) (a0_22 : Int) (a0_23 : ByteArray) (a0_24 : Int) (a0_25 : Int) (a1_0 : AV) : Option (AExit × St) := execA Tryz.prog cx0 [] (callN Tryz.prog how 60) 60 p2 (stOf (A1 a0_0 a0_1 a0_2 a0_3 a0_4 a0_5 a0_6 a0_7 a0_8 a0_9 a0_10 a0_11 a0_12 a0_13 a0_14 a0_15 a0_16 a0_17 a0_18 a0_19 a0_20 a0_21 a0_22 a0_23 a0_24 a0_25 a1_0))
theorem A2_ok (a0_0 : Int) (a0_1 : Int) (a0_2 : Int) (a0_3 : Int) (a0_4 : Int) (a0_5 : Int) (a0_6 : Int) (a0_7 : Int) (a0_8 : Int) (a0_9 : Int) (a0_10 : Bool) (a0_11 : Int) (a0_12 : Int) (a0_13 : AV) (a0_14 : AV) (a0_15 : AV) (a0_16 : Int) (a0_17 : Int) (a0_18 : Bool) (a0_19 : AV) (a0_20 : AV) (a0_21 : Int) (a0_22 : Int) (a0_23 : ByteArray) (a0_24 : Int) (a0_25 : Int) (a1_0 : AV) : A2 a0_0 a0_1 a0_2 a0_3 a0_4 a0_5 a0_6 a0_7 a0_8 a0_9 a0_10 a0_11 a0_12 a0_13 a0_14 a0_15 a0_16 a0_17 a0_18 a0_19 a0_20 a0_21 a0_22 a0_23 a0_24 a0_25 a1_0 = some (.normal, stOf (A2 a0_0 a0_1 a0_2 a0_3 a0_4 a0_5 a0_6 a0_7 a0_8 a0_9 a0_10 a0_11 a0_12 a0_13 a0_14 a0_15 a0_16 a0_17 a0_18 a0_19 a0_20 a0_21 a0_22 a0_23 a0_24 a0_25 a1_0)) := by kernel_rfl
theorem A2_eq (a0_0 : Int) (a0_1 : Int) (a0_2 : Int) (a0_3 : Int) (a0_4 : Int) (a0_5 : Int) (a0_6 : Int) (a0_7 : Int) (a0_8 : Int) (a0_9 : Int) (a0_10 : Bool) (a0_11 : Int) (a0_12 : Int) (a0_13 : AV) (a0_14 : AV) (a0_15 : AV) (a0_16 : Int) (a0_17 : Int) (a0_18 : Bool) (a0_19 : AV) (a0_20 : AV) (a0_21 : Int) (a0_22 : Int) (a0_23 : ByteArray) (a0_24 : Int) (a0_25 : Int) (a1_0 : AV) : execA Tryz.prog cx0 [] (callN Tryz.prog how 60) 60 p2 (stOf (A1 a0_0 a0_1 a0_2 a0_3 a0_4 a0_5 a0_6 a0_7 a0_8 a0_9 a0_10 a0_11 a0_12 a0_13 a0_14 a0_15 a0_16 a0_17 a0_18 a0_19 a0_20 a0_21 a0_22 a0_23 a0_24 a0_25 a1_0)) = A2 a0_0 a0_1 a0_2 a0_3 a0_4 a0_5 a0_6 a0_7 a0_8 a0_9 a0_10 a0_11 a0_12 a0_13 a0_14 a0_15 a0_16 a0_17 a0_18 a0_19 a0_20 a0_21 a0_22 a0_23 a0_24 a0_25 a1_0 := rfl
noncomputable def B0 (a0_0 : Int) (a0_1 : Int) (a0_2 : Int) (a0_3 : Int) (a0_4 : Int) (a0_5 : Int) (a0_6 : Int) (a0_7 : Int) (a0_8 : Int) (a0_9 : Int) (a0_10 : Bool) (a0_11 : Int) (a0_12 : Int) (a0_13 : AV) (a0_14 : AV) (a0_15 : AV) (a0_16 : Int) (a0_17 : Int) (a0_18 : Bool) (a0_19 : AV) (a0_20 : AV) (a0_21 : Int) (a0_22 : Int) (a0_23 : ByteArray) (a0_24 : Int) (a0_25 : Int) (a1_0 : AV) : Option (Env × AS) := seqA Tryz.prog cx0 (callN Tryz.prog how 60) opsr (opsr.take 2) (stOf (A2 a0_0 a0_1 a0_2 a0_3 a0_4 a0_5 a0_6 a0_7 a0_8 a0_9 a0_10 a0_11 a0_12 a0_13 a0_14 a0_15 a0_16 a0_17 a0_18 a0_19 a0_20 a0_21 a0_22 a0_23 a0_24 a0_25 a1_0)).1 (stOf (A2 a0_0 a0_1 a0_2 a0_3 a0_4 a0_5 a0_6 a0_7 a0_8 a0_9 a0_10 a0_11 a0_12 a0_13 a0_14 a0_15 a0_16 a0_17 a0_18 a0_19 a0_20 a0_21 a0_22 a0_23 a0_24 a0_25 a1_0)).2
theorem B0_ok (a0_0 : Int) (a0_1 : Int) (a0_2 : Int) (a0_3 : Int) (a0_4 : Int) (a0_5 : Int) (a0_6 : Int) (a0_7 : Int) (a0_8 : Int) (a0_9 : Int) (a0_10 : Bool) (a0_11 : Int) (a0_12 : Int) (a0_13 : AV) (a0_14 : AV) (a0_15 : AV) (a0_16 : Int) (a0_17 : Int) (a0_18 : Bool) (a0_19 : AV) (a0_20 : AV) (a0_21 : Int) (a0_22 : Int) (a0_23 : ByteArray) (a0_24 : Int) (a0_25 : Int) (a1_0 : AV) : B0 a0_0 a0_1 a0_2 a0_3 a0_4 a0_5 a0_6 a0_7 a0_8 a0_9 a0_10 a0_11 a0_12 a0_13 a0_14 a0_15 a0_16 a0_17 a0_18 a0_19 a0_20 a0_21 a0_22 a0_23 a0_24 a0_25 a1_0 = some (sOf (B0 a0_0 a0_1 a0_2 a0_3 a0_4 a0_5 a0_6 a0_7 a0_8 a0_9 a0_10 a0_11 a0_12 a0_13 a0_14 a0_15 a0_16 a0_17 a0_18 a0_19 a0_20 a0_21 a0_22 a0_23 a0_24 a0_25 a1_0)) := by kernel_rfl
theorem B0_eq (a0_0 : Int) (a0_1 : Int) (a0_2 : Int) (a0_3 : Int) (a0_4 : Int) (a0_5 : Int) (a0_6 : Int) (a0_7 : Int) (a0_8 : Int) (a0_9 : Int) (a0_10 : Bool) (a0_11 : Int) (a0_12 : Int) (a0_13 : AV) (a0_14 : AV) (a0_15 : AV) (a0_16 : Int) (a0_17 : Int) (a0_18 : Bool) (a0_19 : AV) (a0_20 : AV) (a0_21 : Int) (a0_22 : Int) (a0_23 : ByteArray) (a0_24 : Int) (a0_25 : Int) (a1_0 : AV) : seqA Tryz.prog cx0 (callN Tryz.prog how 60) opsr (opsr.take 2) (stOf (A2 a0_0 a0_1 a0_2 a0_3 a0_4 a0_5 a0_6 a0_7 a0_8 a0_9 a0_10 a0_11 a0_12 a0_13 a0_14 a0_15 a0_16 a0_17 a0_18 a0_19 a0_20 a0_21 a0_22 a0_23 a0_24 a0_25 a1_0)).1 (stOf (A2 a0_0 a0_1 a0_2 a0_3 a0_4 a0_5 a0_6 a0_7 a0_8 a0_9 a0_10 a0_11 a0_12 a0_13 a0_14 a0_15 a0_16 a0_17 a0_18 a0_19 a0_20 a0_21 a0_22 a0_23 a0_24 a0_25 a1_0)).2 = B0 a0_0 a0_1 a0_2 a0_3 a0_4 a0_5 a0_6 a0_7 a0_8 a0_9 a0_10 a0_11 a0_12 a0_13 a0_14 a0_15 a0_16 a0_17 a0_18 a0_19 a0_20 a0_21 a0_22 a0_23 a0_24 a0_25 a1_0 := rfl
noncomputable def oc : Oper := (opsr.drop 2).headD default
theorem opsr_split : opsr = opsr.take 2 ++ ([oc] ++ opsr.drop 3) := by kernel_rfl
noncomputable def D0 (a0_0 : Int) (a0_1 : Int) (a0_2 : Int) (a0_3 : Int) (a0_4 : Int) (a0_5 : Int) (a0_6 : Int) (a0_7 : Int) (a0_8 : Int) (a0_9 : Int) (a0_10 : Bool) (a0_11 : Int) (a0_12 : Int) (a0_13 : AV) (a0_14 : AV) (a0_15 : AV) (a0_16 : Int) (a0_17 : Int) (a0_18 : Bool) (a0_19 : AV) (a0_20 : AV) (a0_21 : Int) (a0_22 : Int) (a0_23 : ByteArray) (a0_24 : Int) (a0_25 : Int) (a1_0 : AV) (y0 y1 y2 y47_0 y47_1 : AV) : Option (Env × AS) := seqA Tryz.prog cx0 (callN Tryz.prog how 60) opsr (opsr.drop 3) (putE (sOf (B0 a0_0 a0_1 a0_2 a0_3 a0_4 a0_5 a0_6 a0_7 a0_8 a0_9 a0_10 a0_11 a0_12 a0_13 a0_14 a0_15 a0_16 a0_17 a0_18 a0_19 a0_20 a0_21 a0_22 a0_23 a0_24 a0_25 a1_0)).1 (some 17) (.agg [.int .i64 a0_0, .int .i64 a0_1, .int .i64 a0_2, .int .i64 a0_3, .int .i64 a0_4, .int .i64 a0_5, .int .u64 a0_6, .int .i64 a0_7, .int .i64 a0_8, .int .i64 a0_9, .bool a0_10, .int .u64 a0_11, .int .i64 a0_12, y0, y1, y2, .int .i64 a0_16, .int .u64 a0_17, .bool a0_18, y47_0, y47_1, .int .i64 a0_21, .int .u64 a0_22, .str a0_23, .int .u64 a0_24, .int .i64 a0_25])) (sOf (B0 a0_0 a0_1 a0_2 a0_3 a0_4 a0_5 a0_6 a0_7 a0_8 a0_9 a0_10 a0_11 a0_12 a0_13 a0_14 a0_15 a0_16 a0_17 a0_18 a0_19 a0_20 a0_21 a0_22 a0_23 a0_24 a0_25 a1_0)).2
theorem D0_ok (a0_0 : Int) (a0_1 : Int) (a0_2 : Int) (a0_3 : Int) (a0_4 : Int) (a0_5 : Int) (a0_6 : Int) (a0_7 : Int) (a0_8 : Int) (a0_9 : Int) (a0_10 : Bool) (a0_11 : Int) (a0_12 : Int) (a0_13 : AV) (a0_14 : AV) (a0_15 : AV) (a0_16 : Int) (a0_17 : Int) (a0_18 : Bool) (a0_19 : AV) (a0_20 : AV) (a0_21 : Int) (a0_22 : Int) (a0_23 : ByteArray) (a0_24 : Int) (a0_25 : Int) (a1_0 : AV) (y0 y1 y2 y47_0 y47_1 : AV) : D0 a0_0 a0_1 a0_2 a0_3 a0_4 a0_5 a0_6 a0_7 a0_8 a0_9 a0_10 a0_11 a0_12 a0_13 a0_14 a0_15 a0_16 a0_17 a0_18 a0_19 a0_20 a0_21 a0_22 a0_23 a0_24 a0_25 a1_0 y0 y1 y2 y47_0 y47_1 = some (sOf (D0 a0_0 a0_1 a0_2 a0_3 a0_4 a0_5 a0_6 a0_7 a0_8 a0_9 a0_10 a0_11 a0_12 a0_13 a0_14 a0_15 a0_16 a0_17 a0_18 a0_19 a0_20 a0_21 a0_22 a0_23 a0_24 a0_25 a1_0 y0 y1 y2 y47_0 y47_1)) := by kernel_rfl
theorem D0_eq (a0_0 : Int) (a0_1 : Int) (a0_2 : Int) (a0_3 : Int) (a0_4 : Int) (a0_5 : Int) (a0_6 : Int) (a0_7 : Int) (a0_8 : Int) (a0_9 : Int) (a0_10 : Bool) (a0_11 : Int) (a0_12 : Int) (a0_13 : AV) (a0_14 : AV) (a0_15 : AV) (a0_16 : Int) (a0_17 : Int) (a0_18 : Bool) (a0_19 : AV) (a0_20 : AV) (a0_21 : Int) (a0_22 : Int) (a0_23 : ByteArray) (a0_24 : Int) (a0_25 : Int) (a1_0 : AV) (y0 y1 y2 y47_0 y47_1 : AV) : seqA Tryz.prog cx0 (callN Tryz.prog how 60) opsr (opsr.drop 3) (putE (sOf (B0 a0_0 a0_1 a0_2 a0_3 a0_4 a0_5 a0_6 a0_7 a0_8 a0_9 a0_10 a0_11 a0_12 a0_13 a0_14 a0_15 a0_16 a0_17 a0_18 a0_19 a0_20 a0_21 a0_22 a0_23 a0_24 a0_25 a1_0)).1 (some 17) (.agg [.int .i64 a0_0, .int .i64 a0_1, .int .i64 a0_2, .int .i64 a0_3, .int .i64 a0_4, .int .i64 a0_5, .int .u64 a0_6, .int .i64 a0_7, .int .i64 a0_8, .int .i64 a0_9, .bool a0_10, .int .u64 a0_11, .int .i64 a0_12, y0, y1, y2, .int .i64 a0_16, .int .u64 a0_17, .bool a0_18, y47_0, y47_1, .int .i64 a0_21, .int .u64 a0_22, .str a0_23, .int .u64 a0_24, .int .i64 a0_25])) (sOf (B0 a0_0 a0_1 a0_2 a0_3 a0_4 a0_5 a0_6 a0_7 a0_8 a0_9 a0_10 a0_11 a0_12 a0_13 a0_14 a0_15 a0_16 a0_17 a0_18 a0_19 a0_20 a0_21 a0_22 a0_23 a0_24 a0_25 a1_0)).2 = D0 a0_0 a0_1 a0_2 a0_3 a0_4 a0_5 a0_6 a0_7 a0_8 a0_9 a0_10 a0_11 a0_12 a0_13 a0_14 a0_15 a0_16 a0_17 a0_18 a0_19 a0_20 a0_21 a0_22 a0_23 a0_24 a0_25 a1_0 y0 y1 y2 y47_0 y47_1 := rfl
noncomputable def F0 (a0_0 : Int) (a0_1 : Int) (a0_2 : Int) (a0_3 : Int) (a0_4 : Int) (a0_5 : Int) (a0_6 : Int) (a0_7 : Int) (a0_8 : Int) (a0_9 : Int) (a0_10 : Bool) (a0_11 : Int) (a0_12 : Int) (a0_13 : AV) (a0_14 : AV) (a0_15 : AV) (a0_16 : Int) (a0_17 : Int) (a0_18 : Bool) (a0_19 : AV) (a0_20 : AV) (a0_21 : Int) (a0_22 : Int) (a0_23 : ByteArray) (a0_24 : Int) (a0_25 : Int) (a1_0 : AV) (y0 y1 y2 y47_0 y47_1 : AV) : Option (AExit × St) := execA Tryz.prog cx0 [] (callN Tryz.prog how 60) 60 (p4.seq (p5.seq (p6.seq .ret))) (sOf (D0 a0_0 a0_1 a0_2 a0_3 a0_4 a0_5 a0_6 a0_7 a0_8 a0_9 a0_10 a0_11 a0_12 a0_13 a0_14 a0_15 a0_16 a0_17 a0_18 a0_19 a0_20 a0_21 a0_22 a0_23 a0_24 a0_25 a1_0 y0 y1 y2 y47_0 y47_1))
theorem F0_ok (a0_0 : Int) (a0_1 : Int) (a0_2 : Int) (a0_3 : Int) (a0_4 : Int) (a0_5 : Int) (a0_6 : Int) (a0_7 : Int) (a0_8 : Int) (a0_9 : Int) (a0_10 : Bool) (a0_11 : Int) (a0_12 : Int) (a0_13 : AV) (a0_14 : AV) (a0_15 : AV) (a0_16 : Int) (a0_17 : Int) (a0_18 : Bool) (a0_19 : AV) (a0_20 : AV) (a0_21 : Int) (a0_22 : Int) (a0_23 : ByteArray) (a0_24 : Int) (a0_25 : Int) (a1_0 : AV) (y0 y1 y2 y47_0 y47_1 : AV) : F0 a0_0 a0_1 a0_2 a0_3 a0_4 a0_5 a0_6 a0_7 a0_8 a0_9 a0_10 a0_11 a0_12 a0_13 a0_14 a0_15 a0_16 a0_17 a0_18 a0_19 a0_20 a0_21 a0_22 a0_23 a0_24 a0_25 a1_0 y0 y1 y2 y47_0 y47_1 = some (.ret, stOf (F0 a0_0 a0_1 a0_2 a0_3 a0_4 a0_5 a0_6 a0_7 a0_8 a0_9 a0_10 a0_11 a0_12 a0_13 a0_14 a0_15 a0_16 a0_17 a0_18 a0_19 a0_20 a0_21 a0_22 a0_23 a0_24 a0_25 a1_0 y0 y1 y2 y47_0 y47_1)) := by kernel_rfl
theorem F0_eq (a0_0 : Int) (a0_1 : Int) (a0_2 : Int) (a0_3 : Int) (a0_4 : Int) (a0_5 : Int) (a0_6 : Int) (a0_7 : Int) (a0_8 : Int) (a0_9 : Int) (a0_10 : Bool) (a0_11 : Int) (a0_12 : Int) (a0_13 : AV) (a0_14 : AV) (a0_15 : AV) (a0_16 : Int) (a0_17 : Int) (a0_18 : Bool) (a0_19 : AV) (a0_20 : AV) (a0_21 : Int) (a0_22 : Int) (a0_23 : ByteArray) (a0_24 : Int) (a0_25 : Int) (a1_0 : AV) (y0 y1 y2 y47_0 y47_1 : AV) : execA Tryz.prog cx0 [] (callN Tryz.prog how 60) 60 (p4.seq (p5.seq (p6.seq .ret))) (sOf (D0 a0_0 a0_1 a0_2 a0_3 a0_4 a0_5 a0_6 a0_7 a0_8 a0_9 a0_10 a0_11 a0_12 a0_13 a0_14 a0_15 a0_16 a0_17 a0_18 a0_19 a0_20 a0_21 a0_22 a0_23 a0_24 a0_25 a1_0 y0 y1 y2 y47_0 y47_1)) = F0 a0_0 a0_1 a0_2 a0_3 a0_4 a0_5 a0_6 a0_7 a0_8 a0_9 a0_10 a0_11 a0_12 a0_13 a0_14 a0_15 a0_16 a0_17 a0_18 a0_19 a0_20 a0_21 a0_22 a0_23 a0_24 a0_25 a1_0 y0 y1 y2 y47_0 y47_1 := rfl
noncomputable def E0 (a0_0 : Int) (a0_1 : Int) (a0_2 : Int) (a0_3 : Int) (a0_4 : Int) (a0_5 : Int) (a0_6 : Int) (a0_7 : Int) (a0_8 : Int) (a0_9 : Int) (a0_10 : Bool) (a0_11 : Int) (a0_12 : Int) (a0_13 : AV) (a0_14 : AV) (a0_15 : AV) (a0_16 : Int) (a0_17 : Int) (a0_18 : Bool) (a0_19 : AV) (a0_20 : AV) (a0_21 : Int) (a0_22 : Int) (a0_23 : ByteArray) (a0_24 : Int) (a0_25 : Int) (a1_0 : AV) (y0 y1 y2 y47_0 y47_1 : AV) : Option (AV × AS) := finishA Tryz.prog {} Tryz.f3 0 (some (.ret, stOf (F0 a0_0 a0_1 a0_2 a0_3 a0_4 a0_5 a0_6 a0_7 a0_8 a0_9 a0_10 a0_11 a0_12 a0_13 a0_14 a0_15 a0_16 a0_17 a0_18 a0_19 a0_20 a0_21 a0_22 a0_23 a0_24 a0_25 a1_0 y0 y1 y2 y47_0 y47_1)))
theorem E0_ok (a0_0 : Int) (a0_1 : Int) (a0_2 : Int) (a0_3 : Int) (a0_4 : Int) (a0_5 : Int) (a0_6 : Int) (a0_7 : Int) (a0_8 : Int) (a0_9 : Int) (a0_10 : Bool) (a0_11 : Int) (a0_12 : Int) (a0_13 : AV) (a0_14 : AV) (a0_15 : AV) (a0_16 : Int) (a0_17 : Int) (a0_18 : Bool) (a0_19 : AV) (a0_20 : AV) (a0_21 : Int) (a0_22 : Int) (a0_23 : ByteArray) (a0_24 : Int) (a0_25 : Int) (a1_0 : AV) (y0 y1 y2 y47_0 y47_1 : AV) : (E0 a0_0 a0_1 a0_2 a0_3 a0_4 a0_5 a0_6 a0_7 a0_8 a0_9 a0_10 a0_11 a0_12 a0_13 a0_14 a0_15 a0_16 a0_17 a0_18 a0_19 a0_20 a0_21 a0_22 a0_23 a0_24 a0_25 a1_0 y0 y1 y2 y47_0 y47_1).map (fun x => x.1) = some (.bool true) := by kernel_rfl
theorem E0_eq (a0_0 : Int) (a0_1 : Int) (a0_2 : Int) (a0_3 : Int) (a0_4 : Int) (a0_5 : Int) (a0_6 : Int) (a0_7 : Int) (a0_8 : Int) (a0_9 : Int) (a0_10 : Bool) (a0_11 : Int) (a0_12 : Int) (a0_13 : AV) (a0_14 : AV) (a0_15 : AV) (a0_16 : Int) (a0_17 : Int) (a0_18 : Bool) (a0_19 : AV) (a0_20 : AV) (a0_21 : Int) (a0_22 : Int) (a0_23 : ByteArray) (a0_24 : Int) (a0_25 : Int) (a1_0 : AV) (y0 y1 y2 y47_0 y47_1 : AV) : E0 a0_0 a0_1 a0_2 a0_3 a0_4 a0_5 a0_6 a0_7 a0_8 a0_9 a0_10 a0_11 a0_12 a0_13 a0_14 a0_15 a0_16 a0_17 a0_18 a0_19 a0_20 a0_21 a0_22 a0_23 a0_24 a0_25 a1_0 y0 y1 y2 y47_0 y47_1 = finishA Tryz.prog {} Tryz.f3 0 (some (.ret, stOf (F0 a0_0 a0_1 a0_2 a0_3 a0_4 a0_5 a0_6 a0_7 a0_8 a0_9 a0_10 a0_11 a0_12 a0_13 a0_14 a0_15 a0_16 a0_17 a0_18 a0_19 a0_20 a0_21 a0_22 a0_23 a0_24 a0_25 a1_0 y0 y1 y2 y47_0 y47_1))) := rfl
theorem oc_op : oc.op = .call { callee := .value (.func 6), args := #[.tmp 16], argTypes := #[38] } := by kernel_rfl
theorem oc_dst : oc.dst = some 17 := by kernel_rfl
theorem oc_w (a0_0 : Int) (a0_1 : Int) (a0_2 : Int) (a0_3 : Int) (a0_4 : Int) (a0_5 : Int) (a0_6 : Int) (a0_7 : Int) (a0_8 : Int) (a0_9 : Int) (a0_10 : Bool) (a0_11 : Int) (a0_12 : Int) (a0_13 : AV) (a0_14 : AV) (a0_15 : AV) (a0_16 : Int) (a0_17 : Int) (a0_18 : Bool) (a0_19 : AV) (a0_20 : AV) (a0_21 : Int) (a0_22 : Int) (a0_23 : ByteArray) (a0_24 : Int) (a0_25 : Int) (a1_0 : AV) : wantedA opsr (sOf (B0 a0_0 a0_1 a0_2 a0_3 a0_4 a0_5 a0_6 a0_7 a0_8 a0_9 a0_10 a0_11 a0_12 a0_13 a0_14 a0_15 a0_16 a0_17 a0_18 a0_19 a0_20 a0_21 a0_22 a0_23 a0_24 a0_25 a1_0)).1 oc = true := by kernel_rfl
theorem oc_a (a0_0 : Int) (a0_1 : Int) (a0_2 : Int) (a0_3 : Int) (a0_4 : Int) (a0_5 : Int) (a0_6 : Int) (a0_7 : Int) (a0_8 : Int) (a0_9 : Int) (a0_10 : Bool) (a0_11 : Int) (a0_12 : Int) (a0_13 : AV) (a0_14 : AV) (a0_15 : AV) (a0_16 : Int) (a0_17 : Int) (a0_18 : Bool) (a0_19 : AV) (a0_20 : AV) (a0_21 : Int) (a0_22 : Int) (a0_23 : ByteArray) (a0_24 : Int) (a0_25 : Int) (a1_0 : AV) : evs (sOf (B0 a0_0 a0_1 a0_2 a0_3 a0_4 a0_5 a0_6 a0_7 a0_8 a0_9 a0_10 a0_11 a0_12 a0_13 a0_14 a0_15 a0_16 a0_17 a0_18 a0_19 a0_20 a0_21 a0_22 a0_23 a0_24 a0_25 a1_0)).1 [.tmp 16] = some [.agg [.int .i64 a0_0, .int .i64 a0_1, .int .i64 a0_2, .int .i64 a0_3, .int .i64 a0_4, .int .i64 a0_5, .int .u64 a0_6, .int .i64 a0_7, .int .i64 a0_8, .int .i64 a0_9, .bool a0_10, .int .u64 a0_11, .int .i64 a0_12, a0_13, a0_14, a0_15, .int .i64 a0_16, .int .u64 a0_17, .bool a0_18, a0_19, a0_20, .int .i64 a0_21, .int .u64 a0_22, .str a0_23, .int .u64 a0_24, .int .i64 a0_25]] := by kernel_rfl
attribute [local irreducible] sOf stOf A0 A1 A2 B0 D0 F0 E0 opsr oc p0 p1 p2 p3 p4 p5 p6
theorem law_run (a0_0 : Int) (a0_1 : Int) (a0_2 : Int) (a0_3 : Int) (a0_4 : Int) (a0_5 : Int) (a0_6 : Int) (a0_7 : Int) (a0_8 : Int) (a0_9 : Int) (a0_10 : Bool) (a0_11 : Int) (a0_12 : Int) (a0_13 : AV) (a0_14 : AV) (a0_15 : AV) (a0_16 : Int) (a0_17 : Int) (a0_18 : Bool) (a0_19 : AV) (a0_20 : AV) (a0_21 : Int) (a0_22 : Int) (a0_23 : ByteArray) (a0_24 : Int) (a0_25 : Int) (a1_0 : AV) (ha0_13 : isSl 4 isT87 a0_13) (ha0_14 : isSl 4 isT92 a0_14) (ha0_15 : isSl 10 isT95 a0_15) (ha0_19 : isSl 2 isT131 a0_19) (ha0_20 : isSl 3 isT134 a0_20) (ha1_0 : isSl 1 isT5 a1_0) : ∃ σ', callW Tryz.prog how 3 [.agg [.int .i64 a0_0, .int .i64 a0_1, .int .i64 a0_2, .int .i64 a0_3, .int .i64 a0_4, .int .i64 a0_5, .int .u64 a0_6, .int .i64 a0_7, .int .i64 a0_8, .int .i64 a0_9, .bool a0_10, .int .u64 a0_11, .int .i64 a0_12, a0_13, a0_14, a0_15, .int .i64 a0_16, .int .u64 a0_17, .bool a0_18, a0_19, a0_20, .int .i64 a0_21, .int .u64 a0_22, .str a0_23, .int .u64 a0_24, .int .i64 a0_25], a1_0] ⟨[], []⟩ none = some (.bool true, σ') := by
  have hs : Sub (callN Tryz.prog how 60) (callW Tryz.prog how) := fun f a σ ro r h => callW_of h
  have a0 := execW_ofA hs _ _ _ ((A0_eq a0_0 a0_1 a0_2 a0_3 a0_4 a0_5 a0_6 a0_7 a0_8 a0_9 a0_10 a0_11 a0_12 a0_13 a0_14 a0_15 a0_16 a0_17 a0_18 a0_19 a0_20 a0_21 a0_22 a0_23 a0_24 a0_25 a1_0).trans (A0_ok a0_0 a0_1 a0_2 a0_3 a0_4 a0_5 a0_6 a0_7 a0_8 a0_9 a0_10 a0_11 a0_12 a0_13 a0_14 a0_15 a0_16 a0_17 a0_18 a0_19 a0_20 a0_21 a0_22 a0_23 a0_24 a0_25 a1_0))
  have a1 := execW_ofA hs _ _ _ ((A1_eq a0_0 a0_1 a0_2 a0_3 a0_4 a0_5 a0_6 a0_7 a0_8 a0_9 a0_10 a0_11 a0_12 a0_13 a0_14 a0_15 a0_16 a0_17 a0_18 a0_19 a0_20 a0_21 a0_22 a0_23 a0_24 a0_25 a1_0).trans (A1_ok a0_0 a0_1 a0_2 a0_3 a0_4 a0_5 a0_6 a0_7 a0_8 a0_9 a0_10 a0_11 a0_12 a0_13 a0_14 a0_15 a0_16 a0_17 a0_18 a0_19 a0_20 a0_21 a0_22 a0_23 a0_24 a0_25 a1_0))
  have a2 := execW_ofA hs _ _ _ ((A2_eq a0_0 a0_1 a0_2 a0_3 a0_4 a0_5 a0_6 a0_7 a0_8 a0_9 a0_10 a0_11 a0_12 a0_13 a0_14 a0_15 a0_16 a0_17 a0_18 a0_19 a0_20 a0_21 a0_22 a0_23 a0_24 a0_25 a1_0).trans (A2_ok a0_0 a0_1 a0_2 a0_3 a0_4 a0_5 a0_6 a0_7 a0_8 a0_9 a0_10 a0_11 a0_12 a0_13 a0_14 a0_15 a0_16 a0_17 a0_18 a0_19 a0_20 a0_21 a0_22 a0_23 a0_24 a0_25 a1_0))
  have b := seqA_mono hs _ _ _ _ ((B0_eq a0_0 a0_1 a0_2 a0_3 a0_4 a0_5 a0_6 a0_7 a0_8 a0_9 a0_10 a0_11 a0_12 a0_13 a0_14 a0_15 a0_16 a0_17 a0_18 a0_19 a0_20 a0_21 a0_22 a0_23 a0_24 a0_25 a1_0).trans (B0_ok a0_0 a0_1 a0_2 a0_3 a0_4 a0_5 a0_6 a0_7 a0_8 a0_9 a0_10 a0_11 a0_12 a0_13 a0_14 a0_15 a0_16 a0_17 a0_18 a0_19 a0_20 a0_21 a0_22 a0_23 a0_24 a0_25 a1_0))
  obtain ⟨y0, y1, y2, y47_0, y47_1, c, _⟩ := f6_ok (how := how) (by kernel_rfl) (by kernel_rfl) (by kernel_rfl) (by kernel_rfl) (sOf (B0 a0_0 a0_1 a0_2 a0_3 a0_4 a0_5 a0_6 a0_7 a0_8 a0_9 a0_10 a0_11 a0_12 a0_13 a0_14 a0_15 a0_16 a0_17 a0_18 a0_19 a0_20 a0_21 a0_22 a0_23 a0_24 a0_25 a1_0)).2.hp (sOf (B0 a0_0 a0_1 a0_2 a0_3 a0_4 a0_5 a0_6 a0_7 a0_8 a0_9 a0_10 a0_11 a0_12 a0_13 a0_14 a0_15 a0_16 a0_17 a0_18 a0_19 a0_20 a0_21 a0_22 a0_23 a0_24 a0_25 a1_0)).2.st none a0_0 a0_1 a0_2 a0_3 a0_4 a0_5 a0_6 a0_7 a0_8 a0_9 a0_10 a0_11 a0_12 a0_13 a0_14 a0_15 a0_16 a0_17 a0_18 a0_19 a0_20 a0_21 a0_22 a0_23 a0_24 a0_25 ha0_13 ha0_14 ha0_15 ha0_19 ha0_20 (fun k hk => by cases hk)
  have c' := seqA_call (P := Tryz.prog) (cx := cx0) (call := callW Tryz.prog how) oc_op (oc_w a0_0 a0_1 a0_2 a0_3 a0_4 a0_5 a0_6 a0_7 a0_8 a0_9 a0_10 a0_11 a0_12 a0_13 a0_14 a0_15 a0_16 a0_17 a0_18 a0_19 a0_20 a0_21 a0_22 a0_23 a0_24 a0_25 a1_0) rfl (oc_a a0_0 a0_1 a0_2 a0_3 a0_4 a0_5 a0_6 a0_7 a0_8 a0_9 a0_10 a0_11 a0_12 a0_13 a0_14 a0_15 a0_16 a0_17 a0_18 a0_19 a0_20 a0_21 a0_22 a0_23 a0_24 a0_25 a1_0) rfl c
  rw [oc_dst] at c'
  have d := seqA_mono hs _ _ _ _ ((D0_eq a0_0 a0_1 a0_2 a0_3 a0_4 a0_5 a0_6 a0_7 a0_8 a0_9 a0_10 a0_11 a0_12 a0_13 a0_14 a0_15 a0_16 a0_17 a0_18 a0_19 a0_20 a0_21 a0_22 a0_23 a0_24 a0_25 a1_0 y0 y1 y2 y47_0 y47_1).trans (D0_ok a0_0 a0_1 a0_2 a0_3 a0_4 a0_5 a0_6 a0_7 a0_8 a0_9 a0_10 a0_11 a0_12 a0_13 a0_14 a0_15 a0_16 a0_17 a0_18 a0_19 a0_20 a0_21 a0_22 a0_23 a0_24 a0_25 a1_0 y0 y1 y2 y47_0 y47_1))
  have g := execW_ofA hs _ _ _ ((F0_eq a0_0 a0_1 a0_2 a0_3 a0_4 a0_5 a0_6 a0_7 a0_8 a0_9 a0_10 a0_11 a0_12 a0_13 a0_14 a0_15 a0_16 a0_17 a0_18 a0_19 a0_20 a0_21 a0_22 a0_23 a0_24 a0_25 a1_0 y0 y1 y2 y47_0 y47_1).trans (F0_ok a0_0 a0_1 a0_2 a0_3 a0_4 a0_5 a0_6 a0_7 a0_8 a0_9 a0_10 a0_11 a0_12 a0_13 a0_14 a0_15 a0_16 a0_17 a0_18 a0_19 a0_20 a0_21 a0_22 a0_23 a0_24 a0_25 a1_0 y0 y1 y2 y47_0 y47_1))
  obtain ⟨⟨v, σ'⟩, e1, e2⟩ := Option.map_eq_some_iff.1 (E0_ok a0_0 a0_1 a0_2 a0_3 a0_4 a0_5 a0_6 a0_7 a0_8 a0_9 a0_10 a0_11 a0_12 a0_13 a0_14 a0_15 a0_16 a0_17 a0_18 a0_19 a0_20 a0_21 a0_22 a0_23 a0_24 a0_25 a1_0 y0 y1 y2 y47_0 y47_1)
  simp only at e2
  subst e2
  refine ⟨σ', callW_body (fl := {}) (by kernel_rfl) Tryz.func3 bodyL ?_⟩
  rw [← e1]
  have h5 : seqA Tryz.prog cx0 (callW Tryz.prog how) opsr opsr (stOf (A2 a0_0 a0_1 a0_2 a0_3 a0_4 a0_5 a0_6 a0_7 a0_8 a0_9 a0_10 a0_11 a0_12 a0_13 a0_14 a0_15 a0_16 a0_17 a0_18 a0_19 a0_20 a0_21 a0_22 a0_23 a0_24 a0_25 a1_0)).1 (stOf (A2 a0_0 a0_1 a0_2 a0_3 a0_4 a0_5 a0_6 a0_7 a0_8 a0_9 a0_10 a0_11 a0_12 a0_13 a0_14 a0_15 a0_16 a0_17 a0_18 a0_19 a0_20 a0_21 a0_22 a0_23 a0_24 a0_25 a1_0)).2 = some (sOf (D0 a0_0 a0_1 a0_2 a0_3 a0_4 a0_5 a0_6 a0_7 a0_8 a0_9 a0_10 a0_11 a0_12 a0_13 a0_14 a0_15 a0_16 a0_17 a0_18 a0_19 a0_20 a0_21 a0_22 a0_23 a0_24 a0_25 a1_0 y0 y1 y2 y47_0 y47_1)) := by
    conv => lhs; arg 5; rw [opsr_split]
    exact (seqA_append b).trans ((seqA_append c').trans d)
  have h6 := execW_plain (tails := []) (id := 3) (ops := opsr.toArray) h5
  rw [← pr_eq] at h6
  rw [E0_eq]
  refine congrArg (finishA Tryz.prog {} Tryz.f3 0) ?_
  exact (execW_seq_of a0 (execW_seq_of a1 (execW_seq_of a2 (execW_seq_of h6 g))))

/-- A world in which the listed variable reads as listed. -/
noncomputable def laidWorld (os : Os) : World :=
  let w0 := World.holding Tryz.prog os ⟨#[], #[], []⟩
  { w0 with heap := w0.heap.modify 0 fun
      | .cells _ t frozen => .cells #[.iface 242 (.agg #[.pointer (some ⟨1, 107, none⟩)])] t frozen
      | o => o }
def laidL : List (String × DataW Unit) := [("errors.errorType", Rows.laid_errors_errorType)]
theorem laidWorld_met (os : Os) (args : Array Value) : laidMetH Tryz.prog laidL ((laidWorld os).forCall (fun _ _ => 0) ⟨#[], args, []⟩).memory :=
  laidMetH_of_parts (laidMet_nil _ _) (by kernel_rfl)
theorem replicaNil_lifted (os : Os) (started : os.Started) (H : Type) (enc : TypeId × Value → H) :
    ReturnsInHanded {} Tryz.checked os 3 .any (fun w args => (Rows.replicaNilSpec.pre enc Tryz.prog Tryz.f3 [] false w args ∧ laidMetH Tryz.prog laidL w) ∧ sizedMet enc Tryz.prog Tryz.f3 (OpenSpec.ofChange Rows.replicaNilSpec) false w args) (Rows.replicaNilSpec.post enc Tryz.prog Tryz.f3 false true false false) := by
  refine law_lifted_laid hm howOk 9 os started own (by kernel_rfl) Tryz.func3 laidOut shape rfl ?_ ?_ ?_
  · intro H ds h
    match ds, h with
    | [d0, d1], _ => rfl
  · exact ChangeSpec.witness_at (enc := enc) (C := Tryz.checked) (os := os) (X := fun w _ => laidMetH Tryz.prog laidL w) false (laidWorld os) #[.agg #[.int .i64 0, .int .i64 0, .int .i64 0, .int .i64 0, .int .i64 0, .int .i64 0, .int .u64 0, .int .i64 0, .int .i64 0, .int .i64 0, .bool false, .int .u64 0, .int .i64 0, .slice none 0 0, .slice none 0 0, .slice none 0 0, .int .i64 0, .int .u64 0, .bool false, .slice none 0 0, .slice none 0 0, .int .i64 0, .int .u64 0, .string ⟨#[]⟩, .int .u64 0, .int .i64 0], .slice none 0 0] 8 rfl (by kernel_rfl) (by kernel_rfl) (by kernel_rfl) (by kernel_rfl) (by kernel_rfl) (laidWorld_met os _)
  · intro cs h
    rw [show Tryz.f3.params.toList = [38, 39] by rw [Tryz.params3]] at h
    obtain ⟨c0, q0, rfl, k0, h⟩ := h
    obtain ⟨c1, q1, rfl, k1, h⟩ := h
    subst h
    obtain ⟨a0_0, a0_1, a0_2, a0_3, a0_4, a0_5, a0_6, a0_7, a0_8, a0_9, a0_10, a0_11, a0_12, a0_13, a0_14, a0_15, a0_16, a0_17, a0_18, a0_19, a0_20, a0_21, a0_22, a0_23, a0_24, a0_25, rfl, ha0_13, ha0_14, ha0_15, ha0_19, ha0_20⟩ := arg0 k0
    obtain ⟨a1_0, rfl, ha1_0⟩ := arg1 k1
    obtain ⟨σ', e⟩ := law_run a0_0 a0_1 a0_2 a0_3 a0_4 a0_5 a0_6 a0_7 a0_8 a0_9 a0_10 a0_11 a0_12 a0_13 a0_14 a0_15 a0_16 a0_17 a0_18 a0_19 a0_20 a0_21 a0_22 a0_23 a0_24 a0_25 _ ha0_13 ha0_14 ha0_15 ha0_19 ha0_20 ha1_0
    obtain ⟨m, e⟩ := callW_inv e
    exact ⟨m, _, e⟩

theorem replicaNil_holds : Rows.ReplicaNilSaid :=
  OpenClaim.holds_of_wide 3 Tryz.f3 rfl rfl rfl rfl rfl rfl rfl ⟨rfl, rfl, rfl, rfl, rfl⟩ rfl rfl rfl rfl rfl (by kernel_rfl) Tryz.func3 (by kernel_rfl)
    (of_decide_eq_true (by kernel_rfl)) (by unfold Func.isWrapper; first | (rw [if_pos (by decide +kernel)]; kernel_rfl) | (rw [if_neg (by decide +kernel)]; exact ⟨rfl, rfl⟩))
    (fun os started H enc _ => replicaNil_lifted os started H enc)

theorem replicaNil_card : Rows.ReplicaNilCardSaid :=
  Claim7.holds_tied_plain_at .later [] [.handle] true (true, "46354faac45267f5c0547468eb5ae273275edcc98d04cab82f61bcc3b6d0ae7e") true
    replicaNil_holds (fun _ h => by cases h) (by kernel_rfl) (fun _ h => by cases h) replicaNil_row_tie rfl ⟨rfl, rfl⟩ (by kernel_rfl) rfl
    (fun f fn hf hfn => by
      obtain rfl : f = 3 := Option.some.inj ((show Tryz.prog.funcNamed "sautoir/sautoirlaw24.ReplicaNil" = some 3 by kernel_rfl).symm.trans hf) |>.symm
      obtain rfl : fn = Tryz.f3 := (Option.some.inj (Tryz.func3.symm.trans hfn)).symm
      exact ⟨by kernel_rfl, fun j t ht => by
        rw [Tryz.params3] at ht
        have hm : t ∈ [38, 39] := by simpa using Array.mem_of_getElem? ht
        have hall : ([38, 39].all fun u => !Tryz.prog.wantsStandIn u) = true := by kernel_rfl
        exact (show Tryz.prog.wantsStandIn t = false by simpa using List.all_eq_true.1 hall t hm)⟩)
    (by kernel_rfl)
#print axioms replicaNil_card
#print axioms replicaNil_holds
end Go.Proofs.YthfgnklcjdnecaaGreatDoor
