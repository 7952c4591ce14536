/- The arguments of the law. -/
import Derived.Test.YtidfkjpcpgeilaaF16
import Derived.Test.YtidfkjpcpgeilaaH1
import Derived.Test.YtidfkjpcpgeilaaRows
open Go Go.Abs Go.Proofs
set_option maxRecDepth 100000
set_option maxHeartbeats 4000000
set_option linter.unusedSimpArgs false
set_option linter.unusedVariables false
namespace Go.Proofs.Ytidfkjpcpgeilaa
/-- What a function's text asks of the interpreter. -/
def fnOk (P : Program) (how : FuncId → Option How) (f : Nat) : Bool :=
  match how f with
  | some (.body fl) => match P.funcs[f]? with
    | some fn => match fn.body with
      | some c => codeOk P fl.tails c && !(fn.name == "runtime.NumGoroutine")
      | none => true
    | none => true
  | _ => true
theorem fnOk_body {P : Program} {how : FuncId → Option How} {f : Nat} (h : fnOk P how f = true) {fl : Flags} {fn : Func} {c : Code} (h1 : how f = some (.body fl)) (h2 : P.funcs[f]? = some fn) (h3 : fn.body = some c) : codeOk P fl.tails c = true ∧ (fn.name == "runtime.NumGoroutine") = false := by
  unfold fnOk at h
  rw [h1] at h
  simp only [h2, h3] at h
  simpa using h
def howB (f : FuncId) : Option How := match bodyTab.find? (fun p => p.1 == f) with
  | some p => some (.body p.2)
  | none => if decide (f < 53) = true then some (.body {}) else none
theorem allOk : ∀ f, f < 57 → fnOk Try.prog howB f = true := by
  have h : (List.range 57).all (fnOk Try.prog howB) = true := by kernel_rfl
  intro f hf
  exact List.all_eq_true.1 h f (List.mem_range.2 hf)
theorem howHigh (f : Nat) (hf : ¬ f < 57) : howB f = none := by
  unfold howB
  have h : bodyTab.find? (fun p => p.1 == f) = none := by
    rw [List.find?_eq_none]
    intro p hp
    have h1 : (bodyTab.all fun p => decide (p.1 < 57)) = true := by decide
    have := List.all_eq_true.1 h1 p hp
    simp only [decide_eq_true_eq] at this
    simp only [beq_iff_eq]
    omega
  rw [h]
  simp only
  rw [if_neg (by rw [decide_eq_true_eq]; exact fun h : f < 53 => hf (Nat.lt_trans h (by decide)))]
theorem howB_body {f : FuncId} {fl : Flags} {fn : Func} {c : Code} (h1 : howB f = some (.body fl)) (h2 : Try.prog.funcs[f]? = some fn) (h3 : fn.body = some c) : codeOk Try.prog fl.tails c = true ∧ (fn.name == "runtime.NumGoroutine") = false := by
  by_cases hf : f < 57
  · exact fnOk_body (allOk f hf) h1 h2 h3
  · rw [howHigh f hf] at h1; cases h1
theorem howB_prim {f : FuncId} {p : List AV → AS → Option Nat → Option (AV × AS)} : howB f ≠ some (.prim p) := by
  unfold howB
  split
  · intro h; cases h
  · split
    · intro h; cases h
    · intro h; cases h
theorem hm : Try.prog.follows .mixedOrders = true := by kernel_rfl
theorem howA_ok : HowOk Try.prog howA := {
  body := by
    intro f fl fn c h1 h2 h3
    by_cases hf : f = 30
    · subst hf
      have e : howA 30 = some (.body {esc := [58]}) := rfl
      rw [e] at h1
      cases h1
      exact fnOk_body (fl := {}) (allOk 30 (by decide)) rfl h2 h3
    · unfold howA at h1
      rw [if_neg hf] at h1
      exact howB_body h1 h2 h3
  prim := by
    intro f p h
    by_cases hf : f = 30
    · subst hf
      have e : howA 30 = some (.body {esc := [58]}) := rfl
      rw [e] at h
      cases h
    · unfold howA at h
      rw [if_neg hf] at h
      exact absurd h howB_prim }
theorem howOk : HowOk Try.prog how := {
  body := by
    intro f fl fn c h1 h2 h3
    unfold how at h1
    by_cases h8 : f = 8
    · rw [if_pos h8] at h1; cases h1
    rw [if_neg h8] at h1
    unfold how1 at h1
    by_cases h30 : f = 30
    · rw [if_pos h30] at h1; cases h1
    rw [if_neg h30] at h1
    by_cases h32 : f = 32
    · rw [if_pos h32] at h1; cases h1
    rw [if_neg h32] at h1
    exact howB_body h1 h2 h3
  prim := by
    intro f p h
    unfold how at h
    by_cases h8 : f = 8
    · rw [if_pos h8] at h
      cases h
      rw [h8]
      exact promE_ok hm howA_ok ⟨Try.f8, Try.func8, by kernel_rfl, by kernel_rfl⟩
    rw [if_neg h8] at h
    unfold how1 at h
    by_cases h30 : f = 30
    · rw [if_pos h30] at h
      cases h
      rw [h30]
      exact Ldr.lead_ok hm
    rw [if_neg h30] at h
    by_cases h32 : f = 32
    · rw [if_pos h32] at h
      cases h
      rw [h32]
      exact orP_ok (sorted_prim (kindI_ok Try.underlying3) Try.sortedCon) (sorted_prim (kindI_ok Try.underlying3) Try.sortedConB)
    rw [if_neg h32] at h
    exact absurd h howB_prim }
open Go.ChangeShapes Go.WideShapes Go.ChangeAt Go.RowKit
theorem own : ownKnob Try.prog.godebug = none := by kernel_rfl
theorem laidOut : laidOutB Try.prog = true := by kernel_rfl
theorem u64_wf {i : Int} (h : (Lit.int .u64 i).wf = true) : 0 ≤ i ∧ i ≤ 18446744073709551615 := by
  simp only [Lit.wf, Bool.and_eq_true, decide_eq_true_eq] at h
  exact h
theorem rd_sl {P : Program} {σ : AS} {t e sz : Nat} {l : List AV} (h : P.underlying t = some (.slice e)) (hs : sizeA P e = some sz) (hz : 0 < sz) (he : ∀ c ∈ l, partA P e c.cells 0 = some c) : Rd P σ t e (.sl false sz l) l :=
  ⟨by simp [lenA, h], fun k c hk => ⟨.rptr c.cells 0, by unfold indexAddrA; simp [h, hs, hk, hz], by unfold loadA; exact he c (List.mem_of_getElem? hk)⟩⟩
theorem rd_nils {P : Program} {σ : AS} {t e : Nat} (h : P.underlying t = some (.slice e)) : Rd P σ t e .nils [] := ⟨by simp [lenA, h], fun k c hk => by simp at hk⟩
theorem ballot_of {d : Nat} {cs : List AV} (h : hasCs Try.prog (d + 2) 37 cs) : ∃ r n : Int, cs = [.int .u64 r, .int .i64 n] ∧ (0 ≤ r ∧ r ≤ 18446744073709551615) := by
  unfold hasCs at h
  simp only [Try.underlying37, hasFs] at h
  obtain ⟨z0, w0, rfl, g0, z1, w1, rfl, g1, rfl⟩ := h
  unfold hasCs at g0 g1
  simp only [Try.underlying3, Try.underlying25] at g0 g1
  obtain ⟨r, rfl, hr⟩ := g0
  obtain ⟨n, rfl, _⟩ := g1
  exact ⟨r, n, rfl, u64_wf hr⟩
/-- A vote's cells. -/
theorem vote_of {d : Nat} {cs : List AV} (h : hasCs Try.prog (d + 3) 84 cs) : ∃ v : Vt, cs = [.int .i64 v.s, .int .u64 v.r, .int .i64 v.n, .str v.v] := by
  unfold hasCs at h
  simp only [Try.underlying84, hasFs] at h
  obtain ⟨x0, y0, rfl, h0, x1, y1, rfl, h1, x2, y2, rfl, h2, rfl⟩ := h
  obtain ⟨r, n, rfl, _⟩ := ballot_of h1
  unfold hasCs at h0 h2
  simp only [Try.underlying3, Try.underlying9] at h0 h2
  obtain ⟨s, rfl, _⟩ := h0
  obtain ⟨v, rfl, _⟩ := h2
  exact ⟨⟨s, r, n, v⟩, rfl⟩
/-- What a slice of votes is. -/
def IsVs (X : AV) (l : List Vt) : Prop := ((X = .nils ∧ l = []) ∨ X = .sl false 4 (l.map encVt)) ∧ l.length ≤ 9223372036854775807
theorem IsVs.plain {X : AV} {l : List Vt} (h : IsVs X l) : Plain X := by
  rcases h.1 with ⟨rfl, _⟩ | rfl <;> exact ⟨rfl, fun _ => rfl, rfl⟩
theorem IsVs.rd {X : AV} {l : List Vt} (h : IsVs X l) (σ : AS) : Rd Try.prog σ 22 84 X (l.map encVt) := by
  rcases h.1 with ⟨rfl, rfl⟩ | rfl
  · exact rd_nils (by simp)
  · exact rd_sl (by simp) s84 (by decide) fun c hc => by
      obtain ⟨v, _, rfl⟩ := List.mem_map.1 hc
      simp [partA, aggA, isAggD, encVt, AV.cells]
theorem vs_of {d : Nat} {cs : List AV} (h : hasCs Try.prog (d + 4) 22 cs) : ∃ X l, cs = [X] ∧ IsVs X l := by
  unfold hasCs at h
  have hz : Try.prog.cellsOf 84 = 4 := by kernel_rfl
  simp only [Try.underlying22, hz] at h
  rcases h with rfl | ⟨es, rfl, hl, he⟩
  · exact ⟨_, [], rfl, .inl ⟨rfl, rfl⟩, by simp⟩
  · have : ∀ es : List AV, (∀ x ∈ es, ∃ v : Vt, x = encVt v) → ∃ l : List Vt, es = l.map encVt := by
      intro es
      induction es with
      | nil => intro _; exact ⟨[], rfl⟩
      | cons a es ih =>
        intro h
        obtain ⟨v, hv⟩ := h a (List.mem_cons_self ..)
        obtain ⟨l, hl⟩ := ih fun x hx => h x (List.mem_cons_of_mem _ hx)
        exact ⟨v :: l, by rw [hv, hl]; rfl⟩
    obtain ⟨l, rfl⟩ := this es fun x hx => by
      obtain ⟨_, xs, e, hc⟩ := he x hx
      have ha : isAggT Try.prog 84 = true := by kernel_rfl
      simp only [Go.Abs.elemOf, ha, if_true] at e
      obtain ⟨v, rfl⟩ := vote_of hc
      exact ⟨v, e⟩
    exact ⟨_, l, rfl, .inr rfl, by rw [List.length_map] at hl; exact Nat.le_trans hl (by decide)⟩
theorem op_of {cs : List AV} (h : hasCs Try.prog 7 54 cs) : ∃ o : OpV, cs = (encOp o).cells ∧ OpOk o := by
  unfold hasCs at h
  simp only [Try.underlying54, hasFs] at h
  obtain ⟨x0, y0, rfl, h0, x1, y1, rfl, h1, x2, y2, rfl, h2, x3, y3, rfl, h3, x4, y4, rfl, h4, x5, y5, rfl, h5, rfl⟩ := h
  obtain ⟨r, b, rfl, hr⟩ := ballot_of h1
  obtain ⟨X, l, rfl, hX⟩ := vs_of h4
  unfold hasCs at h0 h2 h3 h5
  simp only [Try.underlying3, Try.underlying9] at h0 h2 h3 h5
  obtain ⟨k, rfl, _⟩ := h0
  obtain ⟨n, rfl, _⟩ := h2
  obtain ⟨m, rfl, _⟩ := h3
  obtain ⟨v, rfl, _⟩ := h5
  exact ⟨⟨k, r, b, n, m, X, l, v⟩, rfl, hX.plain, hX.rd, hX.2, hr⟩
theorem ops_of {c : AV} (h : hasT Try.prog 8 51 c) : ∃ l : List OpV, (∀ σ, Rd Try.prog σ 51 54 c (l.map encOp)) ∧ (∀ o ∈ l, OpOk o) ∧ l.length ≤ 9223372036854775807 := by
  obtain ⟨cs, e, h⟩ := h
  have ha : isAggT Try.prog 51 = false := by kernel_rfl
  simp only [Go.Abs.elemOf, ha, Bool.false_eq_true, if_false] at e
  subst e
  unfold hasCs at h
  have hz : Try.prog.cellsOf 54 = 7 := by kernel_rfl
  simp only [Try.underlying51, hz] at h
  rcases h with h | ⟨es, h, hl, he⟩
  · simp only [List.cons.injEq, and_true] at h
    subst h
    exact ⟨[], fun σ => rd_nils (by simp), fun o ho => (by cases ho), by simp⟩
  · simp only [List.cons.injEq, and_true] at h
    subst h
    have : ∀ es : List AV, (∀ x ∈ es, ∃ o : OpV, x = encOp o ∧ OpOk o) → ∃ l : List OpV, es = l.map encOp ∧ ∀ o ∈ l, OpOk o := by
      intro es
      induction es with
      | nil => intro _; exact ⟨[], rfl, fun o ho => by cases ho⟩
      | cons a es ih =>
        intro h
        obtain ⟨v, hv, hv2⟩ := h a (List.mem_cons_self ..)
        obtain ⟨l, hl, hl2⟩ := ih fun x hx => h x (List.mem_cons_of_mem _ hx)
        exact ⟨v :: l, by rw [hv, hl]; rfl, fun o ho => by
          rcases List.mem_cons.1 ho with rfl | ho
          · exact hv2
          · exact hl2 o ho⟩
    obtain ⟨l, rfl, hok⟩ := this es fun x hx => by
      obtain ⟨_, xs, e, hc⟩ := he x hx
      have ha : isAggT Try.prog 54 = true := by kernel_rfl
      simp only [Go.Abs.elemOf, ha, if_true] at e
      obtain ⟨o, rfl, ho⟩ := op_of hc
      exact ⟨o, e, ho⟩
    exact ⟨l, fun σ => rd_sl (by simp) s54 (by decide) (fun c hc => by
      obtain ⟨o, _, rfl⟩ := List.mem_map.1 hc
      simp [partA, aggA, isAggD, encOp, AV.cells]), hok, by rw [List.length_map] at hl; exact Nat.le_trans hl (by decide)⟩
theorem int_of {c : AV} (h : hasT Try.prog 8 3 c) : ∃ n, c = .int .i64 n := by
  obtain ⟨cs, e, h⟩ := h
  have ha : isAggT Try.prog 3 = false := by kernel_rfl
  simp only [Go.Abs.elemOf, ha, Bool.false_eq_true, if_false] at e
  subst e
  unfold hasCs at h
  simp only [Try.underlying3] at h
  obtain ⟨n, e, _⟩ := h
  simp only [List.cons.injEq, and_true] at e
  exact ⟨n, e⟩
theorem vsT_of {c : AV} (h : hasT Try.prog 8 22 c) : ∃ l, IsVs c l := by
  obtain ⟨cs, e, h⟩ := h
  have ha : isAggT Try.prog 22 = false := by kernel_rfl
  simp only [Go.Abs.elemOf, ha, Bool.false_eq_true, if_false] at e
  subst e
  obtain ⟨X, l, e, hX⟩ := vs_of (d := 4) h
  simp only [List.cons.injEq, and_true] at e
  subst e
  exact ⟨l, hX⟩
end Go.Proofs.Ytidfkjpcpgeilaa
