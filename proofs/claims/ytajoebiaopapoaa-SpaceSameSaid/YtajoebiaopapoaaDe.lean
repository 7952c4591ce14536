/- What the interpreter asks of each function; what the arguments are. -/
import Derived.Test.YtajoebiaopapoaaDb
import Derived.Test.YtajoebiaopapoaaDd
import Derived.Test.YtajoebiaopapoaaRows
open Go Go.Abs Go.Proofs
set_option maxRecDepth 100000
set_option maxHeartbeats 4000000
set_option linter.unusedSimpArgs false
set_option linter.unusedVariables false
namespace Go.Proofs.Ytajoebiaopapoaa
/-- What a function's text asks of the interpreter. -/
def fnOk (P : Program) (how : FuncId → Option How) (f : Nat) : Bool :=
  match how f with
  | some (.body fl) => match P.funcs[f]? with
    | some fn => match fn.body with
      | some c => codeOk P fl.tails c && !(fn.name == "runtime.NumGoroutine")
      | none => true
    | none => true
  | _ => true
theorem fnOk_body {P : Program} {how : FuncId → Option How} {f : Nat} (h : fnOk P how f = true) {fl : Flags} {fn : Func} {c : Code} (h1 : how f = some (.body fl)) (h2 : P.funcs[f]? = some fn) (h3 : fn.body = some c) : codeOk P fl.tails c = true ∧ (fn.name == "runtime.NumGoroutine") = false := by
  unfold fnOk at h
  rw [h1] at h
  simp only [h2, h3] at h
  simpa using h
theorem allOk : ∀ f, f < 86 → fnOk Try.prog how f = true := by
  have h : (List.range 86).all (fnOk Try.prog how) = true := by kernel_rfl
  intro f hf
  exact List.all_eq_true.1 h f (List.mem_range.2 hf)
theorem howHigh (f : Nat) (hf : ¬ f < 86) : how f = none := by
  unfold how
  rw [if_neg (fun e => hf (by rw [e]; decide)), if_neg (fun e => hf (by rw [e]; decide))]
  have h : bodyTab.find? (fun p => p.1 == f) = none := by
    rw [List.find?_eq_none]
    intro p hp
    have h1 : (bodyTab.all fun p => decide (p.1 < 86)) = true := by decide
    have := List.all_eq_true.1 h1 p hp
    simp only [decide_eq_true_eq] at this
    simp only [beq_iff_eq]
    omega
  rw [h]
  simp only
  rw [if_neg (fun h => hf (by simp only [Bool.and_eq_true, decide_eq_true_eq] at h; exact h.1))]
theorem hm : Try.prog.follows .mixedOrders = true := by kernel_rfl
theorem how65Ok : HowOk Try.prog how65 := {
  body := by
    intro f fl fn c h1 h2 h3
    unfold how65 at h1
    by_cases hf : f = 65
    · rw [if_pos hf] at h1
      cases h1
      subst hf
      have h : fnOk Try.prog how65 65 = true := by kernel_rfl
      exact fnOk_body h rfl h2 h3
    · rw [if_neg hf] at h1
      cases h1
  prim := by
    intro f p h
    unfold how65 at h
    split at h <;> cases h }
theorem howOk : HowOk Try.prog how := {
  body := by
    intro f fl fn c h1 h2 h3
    by_cases hf : f < 86
    · exact fnOk_body (allOk f hf) h1 h2 h3
    · rw [howHigh f hf] at h1; cases h1
  prim := by
    intro f p h
    unfold how at h
    by_cases h33 : f = 33
    · rw [if_pos h33] at h
      cases h
      rw [h33]
      exact sorted_prim (kindS_ok Try.underlying9) Try.sortedCon
    · rw [if_neg h33] at h
      by_cases h65 : f = 65
      · rw [if_pos h65] at h
        cases h
        rw [h65]
        exact promP_ok hm how65Ok ⟨_, Try.func65, by kernel_rfl, by kernel_rfl⟩
      · rw [if_neg h65] at h
        split at h
        · cases h
        · split at h
          · cases h
          · cases h }
open Go.ChangeShapes Go.WideShapes Go.ChangeAt Go.RowKit
theorem own : ownKnob Try.prog.godebug = none := by kernel_rfl
theorem laidOut : laidOutB Try.prog = true := by kernel_rfl
theorem len_ok {s : ByteArray} (h : s.size ≤ maxLen) : s.size ≤ 9223372036854775807 := Nat.le_trans h (by decide)
theorem op_of {cs : List AV} (h : hasCs Try.prog 5 30 cs) : ∃ (c0 oa : Int) (ok_ ov : ByteArray) (og : Bool), cs = [.int .i64 c0, .str ok_, .int .i64 oa, .str ov, .bool og] ∧ ok_.size ≤ 9223372036854775807 ∧ ov.size ≤ 9223372036854775807 := by
  unfold hasCs at h
  simp only [Try.underlying30, hasFs] at h
  obtain ⟨x0, y0, rfl, h0, x1, y1, rfl, h1, x2, y2, rfl, h2, x3, y3, rfl, h3, x4, y4, rfl, h4, rfl⟩ := h
  unfold hasCs at h0 h1 h2 h3 h4
  simp only [Try.underlying3, Try.underlying9, Try.underlying4] at h0 h1 h2 h3 h4
  obtain ⟨c0, rfl, _⟩ := h0
  obtain ⟨k, rfl, hk⟩ := h1
  obtain ⟨a, rfl, _⟩ := h2
  obtain ⟨v, rfl, hv⟩ := h3
  obtain ⟨g, rfl⟩ := h4
  exact ⟨c0, a, k, v, g, rfl, len_ok hk, len_ok hv⟩
theorem ops_of {c : AV} (h : hasT Try.prog 6 22 c) : isOps c := by
  obtain ⟨cs, e, h⟩ := h
  have ha : isAggT Try.prog 22 = false := by kernel_rfl
  simp only [Go.Abs.elemOf, ha, Bool.false_eq_true, if_false] at e
  subst e
  unfold hasCs at h
  have hz : Try.prog.cellsOf 30 = 5 := by kernel_rfl
  simp only [Try.underlying22, hz] at h
  rcases h with h | ⟨es, h, hl, he⟩
  · simp only [List.cons.injEq, and_true] at h
    exact .inl h
  · simp only [List.cons.injEq, and_true] at h
    subst h
    refine .inr ⟨es, rfl, Nat.le_trans hl (by decide), fun x hx => ?_⟩
    obtain ⟨_, xs, e, hc⟩ := he x hx
    have ha : isAggT Try.prog 30 = true := by kernel_rfl
    simp only [Go.Abs.elemOf, ha, if_true] at e
    obtain ⟨c0, a, k, v, g, rfl, hk, hv⟩ := op_of hc
    exact ⟨c0, a, k, v, g, e, hk, hv⟩
theorem op1_of {c : AV} (h : hasT Try.prog 6 30 c) : isOp c := by
  obtain ⟨cs, e, h⟩ := h
  have ha : isAggT Try.prog 30 = true := by kernel_rfl
  simp only [Go.Abs.elemOf, ha, if_true] at e
  have h5 : hasCs Try.prog 5 30 cs := by
    unfold hasCs at h ⊢
    simp only [Try.underlying30, hasFs] at h ⊢
    obtain ⟨x0, y0, e0, h0, x1, y1, e1, h1, x2, y2, e2, h2, x3, y3, e3, h3, x4, y4, e4, h4, e5⟩ := h
    unfold hasCs at h0 h1 h2 h3 h4
    simp only [Try.underlying3, Try.underlying9, Try.underlying4] at h0 h1 h2 h3 h4
    refine ⟨x0, y0, e0, ?_, x1, y1, e1, ?_, x2, y2, e2, ?_, x3, y3, e3, ?_, x4, y4, e4, ?_, e5⟩ <;> unfold hasCs <;> simp only [Try.underlying3, Try.underlying9, Try.underlying4] <;> assumption
  obtain ⟨c0, a, k, v, g, rfl, hk, hv⟩ := op_of h5
  exact ⟨c0, a, k, v, g, e, hk, hv⟩
theorem int_of {c : AV} (h : hasT Try.prog 6 3 c) : ∃ n, c = .int .i64 n := by
  obtain ⟨cs, e, h⟩ := h
  have ha : isAggT Try.prog 3 = false := by kernel_rfl
  simp only [Go.Abs.elemOf, ha, Bool.false_eq_true, if_false] at e
  subst e
  unfold hasCs at h
  simp only [Try.underlying3] at h
  obtain ⟨n, e, _⟩ := h
  simp only [List.cons.injEq, and_true] at e
  exact ⟨n, e⟩
theorem str_of {c : AV} (h : hasT Try.prog 6 9 c) : ∃ s, c = .str s := by
  obtain ⟨cs, e, h⟩ := h
  have ha : isAggT Try.prog 9 = false := by kernel_rfl
  simp only [Go.Abs.elemOf, ha, Bool.false_eq_true, if_false] at e
  subst e
  unfold hasCs at h
  simp only [Try.underlying9] at h
  obtain ⟨n, e, _⟩ := h
  simp only [List.cons.injEq, and_true] at e
  exact ⟨n, e⟩
end Go.Proofs.Ytajoebiaopapoaa
