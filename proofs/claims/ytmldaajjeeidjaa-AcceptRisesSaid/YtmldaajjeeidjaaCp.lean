/- What the interpreter asks of each function; what the arguments are. -/
import Derived.Test.YtmldaajjeeidjaaCm
import Derived.Test.YtmldaajjeeidjaaCo
import Derived.Test.YtmldaajjeeidjaaRows
open Go Go.Abs Go.Proofs
set_option maxRecDepth 100000
set_option maxHeartbeats 4000000
set_option linter.unusedSimpArgs false
set_option linter.unusedVariables false
namespace Go.Proofs.Ytmldaajjeeidjaa
/-- What a function's text asks of the interpreter. -/
def fnOk (P : Program) (how : FuncId → Option How) (f : Nat) : Bool :=
  match how f with
  | some (.body fl) => match P.funcs[f]? with
    | some fn => match fn.body with
      | some c => codeOk P fl.tails c && !(fn.name == "runtime.NumGoroutine")
      | none => true
    | none => true
  | _ => true
theorem fnOk_body {P : Program} {how : FuncId → Option How} {f : Nat} (h : fnOk P how f = true) {fl : Flags} {fn : Func} {c : Code} (h1 : how f = some (.body fl)) (h2 : P.funcs[f]? = some fn) (h3 : fn.body = some c) : codeOk P fl.tails c = true ∧ (fn.name == "runtime.NumGoroutine") = false := by
  unfold fnOk at h
  rw [h1] at h
  simp only [h2, h3] at h
  simpa using h
theorem allOk : ∀ f, f < 27 → fnOk Try.prog how f = true := by
  have h : (List.range 27).all (fnOk Try.prog how) = true := by kernel_rfl
  intro f hf
  exact List.all_eq_true.1 h f (List.mem_range.2 hf)
theorem howHigh (f : Nat) (hf : ¬ f < 27) : how f = none := by
  unfold how
  rw [if_neg (fun e => hf (by rw [e]; decide))]
  have h : bodyTab.find? (fun p => p.1 == f) = none := by
    rw [List.find?_eq_none]
    intro p hp
    have h1 : (bodyTab.all fun p => decide (p.1 < 27)) = true := by decide
    have := List.all_eq_true.1 h1 p hp
    simp only [decide_eq_true_eq] at this
    simp only [beq_iff_eq]
    omega
  rw [h]
  simp only
  rw [if_neg (fun h : f < 25 => hf (Nat.lt_trans h (by decide)))]
theorem howOk : HowOk Try.prog how := {
  body := by
    intro f fl fn c h1 h2 h3
    by_cases hf : f < 27
    · exact fnOk_body (allOk f hf) h1 h2 h3
    · rw [howHigh f hf] at h1; cases h1
  prim := by
    intro f p h
    unfold how at h
    by_cases h25 : f = 25
    · rw [if_pos h25] at h
      cases h
      rw [h25]
      exact sorted_prim (kindI_ok Try.underlying3) Try.sortedCon
    · rw [if_neg h25] at h
      split at h
      · cases h
      · split at h
        · cases h
        · cases h }
theorem hm : Try.prog.follows .mixedOrders = true := by kernel_rfl
open Go.ChangeShapes Go.WideShapes Go.ChangeAt Go.RowKit
theorem own : ownKnob Try.prog.godebug = none := by kernel_rfl
theorem laidOut : laidOutB Try.prog = true := by kernel_rfl
theorem u64_wf {i : Int} (h : (Lit.int .u64 i).wf = true) : 0 ≤ i := by
  simp only [Lit.wf, Bool.and_eq_true, decide_eq_true_eq] at h
  exact h.1
/-- A vote's cells. -/
theorem vote_of {cs : List AV} (h : hasCs Try.prog 4 27 cs) : ∃ v : Vt, cs = [.int .i64 v.s, .int .u64 v.r, .int .i64 v.n, .str v.v] ∧ 0 ≤ v.r := by
  unfold hasCs at h
  simp only [Try.underlying27, hasFs] at h
  obtain ⟨x0, y0, rfl, h0, x1, y1, rfl, h1, x2, y2, rfl, h2, rfl⟩ := h
  unfold hasCs at h0 h1 h2
  simp only [Try.underlying3, Try.underlying25, Try.underlying9, hasFs] at h0 h1 h2
  obtain ⟨s, rfl, _⟩ := h0
  obtain ⟨z0, w0, rfl, g0, z1, w1, rfl, g1, rfl⟩ := h1
  obtain ⟨v, rfl, _⟩ := h2
  unfold hasCs at g0 g1
  simp only [Try.underlying3, Try.underlying23] at g0 g1
  obtain ⟨r, rfl, hr⟩ := g0
  obtain ⟨n, rfl, _⟩ := g1
  exact ⟨⟨s, r, n, v⟩, rfl, u64_wf hr⟩
theorem op_of {cs : List AV} (h : hasCs Try.prog 5 35 cs) : ∃ (c n : Int) (v : Vt), cs = [.int .i64 c, .int .i64 v.s, .int .u64 v.r, .int .i64 v.n, .str v.v, .int .i64 n] ∧ 0 ≤ v.r := by
  unfold hasCs at h
  simp only [Try.underlying35, hasFs] at h
  obtain ⟨x0, y0, rfl, h0, x1, y1, rfl, h1, x2, y2, rfl, h2, rfl⟩ := h
  obtain ⟨v, rfl, hv⟩ := vote_of h1
  unfold hasCs at h0 h2
  simp only [Try.underlying3] at h0 h2
  obtain ⟨c, rfl, _⟩ := h0
  obtain ⟨n, rfl, _⟩ := h2
  exact ⟨c, n, v, rfl, hv⟩
theorem ops_of {c : AV} (h : hasT Try.prog 6 22 c) : F4.isOps c := by
  obtain ⟨cs, e, h⟩ := h
  have ha : isAggT Try.prog 22 = false := by kernel_rfl
  simp only [Go.Abs.elemOf, ha, Bool.false_eq_true, if_false] at e
  subst e
  unfold hasCs at h
  have hz : Try.prog.cellsOf 35 = 6 := by kernel_rfl
  simp only [Try.underlying22, hz] at h
  rcases h with h | ⟨es, h, hl, he⟩
  · simp only [List.cons.injEq, and_true] at h
    exact .inl h
  · simp only [List.cons.injEq, and_true] at h
    subst h
    refine .inr ⟨es, rfl, Nat.le_trans hl (by decide), fun x hx => ?_⟩
    obtain ⟨_, xs, e, hc⟩ := he x hx
    have ha : isAggT Try.prog 35 = true := by kernel_rfl
    simp only [Go.Abs.elemOf, ha, if_true] at e
    obtain ⟨k, n, v, rfl, hv⟩ := op_of hc
    exact ⟨k, n, v, e, hv⟩
theorem int_of {c : AV} (h : hasT Try.prog 6 3 c) : ∃ n, c = .int .i64 n := by
  obtain ⟨cs, e, h⟩ := h
  have ha : isAggT Try.prog 3 = false := by kernel_rfl
  simp only [Go.Abs.elemOf, ha, Bool.false_eq_true, if_false] at e
  subst e
  unfold hasCs at h
  simp only [Try.underlying3] at h
  obtain ⟨n, e, _⟩ := h
  simp only [List.cons.injEq, and_true] at e
  exact ⟨n, e⟩
end Go.Proofs.Ytmldaajjeeidjaa
