/- What the interpreter asks of each function; what the arguments are; the row. -/

import Derived.Test.YtcafckfmhoklkaaDd
import Derived.Test.YtcafckfmhoklkaaRows
open Go Go.Abs Go.Proofs
set_option maxRecDepth 100000
set_option maxHeartbeats 4000000
set_option linter.unusedSimpArgs false
set_option linter.unusedVariables false
namespace Go.Proofs.Ytcafckfmhoklkaa
/-- What a function's text asks of the interpreter. -/
def fnOk (P : Program) (how : FuncId → Option How) (f : Nat) : Bool :=
  match how f with
  | some (.body fl) => match P.funcs[f]? with
    | some fn => match fn.body with
      | some c => codeOk P fl.tails c && !(fn.name == "runtime.NumGoroutine")
      | none => true
    | none => true
  | _ => true
theorem fnOk_body {P : Program} {how : FuncId → Option How} {f : Nat} (h : fnOk P how f = true) {fl : Flags} {fn : Func} {c : Code} (h1 : how f = some (.body fl)) (h2 : P.funcs[f]? = some fn) (h3 : fn.body = some c) : codeOk P fl.tails c = true ∧ (fn.name == "runtime.NumGoroutine") = false := by
  unfold fnOk at h
  rw [h1] at h
  simp only [h2, h3] at h
  simpa using h
theorem allOk : ∀ f, f < 46 → fnOk Try.prog how f = true := by
  have h : (List.range 46).all (fnOk Try.prog how) = true := by kernel_rfl
  intro f hf
  exact List.all_eq_true.1 h f (List.mem_range.2 hf)
theorem howHigh (f : Nat) (hf : ¬ f < 46) : how f = none := by
  unfold how
  have h : bodyTab.find? (fun p => p.1 == f) = none := by
    rw [List.find?_eq_none]
    intro p hp
    have h1 : (bodyTab.all fun p => decide (p.1 < 46)) = true := by decide
    have := List.all_eq_true.1 h1 p hp
    simp only [decide_eq_true_eq] at this
    simp only [beq_iff_eq]
    omega
  rw [h]
  simp only
  rw [if_neg (fun h => hf (by simp only [Bool.and_eq_true, decide_eq_true_eq] at h; exact h.1))]
theorem hm : Try.prog.follows .mixedOrders = true := by kernel_rfl
theorem howOk : HowOk Try.prog how := {
  body := by
    intro f fl fn c h1 h2 h3
    by_cases hf : f < 46
    · exact fnOk_body (allOk f hf) h1 h2 h3
    · rw [howHigh f hf] at h1; cases h1
  prim := by
    intro f p h
    unfold how at h
    split at h
    · cases h
    · split at h
      · cases h
      · cases h }
open Go.ChangeShapes Go.WideShapes Go.ChangeAt Go.RowKit
theorem own : ownKnob Try.prog.godebug = none := by kernel_rfl
theorem laidOut : laidOutB Try.prog = true := by kernel_rfl
theorem len_ok {n : Nat} (h : n ≤ maxLen) : n ≤ 9223372036854775807 := Nat.le_trans h (by decide)
theorem all_enc {α : Type} {f : α → AV} {p : α → Prop} : ∀ {es : List AV}, (∀ e ∈ es, ∃ a, e = f a ∧ p a) → ∃ l : List α, es = l.map f ∧ ∀ a ∈ l, p a
  | [], _ => ⟨[], rfl, fun a h => by cases h⟩
  | e :: es, h => by
    obtain ⟨a, rfl, ha⟩ := h e (List.mem_cons_self ..)
    obtain ⟨l, rfl, hl⟩ := all_enc (f := f) (p := p) (es := es) fun e he => h e (List.mem_cons_of_mem _ he)
    refine ⟨a :: l, rfl, fun b hb => ?_⟩
    rcases List.mem_cons.1 hb with rfl | hb
    · exact ha
    · exact hl b hb
theorem rds_of {n : Nat} {cs : List AV} (h : hasCs Try.prog (n + 3) 29 cs) : ∃ X rs, cs = [X] ∧ SlOf 2 X (rs.map encRd) ∧ rs.length ≤ 9223372036854775807 ∧ RdsOk rs := by
  unfold hasCs at h
  have hz : Try.prog.cellsOf 55 = 2 := by kernel_rfl
  simp only [Try.underlying29, hz] at h
  rcases h with rfl | ⟨es, rfl, hl, he⟩
  · exact ⟨_, [], rfl, .inl ⟨rfl, rfl⟩, by simp, fun r hr => by cases hr⟩
  · have h2 : ∀ e ∈ es, ∃ r : RdI, e = encRd r ∧ r.1.size ≤ 9223372036854775807 := by
      intro x hx
      obtain ⟨_, xs, e, hc⟩ := he x hx
      have ha : isAggT Try.prog 55 = true := by kernel_rfl
      simp only [Go.Abs.elemOf, ha, if_true] at e
      unfold hasCs at hc
      simp only [Try.underlying55, hasFs] at hc
      obtain ⟨x0, y0, rfl, h0, x1, y1, rfl, h1, rfl⟩ := hc
      unfold hasCs at h0 h1
      simp only [Try.underlying9, Try.underlying39] at h0 h1
      obtain ⟨k, rfl, hk⟩ := h0
      obtain ⟨m, rfl, _⟩ := h1
      exact ⟨(k, m), e, len_ok hk⟩
    obtain ⟨rs, rfl, hr⟩ := all_enc h2
    exact ⟨_, rs, rfl, .inr rfl, by rw [List.length_map] at hl; exact len_ok hl, hr⟩
theorem wrs_of {n : Nat} {cs : List AV} (h : hasCs Try.prog (n + 3) 30 cs) : ∃ X ws, cs = [X] ∧ SlOf 3 X (ws.map encWr) ∧ ws.length ≤ 9223372036854775807 ∧ WrsOk ws := by
  unfold hasCs at h
  have hz : Try.prog.cellsOf 76 = 3 := by kernel_rfl
  simp only [Try.underlying30, hz] at h
  rcases h with rfl | ⟨es, rfl, hl, he⟩
  · exact ⟨_, [], rfl, .inl ⟨rfl, rfl⟩, by simp, fun r hr => by cases hr⟩
  · have h2 : ∀ e ∈ es, ∃ r : WrI, e = encWr r ∧ (r.1.size ≤ 9223372036854775807 ∧ r.2.1.size ≤ 9223372036854775807) := by
      intro x hx
      obtain ⟨_, xs, e, hc⟩ := he x hx
      have ha : isAggT Try.prog 76 = true := by kernel_rfl
      simp only [Go.Abs.elemOf, ha, if_true] at e
      unfold hasCs at hc
      simp only [Try.underlying76, hasFs] at hc
      obtain ⟨x0, y0, rfl, h0, x1, y1, rfl, h1, x2, y2, rfl, h2, rfl⟩ := hc
      unfold hasCs at h0 h1 h2
      simp only [Try.underlying9, Try.underlying4] at h0 h1 h2
      obtain ⟨k, rfl, hk⟩ := h0
      obtain ⟨m, rfl, hm⟩ := h1
      obtain ⟨b, rfl⟩ := h2
      exact ⟨(k, m, b), e, len_ok hk, len_ok hm⟩
    obtain ⟨ws, rfl, hr⟩ := all_enc h2
    exact ⟨_, ws, rfl, .inr rfl, by rw [List.length_map] at hl; exact len_ok hl, hr⟩
theorem opM_of {cs : List AV} {e : AV} (h : hasCs Try.prog 5 32 cs) (he : e = .agg cs) : isOpM e := by
  subst he
  unfold hasCs at h
  simp only [Try.underlying32, hasFs] at h
  obtain ⟨x0, y0, rfl, h0, x1, y1, rfl, h1, x2, y2, rfl, h2, x3, y3, rfl, h3, x4, y4, rfl, h4, rfl⟩ := h
  obtain ⟨X, rs, rfl, hX, hl1, ho1⟩ := rds_of (n := 1) h3
  obtain ⟨Y, ws, rfl, hY, hl2, ho2⟩ := wrs_of (n := 1) h4
  unfold hasCs at h0 h1 h2
  simp only [Try.underlying3, Try.underlying9] at h0 h1 h2
  obtain ⟨c0, rfl, _⟩ := h0
  obtain ⟨k, rfl, hk⟩ := h1
  obtain ⟨v, rfl, hv⟩ := h2
  exact ⟨c0, k, v, X, Y, rs, ws, rfl, hX, hY, hl1, hl2, len_ok hk, len_ok hv, ho1, ho2⟩
theorem ops_of {c : AV} (h : hasT Try.prog 6 22 c) : isOpsM c := by
  obtain ⟨cs, e, h⟩ := h
  have ha : isAggT Try.prog 22 = false := by kernel_rfl
  simp only [Go.Abs.elemOf, ha, Bool.false_eq_true, if_false] at e
  subst e
  unfold hasCs at h
  have hz : Try.prog.cellsOf 32 = 5 := by kernel_rfl
  simp only [Try.underlying22, hz] at h
  rcases h with h | ⟨es, h, hl, he⟩
  · simp only [List.cons.injEq, and_true] at h
    exact .inl h
  · simp only [List.cons.injEq, and_true] at h
    subst h
    refine .inr ⟨es, rfl, Nat.le_trans hl (by decide), fun x hx => ?_⟩
    obtain ⟨_, xs, e, hc⟩ := he x hx
    have ha : isAggT Try.prog 32 = true := by kernel_rfl
    simp only [Go.Abs.elemOf, ha, if_true] at e
    exact opM_of hc e
theorem at_of {c : AV} (h : hasT Try.prog 6 23 c) : ∃ n, c = .int .u16 n ∧ 0 ≤ n ∧ n ≤ 65535 := by
  obtain ⟨cs, e, h⟩ := h
  have ha : isAggT Try.prog 23 = false := by kernel_rfl
  simp only [Go.Abs.elemOf, ha, Bool.false_eq_true, if_false] at e
  subst e
  unfold hasCs at h
  simp only [Try.underlying23] at h
  obtain ⟨n, e, hw⟩ := h
  simp only [List.cons.injEq, and_true] at e
  refine ⟨n, e, ?_⟩
  have h1 : IntKind.u16.min = 0 := by decide
  have h2 : IntKind.u16.max = 65535 := by decide
  have h3 : IntKind.u16.min ≤ n ∧ n ≤ IntKind.u16.max := by simpa [Lit.wf] using hw
  rw [h1, h2] at h3
  exact h3
theorem shape3 : shapeOk Try.prog 6 Try.f3 = true := by kernel_rfl
theorem modelServes_lifted (os : Os) (started : os.Started) (H : Type) (enc : TypeId × Value → H) :
    ReturnsInHanded {} Try.checked os 3 .any (Rows.modelServesSpec.pre6 enc Try.prog Try.f3 Rows.modelServesRow.domain false) (Rows.modelServesSpec.post enc Try.prog Try.f3 false true false false) := by
  refine law_lifted hm howOk 6 os started own (by kernel_rfl) Try.func3 laidOut shape3 rfl ?_ ?_ ?_
  · intro H ds h
    match ds, h with
    | [d0, d1], _ => rfl
  · exact ChangeSpec.witness6 (enc := enc) (C := Try.checked) false ⟨#[], #[.slice none 0 0, .int .u16 0], []⟩ 8 (by kernel_rfl) (by kernel_rfl) (by kernel_rfl) (by kernel_rfl)
  · intro cs h
    rw [show Try.f3.params.toList = [22, 23] by rw [Try.params3]] at h
    obtain ⟨c0, q0, rfl, k0, h⟩ := h
    obtain ⟨c1, q1, rfl, k1, h⟩ := h
    subst h
    obtain ⟨n, rfl, hn⟩ := at_of k1
    obtain ⟨σ', e⟩ := F3.ok c0 n (ops_of k0) hn
    obtain ⟨m, e⟩ := callW_inv e
    exact ⟨m, _, e⟩
theorem modelServes_holds : Rows.ModelServesSaid :=
  OpenClaim.holds_of_wide 3 Try.f3 rfl rfl rfl rfl rfl rfl rfl ⟨rfl, rfl, rfl, rfl, rfl⟩ rfl rfl rfl rfl rfl (by kernel_rfl) Try.func3 (by kernel_rfl)
    (of_decide_eq_true (by kernel_rfl)) (by unfold Func.isWrapper; first | (rw [if_pos (by decide +kernel)]; kernel_rfl) | (rw [if_neg (by decide +kernel)]; exact ⟨rfl, rfl⟩))
    (fun os started H enc _ => modelServes_lifted os started H enc)
#print axioms modelServes_holds
end Go.Proofs.Ytcafckfmhoklkaa
