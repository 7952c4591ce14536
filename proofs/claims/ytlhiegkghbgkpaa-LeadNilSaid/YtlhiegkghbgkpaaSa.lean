/- It is proved that a lead that is not there does nothing, for every ballot and value; there is no condition. -/
import Derived.Test.YtlhiegkghbgkpaaAbs42
import Derived.Test.YtlhiegkghbgkpaaRows
open Go Go.Abs Go.Proofs
set_option maxRecDepth 100000
set_option maxHeartbeats 4000000
set_option linter.unusedSimpArgs false
set_option linter.unusedVariables false
namespace Go.Proofs.Ytlhiegkghbgkpaa
def bodyTab : List (Nat × Flags) := [(5, {}), (7, { esc := [12] }), (8, { esc := [46, 47], tails := [2000005, 2000008] }), (9, {}), (11, { tails := [2000001, 2000007, 2000008, 2000009, 2000011] }), (13, { tails := [2000007] }), (14, {}), (17, {}), (19, {}), (20, {}), (21, { esc := [37] }), (22, { tails := [2000001, 2000007] }), (23, { tails := [2000001] }), (26, {}), (28, {}), (29, {}), (30, {}), (31, {}), (32, {}), (33, { esc := [58], tails := [2000008] }), (46, {}), (47, {})]
def bodyHow (f : FuncId) : Option How := (bodyTab.find? fun p => p.1 == f).map fun p => How.body p.2
def how : FuncId → Option How := fun f => bodyHow f
/-- What a function's text asks of the interpreter. -/
def fnOk (P : Program) (how : FuncId → Option How) (f : Nat) : Bool :=
  match how f with
  | some (.body fl) => match P.funcs[f]? with
    | some fn => match fn.body with
      | some c => codeOk P fl.tails c && !(fn.name == "runtime.NumGoroutine")
      | none => true
    | none => true
  | _ => true
theorem fnOk_body {P : Program} {how : FuncId → Option How} {f : Nat} (h : fnOk P how f = true) {fl : Flags} {fn : Func} {c : Code} (h1 : how f = some (.body fl)) (h2 : P.funcs[f]? = some fn) (h3 : fn.body = some c) : codeOk P fl.tails c = true ∧ (fn.name == "runtime.NumGoroutine") = false := by
  unfold fnOk at h
  rw [h1] at h
  simp only [h2, h3] at h
  simpa using h
theorem allOk : ∀ f, f < 49 → fnOk Try.prog bodyHow f = true := by
  have h : (List.range 49).all (fnOk Try.prog bodyHow) = true := by kernel_rfl
  intro f hf
  exact List.all_eq_true.1 h f (List.mem_range.2 hf)
theorem tabLow : (bodyTab.all fun p => decide (p.1 < 49)) = true := by decide
theorem bodyHow_low {f : FuncId} {x : How} (h : bodyHow f = some x) : f < 49 := by
  unfold bodyHow at h
  obtain ⟨p, hp, _⟩ := Option.map_eq_some_iff.1 h
  have h1 := List.all_eq_true.1 tabLow p (List.mem_of_find?_eq_some hp)
  have h2 := List.find?_some hp
  simp only [beq_iff_eq] at h2
  rw [← h2]
  simpa using h1
theorem bodyHow_body {f : FuncId} {p : List AV → AS → Option Nat → Option (AV × AS)} : bodyHow f ≠ some (.prim p) := by
  unfold bodyHow
  intro h
  obtain ⟨p, _, h1⟩ := Option.map_eq_some_iff.1 h
  cases h1
theorem howOk : HowOk Try.prog how := {
  body := by
    intro f fl fn c h1 h2 h3
    unfold how at h1
    exact fnOk_body (allOk f (bodyHow_low h1)) h1 h2 h3
  prim := by
    intro f p h
    unfold how at h
    exact absurd h bodyHow_body }
theorem hm : Try.prog.follows .mixedOrders = true := by kernel_rfl
def isSl (x : AV) : Prop := x = .nils ∨ ∃ sz es, x = .sl false sz es
theorem isSl_of {cs : List AV} {sz : Nat} {Q : AV → Prop} (h : cs = [.nils] ∨ ∃ es, cs = [.sl false sz es] ∧ es.length ≤ maxLen ∧ ∀ x ∈ es, Q x) : ∃ x, cs = [x] ∧ isSl x := by
  rcases h with h | ⟨es, h, _⟩
  · exact ⟨_, h, .inl rfl⟩
  · exact ⟨_, h, .inr ⟨sz, es, rfl⟩⟩
theorem arg0 {c : AV} (h : hasT Try.prog 3 37 c) : ∃ (n7 : Int) (n8 : Int), c = .agg [.int .u64 n7, .int .i64 n8] := by
  obtain ⟨cs, e, h⟩ := h
  have ha : isAggT Try.prog 37 = true := by kernel_rfl
  simp only [Go.Abs.elemOf, ha, if_true] at e
  subst e
  unfold hasCs at h
  simp only [Try.underlying37, hasFs] at h
  obtain ⟨x1, y2, rfl, h3, x4, y5, rfl, h6, rfl⟩ := h
  unfold hasCs at h3
  simp only [Try.underlying25] at h3
  obtain ⟨n7, rfl, _⟩ := h3
  unfold hasCs at h6
  simp only [Try.underlying3] at h6
  obtain ⟨n8, rfl, _⟩ := h6
  exact ⟨n7, n8, rfl⟩
theorem arg1 {c : AV} (h : hasT Try.prog 3 9 c) : ∃ (s9 : ByteArray), c = .str s9 := by
  obtain ⟨cs, e, h⟩ := h
  have ha : isAggT Try.prog 9 = false := by kernel_rfl
  simp only [Go.Abs.elemOf, ha, Bool.false_eq_true, if_false] at e
  subst e
  unfold hasCs at h
  simp only [Try.underlying9] at h
  obtain ⟨s9, e0, _⟩ := h
  simp only [List.cons.injEq, and_true] at e0
  exact ⟨s9, e0⟩
theorem run0 (n7 : Int) (n8 : Int) (s9 : ByteArray) : ((callN Try.prog how 40 5 [.agg [.int .u64 n7, .int .i64 n8], .str s9] ⟨[], []⟩ none).map fun x => x.1) = some (.bool true) := by kernel_rfl
open Go.ChangeShapes Go.WideShapes Go.ChangeAt Go.RowKit
theorem own : ownKnob Try.prog.godebug = none := by kernel_rfl
theorem laidOut : laidOutB Try.prog = true := by kernel_rfl
theorem shape : shapeOk Try.prog 3 Try.f5 = true := by kernel_rfl
theorem leadNil_lifted (os : Os) (started : os.Started) (H : Type) (enc : TypeId × Value → H) :
    ReturnsInHanded {} Try.checked os 5 .any (Rows.leadNilSpec.pre6 enc Try.prog Try.f5 Rows.leadNilRow.domain false) (Rows.leadNilSpec.post enc Try.prog Try.f5 false true false false) := by
  refine law_lifted hm howOk 3 os started own (by kernel_rfl) Try.func5 laidOut shape rfl ?_ ?_ ?_
  · intro H ds h
    match ds, h with
    | [d0, d1], _ => rfl
  · exact ChangeSpec.witness6 (enc := enc) (C := Try.checked) false ⟨#[], #[.agg #[.int .u64 0, .int .i64 0], .string ⟨#[]⟩], []⟩ 8 (by kernel_rfl) (by kernel_rfl) (by kernel_rfl) (by kernel_rfl)
  · intro cs h
    rw [show Try.f5.params.toList = [37, 9] by rw [Try.params5]] at h
    obtain ⟨c0, r0, rfl, k0, h⟩ := h
    obtain ⟨n7, n8, rfl⟩ := arg0 k0
    obtain ⟨c1, r1, rfl, k1, h⟩ := h
    obtain ⟨s9, rfl⟩ := arg1 k1
    subst h
    have e := run0 n7 n8 s9
    obtain ⟨⟨v, σ1⟩, e1, e2⟩ := Option.map_eq_some_iff.1 e
    cases e2
    exact ⟨40, _, e1⟩
theorem leadNil_holds : Rows.LeadNilSaid :=
  OpenClaim.holds_of_wide 5 Try.f5 rfl rfl rfl rfl rfl rfl rfl ⟨rfl, rfl, rfl, rfl, rfl⟩ rfl rfl rfl rfl rfl (by kernel_rfl) Try.func5 (by kernel_rfl)
    (of_decide_eq_true (by kernel_rfl)) (by unfold Func.isWrapper; first | (rw [if_pos (by decide +kernel)]; kernel_rfl) | (rw [if_neg (by decide +kernel)]; exact ⟨rfl, rfl⟩))
    (fun os started H enc _ => leadNil_lifted os started H enc)
#print axioms leadNil_holds
end Go.Proofs.Ytlhiegkghbgkpaa
