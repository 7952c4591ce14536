/- It is proved that a space that is not there has nothing, for every call; there is no condition. -/
import Derived.Test.YtocldohfbpecoaaSb
import Derived.Test.YtocldohfbpecoaaRows
open Go Go.Abs Go.Proofs
set_option maxRecDepth 100000
set_option maxHeartbeats 4000000
set_option linter.unusedSimpArgs false
set_option linter.unusedVariables false
namespace Go.Proofs.Ytocldohfbpecoaa
def how : FuncId → Option How := fun f => if f = 28 then some (.prim (sortedA kindS 49)) else if f = 29 then some (.body { esc := [1] }) else if f = 7 then some (.body { esc := [1, 3] }) else if f < 64 then some (.body {}) else none
/-- What a function's text asks of the interpreter. -/
def fnOk (P : Program) (how : FuncId → Option How) (f : Nat) : Bool :=
  match how f with
  | some (.body fl) => match P.funcs[f]? with
    | some fn => match fn.body with
      | some c => codeOk P fl.tails c && !(fn.name == "runtime.NumGoroutine")
      | none => true
    | none => true
  | _ => true
theorem fnOk_body {P : Program} {how : FuncId → Option How} {f : Nat} (h : fnOk P how f = true) {fl : Flags} {fn : Func} {c : Code} (h1 : how f = some (.body fl)) (h2 : P.funcs[f]? = some fn) (h3 : fn.body = some c) : codeOk P fl.tails c = true ∧ (fn.name == "runtime.NumGoroutine") = false := by
  unfold fnOk at h
  rw [h1] at h
  simp only [h2, h3] at h
  simpa using h
theorem allOk : ∀ f, f < 64 → fnOk Try.prog how f = true := by
  have h : (List.range 64).all (fnOk Try.prog how) = true := by kernel_rfl
  intro f hf
  exact List.all_eq_true.1 h f (List.mem_range.2 hf)
theorem howHigh (f : Nat) (hf : ¬ f < 64) : how f = none := by
  unfold how
  rw [if_neg (fun e => hf (by rw [e]; decide)), if_neg (fun e => hf (by rw [e]; decide)), if_neg (fun e => hf (by rw [e]; decide)), if_neg hf]
theorem howOk : HowOk Try.prog how := {
  body := by
    intro f fl fn c h1 h2 h3
    by_cases hf : f < 64
    · exact fnOk_body (allOk f hf) h1 h2 h3
    · rw [howHigh f hf] at h1; cases h1
  prim := by
    intro f p h
    unfold how at h
    repeat' split at h
    all_goals try (cases h; done)
    rename_i e
    cases h
    rw [e]
    exact sorted_prim (kindS_ok Try.underlying9) Try.sortedCon }
theorem hm : Try.prog.follows .mixedOrders = true := by kernel_rfl
theorem op_of {c : AV} (h : hasT Try.prog 7 30 c) : ∃ (k n : Int) (key val : ByteArray) (gone : Bool), c = .agg [.int .i64 k, .str key, .int .i64 n, .str val, .bool gone] := by
  obtain ⟨cs, e, h⟩ := h
  have ha : isAggT Try.prog 30 = true := by kernel_rfl
  simp only [Go.Abs.elemOf, ha, if_true] at e
  subst e
  unfold hasCs at h
  simp only [Try.underlying30, hasFs] at h
  obtain ⟨x1, y1, rfl, h1, x2, y2, rfl, h2, x3, y3, rfl, h3, x4, y4, rfl, h4, x5, y5, rfl, h5, rfl⟩ := h
  unfold hasCs at h1 h2 h3 h4 h5
  simp only [Try.underlying3, Try.underlying9, Try.underlying4] at h1 h2 h3 h4 h5
  obtain ⟨k, rfl, _⟩ := h1
  obtain ⟨key, rfl, _⟩ := h2
  obtain ⟨n, rfl, _⟩ := h3
  obtain ⟨val, rfl, _⟩ := h4
  obtain ⟨gone, rfl⟩ := h5
  exact ⟨k, n, key, val, gone, rfl⟩
theorem law_run (k n : Int) (key val : ByteArray) (gone : Bool) : ((callN Try.prog how 40 5 [.agg [.int .i64 k, .str key, .int .i64 n, .str val, .bool gone]] ⟨[], []⟩ none).map fun x => x.1) = some (.bool true) := by kernel_rfl
open Go.ChangeShapes Go.WideShapes Go.ChangeAt Go.RowKit
theorem own : ownKnob Try.prog.godebug = none := by kernel_rfl
theorem laidOut : laidOutB Try.prog = true := by kernel_rfl
theorem shape : shapeOk Try.prog 7 Try.f5 = true := by kernel_rfl
theorem spaceNil_lifted (os : Os) (started : os.Started) (H : Type) (enc : TypeId × Value → H) :
    ReturnsInHanded {} Try.checked os 5 .any (Rows.spaceNilSpec.pre6 enc Try.prog Try.f5 Rows.spaceNilRow.domain false) (Rows.spaceNilSpec.post enc Try.prog Try.f5 false true false false) := by
  refine law_lifted hm howOk 7 os started own (by kernel_rfl) Try.func5 laidOut shape rfl ?_ ?_ ?_
  · intro H ds h
    match ds, h with
    | [d], _ => rfl
  · exact ChangeSpec.witness6 (enc := enc) (C := Try.checked) false ⟨#[], #[.agg #[.int .i64 0, .string ⟨#[]⟩, .int .i64 0, .string ⟨#[]⟩, .bool false]], []⟩ 8 (by kernel_rfl) (by kernel_rfl) (by kernel_rfl) (by kernel_rfl)
  · intro cs h
    rw [show Try.f5.params.toList = [30] by rw [Try.params5]] at h
    obtain ⟨c, cs', rfl, h1, rfl⟩ := h
    obtain ⟨k, n, key, val, gone, rfl⟩ := op_of h1
    have e := law_run k n key val gone
    obtain ⟨⟨v, σ'⟩, e1, e2⟩ := Option.map_eq_some_iff.1 e
    cases e2
    exact ⟨40, _, e1⟩
theorem spaceNil_holds : Rows.SpaceNilSaid :=
  OpenClaim.holds_of_wide 5 Try.f5 rfl rfl rfl rfl rfl rfl rfl ⟨rfl, rfl, rfl, rfl, rfl⟩ rfl rfl rfl rfl rfl (by kernel_rfl) Try.func5 (by kernel_rfl)
    (of_decide_eq_true (by kernel_rfl)) (by unfold Func.isWrapper; first | (rw [if_pos (by decide +kernel)]; kernel_rfl) | (rw [if_neg (by decide +kernel)]; exact ⟨rfl, rfl⟩))
    (fun os started H enc _ => spaceNil_lifted os started H enc)
#print axioms spaceNil_holds
end Go.Proofs.Ytocldohfbpecoaa
