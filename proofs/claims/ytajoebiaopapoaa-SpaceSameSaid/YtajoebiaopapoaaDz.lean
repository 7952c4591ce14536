/- SpaceSame holds: two spaces are the same just if their keys and objects are; cleaned, what is read at that number stays; for any calls of both. -/
import Derived.Test.YtajoebiaopapoaaDe
import Derived.Test.YtajoebiaopapoaaDg
open Go Go.Abs Go.Proofs
set_option maxRecDepth 100000
set_option maxHeartbeats 4000000
namespace Go.Proofs.Ytajoebiaopapoaa
open Go.ChangeShapes Go.WideShapes Go.ChangeAt Go.RowKit
theorem shape5 : shapeOk Try.prog 6 Try.f5 = true := by kernel_rfl
theorem spaceSame_lifted (os : Os) (started : os.Started) (H : Type) (enc : TypeId × Value → H) :
    ReturnsInHanded {} Try.checked os 5 .any (Rows.spaceSameSpec.pre6 enc Try.prog Try.f5 Rows.spaceSameRow.domain false) (Rows.spaceSameSpec.post enc Try.prog Try.f5 false true false false) := by
  refine law_lifted hm howOk 6 os started own (by kernel_rfl) Try.func5 laidOut shape5 rfl ?_ ?_ ?_
  · intro H ds h
    match ds, h with
    | [d0, d1], _ => rfl
  · exact ChangeSpec.witness6 (enc := enc) (C := Try.checked) false ⟨#[], #[.slice none 0 0, .slice none 0 0], []⟩ 8 (by kernel_rfl) (by kernel_rfl) (by kernel_rfl) (by kernel_rfl)
  · intro cs h
    rw [show Try.f5.params.toList = [22, 22] by rw [Try.params5]] at h
    obtain ⟨c0, q0, rfl, k0, h⟩ := h
    obtain ⟨c1, q1, rfl, k1, h⟩ := h
    subst h
    obtain ⟨σ', e⟩ := F5.ok c0 c1 (ops_of k0) (ops_of k1)
    obtain ⟨m, e⟩ := callW_inv e
    exact ⟨m, _, e⟩
theorem spaceSame_holds : Rows.SpaceSameSaid :=
  OpenClaim.holds_of_wide 5 Try.f5 rfl rfl rfl rfl rfl rfl rfl ⟨rfl, rfl, rfl, rfl, rfl⟩ rfl rfl rfl rfl rfl (by kernel_rfl) Try.func5 (by kernel_rfl)
    (of_decide_eq_true (by kernel_rfl)) (by unfold Func.isWrapper; first | (rw [if_pos (by decide +kernel)]; kernel_rfl) | (rw [if_neg (by decide +kernel)]; exact ⟨rfl, rfl⟩))
    (fun os started H enc _ => spaceSame_lifted os started H enc)
#print axioms spaceSame_holds
end Go.Proofs.Ytajoebiaopapoaa
