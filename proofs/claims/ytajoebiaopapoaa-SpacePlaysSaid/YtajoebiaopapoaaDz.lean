/- SpacePlays holds: whatever is put, undone and cleaned, a space answers, and has, what the chapter says; for any calls, any key, any number. -/
import Derived.Test.YtajoebiaopapoaaDe
open Go Go.Abs Go.Proofs
set_option maxRecDepth 100000
set_option maxHeartbeats 4000000
namespace Go.Proofs.Ytajoebiaopapoaa
open Go.ChangeShapes Go.WideShapes Go.ChangeAt Go.RowKit
theorem shape3 : shapeOk Try.prog 6 Try.f3 = true := by kernel_rfl
theorem spacePlays_lifted (os : Os) (started : os.Started) (H : Type) (enc : TypeId × Value → H) :
    ReturnsInHanded {} Try.checked os 3 .any (Rows.spacePlaysSpec.pre6 enc Try.prog Try.f3 Rows.spacePlaysRow.domain false) (Rows.spacePlaysSpec.post enc Try.prog Try.f3 false true false false) := by
  refine law_lifted hm howOk 6 os started own (by kernel_rfl) Try.func3 laidOut shape3 rfl ?_ ?_ ?_
  · intro H ds h
    match ds, h with
    | [d0, d1, d2], _ => rfl
  · exact ChangeSpec.witness6 (enc := enc) (C := Try.checked) false ⟨#[], #[.slice none 0 0, .string ⟨#[]⟩, .int .i64 0], []⟩ 8 (by kernel_rfl) (by kernel_rfl) (by kernel_rfl) (by kernel_rfl)
  · intro cs h
    rw [show Try.f3.params.toList = [22, 9, 3] by rw [Try.params3]] at h
    obtain ⟨c0, q0, rfl, k0, h⟩ := h
    obtain ⟨c1, q1, rfl, k1, h⟩ := h
    obtain ⟨c2, q2, rfl, k2, h⟩ := h
    subst h
    obtain ⟨s, rfl⟩ := str_of k1
    obtain ⟨n, rfl⟩ := int_of k2
    obtain ⟨σ', e⟩ := F3.ok c0 s n (ops_of k0)
    obtain ⟨m, e⟩ := callW_inv e
    exact ⟨m, _, e⟩
theorem spacePlays_holds : Rows.SpacePlaysSaid :=
  OpenClaim.holds_of_wide 3 Try.f3 rfl rfl rfl rfl rfl rfl rfl ⟨rfl, rfl, rfl, rfl, rfl⟩ rfl rfl rfl rfl rfl (by kernel_rfl) Try.func3 (by kernel_rfl)
    (of_decide_eq_true (by kernel_rfl)) (by unfold Func.isWrapper; first | (rw [if_pos (by decide +kernel)]; kernel_rfl) | (rw [if_neg (by decide +kernel)]; exact ⟨rfl, rfl⟩))
    (fun os started H enc _ => spacePlays_lifted os started H enc)
#print axioms spacePlays_holds
end Go.Proofs.Ytajoebiaopapoaa
