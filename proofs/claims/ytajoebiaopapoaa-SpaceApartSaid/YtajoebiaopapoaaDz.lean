/- SpaceApart holds: what is put under one key changes nothing under another one; for any calls, one more, another key, any number. -/
import Derived.Test.YtajoebiaopapoaaDe
import Derived.Test.YtajoebiaopapoaaDf
open Go Go.Abs Go.Proofs
set_option maxRecDepth 100000
set_option maxHeartbeats 4000000
namespace Go.Proofs.Ytajoebiaopapoaa
open Go.ChangeShapes Go.WideShapes Go.ChangeAt Go.RowKit
theorem shape4 : shapeOk Try.prog 6 Try.f4 = true := by kernel_rfl
theorem spaceApart_lifted (os : Os) (started : os.Started) (H : Type) (enc : TypeId × Value → H) :
    ReturnsInHanded {} Try.checked os 4 .any (Rows.spaceApartSpec.pre6 enc Try.prog Try.f4 Rows.spaceApartRow.domain false) (Rows.spaceApartSpec.post enc Try.prog Try.f4 false true false false) := by
  refine law_lifted hm howOk 6 os started own (by kernel_rfl) Try.func4 laidOut shape4 rfl ?_ ?_ ?_
  · intro H ds h
    match ds, h with
    | [d0, d1, d2, d3], _ => rfl
  · exact ChangeSpec.witness6 (enc := enc) (C := Try.checked) false ⟨#[], #[.slice none 0 0, .agg #[.int .i64 0, .string ⟨#[]⟩, .int .i64 0, .string ⟨#[]⟩, .bool false], .string ⟨#[]⟩, .int .i64 0], []⟩ 8 (by kernel_rfl) (by kernel_rfl) (by kernel_rfl) (by kernel_rfl)
  · intro cs h
    rw [show Try.f4.params.toList = [22, 30, 9, 3] by rw [Try.params4]] at h
    obtain ⟨c0, q0, rfl, k0, h⟩ := h
    obtain ⟨c1, q1, rfl, k1, h⟩ := h
    obtain ⟨c2, q2, rfl, k2, h⟩ := h
    obtain ⟨c3, q3, rfl, k3, h⟩ := h
    subst h
    obtain ⟨s, rfl⟩ := str_of k2
    obtain ⟨n, rfl⟩ := int_of k3
    obtain ⟨σ', e⟩ := F4.ok c0 c1 s n (ops_of k0) (op1_of k1)
    obtain ⟨m, e⟩ := callW_inv e
    exact ⟨m, _, e⟩
theorem spaceApart_holds : Rows.SpaceApartSaid :=
  OpenClaim.holds_of_wide 4 Try.f4 rfl rfl rfl rfl rfl rfl rfl ⟨rfl, rfl, rfl, rfl, rfl⟩ rfl rfl rfl rfl rfl (by kernel_rfl) Try.func4 (by kernel_rfl)
    (of_decide_eq_true (by kernel_rfl)) (by unfold Func.isWrapper; first | (rw [if_pos (by decide +kernel)]; kernel_rfl) | (rw [if_neg (by decide +kernel)]; exact ⟨rfl, rfl⟩))
    (fun os started H enc _ => spaceApart_lifted os started H enc)
#print axioms spaceApart_holds
end Go.Proofs.Ytajoebiaopapoaa
