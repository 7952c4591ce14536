/- LeadPlays: it is so of every lead that plays. -/
import Derived.Test.YtidfkjpcpgeilaaH2
open Go Go.Abs Go.Proofs
set_option maxRecDepth 100000
set_option maxHeartbeats 4000000
namespace Go.Proofs.Ytidfkjpcpgeilaa
open Go.ChangeShapes Go.WideShapes Go.ChangeAt Go.RowKit
theorem shape4 : shapeOk Try.prog 8 Try.f4 = true := by kernel_rfl
theorem leadPlays_lifted (os : Os) (started : os.Started) (H : Type) (enc : TypeId × Value → H) :
    ReturnsInHanded {} Try.checked os 4 .any (Rows.leadPlaysSpec.pre6 enc Try.prog Try.f4 Rows.leadPlaysRow.domain false) (Rows.leadPlaysSpec.post enc Try.prog Try.f4 false true false false) := by
  refine law_lifted hm howOk 8 os started own (by kernel_rfl) Try.func4 laidOut shape4 rfl ?_ ?_ ?_
  · intro H ds h
    match ds, h with
    | [d0, d1, d2], _ => rfl
  · exact ChangeSpec.witness6 (enc := enc) (C := Try.checked) false ⟨#[], #[.int .i64 0, .int .i64 0, .slice none 0 0], []⟩ 8 (by kernel_rfl) (by kernel_rfl) (by kernel_rfl) (by kernel_rfl)
  · intro cs h
    rw [show Try.f4.params.toList = [3, 3, 51] by rw [Try.params4]] at h
    obtain ⟨c0, q0, rfl, k0, h⟩ := h
    obtain ⟨c1, q1, rfl, k1, h⟩ := h
    obtain ⟨c2, q2, rfl, k2, h⟩ := h
    subst h
    obtain ⟨me, rfl⟩ := int_of k0
    obtain ⟨n, rfl⟩ := int_of k1
    obtain ⟨l, h1, h2, h3⟩ := ops_of k2
    obtain ⟨σ', e⟩ := LPlays.ok [] [] me n c2 l h1 h2 h3
    obtain ⟨m, e⟩ := callW_inv e
    exact ⟨m, _, e⟩
theorem leadPlays_holds : Rows.LeadPlaysSaid :=
  OpenClaim.holds_of_wide 4 Try.f4 rfl rfl rfl rfl rfl rfl rfl ⟨rfl, rfl, rfl, rfl, rfl⟩ rfl rfl rfl rfl rfl (by kernel_rfl) Try.func4 (by kernel_rfl)
    (of_decide_eq_true (by kernel_rfl)) (by unfold Func.isWrapper; first | (rw [if_pos (by decide +kernel)]; kernel_rfl) | (rw [if_neg (by decide +kernel)]; exact ⟨rfl, rfl⟩))
    (fun os started H enc _ => leadPlays_lifted os started H enc)
#print axioms leadPlays_holds
end Go.Proofs.Ytidfkjpcpgeilaa
