/- LeadTakes: it is so of every two nodes' votes. -/

import Derived.Test.YtidfkjpcpgeilaaH2
import Derived.Test.YtidfkjpcpgeilaaF17
open Go Go.Abs Go.Proofs
set_option maxRecDepth 100000
set_option maxHeartbeats 4000000
namespace Go.Proofs.Ytidfkjpcpgeilaa
theorem shape3 : shapeOk Try.prog 8 Try.f3 = true := by kernel_rfl
theorem leadTakes_lifted (os : Os) (started : os.Started) (H : Type) (enc : TypeId × Value → H) :
    ReturnsInHanded {} Try.checked os 3 .any (Rows.leadTakesSpec.pre6 enc Try.prog Try.f3 Rows.leadTakesRow.domain false) (Rows.leadTakesSpec.post enc Try.prog Try.f3 false true false false) := by
  refine law_lifted hm howOk 8 os started own (by kernel_rfl) Try.func3 laidOut shape3 rfl ?_ ?_ ?_
  · intro H ds h
    match ds, h with
    | [d0, d1, d2], _ => rfl
  · exact ChangeSpec.witness6 (enc := enc) (C := Try.checked) false ⟨#[], #[.slice none 0 0, .slice none 0 0, .int .i64 0], []⟩ 8 (by kernel_rfl) (by kernel_rfl) (by kernel_rfl) (by kernel_rfl)
  · intro cs h
    rw [show Try.f3.params.toList = [22, 22, 3] by rw [Try.params3]] at h
    obtain ⟨c0, q0, rfl, k0, h⟩ := h
    obtain ⟨c1, q1, rfl, k1, h⟩ := h
    obtain ⟨c2, q2, rfl, k2, h⟩ := h
    subst h
    obtain ⟨l1, h1⟩ := vsT_of k0
    obtain ⟨l2, h2⟩ := vsT_of k1
    obtain ⟨n, rfl⟩ := int_of k2
    obtain ⟨σ', e⟩ := LTakes.ok [] [] c0 c1 l1 l2 n h1.rd h1.2 h2.rd h2.2
    obtain ⟨m, e⟩ := callW_inv e
    exact ⟨m, _, e⟩
theorem leadTakes_holds : Rows.LeadTakesSaid :=
  OpenClaim.holds_of_wide 3 Try.f3 rfl rfl rfl rfl rfl rfl rfl ⟨rfl, rfl, rfl, rfl, rfl⟩ rfl rfl rfl rfl rfl (by kernel_rfl) Try.func3 (by kernel_rfl)
    (of_decide_eq_true (by kernel_rfl)) (by unfold Func.isWrapper; first | (rw [if_pos (by decide +kernel)]; kernel_rfl) | (rw [if_neg (by decide +kernel)]; exact ⟨rfl, rfl⟩))
    (fun os started H enc _ => leadTakes_lifted os started H enc)
#print axioms leadTakes_holds
end Go.Proofs.Ytidfkjpcpgeilaa
