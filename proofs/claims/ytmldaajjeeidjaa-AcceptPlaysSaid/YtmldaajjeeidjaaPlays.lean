/- Whatever is asked, an acceptor answers, and has, what the chapter says: for any calls, any number, the law AcceptPlays returns true. -/
import Derived.Test.YtmldaajjeeidjaaCp
open Go Go.Abs Go.Proofs
set_option maxRecDepth 100000
set_option maxHeartbeats 4000000
namespace Go.Proofs.Ytmldaajjeeidjaa
open Go.ChangeShapes Go.WideShapes Go.ChangeAt Go.RowKit
theorem shape4 : shapeOk Try.prog 6 Try.f4 = true := by kernel_rfl
theorem acceptPlays_lifted (os : Os) (started : os.Started) (H : Type) (enc : TypeId × Value → H) :
    ReturnsInHanded {} Try.checked os 4 .any (Rows.acceptPlaysSpec.pre6 enc Try.prog Try.f4 Rows.acceptPlaysRow.domain false) (Rows.acceptPlaysSpec.post enc Try.prog Try.f4 false true false false) := by
  refine law_lifted hm howOk 6 os started own (by kernel_rfl) Try.func4 laidOut shape4 rfl ?_ ?_ ?_
  · intro H ds h
    match ds, h with
    | [d0, d1], _ => rfl
  · exact ChangeSpec.witness6 (enc := enc) (C := Try.checked) false ⟨#[], #[.slice none 0 0, .int .i64 0], []⟩ 8 (by kernel_rfl) (by kernel_rfl) (by kernel_rfl) (by kernel_rfl)
  · intro cs h
    rw [show Try.f4.params.toList = [22, 3] by rw [Try.params4]] at h
    obtain ⟨c0, q0, rfl, k0, h⟩ := h
    obtain ⟨c1, q1, rfl, k1, h⟩ := h
    subst h
    obtain ⟨n, rfl⟩ := int_of k1
    obtain ⟨σ', e⟩ := F4.ok c0 n (ops_of k0)
    obtain ⟨m, e⟩ := callW_inv e
    exact ⟨m, _, e⟩
theorem acceptPlays_holds : Rows.AcceptPlaysSaid :=
  OpenClaim.holds_of_wide 4 Try.f4 rfl rfl rfl rfl rfl rfl rfl ⟨rfl, rfl, rfl, rfl, rfl⟩ rfl rfl rfl rfl rfl (by kernel_rfl) Try.func4 (by kernel_rfl)
    (of_decide_eq_true (by kernel_rfl)) (by unfold Func.isWrapper; first | (rw [if_pos (by decide +kernel)]; kernel_rfl) | (rw [if_neg (by decide +kernel)]; exact ⟨rfl, rfl⟩))
    (fun os started H enc _ => acceptPlays_lifted os started H enc)
#print axioms acceptPlays_holds
end Go.Proofs.Ytmldaajjeeidjaa
