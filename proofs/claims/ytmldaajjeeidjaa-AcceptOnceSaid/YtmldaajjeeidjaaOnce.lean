/- What is accepted is told, as it was, to whoever prepares a ballot that is not less: for any calls, any vote, any ballot the law AcceptOnce returns true. -/
import Derived.Test.YtmldaajjeeidjaaCp
import Derived.Test.YtmldaajjeeidjaaCr
open Go Go.Abs Go.Proofs
set_option maxRecDepth 100000
set_option maxHeartbeats 4000000
namespace Go.Proofs.Ytmldaajjeeidjaa
open Go.ChangeShapes Go.WideShapes Go.ChangeAt Go.RowKit
theorem shape3 : shapeOk Try.prog 6 Try.f3 = true := by kernel_rfl
theorem hasCs_vote {cs : List AV} (h : hasCs Try.prog 6 27 cs) : ∃ v : Vt, cs = [.int .i64 v.s, .int .u64 v.r, .int .i64 v.n, .str v.v] ∧ 0 ≤ v.r := by
  unfold hasCs at h
  simp only [Try.underlying27, hasFs] at h
  obtain ⟨x0, y0, rfl, h0, x1, y1, rfl, h1, x2, y2, rfl, h2, rfl⟩ := h
  unfold hasCs at h0 h1 h2
  simp only [Try.underlying3, Try.underlying25, Try.underlying9, hasFs] at h0 h1 h2
  obtain ⟨s, rfl, _⟩ := h0
  obtain ⟨z0, w0, rfl, g0, z1, w1, rfl, g1, rfl⟩ := h1
  obtain ⟨v, rfl, _⟩ := h2
  unfold hasCs at g0 g1
  simp only [Try.underlying3, Try.underlying23] at g0 g1
  obtain ⟨r, rfl, hr⟩ := g0
  obtain ⟨n, rfl, _⟩ := g1
  exact ⟨⟨s, r, n, v⟩, rfl, u64_wf hr⟩
theorem vote_arg {c : AV} (h : hasT Try.prog 6 27 c) : ∃ v : Vt, c = .agg [.int .i64 v.s, .int .u64 v.r, .int .i64 v.n, .str v.v] ∧ 0 ≤ v.r := by
  obtain ⟨cs, e, h⟩ := h
  have ha : isAggT Try.prog 27 = true := by kernel_rfl
  simp only [Go.Abs.elemOf, ha, if_true] at e
  subst e
  obtain ⟨v, rfl, hv⟩ := hasCs_vote h
  exact ⟨v, rfl, hv⟩
theorem ballot_arg {c : AV} (h : hasT Try.prog 6 25 c) : ∃ r n : Int, c = .agg [.int .u64 r, .int .i64 n] ∧ 0 ≤ r := by
  obtain ⟨cs, e, h⟩ := h
  have ha : isAggT Try.prog 25 = true := by kernel_rfl
  simp only [Go.Abs.elemOf, ha, if_true] at e
  subst e
  unfold hasCs at h
  simp only [Try.underlying25, hasFs] at h
  obtain ⟨z0, w0, rfl, g0, z1, w1, rfl, g1, rfl⟩ := h
  unfold hasCs at g0 g1
  simp only [Try.underlying3, Try.underlying23] at g0 g1
  obtain ⟨r, rfl, hr⟩ := g0
  obtain ⟨n, rfl, _⟩ := g1
  exact ⟨r, n, rfl, u64_wf hr⟩
theorem acceptOnce_lifted (os : Os) (started : os.Started) (H : Type) (enc : TypeId × Value → H) :
    ReturnsInHanded {} Try.checked os 3 .any (Rows.acceptOnceSpec.pre6 enc Try.prog Try.f3 Rows.acceptOnceRow.domain false) (Rows.acceptOnceSpec.post enc Try.prog Try.f3 false true false false) := by
  refine law_lifted hm howOk 6 os started own (by kernel_rfl) Try.func3 laidOut shape3 rfl ?_ ?_ ?_
  · intro H ds h
    match ds, h with
    | [d0, d1, d2], _ => rfl
  · exact ChangeSpec.witness6 (enc := enc) (C := Try.checked) false ⟨#[], #[.slice none 0 0, .agg #[.int .i64 0, .int .u64 0, .int .i64 0, .string ⟨#[]⟩], .agg #[.int .u64 0, .int .i64 0]], []⟩ 8 (by kernel_rfl) (by kernel_rfl) (by kernel_rfl) (by kernel_rfl)
  · intro cs h
    rw [show Try.f3.params.toList = [22, 27, 25] by rw [Try.params3]] at h
    obtain ⟨c0, q0, rfl, k0, h⟩ := h
    obtain ⟨c1, q1, rfl, k1, h⟩ := h
    obtain ⟨c2, q2, rfl, k2, h⟩ := h
    subst h
    obtain ⟨v, rfl, hv⟩ := vote_arg k1
    obtain ⟨r, n, rfl, hr⟩ := ballot_arg k2
    obtain ⟨σ', e⟩ := F3.ok c0 v r n (ops_of k0) hv hr
    obtain ⟨m, e⟩ := callW_inv e
    exact ⟨m, _, e⟩
theorem acceptOnce_holds : Rows.AcceptOnceSaid :=
  OpenClaim.holds_of_wide 3 Try.f3 rfl rfl rfl rfl rfl rfl rfl ⟨rfl, rfl, rfl, rfl, rfl⟩ rfl rfl rfl rfl rfl (by kernel_rfl) Try.func3 (by kernel_rfl)
    (of_decide_eq_true (by kernel_rfl)) (by unfold Func.isWrapper; first | (rw [if_pos (by decide +kernel)]; kernel_rfl) | (rw [if_neg (by decide +kernel)]; exact ⟨rfl, rfl⟩))
    (fun os started H enc _ => acceptOnce_lifted os started H enc)
#print axioms acceptOnce_holds
end Go.Proofs.Ytmldaajjeeidjaa
