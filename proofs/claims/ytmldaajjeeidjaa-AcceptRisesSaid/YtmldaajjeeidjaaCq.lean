/- Plain laws of what rises. -/
import Derived.Test.YtmldaajjeeidjaaCi
open Go Go.Abs Go.Proofs
set_option linter.unusedSimpArgs false
set_option linter.unusedVariables false
theorem lessB_irrefl (r n : Int) : lessB r n r n = false := by simp [lessB]
theorem lessB_ge {a b c d e f : Int} (h1 : lessB a b c d = false) (h2 : lessB c d e f = false) : lessB a b e f = false := by
  simp only [lessB, Bool.or_eq_false_iff, Bool.and_eq_false_iff, decide_eq_false_iff_not] at *
  omega
/-- No vote's ballot is greater than what is promised. -/
def Under (S : StV) : Prop := ∀ v ∈ S.L, lessB S.pr S.pn v.r v.n = false
/-- What one call leaves. -/
structure Rose (S S' : StV) : Prop where
  pr : lessB S'.pr S'.pn S.pr S.pn = false
  kept : ∀ v ∈ S.L, ∃ x ∈ S'.L, x.s = v.s ∧ lessB x.r x.n v.r v.n = false
  had : ∀ x ∈ S'.L, x ∈ S.L ∨ lessB x.r x.n S.pr S.pn = false
theorem rose_same (S : StV) : Rose S S := ⟨lessB_irrefl _ _, fun v hv => ⟨v, hv, rfl, lessB_irrefl _ _⟩, fun x hx => .inl hx⟩
theorem rose_prep {r n m : Int} {S : StV} (hU : Under S) : Rose S (prepS r n m S) ∧ Under (prepS r n m S) := by
  unfold prepS
  split
  · split
    · exact ⟨rose_same S, hU⟩
    · rename_i h
      have h : lessB r n S.pr S.pn = false := by simpa using h
      exact ⟨⟨h, fun v hv => ⟨v, hv, rfl, lessB_irrefl _ _⟩, fun x hx => .inl hx⟩, fun v hv => lessB_ge h (hU v hv)⟩
  · exact ⟨rose_same S, hU⟩
theorem rose_acc {w : Vt} {S : StV} (hU : Under S) (hG : GoodS S) : Rose S (accS w S) ∧ Under (accS w S) := by
  unfold accS
  split
  · split
    · exact ⟨rose_same S, hU⟩
    · rename_i h
      have h : lessB w.r w.n S.pr S.pn = false := by simpa using h
      split
      · exact ⟨rose_same S, hU⟩
      · refine ⟨⟨h, fun v hv => ?_, fun x hx => ?_⟩, fun v hv => ?_⟩
        · by_cases e : v.s = w.s
          · exact ⟨w, put_has hG.1, e.symm, lessB_ge h (hU v hv)⟩
          · exact ⟨v, put_old hG.1 hv e, rfl, lessB_irrefl _ _⟩
        · rcases put_mem hG.1 hx with rfl | hx
          · exact .inr h
          · exact .inl hx.1
        · rcases put_mem hG.1 hv with rfl | hv
          · exact lessB_irrefl _ _
          · exact lessB_ge h (hU v hv.1)
  · exact ⟨rose_same S, hU⟩
/-- All slots are there from 0 on. -/
theorem from_zero {S : StV} (hG : GoodS S) : fromV S.L 0 = S.L := by
  unfold fromV
  rw [List.filter_eq_self]
  intro v hv
  simpa using (hG.2.1 v hv).1
