/- Facts of a state, by which 'simp' runs a region whatever else the state holds. -/
import Derived.Test.YtjhgheheopcolaaGreatAbs42
set_option linter.unusedVariables false
set_option linter.unusedSimpArgs false
namespace Go.Abs

theorem Env.get_set {e : Env} {d i : Nat} {v : AV} : Env.get (e.set d v) i = if d = i ∧ d < e.length then v else Env.get e i := by
  simp only [Env.get, List.getD_eq_getElem?_getD]
  by_cases h : d = i
  · subst h
    by_cases hl : d < e.length
    · simp [hl]
    · simp [hl]
  · simp [h, List.getElem?_set_ne h]

section
variable {σ : AS} {b : Bool} {ob ob' : AObj} {L M : Loc} {ro : Option Nat} {h : Nat}
theorem AS.get_push_next : (σ.push b ob).get (σ.next b) = some ob := by
  cases b <;> simp [AS.push, AS.next, AS.get]
theorem AS.get_push_old (hL : (σ.get L).isSome = true) : (σ.push b ob).get L = σ.get L := by
  cases b <;> cases L <;> simp [AS.push, AS.get] at hL ⊢
  · exact List.getElem?_append_left hL
  · exact List.getElem?_append_left hL
theorem AS.eq_next (hL : (σ.get L).isSome = true) : (L = σ.next b) = False := by
  rw [eq_iff_iff, iff_false]
  rintro rfl
  cases b <;> simp [AS.next, AS.get] at hL
theorem AS.next_eq (hL : (σ.get L).isSome = true) : (σ.next b = L) = False := by
  rw [eq_iff_iff, iff_false]
  intro h
  have := AS.eq_next (b := b) hL
  rw [← h] at this
  simp at this
theorem AS.get_set_self (hL : (σ.get L).isSome = true) : (σ.set L ob).get L = some ob := by
  rw [AS.get_set, if_pos rfl, if_pos hL]
theorem AS.get_set_other (hne : ¬ M = L) : (σ.set L ob).get M = σ.get M := by
  rw [AS.get_set, if_neg hne]
theorem AS.next_st' : σ.next false = .st σ.st.length := by simp [AS.next]
theorem AS.push_len : (σ.push false ob).st.length = σ.st.length + 1 := by simp [AS.push]
theorem AS.set_st_len : (σ.set L ob).st.length = σ.st.length := by cases L <;> simp [AS.set]
theorem AS.get_push_at {k : Nat} (hk : k = σ.st.length) : (σ.push false ob).get (.st k) = some ob := by
  subst hk
  simp [AS.push, AS.get]
theorem AS.set_push_at {k : Nat} (hk : k = σ.st.length) : (σ.push false ob).set (.st k) ob' = σ.push false ob' := by
  subst hk
  simp [AS.push, AS.set]
/-- A place of the frame that begins at h. -/
def Own (h : Nat) (L : Loc) : Prop := ∃ i, L = .st i ∧ h ≤ i
theorem own_next (hh : h ≤ σ.st.length) : Own h (σ.next false) := ⟨σ.st.length, by simp [AS.next], hh⟩
theorem Own.wok (hL : Own h L) (hro : ∀ k, ro = some k → k ≤ h) : wok ro L = true := by
  obtain ⟨i, rfl, hi⟩ := hL
  cases ro with
  | none => rfl
  | some k => have := hro k rfl; simp only [Go.Abs.wok, decide_eq_true_eq]; omega
/-- Two states that are one outside the frame. -/
def Outside (h : Nat) (σ σ' : AS) : Prop := σ'.hp = σ.hp ∧ σ'.st.take h = σ.st.take h ∧ h ≤ σ'.st.length
theorem Outside.refl (hh : h ≤ σ.st.length) : Outside h σ σ := ⟨rfl, rfl, hh⟩
theorem Outside.push {σ0 : AS} (o : Outside h σ0 σ) : Outside h σ0 (σ.push false ob) := by
  obtain ⟨o1, o2, o3⟩ := o
  refine ⟨by simpa [AS.push] using o1, ?_, by simp [AS.push]; omega⟩
  simp only [AS.push, Bool.false_eq_true, if_false]
  rw [List.take_append_of_le_length o3]
  exact o2
theorem Outside.set {σ0 : AS} (o : Outside h σ0 σ) (hL : Own h L) : Outside h σ0 (σ.set L ob) := by
  obtain ⟨o1, o2, o3⟩ := o
  obtain ⟨i, rfl, hi⟩ := hL
  refine ⟨o1, ?_, by simp [AS.set]; exact o3⟩
  simp only [AS.set]
  rw [List.take_set_of_le hi]
  exact o2
theorem Outside.cut {σ0 : AS} (o : Outside σ0.st.length σ0 σ) : σ.cut σ0.st.length = σ0 := by
  obtain ⟨o1, o2, _⟩ := o
  show AS.mk σ.hp (σ.st.take σ0.st.length) = σ0
  rw [o1, o2, List.take_length]
end
end Go.Abs
