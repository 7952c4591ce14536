/- What operations leave alone: what lies below on the stack, and, where nothing may be written, all that was there. -/
import Derived.Test.YtjhgheheopcolaaGreatAbs22
set_option linter.unusedVariables false
set_option linter.unusedSimpArgs false
namespace Go.Abs

structure Beh (h : Nat) (ro : Option Nat) (σ σ' : AS) : Prop where
  inv : ∀ k, k ≤ h → Inv k σ → Inv k σ'
  ro : ∀ k, ro = some k → k ≤ σ.st.length → σ'.hp = σ.hp ∧ σ'.st.take k = σ.st.take k
  len : σ.st.length ≤ σ'.st.length

theorem Beh.refl (h : Nat) (ro : Option Nat) (σ : AS) : Beh h ro σ σ := ⟨fun _ _ h => h, fun _ _ _ => ⟨rfl, rfl⟩, Nat.le_refl _⟩
theorem Beh.trans {h : Nat} {ro : Option Nat} {σ σ1 σ2 : AS} (a : Beh h ro σ σ1) (b : Beh h ro σ1 σ2) : Beh h ro σ σ2 :=
  ⟨fun k hk i => b.inv k hk (a.inv k hk i), fun k hr hk => by
    obtain ⟨a1, a2⟩ := a.ro k hr hk
    obtain ⟨b1, b2⟩ := b.ro k hr (Nat.le_trans hk a.len)
    exact ⟨b1.trans a1, b2.trans a2⟩, Nat.le_trans a.len b.len⟩
theorem Beh.le {h h' : Nat} {ro : Option Nat} {σ σ' : AS} (a : Beh h ro σ σ') (hh : h' ≤ h) : Beh h' ro σ σ' := ⟨fun k hk i => a.inv k (Nat.le_trans hk hh) i, a.ro, a.len⟩

theorem wok_take {ro : Option Nat} {i k : Nat} (hw : wok ro (.st i) = true) (hr : ro = some k) {σ : AS} {ob : AObj} : (σ.set (.st i) ob).st.take k = σ.st.take k := by
  subst hr
  simp only [wok, decide_eq_true_eq] at hw
  simp only [AS.set]
  rw [List.take_set_of_le hw]

theorem Beh.set {h : Nat} {ro : Option Nat} {σ : AS} {L : Loc} {ob : AObj} (hw : wok ro L = true) (hc : ∀ i cs k, L = .st i → ob = .cells cs → i < k → k ≤ h → Inv k σ → AVs.inb k cs = true) : Beh h ro σ (σ.set L ob) := by
  refine ⟨fun k hk hi i cs hik hg => ?_, fun k hr _ => ?_, by cases L <;> simp [AS.set]⟩
  · cases L with
    | hp j => exact hi i cs hik hg
    | st j =>
      simp only [AS.set] at hg
      rw [List.getElem?_set] at hg
      split at hg
      · rename_i e
        subst e
        split at hg
        · cases hg; exact hc j cs k rfl rfl hik hk hi
        · cases hg
      · exact hi i cs hik hg
  · cases L with
    | hp j => subst hr; simp [wok] at hw
    | st j => exact ⟨rfl, wok_take hw hr⟩

theorem Beh.push {h : Nat} {ro : Option Nat} {σ : AS} {e : Bool} {ob : AObj} (hr : e = true → ro.isNone = true) (hh : h ≤ σ.st.length) : Beh h ro σ (σ.push e ob) := by
  refine ⟨fun k hk hi i cs hik hg => ?_, fun k hrk hk => ?_, by cases e <;> simp [AS.push]⟩
  · cases e with
    | true => exact hi i cs hik hg
    | false =>
      simp only [AS.push, Bool.false_eq_true, if_false] at hg
      rw [List.getElem?_append_left (by omega)] at hg
      exact hi i cs hik hg
  · cases e with
    | true => have := hr rfl; rw [hrk] at this; cases this
    | false => simp [AS.push, List.take_append_of_le_length hk]

theorem promL_beh {h : Nat} {ro : Option Nat} : ∀ (xs ys : List AV) (σ σ' : AS), promL ro σ xs = some (ys, σ') → ro.isNone = true → Beh h ro σ σ' := by
  intro xs
  induction xs with
  | nil =>
    intro ys σ σ' h0 _
    simp only [promL, Option.some.injEq, Prod.mk.injEq] at h0
    obtain ⟨rfl, rfl⟩ := h0
    exact Beh.refl _ _ _
  | cons x xs ih =>
    intro ys σ σ' h0 hr
    unfold promL at h0
    split at h0
    · rename_i heq; cases heq
    · rename_i i v off len xs' heq
      cases heq
      split at h0
      · rename_i es sz v' hg
        split at h0
        · rename_i hc
          split at h0
          · rename_i ys' σ'' hrec
            simp only [Option.some.injEq, Prod.mk.injEq] at h0
            obtain ⟨rfl, rfl⟩ := h0
            refine Beh.trans (σ1 := _) ?_ (ih _ _ _ hrec hr)
            refine ⟨fun k hk hi j cs hik hg' => ?_, fun k hrk _ => (by rw [hrk] at hr; cases hr), by simp⟩
            simp only at hg'
            rw [List.getElem?_set] at hg'
            split at hg'
            · split at hg' <;> cases hg'
            · exact hi j cs hik hg'
          · cases h0
        · cases h0
      · cases h0
    · rename_i x' xs' hne heq
      cases heq
      split at h0
      · rename_i ys' σ'' hrec
        simp only [Option.some.injEq, Prod.mk.injEq] at h0
        obtain ⟨rfl, rfl⟩ := h0
        exact ih _ _ _ hrec hr
      · cases h0

theorem fzL_beh {h : Nat} {ro : Option Nat} : ∀ (xs ys : List AV) (σ σ' : AS), fzL ro σ xs = some (ys, σ') → Beh h ro σ σ' := by
  intro xs
  induction xs with
  | nil =>
    intro ys σ σ' h0
    simp only [fzL, Option.some.injEq, Prod.mk.injEq] at h0
    obtain ⟨rfl, rfl⟩ := h0
    exact Beh.refl _ _ _
  | cons x xs ih =>
    intro ys σ σ' h0
    unfold fzL at h0
    split at h0
    · rename_i heq; cases heq
    · rename_i i v off len xs' heq
      cases heq
      split at h0
      · rename_i es sz v' fro hg
        split at h0
        · rename_i hc
          split at h0
          · rename_i ys' σ'' hrec
            simp only [Option.some.injEq, Prod.mk.injEq] at h0
            obtain ⟨rfl, rfl⟩ := h0
            exact Beh.trans (Beh.set hc.2.1 (fun i cs k _ h => by cases h)) (ih _ _ _ hrec)
          · cases h0
        · cases h0
      · cases h0
    · rename_i x' xs' hne heq
      cases heq
      split at h0
      · rename_i ys' σ'' hrec
        simp only [Option.some.injEq, Prod.mk.injEq] at h0
        obtain ⟨rfl, rfl⟩ := h0
        exact ih _ _ _ hrec
      · cases h0

section
variable {P : Program} {cx : Cx}

theorem pushA_beh {σ σ' : AS} {e : Bool} {cs : List AV} {c : AV} (h : pushA cx σ e cs = some (c, σ')) (hh : cx.h ≤ σ.st.length) : Beh cx.h cx.ro σ σ' := by
  unfold pushA at h
  split at h
  · split at h
    · rename_i hro
      split at h
      · rename_i cs' σ1 hp
        split at h
        · simp only [Option.some.injEq, Prod.mk.injEq] at h
          obtain ⟨rfl, rfl⟩ := h
          have b1 := promL_beh (h := cx.h) _ _ _ _ hp hro
          exact b1.trans (Beh.push (fun _ => hro) (Nat.le_trans hh b1.len))
        · cases h
      · cases h
    · cases h
  · simp only [Option.some.injEq, Prod.mk.injEq] at h
    obtain ⟨rfl, rfl⟩ := h
    exact Beh.push (fun h => by cases h) hh

theorem storeA_beh {σ σ' : AS} {t : TypeId} {p x : AV} (h : storeA P cx σ t p x = some σ') : Beh cx.h cx.ro σ σ' := by
  unfold storeA at h
  split at h
  · split at h
    · rename_i L o
      split at h
      · rename_i cs hg
        split at h
        · rename_i hcond
          split at h
          · rename_i i
            have hro : cx.ro.isNone = true := by simpa [wok] using hcond.1
            split at h
            · rename_i xs σ1 hpr
              split at h
              · cases h
                exact (promL_beh _ _ _ _ hpr hro).trans (Beh.set (by simpa [wok] using hro) (fun i cs k h => by cases h))
              · cases h
            · cases h
          · rename_i i
            split at h
            · rename_i hin
              cases h
              refine Beh.set hcond.1 (fun j cs' k e1 e2 hjk hkh hi => ?_)
              cases e1; cases e2
              have hi' : AVs.inb i x.cells = true := by
                simp only [Bool.or_eq_true, decide_eq_true_eq] at hin
                rcases hin with h | h
                · omega
                · exact h
              exact lay_inb (hi i cs hjk hg) (AVs.inb_mono (Nat.le_of_lt hjk) _ hi')
            · cases h
        · cases h
      · cases h
    · rename_i L v i o
      split at h
      · rename_i xs σ1 hfz
        split at h
        · split at h
          · rename_i hcond
            split at h
            · split at h
              · split at h
                · split at h
                  · cases h
                    exact (fzL_beh _ _ _ _ hfz).trans (Beh.set hcond.2 (fun i cs k _ h => by cases h))
                  · cases h
                · cases h
              · cases h
            · cases h
          · cases h
        · cases h
      · cases h
    · cases h
  · cases h

theorem rowParts_beh {h : Nat} {ro : Option Nat} {sz : Nat} : ∀ (ps : List (Nat × AV)) (es es' : List AV) (σ σ' : AS), rowParts ro sz ps es σ = some (es', σ') → Beh h ro σ σ'
  | [], es, es', σ, σ', h0 => by
    simp only [rowParts, Option.some.injEq, Prod.mk.injEq] at h0
    obtain ⟨rfl, rfl⟩ := h0
    exact Beh.refl _ _ _
  | (i, v) :: ps, es, es', σ, σ', h0 => by
    simp only [rowParts] at h0
    split at h0
    · split at h0
      · rename_i cs σ1 hfz
        split at h0
        · split at h0
          · exact (fzL_beh _ _ _ _ hfz).trans (rowParts_beh ps _ _ _ _ h0)
          · cases h0
        · cases h0
      · cases h0
    · cases h0

theorem buildSliceA_beh {σ σ' : AS} {t : TypeId} {n : Nat} {ps : List (Nat × AV)} {c : AV} (h : buildSliceA P cx σ t n ps = some (c, σ')) (hh : cx.h ≤ σ.st.length) : Beh cx.h cx.ro σ σ' := by
  unfold buildSliceA at h
  split at h
  · split at h
    · split at h
      · split at h
        · rename_i es σ1 hrp
          simp only [Option.some.injEq, Prod.mk.injEq] at h
          obtain ⟨rfl, rfl⟩ := h
          have b1 := rowParts_beh (h := cx.h) _ _ _ _ _ hrp
          exact b1.trans (Beh.push (fun h => by cases h) (Nat.le_trans hh b1.len))
        · cases h
      · cases h
    · cases h
  · cases h

theorem appendA_beh {σ σ' : AS} {ts : List TypeId} {a x c : AV} (h : appendA P cx σ ts a x = some (c, σ')) (hh : cx.h ≤ σ.st.length) : Beh cx.h cx.ro σ σ' := by
  have pu : ∀ ob, Beh cx.h cx.ro σ (σ.push false ob) := fun ob => Beh.push (fun h => by cases h) hh
  unfold appendA at h
  split at h
  · split at h
    · split at h
      · split at h
        · split at h
          · cases h
          · split at h
            · split at h
              · simp only [Option.some.injEq, Prod.mk.injEq] at h; rw [← h.2]; exact Beh.refl _ _ _
              · split at h
                · simp only [Option.some.injEq, Prod.mk.injEq] at h; rw [← h.2]; exact pu _
                · cases h
            · split at h
              · simp only [Option.some.injEq, Prod.mk.injEq] at h; rw [← h.2]; exact Beh.refl _ _ _
              · split at h
                · simp only [Option.some.injEq, Prod.mk.injEq] at h; rw [← h.2]; exact pu _
                · cases h
            · split at h
              · split at h
                · rename_i hcond
                  have st : ∀ es sz v, Beh cx.h cx.ro σ (σ.set _ (.row es sz v false)) := fun es sz v => Beh.set hcond.2.2.1 (fun i cs k _ h => by cases h)
                  split at h
                  · simp only [Option.some.injEq, Prod.mk.injEq] at h; rw [← h.2]; exact st _ _ _
                  · split at h
                    · simp only [Option.some.injEq, Prod.mk.injEq] at h; rw [← h.2]; exact st _ _ _
                    · cases h
                · cases h
              · cases h
            · cases h
        · cases h
      · cases h
    · cases h
  · cases h

theorem copyB_beh {σ σ' : AS} {t : TypeId} {d x c : AV} (h : copyB P cx σ t d x = some (c, σ')) : Beh cx.h cx.ro σ σ' := by
  unfold copyB at h
  split at h
  · split at h
    · split at h
      · unfold copyA at h
        split at h
        · simp only [Option.some.injEq, Prod.mk.injEq] at h; rw [← h.2]; exact Beh.refl _ _ _
        · split at h
          · split at h
            · split at h
              · rename_i hcond
                simp only [Option.some.injEq, Prod.mk.injEq] at h
                rw [← h.2]
                exact Beh.set hcond.2.1 (fun i cs k _ h => by cases h)
              · cases h
            · cases h
          · cases h
        · cases h
      · cases h
    · cases h
  · cases h

theorem clearA_beh {σ σ' : AS} {t : TypeId} {x : AV} (h : clearA P cx σ t x = some σ') : Beh cx.h cx.ro σ σ' := by
  unfold clearA at h
  split at h
  · split at h
    · split at h
      · rename_i hcond
        cases h
        exact Beh.set hcond.2.2.2.1 (fun i cs k _ h => by cases h)
      · cases h
    · cases h
  · cases h; exact Beh.refl _ _ _
  · cases h

theorem mapUpdateA_beh {σ σ' : AS} {t : TypeId} {m k x : AV} (h : mapUpdateA P cx σ t m k x = some σ') : Beh cx.h cx.ro σ σ' := by
  unfold mapUpdateA at h
  split at h
  · split at h
    · split at h
      · split at h
        · rename_i cs σ1 hfz
          split at h
          · split at h
            · split at h
              · rename_i hcond
                split at h
                · cases h
                  exact (fzL_beh _ _ _ _ hfz).trans (Beh.set hcond.1 (fun i cs k _ h => by cases h))
                · cases h
              · cases h
            · cases h
          · cases h
        · cases h
      · cases h
    · cases h
  · cases h

theorem deleteA_beh {σ σ' : AS} {t : TypeId} {m k : AV} (h : deleteA P cx σ t m k = some σ') : Beh cx.h cx.ro σ σ' := by
  unfold deleteA at h
  split at h
  · split at h
    · split at h
      · split at h
        · cases h; exact Beh.refl _ _ _
        · split at h
          · split at h
            · rename_i hw
              split at h
              · cases h
                exact Beh.set hw (fun i cs k _ h => by cases h)
              · cases h
            · cases h
          · cases h
        · cases h
      · cases h
    · cases h
  · cases h

theorem makeSliceA_beh {σ σ' : AS} {t : TypeId} {l m c : AV} (h : makeSliceA P σ t l m = some (c, σ')) (hh : cx.h ≤ σ.st.length) : Beh cx.h cx.ro σ σ' := by
  unfold makeSliceA at h
  split at h
  · split at h
    · split at h
      · simp only [Option.some.injEq, Prod.mk.injEq] at h; rw [← h.2]; exact Beh.push (fun h => by cases h) hh
      · cases h
    · cases h
  · cases h
end
end Go.Abs
