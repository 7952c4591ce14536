/- More of the heap. -/

import Derived.Test.YtidfkjpcpgeilaaG0
open Go Go.Abs Go.Proofs
set_option maxRecDepth 100000
set_option maxHeartbeats 4000000
set_option linter.unusedSimpArgs false
set_option linter.unusedVariables false
theorem HRw.elems {sz : Nat} {hp st : List AObj} {X : AV} {l : List AV} {F : List Nat} (h : HRw sz hp X l F) : elemsA ⟨hp, st⟩ sz X = some l := by
  rcases h with ⟨rfl, rfl, _⟩ | ⟨j, w, rfl, h2, _⟩
  · rfl
  · have hg : (AS.mk hp st).get (.hp j) = some (.row l sz w false) := h2
    simp [elemsA, hg]
/-- One element ahead of a row that stands in an object of the heap: a row of its own. -/
theorem heap_prepend {P : Program} {cx : Cx} {hp st : List AObj} {T sz by_ b o k : Nat} {X x : AV} {l cs : List AV} {F : List Nat} (hT : AppOk P T sz by_) (hs1 : sizeA P T = some 1) (hro : cx.ro = none) (hX : HRw sz hp X l F) (hk : st[k]? = some (.row [x] sz 0 false)) (hl : l.length ≤ 1000) (hby : by_ ≤ 1000000) (hb : hp[b]? = some (.cells cs)) (ho : o < cs.length) :
    ∃ R st1 hp2 st2, appendA P cx ⟨hp, st⟩ [T, T] (.row (.st k) 0 0 1) X = some (R, ⟨hp, st1⟩) ∧ storeA P cx ⟨hp, st1⟩ T (.ptr (.hp b) o) R = some ⟨hp2, st2⟩ ∧ R.one = true ∧ st2.take k = st.take k ∧ st2.length = st.length ∧
      Kp hp hp2 [b] ∧ ∃ X', hp2[b]? = some (.cells (cs.set o X')) ∧ HRw sz hp2 X' (x :: l) [hp.length] := by
  obtain ⟨e, xd, t1, t2, t3, t4, t5, t6, t7⟩ := hT
  have he := hX.elems (st := st)
  have hbl := at_lt2 hb
  have hkl := at_lt2 hk
  have hlay : ∀ X' : AV, lay cs o [X'] = cs.set o X' := by
    intro X'
    unfold lay
    rw [List.set_eq_take_append_cons_drop, if_pos ho]
    simp
  have hby1 : bytesOk (1 + l.length) by_ = true := by
    simp only [bytesOk, decide_eq_true_eq]
    have : (1 + l.length) * by_ ≤ 1001 * 1000000 := Nat.mul_le_mul (by omega) hby
    omega
  have hg0 : (AS.mk hp st).get (.st k) = some (.row [x] sz 0 false) := hk
  have hwk : wok cx.ro (.st k) = true := by rw [hro]; rfl
  have key : ∃ v, appendA P cx ⟨hp, st⟩ [T, T] (.row (.st k) 0 0 1) X = some (.row (.st k) v 0 (l.length + 1), ⟨hp, st.set k (.row (x :: l) sz v false)⟩) := by
    cases l with
    | nil =>
      refine ⟨0, ?_⟩
      simp [appendA, t1, t2, t3, t4, t5, t6, t7, he, hg0, hwk, AS.set, lay]
    | cons y l =>
      refine ⟨1, ?_⟩
      have h1 : ¬ (0 + 1 + (y :: l).length ≤ ([x] : List AV).length) := by simp
      have h2 : 1 + (l.length + 1) = l.length + 1 + 1 := by omega
      have hby2 := hby1
      simp only [List.length_cons] at hby2
      simp [appendA, t1, t2, t3, t4, t5, t6, t7, he, hg0, hwk, AS.set, hby2]
      rw [if_neg (by omega), show 1 + (l.length + 1) = l.length + 1 + 1 by omega]
  obtain ⟨v, hap⟩ := key
  refine ⟨_, _, (hp ++ [AObj.row (x :: l) sz v false]).set b (.cells (cs.set o (.row (.hp hp.length) v 0 (l.length + 1)))), (st.set k (.row (x :: l) sz v false)).set k .dead, hap, ?_, rfl, ?_, by simp, ?_, .row (.hp hp.length) v 0 (l.length + 1), ?_, ?_⟩
  · have hg : (AS.mk hp (st.set k (.row (x :: l) sz v false))).get (.hp b) = some (.cells cs) := hb
    have hg2 : (st.set k (AObj.row (x :: l) sz v false))[k]? = some (.row (x :: l) sz v false) := List.getElem?_set_self hkl
    have hwb : wok cx.ro (.hp b) = true := by rw [hro]; rfl
    simp only [storeA, hs1, AV.cells, List.length_cons, List.length_nil, List.all_cons, List.all_nil, AV.one, Bool.and_self, and_self, if_true, hg, hwb, promL, hg2, hwk, true_and, AVs.inb, AV.inb, Loc.inb, hlay, AS.set]
    rw [if_pos (show o + (0 + 1) ≤ cs.length by omega)]
  · rw [List.take_set_of_le (Nat.le_refl _), List.take_set_of_le (Nat.le_refl _)]
  · exact (Kp.app hp _ _).trans (Kp.set _ b _ _ (by simp))
  · exact List.getElem?_set_self (by simp; omega)
  · refine .inr ⟨hp.length, v, by simp, ?_, rfl⟩
    rw [List.getElem?_set_ne (by omega)]
    simp
theorem store_built {P : Program} {cx : Cx} {hp st : List AObj} {T sz b o h : Nat} {R : AV} {l cs : List AV} (hs1 : sizeA P T = some 1) (hro : cx.ro = none) (hB : Built h ⟨hp, st⟩ sz R l) (hb : hp[b]? = some (.cells cs)) (ho : o < cs.length) :
    ∃ hp2 st2, storeA P cx ⟨hp, st⟩ T (.ptr (.hp b) o) R = some ⟨hp2, st2⟩ ∧ st2.take h = st.take h ∧ st2.length = st.length ∧ Kp hp hp2 [b] ∧ ∃ X' F', hp2[b]? = some (.cells (cs.set o X')) ∧ HRw sz hp2 X' l F' ∧ (∀ i ∈ F', hp.length ≤ i) := by
  have hbl := at_lt2 hb
  have hlay : ∀ X' : AV, lay cs o [X'] = cs.set o X' := by
    intro X'
    unfold lay
    rw [List.set_eq_take_append_cons_drop, if_pos ho]
    simp
  have hg : (AS.mk hp st).get (.hp b) = some (.cells cs) := hb
  have hwk : wok cx.ro (.hp b) = true := by rw [hro]; rfl
  rcases hB with ⟨h1, h2⟩ | ⟨hn, im, v, h1, hg2, hi⟩
  · subst h1; subst h2
    refine ⟨hp.set b (.cells (cs.set o .nils)), st, ?_, rfl, rfl, Kp.set _ b _ _ (List.mem_singleton_self _), .nils, [], List.getElem?_set_self hbl, .inl ⟨rfl, rfl, rfl⟩, fun i hi => by cases hi⟩
    simp only [storeA, hs1, AV.cells, List.length_cons, List.length_nil, List.all_cons, List.all_nil, AV.one, Bool.and_self, and_self, if_true, hg, hwk, promL, true_and, AVs.inb, AV.inb, hlay, AS.set]
    rw [if_pos (show o + (0 + 1) ≤ cs.length by omega)]
  · subst h1
    have hg3 : st[im]? = some (.row l sz v false) := hg2
    have hws : wok cx.ro (.st im) = true := by rw [hro]; rfl
    refine ⟨(hp ++ [AObj.row l sz v false]).set b (.cells (cs.set o (.row (.hp hp.length) v 0 l.length))), st.set im .dead, ?_, ?_, by simp, (Kp.app hp _ _).trans (Kp.set _ b _ _ (List.mem_singleton_self _)), .row (.hp hp.length) v 0 l.length, [hp.length], ?_, ?_, ?_⟩
    · simp only [storeA, hs1, AV.cells, List.length_cons, List.length_nil, List.all_cons, List.all_nil, AV.one, Bool.and_self, and_self, if_true, hg, hwk, promL, hg3, hws, true_and, AVs.inb, AV.inb, Loc.inb, hlay, AS.set]
      rw [if_pos (show o + (0 + 1) ≤ cs.length by omega)]
    · rw [List.take_set]
      exact List.set_eq_of_length_le (by rw [List.length_take]; omega)
    · exact List.getElem?_set_self (by simp; omega)
    · refine .inr ⟨hp.length, v, rfl, ?_, rfl⟩
      rw [List.getElem?_set_ne (by omega)]
      simp
    · intro i hi2
      rw [List.mem_singleton] at hi2
      omega
