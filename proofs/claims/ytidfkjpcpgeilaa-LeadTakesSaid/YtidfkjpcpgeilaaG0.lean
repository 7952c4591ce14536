/- Rows on the heap. -/

import Derived.Test.YtidfkjpcpgeilaaAbs14
import Derived.Test.YtidfkjpcpgeilaaA0
open Go Go.Abs Go.Proofs
set_option maxRecDepth 100000
set_option maxHeartbeats 4000000
set_option linter.unusedSimpArgs false
set_option linter.unusedVariables false
/-- Only what is named may have changed. -/
def Kp (hp hp' : List AObj) (F : List Nat) : Prop := hp.length ≤ hp'.length ∧ ∀ i, i < hp.length → i ∉ F → hp'[i]? = hp[i]?
theorem Kp.refl (hp : List AObj) (F : List Nat) : Kp hp hp F := ⟨Nat.le_refl _, fun _ _ _ => rfl⟩
theorem Kp.mono {hp hp' : List AObj} {F G : List Nat} (h : Kp hp hp' F) (hs : ∀ i ∈ F, i ∈ G ∨ hp.length ≤ i) : Kp hp hp' G :=
  ⟨h.1, fun i hi hn => h.2 i hi fun hf => (hs i hf).elim hn (fun h2 => by omega)⟩
theorem Kp.trans {a b c : List AObj} {F : List Nat} (h : Kp a b F) (k : Kp b c F) : Kp a c F :=
  ⟨Nat.le_trans h.1 k.1, fun i hi hn => (k.2 i (Nat.lt_of_lt_of_le hi h.1) hn).trans (h.2 i hi hn)⟩
theorem Kp.get {hp hp' : List AObj} {F : List Nat} {i : Nat} {ob : AObj} (h : Kp hp hp' F) (hg : hp[i]? = some ob) (hn : i ∉ F) : hp'[i]? = some ob :=
  (h.2 i (List.getElem?_eq_some_iff.1 hg).1 hn).trans hg
theorem Kp.app (hp l : List AObj) (F : List Nat) : Kp hp (hp ++ l) F := ⟨by simp, fun i hi _ => List.getElem?_append_left hi⟩
theorem Kp.set (hp : List AObj) (b : Nat) (ob : AObj) (F : List Nat) (hb : b ∈ F) : Kp hp (hp.set b ob) F :=
  ⟨by simp, fun i hi hn => List.getElem?_set_ne (fun e => hn (by rw [← e]; exact hb))⟩
theorem at_lt2 {α : Type} {l : List α} {i : Nat} {x : α} (h : l[i]? = some x) : i < l.length := (List.getElem?_eq_some_iff.1 h).1
/-- Places that are new, or were such. -/
def Sub' (F' F : List Nat) (hp hp' : List AObj) : Prop := ∀ i ∈ F', (i ∈ F ∨ hp.length ≤ i) ∧ i < hp'.length
/-- A row on the heap that may be written. -/
def HRw (sz : Nat) (hp : List AObj) (X : AV) (l : List AV) (F : List Nat) : Prop := (X = .nils ∧ l = [] ∧ F = []) ∨ (∃ j w, X = .row (.hp j) w 0 l.length ∧ hp[j]? = some (.row l sz w false) ∧ F = [j])
theorem HRw.one {sz : Nat} {hp : List AObj} {X : AV} {l : List AV} {F : List Nat} (h : HRw sz hp X l F) : X.one = true := by rcases h with ⟨rfl, _⟩ | ⟨_, _, rfl, _⟩ <;> rfl
theorem HRw.inb {sz : Nat} {hp : List AObj} {X : AV} {l : List AV} {F : List Nat} (h : HRw sz hp X l F) (n : Nat) : X.inb n = true := by rcases h with ⟨rfl, _⟩ | ⟨_, _, rfl, _⟩ <;> rfl
theorem HRw.isRow {sz : Nat} {hp : List AObj} {X : AV} {l : List AV} {F : List Nat} (h : HRw sz hp X l F) : X.cells = [X] := by rcases h with ⟨rfl, _⟩ | ⟨_, _, rfl, _⟩ <;> rfl
theorem HRw.lt {sz : Nat} {hp : List AObj} {X : AV} {l : List AV} {F : List Nat} (h : HRw sz hp X l F) : ∀ i ∈ F, i < hp.length := by
  rcases h with ⟨_, _, rfl⟩ | ⟨j, _, _, h2, rfl⟩
  · intro i hi; cases hi
  · intro i hi; rw [List.mem_singleton] at hi; subst hi; exact at_lt2 h2
theorem HRw.keep {sz : Nat} {hp hp' : List AObj} {X : AV} {l : List AV} {F G : List Nat} (h : HRw sz hp X l F) (k : Kp hp hp' G) (hd : ∀ i ∈ F, i ∉ G) : HRw sz hp' X l F := by
  rcases h with h | ⟨j, w, h1, h2, h3⟩
  · exact .inl h
  · exact .inr ⟨j, w, h1, k.get h2 (hd j (by rw [h3]; exact List.mem_singleton_self _)), h3⟩
theorem HRw.rd {P : Program} {sz t e : Nat} {hp st : List AObj} {X : AV} {l : List AV} {F : List Nat} (h : HRw sz hp X l F) (ht : P.underlying t = some (.slice e)) (hs : sizeA P e = some sz) (hz : 0 < sz) (he : ∀ c ∈ l, partA P e c.cells 0 = some c) : Rd P ⟨hp, st⟩ t e X l := by
  rcases h with ⟨rfl, rfl, _⟩ | ⟨j, w, rfl, h2, _⟩
  · exact ⟨by simp [lenA, ht], fun k c hk => by simp at hk⟩
  · exact rd_row ht hs hz (show (AS.mk hp st).get (.hp j) = _ from h2) he
/-- One element behind a row that stands in an object of the heap. -/
theorem heap_append {P : Program} {cx : Cx} {hp st : List AObj} {T sz by_ b o k : Nat} {X x : AV} {l cs : List AV} {F : List Nat} (hT : AppOk P T sz by_) (hs1 : sizeA P T = some 1) (hro : cx.ro = none) (hX : HRw sz hp X l F) (hk : st[k]? = some (.row [x] sz 0 false)) (hl : l.length ≤ 1000) (hby : by_ ≤ 1000000) (hb : hp[b]? = some (.cells cs)) (ho : o < cs.length) (hbF : b ∉ F) :
    ∃ R hp1 st1 hp2 st2, appendA P cx ⟨hp, st⟩ [T, T] X (.row (.st k) 0 0 1) = some (R, ⟨hp1, st1⟩) ∧ storeA P cx ⟨hp1, st1⟩ T (.ptr (.hp b) o) R = some ⟨hp2, st2⟩ ∧ R.one = true ∧ st2.take st.length = st ∧ st.length ≤ st2.length ∧ st1.take st.length = st ∧ hp1.length = hp.length ∧
      Kp hp hp2 (b :: F) ∧ ∃ X' F', hp2[b]? = some (.cells (cs.set o X')) ∧ HRw sz hp2 X' (l ++ [x]) F' ∧ (∀ i ∈ F', i ∈ F ∨ hp.length ≤ i) := by
  obtain ⟨e, xd, t1, t2, t3, t4, t5, t6, t7⟩ := hT
  have he : elemsA ⟨hp, st⟩ sz (.row (.st k) 0 0 1) = some [x] := by
    have : (AS.mk hp st).get (.st k) = some (.row [x] sz 0 false) := hk
    simp [elemsA, this]
  have hbl := at_lt2 hb
  have hlay : ∀ X' : AV, lay cs o [X'] = cs.set o X' := by
    intro X'
    unfold lay
    rw [List.set_eq_take_append_cons_drop, if_pos ho]
    simp
  rcases hX with ⟨rfl, rfl, rfl⟩ | ⟨j, w, rfl, h2, rfl⟩
  · have hby1 : bytesOk 1 by_ = true := by simp only [bytesOk, decide_eq_true_eq]; omega
    refine ⟨.row (.st st.length) 0 0 1, hp, st ++ [AObj.row [x] sz 0 false], (hp ++ [AObj.row [x] sz 0 false]).set b (.cells (cs.set o (.row (.hp hp.length) 0 0 1))), (st ++ [AObj.row [x] sz 0 false]).set st.length .dead, ?_, ?_, rfl, ?_, ?_, ?_, rfl, ?_, .row (.hp hp.length) 0 0 1, [hp.length], ?_, ?_, ?_⟩
    · simp [appendA, t1, t2, t3, t4, t5, t6, t7, he, hby1, AS.next, AS.push]
    · have hg : (AS.mk hp (st ++ [.row [x] sz 0 false])).get (.hp b) = some (.cells cs) := hb
      have hg2 : (st ++ [AObj.row [x] sz 0 false])[st.length]? = some (.row [x] sz 0 false) := by simp
      have hwk : wok cx.ro (.hp b) = true := by rw [hro]; rfl
      have hws : wok cx.ro (.st st.length) = true := by rw [hro]; rfl
      simp only [storeA, hs1, AV.cells, List.length_cons, List.length_nil, List.all_cons, List.all_nil, AV.one, Bool.and_self, and_self, if_true, hg, hwk, promL, hg2, hws, true_and, AVs.inb, AV.inb, Loc.inb, hlay, AS.set]
      rw [if_pos (show o + (0 + 1) ≤ cs.length by omega)]
    · rw [List.take_set, List.take_left' rfl]
      exact List.set_eq_of_length_le (Nat.le_refl _)
    · simp
    · rw [List.take_left' rfl]
    · exact (Kp.app hp _ _).trans (Kp.set _ b _ _ (by simp))
    · exact List.getElem?_set_self (by simp; omega)
    · refine .inr ⟨hp.length, 0, rfl, ?_, rfl⟩
      rw [List.getElem?_set_ne (by omega)]
      simp
    · intro i hi
      rw [List.mem_singleton] at hi
      exact .inr (by omega)
  · have hjb : j ≠ b := fun e => hbF (by rw [e]; exact List.mem_singleton_self _)
    have hjl := at_lt2 h2
    have hby1 : bytesOk (l.length + 1) by_ = true := by
      simp only [bytesOk, decide_eq_true_eq]
      have : (l.length + 1) * by_ ≤ 1001 * 1000000 := Nat.mul_le_mul (by omega) hby
      omega
    have hg0 : (AS.mk hp st).get (.hp j) = some (.row l sz w false) := h2
    have hwj : wok cx.ro (.hp j) = true := by rw [hro]; rfl
    refine ⟨.row (.hp j) (w + 1) 0 (l.length + 1), hp.set j (.row (l ++ [x]) sz (w + 1) false), st, (hp.set j (.row (l ++ [x]) sz (w + 1) false)).set b (.cells (cs.set o (.row (.hp j) (w + 1) 0 (l.length + 1)))), st, ?_, ?_, rfl, List.take_length, Nat.le_refl _, List.take_length, by simp, ?_, .row (.hp j) (w + 1) 0 (l.length + 1), [j], ?_, ?_, ?_⟩
    · simp [appendA, t1, t2, t3, t4, t5, t6, t7, he, hby1, hg0, hwj, AS.set, show ¬ l.length + 1 ≤ l.length by omega]
    · have hg : (AS.mk (hp.set j (.row (l ++ [x]) sz (w + 1) false)) st).get (.hp b) = some (.cells cs) := by
        show (hp.set j _)[b]? = _
        rw [List.getElem?_set_ne hjb]
        exact hb
      have hwk : wok cx.ro (.hp b) = true := by rw [hro]; rfl
      simp only [storeA, hs1, AV.cells, List.length_cons, List.length_nil, List.all_cons, List.all_nil, AV.one, Bool.and_self, and_self, if_true, hg, hwk, promL, true_and, AVs.inb, AV.inb, Loc.inb, hlay, AS.set]
      rw [if_pos (show o + (0 + 1) ≤ cs.length by omega)]
    · exact (Kp.set hp j _ _ (by simp)).trans (Kp.set _ b _ _ (by simp))
    · exact List.getElem?_set_self (by simp; omega)
    · refine .inr ⟨j, w + 1, by simp, ?_, rfl⟩
      rw [List.getElem?_set_ne (fun e => hjb e.symm), List.getElem?_set_self hjl]
    · exact fun i hi => .inl hi

