/- Rows in a slice; plain laws of the sort. -/

import Derived.Test.YtcafckfmhoklkaaCp
open Go Go.Abs Go.Proofs
set_option maxRecDepth 100000
set_option maxHeartbeats 4000000
set_option linter.unusedSimpArgs false
set_option linter.unusedVariables false

theorem elRow (x : RowD) : partA Try.prog 59 (encRow x).cells 0 = some (encRow x) := by simp [partA, aggA, isAggD, encRow, rowC, AV.cells]
theorem inb_int {k : IntKind} {n : Int} {h : Nat} : (AV.int k n).inb h = true := rfl
theorem inb_str {s : ByteArray} {h : Nat} : (AV.str s).inb h = true := rfl
theorem row_one (x : RowD) : (rowC x).all AV.one = true := by
  rw [rowC]
  simp only [List.all_cons, one_int, one_str, slV_one, List.all_nil, Bool.and_self]
theorem row_inb (x : RowD) (h : Nat) : AVs.inb h (rowC x) = true := by
  rw [rowC]
  simp only [AVs.inb, inb_int, inb_str, slV_inb, Bool.and_self]
theorem okRow (x : RowD) : okE 17 (encRow x) = true := by
  have h : (rowC x).length = 17 := rfl
  simp only [okE, encRow, AV.cells, h, row_one, row_inb, decide_true, Bool.and_self]
section
variable {σ : AS} {L : Abs.Loc} {v k : Nat} {fr : Bool} {l : List RowD}
theorem idx_row (hg : σ.get L = some (.row (l.map encRow) 17 v fr)) (hk : k < l.length) : indexAddrA Try.prog σ 28 (.row L v 0 l.length) (.int .i64 (k : Int)) = some (.eptr L v k 0) := by
  unfold indexAddrA
  simp [hg, hk]
theorem load_row (hg : σ.get L = some (.row (l.map encRow) 17 v fr)) (hk : k < l.length) : loadA Try.prog σ 59 (.eptr L v k 0) = some (encRow l[k]) := by
  have h := elRow l[k]
  unfold loadA
  simp [hg, hk, h]
theorem fz_sl {ro : Option Nat} {σ : AS} {sz : Nat} {m : List AV} {xs : List AV} : fzL ro σ (slV sz m :: xs) = (match fzL ro σ xs with
    | some (ys, σ') => some (slV sz m :: ys, σ')
    | none => none) := by
  unfold slV
  split <;> rfl
theorem fz_row {ro : Option Nat} {σ : AS} (x : RowD) : fzL ro σ (rowC x) = some (rowC x, σ) := by
  unfold rowC
  simp only [fzL, fz_sl]
theorem store_row {cx : Cx} (hg : σ.get L = some (.row (l.map encRow) 17 v false)) (hk : k < l.length) (hw : wok cx.ro L = true) (x : RowD) : storeA Try.prog cx σ 59 (.eptr L v k 0) (encRow x) = some (σ.set L (.row ((l.set k x).map encRow) 17 v false)) := by
  have h1 : (encRow x).cells = rowC x := rfl
  have h2 : (rowC x).length = 17 := rfl
  have h3 := row_one x
  have h4 : (rowC l[k]).length = 17 := rfl
  have h5 : lay (rowC l[k]) 0 (rowC x) = rowC x := by simp [lay, h2, h4]
  have h6 := okRow x
  have h7 : ((encRow l[k]).withCells (rowC x)) = some (encRow x) := by simp [encRow, AV.withCells]
  have h8 : (encRow l[k]).cells = rowC l[k] := rfl
  have h9 : (l.map encRow)[k]? = some (encRow l[k]) := get_el hk
  unfold storeA
  simp only [s59, h1, h2, h3, fz_row, hg, hw, h9, h8, h4, h5, h6, h7, and_self, if_true, Nat.zero_add, Nat.le_refl, List.map_set]
end
/-- Sorted up to m but for place j. -/
def SortBut (l : List RowD) (m j : Nat) : Prop := ∀ (p q : Nat) (hp : p < l.length) (hq : q < l.length), p < q → q ≤ m → q ≠ j → l[p].st ≤ l[q].st
def SortTo (l : List RowD) (m : Nat) : Prop := ∀ (p q : Nat) (hp : p < l.length) (hq : q < l.length), p < q → q < m → l[p].st ≤ l[q].st
theorem but_of_to {l : List RowD} {m : Nat} (h : SortTo l m) : SortBut l m m := fun p q hp hq h1 h2 h3 => h p q hp hq h1 (by omega)
theorem to_zero {l : List RowD} {m : Nat} (h : SortBut l m 0) : SortTo l (m + 1) := fun p q hp hq h1 h2 => h p q hp hq h1 (by omega) (by omega)
theorem to_of {l : List RowD} {m j : Nat} (hj : j + 1 < l.length) (h : SortBut l m (j + 1)) (hjm : j + 1 ≤ m) (hc : l[j].st ≤ l[j + 1].st) : SortTo l (m + 1) := by
  intro p q hp hq h1 h2
  by_cases e : q = j + 1
  · subst e
    by_cases e2 : p = j
    · subst e2; exact hc
    · exact Int.le_trans (h p j hp (by omega) (by omega) (by omega) (by omega)) hc
  · exact h p q hp hq h1 (by omega) e
def swapL (l : List RowD) (j : Nat) (hj : j + 1 < l.length) : List RowD := (l.set (j + 1) l[j]).set j l[j + 1]
theorem swap_len (l : List RowD) (j : Nat) (hj : j + 1 < l.length) : (swapL l j hj).length = l.length := by simp [swapL]
theorem swap_at {l : List RowD} {j : Nat} (hj : j + 1 < l.length) {i : Nat} (hi : i < (swapL l j hj).length) : (swapL l j hj)[i] = if i = j then l[j + 1] else if i = j + 1 then l[j] else l[i]'(by rw [swap_len] at hi; exact hi) := by
  have hi' : i < l.length := by rw [swap_len] at hi; exact hi
  simp only [swapL, List.getElem_set]
  by_cases e1 : i = j
  · subst e1; simp
  · have e1' : ¬ j = i := fun e => e1 e.symm
    by_cases e2 : i = j + 1
    · subst e2; simp
    · have e2' : ¬ j + 1 = i := fun e => e2 e.symm
      simp [e1, e1', e2, e2']
theorem swap_but {l : List RowD} {m j : Nat} (hj : j + 1 < l.length) (h : SortBut l m (j + 1)) (hjm : j + 1 ≤ m) (hc : l[j + 1].st < l[j].st) : SortBut (swapL l j hj) m j := by
  intro p q hp hq h1 h2 h3
  have hp' : p < l.length := by rw [swap_len] at hp; exact hp
  have hq' : q < l.length := by rw [swap_len] at hq; exact hq
  rw [swap_at hj hp, swap_at hj hq]
  by_cases e1 : q = j + 1
  · subst e1
    by_cases e2 : p = j
    · subst e2; simp; omega
    · have e3 : ¬ p = j + 1 := by omega
      simp [e2, e3]
      exact h p j hp' (by omega) (by omega) (by omega) (by omega)
  · by_cases e2 : p = j
    · subst e2
      have e4 : ¬ q = p := by omega
      simp [e1, e4]
      exact h (p + 1) q hj hq' (by omega) h2 e1
    · by_cases e3 : p = j + 1
      · subst e3
        have e4 : ¬ q = j := by omega
        simp [e1, e4]
        exact h j q (by omega) hq' (by omega) h2 e1
      · simp [e1, e2, e3, h3]
        exact h p q hp' hq' h1 h2 e1
theorem swap_perm {l : List RowD} {j : Nat} (hj : j + 1 < l.length) : (swapL l j hj).Perm l := by
  have e : l = l.take j ++ l[j] :: l[j + 1] :: l.drop (j + 2) := by
    have e1 := List.drop_eq_getElem_cons (i := j) (by omega : j < l.length)
    have e2 := List.drop_eq_getElem_cons hj
    rw [← e2, ← e1, List.take_append_drop]
  have e' : swapL l j hj = l.take j ++ l[j + 1] :: l[j] :: l.drop (j + 2) := by
    apply List.ext_getElem
    · rw [swap_len]; simp; omega
    · have hlt : (l.take j).length = j := by rw [List.length_take]; omega
      intro i h1 h2
      rw [swap_at hj h1]
      have hi' : i < l.length := by rw [swap_len] at h1; exact h1
      by_cases q1 : i = j
      · subst q1
        rw [if_pos rfl, List.getElem_append_right (by omega)]
        simp only [hlt, Nat.sub_self, List.getElem_cons_zero]
      · by_cases q2 : i = j + 1
        · subst q2
          rw [if_neg (by omega), if_pos rfl, List.getElem_append_right (by omega)]
          have e9 : j + 1 - j = 0 + 1 := by omega
          simp only [hlt, e9, List.getElem_cons_succ, List.getElem_cons_zero]
        · rw [if_neg q1, if_neg q2]
          by_cases q3 : i < j
          · rw [List.getElem_append_left (by omega), List.getElem_take]
          · rw [List.getElem_append_right (by omega)]
            obtain ⟨d, hd⟩ : ∃ d, i - j = d + 1 + 1 := ⟨i - j - 2, by omega⟩
            simp only [hlt, hd, List.getElem_cons_succ, List.getElem_drop]
            congr 1
            omega
  rw [e']
  conv => rhs; rw [e]
  exact List.Perm.append_left _ (List.Perm.swap _ _ _)