/- Plain laws of rows by their keys. -/

import Derived.Test.YtajoebiaopapoaaCp
import Derived.Sort.Walk0
open Go Go.Abs Go.Proofs
set_option linter.unusedSimpArgs false
set_option linter.unusedVariables false
theorem ltS_dec (x y : ByteArray) : ltS x y = decide (x.data.toList < y.data.toList) := bytesLess_eq _ _
theorem ltS_irrefl (x : ByteArray) : ltS x x = false := by
  rw [ltS_dec]
  exact decide_eq_false (List.lt_irrefl _)
theorem ltS_trans {x y z : ByteArray} (h1 : ltS x y = true) (h2 : ltS y z = true) : ltS x z = true := by
  rw [ltS_dec] at *
  exact decide_eq_true (List.lt_trans (of_decide_eq_true h1) (of_decide_eq_true h2))
theorem ltS_asymm {x y : ByteArray} (h1 : ltS x y = true) : ltS y x = false := by
  cases h : ltS y x with
  | false => rfl
  | true =>
    have := ltS_trans h1 h
    rw [ltS_irrefl] at this
    cases this
theorem ltS_tri {x y : ByteArray} (h1 : ltS x y = false) (h2 : ltS y x = false) : x = y := by
  rw [ltS_dec] at *
  refine ext_bytes (List.le_antisymm (List.not_lt.1 ?_) (List.not_lt.1 ?_))
  · exact of_decide_eq_false h2
  · exact of_decide_eq_false h1
theorem ltS_ne {x y : ByteArray} (h : ltS x y = true) : x ≠ y := by
  rintro rfl
  rw [ltS_irrefl] at h
  cases h
def SortedS (S : List Rw) : Prop := S.Pairwise (fun a b => ltS a.1 b.1 = true)
theorem fold_doneS (key : ByteArray) (l : List Vn) : ∀ (L : List Rw) (o : List Rw), L.foldl (stepS key l) (o, true) = (o ++ L.filter (fun r => !decide (r.1 = key)), true)
  | [], o => by simp
  | r :: L, o => by
    rw [List.foldl_cons]
    have e : stepS key l (o, true) r = (o ++ (if r.1 = key then [] else [r]), true) := by simp [stepS]
    rw [e, fold_doneS key l L]
    by_cases q : r.1 = key <;> simp [q]
theorem fold_ltS (key : ByteArray) (l : List Vn) : ∀ (A : List Rw) (o : List Rw), (∀ r ∈ A, ltS r.1 key = true) → A.foldl (stepS key l) (o, false) = (o ++ A, false)
  | [], o, _ => by simp
  | r :: A, o, h => by
    rw [List.foldl_cons]
    have h1 := h r (by simp)
    have e : stepS key l (o, false) r = (o ++ [r], false) := by simp [stepS, h1, ltS_ne h1]
    rw [e, fold_ltS key l A _ fun x hx => h x (by simp [hx])]
    simp
theorem filter_ne {key : ByteArray} {B : List Rw} (h : ∀ r ∈ B, r.1 ≠ key) : B.filter (fun r => !decide (r.1 = key)) = B := by
  rw [List.filter_eq_self]
  intro r hr
  simpa using h r hr
/-- A key that is there gets another row. -/
theorem setS_at {key : ByteArray} {l l0 : List Vn} {A B : List Rw} (hA : ∀ r ∈ A, ltS r.1 key = true) (hB : ∀ r ∈ B, ltS key r.1 = true) : setS key l (A ++ (key, l0) :: B) = A ++ (if l.isEmpty then [] else [(key, l)]) ++ B := by
  have hA' : A.filter (fun r => !decide (r.1 = key)) = A := filter_ne fun r hr => ltS_ne (hA r hr)
  have hB' : B.filter (fun r => !decide (r.1 = key)) = B := filter_ne fun r hr => (ltS_ne (hB r hr)).symm
  unfold setS accS
  cases hl : l.isEmpty with
  | true =>
    rw [fold_doneS]
    simp [hA', hB']
  | false =>
    rw [List.foldl_append, fold_ltS key l A _ hA, List.foldl_cons]
    have e : stepS key l ([] ++ A, false) (key, l0) = (A ++ [(key, l)], true) := by simp [stepS, ltS_irrefl]
    rw [e, fold_doneS, hB']
    simp
/-- A key that is not there comes in. -/
theorem setS_new {key : ByteArray} {l : List Vn} {A B : List Rw} (hl : l ≠ []) (hA : ∀ r ∈ A, ltS r.1 key = true) (hB : ∀ r ∈ B, ltS key r.1 = true) : setS key l (A ++ B) = A ++ (key, l) :: B := by
  have hle : l.isEmpty = false := by cases l with | nil => exact absurd rfl hl | cons => rfl
  unfold setS accS
  rw [hle, List.foldl_append, fold_ltS key l A _ hA]
  cases B with
  | nil => simp
  | cons r B =>
    have h1 := ltS_asymm (hB r (by simp))
    have h2 := (ltS_ne (hB r (by simp))).symm
    have hB' : B.filter (fun r => !decide (r.1 = key)) = B := filter_ne fun r hr => (ltS_ne (hB r (by simp [hr]))).symm
    rw [List.foldl_cons]
    have e : stepS key l ([] ++ A, false) r = (A ++ [(key, l)] ++ [r], true) := by simp [stepS, h1, h2]
    rw [e, fold_doneS, hB']
    simp
/-- Each row turned; those without versions go. -/
def turnR (g : List Vn → List Vn) (r : Rw) : Option Rw := if (g r.2).isEmpty then none else some (r.1, g r.2)
def turnS (g : List Vn → List Vn) (S : List Rw) : List Rw := S.filterMap (turnR g)
theorem turnS_key {g : List Vn → List Vn} {S : List Rw} {x : Rw} (h : x ∈ turnS g S) : ∃ r ∈ S, x.1 = r.1 := by
  obtain ⟨r, hr, hx⟩ := List.mem_filterMap.1 h
  refine ⟨r, hr, ?_⟩
  unfold turnR at hx
  split at hx
  · cases hx
  · cases hx; rfl
theorem turn_step {g : List Vn → List Vn} {S : List Rw} (hS : SortedS S) {k : Nat} (hk : k < S.length) : setS S[k].1 (g S[k].2) (turnS g (S.take k) ++ S.drop k) = turnS g (S.take (k + 1)) ++ S.drop (k + 1) := by
  have hd : S.drop k = S[k] :: S.drop (k + 1) := List.drop_eq_getElem_cons hk
  have hp := List.pairwise_iff_getElem.1 hS
  have hA : ∀ r ∈ turnS g (S.take k), ltS r.1 S[k].1 = true := by
    intro r hr
    obtain ⟨x, hx, he⟩ := turnS_key hr
    obtain ⟨i, hi, rfl⟩ := List.mem_iff_getElem.1 hx
    rw [List.length_take] at hi
    rw [he, List.getElem_take]
    exact hp i k (by omega) hk (by omega)
  have hB : ∀ r ∈ S.drop (k + 1), ltS S[k].1 r.1 = true := by
    intro r hr
    obtain ⟨i, hi, rfl⟩ := List.mem_iff_getElem.1 hr
    rw [List.length_drop] at hi
    rw [List.getElem_drop]
    exact hp k (k + 1 + i) hk (by omega) (by omega)
  rw [hd]
  have := setS_at (l := g S[k].2) (l0 := S[k].2) hA hB
  rw [show (S[k].1, S[k].2) = S[k] from rfl] at this
  rw [this, List.take_succ_eq_append_getElem hk]
  congr 1
  unfold turnS
  rw [List.filterMap_append]
  congr 1
  have h1 : List.filterMap (turnR g) [S[k]] = match turnR g S[k] with
    | some x => [x]
    | none => [] := by
    cases h : turnR g S[k] <;> simp [h]
  rw [h1]
  unfold turnR
  cases h : (g S[k].2).isEmpty
  · rw [if_neg (by simp), if_neg (by simp)]
  · rw [if_pos rfl, if_pos rfl]
theorem turnS_len {g : List Vn → List Vn} (S : List Rw) : (turnS g S).length ≤ S.length := List.length_filterMap_le _ _
