/- The pure law: what a lead remembers, and of whom. -/
import Derived.Test.YtidfkjpcpgeilaaA0
open Go Go.Abs Go.Proofs
set_option maxRecDepth 100000
set_option maxHeartbeats 4000000
set_option linter.unusedSimpArgs false
set_option linter.unusedVariables false
/-! Maps by keys. -/
section
variable {κ β : Type} [DecidableEq κ] (ek : κ → AV) (vv : β → AV)
def mget (key : κ) (M : List (κ × β)) : Option β := (M.find? fun r => decide (r.1 = key)).map (·.2)
def mput (key : κ) (v : β) : List (κ × β) → List (κ × β)
  | [] => [(key, v)]
  | r :: M => if r.1 = key then (key, v) :: M else r :: mput key v M
def ment (r : κ × β) : AV × AV := (ek r.1, vv r.2)
theorem findA_m (hk : ∀ a b, keyEq (ek a) (ek b) = some (decide (b = a))) (key : κ) : ∀ M : List (κ × β), findA (ek key) (M.map (ment ek vv)) = some ((mget key M).map vv)
  | [] => rfl
  | r :: M => by
    have ih := findA_m hk key M
    simp only [List.map_cons, findA, ment, hk, mget]
    by_cases q : r.1 = key
    · simp [q]
    · simp only [q, decide_false, List.find?_cons_of_neg, Bool.false_eq_true, not_false_eq_true]
      exact ih
theorem putA_m (hk : ∀ a b, keyEq (ek a) (ek b) = some (decide (b = a))) (key : κ) (v : β) : ∀ M : List (κ × β), putA (ek key) (vv v) (M.map (ment ek vv)) = some ((mput key v M).map (ment ek vv))
  | [] => rfl
  | r :: M => by
    have ih := putA_m hk key v M
    simp only [List.map_cons, putA, ment, hk, mput]
    by_cases q : r.1 = key
    · simp only [q, decide_true, if_true, List.map_cons, ment]
    · have ih' := ih
      simp only [q, decide_false, if_false]
      rw [ih']
      rfl
theorem mget_mput (key k : κ) (v : β) : ∀ M : List (κ × β), mget k (mput key v M) = if k = key then some v else mget k M
  | [] => by
    by_cases q : k = key
    · subst q; simp [mput, mget]
    · have q4 : ¬ key = k := fun e => q e.symm
      simp [mput, mget, q, q4]
  | r :: M => by
    have ih := mget_mput key k v M
    unfold mput
    by_cases q : r.1 = key
    · rw [if_pos q]
      by_cases q2 : k = key
      · subst q2; simp [mget]
      · have q3 : ¬ r.1 = k := fun e => q2 (e.symm.trans q)
        have q4 : ¬ key = k := fun e => q2 e.symm
        simp [mget, q2, q3, q4]
    · rw [if_neg q]
      by_cases q2 : r.1 = k
      · have q3 : ¬ k = key := fun e => q (q2.trans e)
        simp [mget, q2, q3]
      · have e1 : mget k (r :: mput key v M) = mget k (mput key v M) := by simp [mget, q2]
        have e2 : mget k (r :: M) = mget k M := by simp [mget, q2]
        rw [e1, e2]
        exact ih
theorem mget_some {key : κ} {M : List (κ × β)} {v : β} (h : mget key M = some v) : (key, v) ∈ M := by
  unfold mget at h
  obtain ⟨r, h1, h2⟩ := Option.map_eq_some_iff.1 h
  have h3 := List.find?_some h1
  have h4 := List.mem_of_find?_eq_some h1
  obtain ⟨a, b⟩ := r
  simp only [decide_eq_true_eq] at h3 h2
  subst h3; subst h2
  exact h4
theorem mget_mem {r : κ × β} {M : List (κ × β)} (h : r ∈ M) : ∃ v, mget r.1 M = some v := by
  unfold mget
  cases e : M.find? (fun x => decide (x.1 = r.1)) with
  | some x => exact ⟨_, rfl⟩
  | none =>
    have := List.find?_eq_none.1 e r h
    simp at this
theorem mput_new {key : κ} {v : β} : ∀ {M : List (κ × β)}, (∀ r ∈ M, r.1 ≠ key) → mput key v M = M ++ [(key, v)]
  | [], _ => rfl
  | r :: M, h => by
    unfold mput
    rw [if_neg (h r (by simp)), mput_new fun x hx => h x (by simp [hx])]
    rfl
theorem mput_keys {key : κ} {v : β} : ∀ {M : List (κ × β)}, (∃ r ∈ M, r.1 = key) → (mput key v M).map (·.1) = M.map (·.1)
  | [], h => by obtain ⟨r, hr, _⟩ := h; cases hr
  | r :: M, h => by
    unfold mput
    by_cases q : r.1 = key
    · rw [if_pos q]; simp [q]
    · rw [if_neg q]
      simp only [List.map_cons]
      rw [mput_keys]
      obtain ⟨x, hx, e⟩ := h
      rcases List.mem_cons.1 hx with rfl | hx
      · exact absurd e q
      · exact ⟨x, hx, e⟩
end
/-! Votes. -/
/-- A vote. -/
structure Vt where
  s : Int
  r : Int
  n : Int
  v : ByteArray
def encVt (x : Vt) : AV := .agg [.int .i64 x.s, .int .u64 x.r, .int .i64 x.n, .str x.v]
def zeroVt : Vt := ⟨0, 0, 0, ⟨#[]⟩⟩
def lessB (r1 n1 r2 n2 : Int) : Bool := decide (r1 < r2) || (decide (r1 = r2) && decide (n1 < n2))
def stepB (fr : Int) (M : List (Int × Vt)) (v : Vt) : List (Int × Vt) :=
  if (decide (fr ≤ v.s) && (decide (v.s < 400) && (!(mget v.s M).isSome || lessB ((mget v.s M).getD zeroVt).r ((mget v.s M).getD zeroVt).n v.r v.n))) = true then mput v.s v M else M
def stepW (slot : Int) (b : Option Vt) (v : Vt) : Option Vt := if (decide (v.s = slot) && (!b.isSome || lessB (b.getD zeroVt).r (b.getD zeroVt).n v.r v.n)) = true then some v else b
def valueF (P : List (Int × List Vt)) (slot : Int) : Option Vt := P.foldl (fun b p => p.2.foldl (stepW slot) b) none
theorem stepB_get (fr slot : Int) (M : List (Int × Vt)) (v : Vt) : mget slot (stepB fr M v) = if fr ≤ slot ∧ slot < 400 then stepW slot (mget slot M) v else mget slot M := by
  unfold stepB stepW
  by_cases q : v.s = slot
  · subst q
    by_cases h1 : fr ≤ v.s <;> by_cases h2 : v.s < 400 <;> simp only [h1, h2, decide_true, decide_false, Bool.true_and, Bool.false_and, Bool.false_eq_true, if_false, and_true, and_false, true_and, false_and, if_true]
    split
    · rw [mget_mput]; simp
    · rfl
  · have e : (if fr ≤ slot ∧ slot < 400 then mget slot M else mget slot M) = mget slot M := by split <;> rfl
    simp only [q, decide_false, Bool.false_and, Bool.false_eq_true, if_false, e]
    split
    · rw [mget_mput, if_neg (fun e => q e.symm)]
    · rfl
theorem foldB_get (fr slot : Int) : ∀ (l : List Vt) (M : List (Int × Vt)), mget slot (l.foldl (stepB fr) M) = if fr ≤ slot ∧ slot < 400 then l.foldl (stepW slot) (mget slot M) else mget slot M
  | [], M => by simp
  | v :: l, M => by
    rw [List.foldl_cons, foldB_get fr slot l, stepB_get]
    by_cases h : fr ≤ slot ∧ slot < 400
    · simp [h]
    · simp [h]
theorem stepB_keys {fr : Int} {M : List (Int × Vt)} {v : Vt} (h : ∀ e ∈ M, 0 ≤ e.1 ∧ e.1 < 400) (h0 : 0 ≤ fr) : ∀ e ∈ stepB fr M v, 0 ≤ e.1 ∧ e.1 < 400 := by
  intro e he
  obtain ⟨x, hx⟩ := mget_mem he
  rw [stepB_get] at hx
  by_cases q : fr ≤ e.1 ∧ e.1 < 400
  · omega
  · rw [if_neg q] at hx
    have := h _ (mget_some hx)
    exact this
theorem foldB_keys {fr : Int} (h0 : 0 ≤ fr) : ∀ {l : List Vt} {M : List (Int × Vt)}, (∀ e ∈ M, 0 ≤ e.1 ∧ e.1 < 400) → ∀ e ∈ l.foldl (stepB fr) M, 0 ≤ e.1 ∧ e.1 < 400
  | [], M, h => h
  | v :: l, M, h => foldB_keys h0 (l := l) (stepB_keys h h0)
/-! Masks. -/
def hasM (m k : Int) : Bool := decide (0 ≤ k) && (decide (k < 5) && decide (m / 2 ^ k.toNat % 2 = 1))
def withM (m k : Int) : Int := if (decide (0 ≤ k) && decide (k < 5)) = true then ((m.toNat ||| (2 ^ k.toNat) : Nat) : Int) else m
def amongM (m n : Int) : Int := (((List.range n.toNat).filter fun (k : Nat) => hasM m (k : Int)).length : Int)
def clampM (n : Int) : Int := min (max n 1) 5
def winsM (m n : Int) : Bool := decide (clampM n < 2 * amongM m (clampM n))
def MOk (m : Int) : Prop := 0 ≤ m ∧ m < 32
theorem mok_cases {p : Int → Prop} (h : ∀ m : Fin 32, p ((m : Nat) : Int)) {m : Int} (hm : MOk m) : p m := by
  have := h ⟨m.toNat, by unfold MOk at hm; omega⟩
  simpa [Int.toNat_of_nonneg hm.1] using this
theorem node_cases {p : Int → Prop} (h : ∀ k : Fin 5, p ((k : Nat) : Int)) {k : Int} (h0 : 0 ≤ k) (h1 : k < 5) : p k := by
  have := h ⟨k.toNat, by omega⟩
  simpa [Int.toNat_of_nonneg h0] using this
theorem with_ok {m k : Int} (hm : MOk m) : MOk (withM m k) := by
  by_cases h0 : 0 ≤ k
  · by_cases h1 : k < 5
    · refine mok_cases (p := fun m => MOk (withM m k)) (fun m => ?_) hm
      refine node_cases (p := fun k => MOk (withM ((m : Nat) : Int) k)) (fun k => ?_) h0 h1
      have : ∀ (m : Fin 32) (k : Fin 5), 0 ≤ withM ((m : Nat) : Int) ((k : Nat) : Int) ∧ withM ((m : Nat) : Int) ((k : Nat) : Int) < 32 := by decide
      exact this m k
    · simp [withM, h0, h1, hm]
  · simp [withM, h0, hm]
theorem has_with {m k j : Int} (hm : MOk m) (h0 : 0 ≤ k) (h1 : k < 5) (j0 : 0 ≤ j) (j1 : j < 5) : hasM (withM m k) j = (hasM m j || decide (j = k)) := by
  refine mok_cases (p := fun m => hasM (withM m k) j = (hasM m j || decide (j = k))) (fun m => ?_) hm
  refine node_cases (p := fun k => hasM (withM ((m : Nat) : Int) k) j = (hasM ((m : Nat) : Int) j || decide (j = k))) (fun k => ?_) h0 h1
  refine node_cases (p := fun j => hasM (withM ((m : Nat) : Int) ((k : Nat) : Int)) j = (hasM ((m : Nat) : Int) j || decide (j = ((k : Nat) : Int)))) (fun j => ?_) j0 j1
  have : ∀ (m : Fin 32) (k j : Fin 5), hasM (withM ((m : Nat) : Int) ((k : Nat) : Int)) ((j : Nat) : Int) = (hasM ((m : Nat) : Int) ((j : Nat) : Int) || decide (((j : Nat) : Int) = ((k : Nat) : Int))) := by decide
  exact this m k j
theorem has_range {m k : Int} (h : hasM m k = true) : 0 ≤ k ∧ k < 5 := by
  simp only [hasM, Bool.and_eq_true, decide_eq_true_eq] at h
  exact ⟨h.1, h.2.1⟩
theorem with_same {m k : Int} (hm : MOk m) (h : hasM m k = true) : withM m k = m := by
  obtain ⟨h0, h1⟩ := has_range h
  revert h
  refine mok_cases (p := fun m => hasM m k = true → withM m k = m) (fun m => ?_) hm
  refine node_cases (p := fun k => hasM ((m : Nat) : Int) k = true → withM ((m : Nat) : Int) k = ((m : Nat) : Int)) (fun k => ?_) h0 h1
  have : ∀ (m : Fin 32) (k : Fin 5), hasM ((m : Nat) : Int) ((k : Nat) : Int) = true → withM ((m : Nat) : Int) ((k : Nat) : Int) = ((m : Nat) : Int) := by decide
  exact this m k
theorem among_with {m k n : Int} (hm : MOk m) (h0 : 0 ≤ k) (h1 : k < n) (hn : n ≤ 5) (h : hasM m k = false) : amongM (withM m k) n = amongM m n + 1 := by
  have hn0 : 0 ≤ n := by omega
  have hk5 : k < 5 := by omega
  revert h h1
  refine mok_cases (p := fun m => k < n → hasM m k = false → amongM (withM m k) n = amongM m n + 1) (fun m => ?_) hm
  refine node_cases (p := fun k => k < n → hasM ((m : Nat) : Int) k = false → amongM (withM ((m : Nat) : Int) k) n = amongM ((m : Nat) : Int) n + 1) (fun k => ?_) h0 hk5
  have : ∀ (m : Fin 32) (k : Fin 5) (n : Fin 6), ((k : Nat) : Int) < ((n : Nat) : Int) → hasM ((m : Nat) : Int) ((k : Nat) : Int) = false → amongM (withM ((m : Nat) : Int) ((k : Nat) : Int)) ((n : Nat) : Int) = amongM ((m : Nat) : Int) ((n : Nat) : Int) + 1 := by decide
  have h := this m k ⟨n.toNat, by omega⟩
  simpa [Int.toNat_of_nonneg hn0] using h
theorem among_zero (n : Int) : amongM 0 n = 0 := by
  have : (List.range n.toNat).filter (fun (k : Nat) => hasM 0 (k : Int)) = [] := by
    rw [List.filter_eq_nil_iff]
    intro k _
    simp [hasM]
  unfold amongM
  rw [this]
  rfl
def maskF (l : List Int) : Int := l.foldl withM 0
theorem maskF_snoc (l : List Int) (k : Int) : maskF (l ++ [k]) = withM (maskF l) k := by simp [maskF]
/-- A mask is a set of nodes. -/
structure MaskOf (n : Int) (m : Int) (l : List Int) : Prop where
  ok : MOk m
  el : ∀ k ∈ l, 0 ≤ k ∧ k < n
  has : ∀ k, 0 ≤ k → k < 5 → (hasM m k = true ↔ k ∈ l)
  cnt : amongM m n = (l.length : Int)
theorem MaskOf.nil (n : Int) : MaskOf n 0 [] := {
  ok := ⟨by decide, by decide⟩
  el := fun k h => by cases h
  has := fun k _ _ => by simp [hasM]
  cnt := among_zero n }
theorem MaskOf.snoc {n m k : Int} {l : List Int} (h : MaskOf n m l) (h0 : 0 ≤ k) (h1 : k < n) (hn : n ≤ 5) (hk : k ∉ l) : MaskOf n (withM m k) (l ++ [k]) := {
  ok := with_ok h.ok
  el := fun x hx => by
    rcases List.mem_append.1 hx with hx | hx
    · exact h.el x hx
    · rw [List.mem_singleton.1 hx]; exact ⟨h0, h1⟩
  has := fun j j0 j1 => by
    rw [has_with h.ok h0 (by omega) j0 j1, Bool.or_eq_true, h.has j j0 j1, decide_eq_true_iff]
    simp
  cnt := by
    have : hasM m k = false := by
      cases e : hasM m k with
      | false => rfl
      | true => exact absurd ((h.has k h0 (by omega)).1 e) hk
    rw [among_with h.ok h0 h1 hn this, h.cnt]
    simp }
theorem MaskOf.wins {n m : Int} {l : List Int} (h : MaskOf n m l) (h1 : 1 ≤ n) (h2 : n ≤ 5) : winsM m n = decide (n < 2 * (l.length : Int)) := by
  have : clampM n = n := by unfold clampM; omega
  unfold winsM
  rw [this, h.cnt]
