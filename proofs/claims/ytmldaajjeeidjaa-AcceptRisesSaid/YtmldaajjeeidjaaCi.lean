/- Plain laws of rows of votes that rise. -/
import Derived.Test.YtmldaajjeeidjaaCh
open Go Go.Abs Go.Proofs
set_option linter.unusedSimpArgs false
set_option linter.unusedVariables false
theorem there_fold (v : Vt) : ∀ (L : List Vt) (a : List Vt × Bool × Bool), (L.foldl (stepV v) a).2.2 = (a.2.2 || L.any fun x => decide (x.s = v.s))
  | [], a => by simp
  | x :: L, a => by
    rw [List.foldl_cons, there_fold v L]
    simp [stepV, Bool.or_assoc]
theorem there_acc (v : Vt) (L : List Vt) : (accV v L).2.2 = L.any fun x => decide (x.s = v.s) := by
  unfold accV
  rw [there_fold]
  simp
def finV (v : Vt) (a : List Vt × Bool × Bool) : List Vt := if a.2.1 = true then a.1 else a.1 ++ [v]
theorem fold_done (v : Vt) : ∀ (L : List Vt) (o : List Vt) (t : Bool), (∀ x ∈ L, v.s ≤ x.s) → finV v (L.foldl (stepV v) (o, true, t)) = o ++ L.filter fun x => decide (v.s < x.s)
  | [], o, t, _ => by simp [finV]
  | x :: L, o, t, h => by
    have hx := h x (by simp)
    rw [List.foldl_cons]
    have e : stepV v (o, true, t) x = (o ++ (if x.s ≠ v.s then [x] else []), true, t || decide (x.s = v.s)) := by simp [stepV]
    rw [e, fold_done v L _ _ fun y hy => h y (by simp [hy])]
    by_cases q : x.s = v.s
    · have : ¬ v.s < x.s := by omega
      simp [q, this]
    · have : v.s < x.s := by omega
      simp [q, this]
theorem fold_open (v : Vt) : ∀ (L : List Vt) (o : List Vt) (t : Bool), Rising L → finV v (L.foldl (stepV v) (o, false, t)) = o ++ (L.filter fun x => decide (x.s < v.s)) ++ v :: L.filter fun x => decide (v.s < x.s)
  | [], o, t, _ => by simp [finV]
  | x :: L, o, t, h => by
    have h' := List.pairwise_cons.1 h
    rw [List.foldl_cons]
    by_cases q : v.s ≤ x.s
    · have e : stepV v (o, false, t) x = ((o ++ [v]) ++ (if x.s ≠ v.s then [x] else []), true, t || decide (x.s = v.s)) := by simp [stepV, q]
      rw [e, fold_done v L _ _ fun y hy => by have := h'.1 y hy; omega]
      have h1 : (L.filter fun x => decide (x.s < v.s)) = [] := by
        rw [List.filter_eq_nil_iff]
        intro y hy
        have := h'.1 y hy
        simp; omega
      have h2 : ¬ x.s < v.s := by omega
      by_cases q2 : x.s = v.s
      · have h3 : ¬ v.s < x.s := by omega
        simp [q2, h1, h2, h3]
      · have h3 : v.s < x.s := by omega
        simp [q2, h1, h2, h3]
    · have h2 : x.s < v.s := by omega
      have h3 : ¬ v.s < x.s := by omega
      have h4 : ¬ x.s = v.s := by omega
      have e : stepV v (o, false, t) x = (o ++ [x], false, t || decide (x.s = v.s)) := by simp [stepV, q, h4]
      rw [e, fold_open v L _ _ h'.2]
      simp [h2, h3]
theorem putV_eq {v : Vt} {L : List Vt} (h : Rising L) : F10.putV v L = (L.filter fun x => decide (x.s < v.s)) ++ v :: L.filter fun x => decide (v.s < x.s) := by
  have := fold_open v L [] false h
  simp only [List.nil_append] at this
  exact this
theorem putV_rising {v : Vt} {L : List Vt} (h : Rising L) : Rising (F10.putV v L) := by
  rw [putV_eq h]
  unfold Rising at *
  rw [List.pairwise_append, List.pairwise_cons]
  refine ⟨h.filter _, ⟨fun y hy => ?_, h.filter _⟩, fun x hx y hy => ?_⟩
  · simpa using (List.mem_filter.1 hy).2
  · have h1 : x.s < v.s := by simpa using (List.mem_filter.1 hx).2
    rcases List.mem_cons.1 hy with rfl | hy
    · exact h1
    · have h2 : v.s < y.s := by simpa using (List.mem_filter.1 hy).2
      omega
theorem filt_perm (k : Int) : ∀ L : List Vt, ((L.filter fun x => decide (x.s < k)) ++ L.filter fun x => decide (k < x.s)).Perm (L.filter fun x => decide (x.s ≠ k))
  | [] => by simp
  | x :: L => by
    have ih := filt_perm k L
    rcases Int.lt_trichotomy x.s k with h | h | h
    · have h1 : ¬ k < x.s := by omega
      have h2 : x.s ≠ k := by omega
      simp only [List.filter_cons, h, h1, h2, decide_true, decide_false, if_true, Bool.false_eq_true, if_false, List.cons_append, ne_eq, not_false_eq_true]
      exact ih.cons x
    · have h1 : ¬ k < x.s := by omega
      have h2 : ¬ x.s < k := by omega
      simp only [List.filter_cons, h2, h1, h, decide_false, Bool.false_eq_true, if_false, ne_eq, not_true_eq_false]
      simpa [h] using ih
    · have h1 : ¬ x.s < k := by omega
      have h2 : x.s ≠ k := by omega
      simp only [List.filter_cons, h, h1, h2, decide_true, decide_false, if_true, Bool.false_eq_true, if_false, ne_eq, not_false_eq_true]
      exact (List.perm_middle).trans (ih.cons x)
theorem updV_perm (v : Vt) : ∀ {M : List Vt}, M.Pairwise (fun a b => a.s ≠ b.s) → (updV v M).Perm (v :: M.filter fun x => decide (x.s ≠ v.s))
  | [], _ => by simp [updV]
  | x :: M, h => by
    have h' := List.pairwise_cons.1 h
    unfold updV
    by_cases q : v.s = x.s
    · have hf : (M.filter fun y => decide (y.s ≠ v.s)) = M := by
        rw [List.filter_eq_self]
        intro y hy
        have := h'.1 y hy
        simp; omega
      rw [if_pos q, List.filter_cons, hf]
      simp [q]
    · rw [if_neg q, List.filter_cons, if_pos (by simp; omega)]
      exact ((updV_perm v h'.2).cons x).trans (List.Perm.swap v x _)
theorem upd_put {v : Vt} {M L : List Vt} (hM : M.Perm L) (hL : Rising L) : (updV v M).Perm (F10.putV v L) := by
  rw [putV_eq hL]
  exact (updV_perm v (rising_ne hM hL)).trans (((hM.filter _).cons v).trans ((((filt_perm v.s L).symm).cons v).trans (List.perm_middle.symm)))
theorem there_find {v : Vt} {M L : List Vt} (hM : M.Perm L) : ((M.find? fun x => decide (v.s = x.s)) = none) ↔ (accV v L).2.2 = false := by
  rw [there_acc, List.find?_eq_none, List.any_eq_false]
  constructor
  · intro h x hx
    have := h x (hM.mem_iff.2 hx)
    simp at this ⊢
    omega
  · intro h x hx
    have := h x (hM.mem_iff.1 hx)
    simp at this ⊢
    omega
theorem put_mem {v x : Vt} {L : List Vt} (h : Rising L) (hx : x ∈ F10.putV v L) : x = v ∨ (x ∈ L ∧ x.s ≠ v.s) := by
  rw [putV_eq h] at hx
  rcases List.mem_append.1 hx with hx | hx
  · have := List.mem_filter.1 hx
    refine .inr ⟨this.1, ?_⟩
    have h2 := this.2
    simp at h2
    omega
  · rcases List.mem_cons.1 hx with rfl | hx
    · exact .inl rfl
    · have := List.mem_filter.1 hx
      refine .inr ⟨this.1, ?_⟩
      have h2 := this.2
      simp at h2
      omega
theorem put_has {v : Vt} {L : List Vt} (h : Rising L) : v ∈ F10.putV v L := by
  rw [putV_eq h]; simp
theorem put_old {v x : Vt} {L : List Vt} (h : Rising L) (hx : x ∈ L) (hn : x.s ≠ v.s) : x ∈ F10.putV v L := by
  rw [putV_eq h]
  rcases Int.lt_trichotomy x.s v.s with q | q | q
  · exact List.mem_append.2 (.inl (List.mem_filter.2 ⟨hx, by simpa using q⟩))
  · exact absurd q hn
  · exact List.mem_append.2 (.inr (List.mem_cons.2 (.inr (List.mem_filter.2 ⟨hx, by simpa using q⟩))))
theorem put_len {v : Vt} {L : List Vt} (h : Rising L) : (F10.putV v L).length = L.length + (if (accV v L).2.2 = true then 0 else 1) := by
  have hp := upd_put (v := v) (List.Perm.refl L) h
  rw [← hp.length_eq, there_acc]
  clear hp h
  induction L with
  | nil => simp [updV]
  | cons x L ih =>
    unfold updV
    by_cases q : v.s = x.s
    · simp [q]
    · have q2 : ¬ x.s = v.s := fun e => q e.symm
      rw [if_neg q, List.length_cons, ih]
      simp [q2]
      omega
/-- What an acceptor is. -/
structure StV where
  pr : Int
  pn : Int
  L : List Vt
def GoodS (S : StV) : Prop := Rising S.L ∧ (∀ v ∈ S.L, SlotOk v) ∧ S.L.length ≤ 400
def prepS (r n m : Int) (S : StV) : StV := if (askedB r n && decide (0 ≤ m)) = true then (if lessB r n S.pr S.pn = true then S else ⟨r, n, S.L⟩) else S
def accS (v : Vt) (S : StV) : StV := if voteOk v = true then (if lessB v.r v.n S.pr S.pn = true then S else if (accV v S.L).2.2 = false ∧ 400 ≤ S.L.length then S else ⟨v.r, v.n, F10.putV v S.L⟩) else S
def opS (k : Int) (v : Vt) (m : Int) (S : StV) : StV := if k = 0 then prepS v.r v.n m S else if k = 1 ∨ k = 2 then accS v S else S
theorem voteOk_slot {v : Vt} (h : voteOk v = true) : SlotOk v := by
  simp only [voteOk, Bool.and_eq_true, decide_eq_true_eq] at h
  exact ⟨h.2.1, h.2.2.1⟩
theorem good_acc {v : Vt} {S : StV} (h : GoodS S) : GoodS (accS v S) := by
  unfold accS
  split
  · rename_i hv
    split
    · exact h
    · split
      · exact h
      · rename_i hn
        refine ⟨putV_rising h.1, fun x hx => ?_, ?_⟩
        · rcases put_mem h.1 hx with rfl | hx
          · exact voteOk_slot hv
          · exact h.2.1 x hx.1
        · show (F10.putV v S.L).length ≤ 400
          rw [put_len h.1]
          have := h.2.2
          cases ht : (accV v S.L).2.2 with
          | true => simp; exact this
          | false =>
            have : ¬ 400 ≤ S.L.length := fun h => hn ⟨ht, h⟩
            simp; omega
  · exact h
theorem good_prep {r n m : Int} {S : StV} (h : GoodS S) : GoodS (prepS r n m S) := by
  unfold prepS
  split
  · split
    · exact h
    · exact h
  · exact h
theorem good_op {k : Int} {v : Vt} {m : Int} {S : StV} (h : GoodS S) : GoodS (opS k v m S) := by
  unfold opS
  split
  · exact good_prep h
  · split
    · exact good_acc h
    · exact h
