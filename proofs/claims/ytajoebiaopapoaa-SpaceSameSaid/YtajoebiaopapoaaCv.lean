/- Plain laws of maps and rows. -/

import Derived.Test.YtajoebiaopapoaaCu
open Go Go.Abs Go.Proofs
set_option maxRecDepth 100000
set_option linter.unusedSimpArgs false
set_option linter.unusedVariables false
def putM (key : ByteArray) (l : List Vn) : List Rw → List Rw
  | [] => [(key, l)]
  | r :: M => if r.1 = key then (key, l) :: M else r :: putM key l M
def dropM (key : ByteArray) : List Rw → List Rw
  | [] => []
  | r :: M => if r.1 = key then M else r :: dropM key M
theorem keyEq_ofS (key : ByteArray) (r : Rw) : keyEq (.str key) (entS r).1 = some (decide (r.1 = key)) := by
  simp only [keyEq, entS, beqS_dec]
  congr 1
  by_cases q : key = r.1
  · rw [decide_eq_true q, decide_eq_true q.symm]
  · rw [decide_eq_false q, decide_eq_false (fun e => q e.symm)]
theorem putA_ofS (key : ByteArray) (l : List Vn) : ∀ M : List Rw, putA (.str key) (.agg [slV 4 (l.map encVn)]) (M.map entS) = some ((putM key l M).map entS)
  | [] => rfl
  | r :: M => by
    have ih := putA_ofS key l M
    simp only [List.map_cons, putA, keyEq_ofS, putM]
    by_cases q : r.1 = key
    · simp only [q, decide_true, if_true, List.map_cons]
      rfl
    · simp only [q, decide_false, if_false, ih, List.map_cons]
theorem dropA_ofS (key : ByteArray) : ∀ M : List Rw, dropA (.str key) (M.map entS) = some ((dropM key M).map entS)
  | [] => rfl
  | r :: M => by
    have ih := dropA_ofS key M
    simp only [List.map_cons, dropA, keyEq_ofS, dropM]
    by_cases q : r.1 = key
    · simp only [q, decide_true, if_true]
    · simp only [q, decide_false, if_false, ih, List.map_cons]
theorem putM_mid (key : ByteArray) (l l0 : List Vn) : ∀ (M1 M2 : List Rw), (∀ r ∈ M1, r.1 ≠ key) → putM key l (M1 ++ (key, l0) :: M2) = M1 ++ (key, l) :: M2
  | [], M2, _ => by simp [putM]
  | r :: M1, M2, h => by
    have h1 := h r (by simp)
    simp only [List.cons_append, putM, h1, if_false]
    rw [putM_mid key l l0 M1 M2 fun x hx => h x (by simp [hx])]
theorem dropM_mid (key : ByteArray) (l0 : List Vn) : ∀ (M1 M2 : List Rw), (∀ r ∈ M1, r.1 ≠ key) → dropM key (M1 ++ (key, l0) :: M2) = M1 ++ M2
  | [], M2, _ => by simp [dropM]
  | r :: M1, M2, h => by
    have h1 := h r (by simp)
    simp only [List.cons_append, dropM, h1, if_false]
    rw [dropM_mid key l0 M1 M2 fun x hx => h x (by simp [hx])]
theorem putM_new (key : ByteArray) (l : List Vn) : ∀ M : List Rw, (∀ r ∈ M, r.1 ≠ key) → putM key l M = M ++ [(key, l)]
  | [], _ => rfl
  | r :: M, h => by
    have h1 := h r (by simp)
    simp only [putM, h1, if_false, List.cons_append]
    rw [putM_new key l M fun x hx => h x (by simp [hx])]
/-- Where a key stands among others. -/
theorem split_at {S : List Rw} (hS : SortedS S) {k : Nat} (hk : k < S.length) : S = S.take k ++ (S[k].1, S[k].2) :: S.drop (k + 1) ∧ (∀ r ∈ S.take k, ltS r.1 S[k].1 = true) ∧ (∀ r ∈ S.drop (k + 1), ltS S[k].1 r.1 = true) := by
  have hp := List.pairwise_iff_getElem.1 hS
  refine ⟨?_, fun r hr => ?_, fun r hr => ?_⟩
  · conv => lhs; rw [← List.take_append_drop k S, List.drop_eq_getElem_cons hk]
  · obtain ⟨i, hi, rfl⟩ := List.mem_iff_getElem.1 hr
    rw [List.length_take] at hi
    rw [List.getElem_take]
    exact hp i k (by omega) hk (by omega)
  · obtain ⟨i, hi, rfl⟩ := List.mem_iff_getElem.1 hr
    rw [List.length_drop] at hi
    rw [List.getElem_drop]
    exact hp k (k + 1 + i) hk (by omega) (by omega)
theorem split_new : ∀ {S : List Rw}, SortedS S → ∀ {key : ByteArray}, (∀ r ∈ S, r.1 ≠ key) → ∃ A B, S = A ++ B ∧ (∀ r ∈ A, ltS r.1 key = true) ∧ (∀ r ∈ B, ltS key r.1 = true)
  | [], _, key, _ => ⟨[], [], rfl, (fun r hr => by cases hr), (fun r hr => by cases hr)⟩
  | x :: S, h, key, hn => by
    have h' := List.pairwise_cons.1 h
    cases q : ltS x.1 key with
    | true =>
      obtain ⟨A, B, rfl, hA, hB⟩ := split_new h'.2 (key := key) fun r hr => hn r (by simp [hr])
      refine ⟨x :: A, B, rfl, fun r hr => ?_, hB⟩
      rcases List.mem_cons.1 hr with rfl | hr
      · exact q
      · exact hA r hr
    | false =>
      have q2 : ltS key x.1 = true := by
        cases q3 : ltS key x.1 with
        | true => rfl
        | false => exact absurd (ltS_tri q q3) (hn x (by simp))
      refine ⟨[], x :: S, rfl, (fun r hr => by cases hr), fun r hr => ?_⟩
      rcases List.mem_cons.1 hr with rfl | hr
      · exact q2
      · exact ltS_trans q2 (h'.1 r hr)
theorem perm_mid {M A B : List Rw} {x : Rw} (hU : Uniq (A ++ x :: B)) (p : M.Perm (A ++ x :: B)) : ∃ M1 M2, M = M1 ++ x :: M2 ∧ (M1 ++ M2).Perm (A ++ B) ∧ ∀ r ∈ M1, r.1 ≠ x.1 := by
  have hm : x ∈ M := p.mem_iff.2 (by simp)
  obtain ⟨M1, M2, rfl⟩ := List.append_of_mem hm
  refine ⟨M1, M2, rfl, ?_, fun r hr => ?_⟩
  · exact List.Perm.cons_inv ((List.perm_middle.symm.trans p).trans List.perm_middle)
  · have hM := hU.perm p
    have := (List.pairwise_append.1 hM).2.2 r hr x (by simp)
    exact this
/-- What a put makes of both. -/
theorem put_perm {M S : List Rw} (hS : SortedS S) (p : M.Perm S) (key : ByteArray) {l : List Vn} (hl : l ≠ []) : (putM key l M).Perm (setS key l S) := by
  have hle : l.isEmpty = false := by cases l with | nil => exact absurd rfl hl | cons => rfl
  by_cases q : ∃ r ∈ S, r.1 = key
  · obtain ⟨r, hr, rfl⟩ := q
    obtain ⟨k, hk, rfl⟩ := List.mem_iff_getElem.1 hr
    obtain ⟨e, hA, hB⟩ := split_at hS hk
    have hU : Uniq (S.take k ++ (S[k].1, S[k].2) :: S.drop (k + 1)) := by rw [← e]; exact hS.uniq
    rw [e] at p
    have ex : setS S[k].1 l S = S.take k ++ (S[k].1, l) :: S.drop (k + 1) := by
      have := setS_at (l := l) (l0 := S[k].2) hA hB
      rw [← e, hle] at this
      rw [this]
      simp
    obtain ⟨M1, M2, rfl, h1, h2⟩ := perm_mid hU p
    rw [ex, putM_mid _ _ _ _ _ h2]
    exact (List.perm_middle.trans (h1.cons _)).trans List.perm_middle.symm
  · have q' : ∀ r ∈ S, r.1 ≠ key := fun r hr e => q ⟨r, hr, e⟩
    obtain ⟨A, B, rfl, hA, hB⟩ := split_new hS q'
    rw [setS_new hl hA hB, putM_new key l M fun r hr => q' r (p.mem_iff.1 hr)]
    exact (List.perm_append_singleton _ _).trans ((p.cons _).trans List.perm_middle.symm)
theorem setS_sorted {S : List Rw} (hS : SortedS S) (key : ByteArray) {l : List Vn} (hl : l ≠ []) : SortedS (setS key l S) ∧ (∀ r ∈ setS key l S, r = (key, l) ∨ r ∈ S) ∧ (setS key l S).length ≤ S.length + 1 := by
  have hle : l.isEmpty = false := by cases l with | nil => exact absurd rfl hl | cons => rfl
  by_cases q : ∃ r ∈ S, r.1 = key
  · obtain ⟨r, hr, rfl⟩ := q
    obtain ⟨k, hk, rfl⟩ := List.mem_iff_getElem.1 hr
    obtain ⟨e, hA, hB⟩ := split_at hS hk
    have ex : setS S[k].1 l S = S.take k ++ (S[k].1, l) :: S.drop (k + 1) := by
      have := setS_at (l := l) (l0 := S[k].2) hA hB
      rw [← e, hle] at this
      rw [this]
      simp
    rw [ex]
    refine ⟨?_, fun r hr => ?_, ?_⟩
    · have hs := hS
      unfold SortedS at hs ⊢
      rw [e] at hs
      have := List.pairwise_append.1 hs
      have h2 := List.pairwise_cons.1 this.2.1
      refine List.pairwise_append.2 ⟨this.1, List.pairwise_cons.2 ⟨fun r hr => hB r hr, h2.2⟩, fun x hx y hy => ?_⟩
      rcases List.mem_cons.1 hy with rfl | hy
      · exact hA x hx
      · exact this.2.2 x hx y (by simp [hy])
    · rcases List.mem_append.1 hr with hr | hr
      · exact .inr (List.mem_of_mem_take hr)
      · rcases List.mem_cons.1 hr with rfl | hr
        · exact .inl rfl
        · exact .inr (List.mem_of_mem_drop hr)
    · simp; omega
  · have q' : ∀ r ∈ S, r.1 ≠ key := fun r hr e => q ⟨r, hr, e⟩
    obtain ⟨A, B, rfl, hA, hB⟩ := split_new hS q'
    rw [setS_new hl hA hB]
    have := List.pairwise_append.1 hS
    refine ⟨List.pairwise_append.2 ⟨this.1, List.pairwise_cons.2 ⟨fun r hr => hB r hr, this.2.1⟩, fun x hx y hy => ?_⟩, fun r hr => ?_, by simp; omega⟩
    · rcases List.mem_cons.1 hy with rfl | hy
      · exact hA x hx
      · exact this.2.2 x hx y hy
    · rcases List.mem_append.1 hr with hr | hr
      · exact .inr (by simp [hr])
      · rcases List.mem_cons.1 hr with rfl | hr
        · exact .inl rfl
        · exact .inr (by simp [hr])
/-- So many things were done at most. -/
structure Bnd (c : Nat) (S : List Rw) : Prop where
  l : S.length ≤ c
  r : ∀ r ∈ S, r.2.length ≤ c ∧ ∀ x ∈ r.2, x.n ≤ (c : Int)
theorem Bnd.le {c d : Nat} {S : List Rw} (h : Bnd c S) (hd : c ≤ d) : Bnd d S := ⟨Nat.le_trans h.l hd, fun r hr => ⟨Nat.le_trans (h.r r hr).1 hd, fun x hx => by have := (h.r r hr).2 x hx; omega⟩⟩
theorem lastV_mem {L : List Vn} (hL : L ≠ []) : lastV L ∈ L ∧ lastV L = L[L.length - 1]'(by cases L with | nil => exact absurd rfl hL | cons => simp) := by
  have hlt : L.length - 1 < L.length := by cases L with | nil => exact absurd rfl hL | cons => simp
  have e : lastV L = L[L.length - 1] := by
    unfold lastV
    rw [List.getLast?_eq_getElem?, List.getElem?_eq_getElem hlt]
    rfl
  exact ⟨e ▸ List.getElem_mem hlt, e⟩
theorem put_good {L : List Vn} (hG : GoodO L) {a : Int} {v : ByteArray} {g : Bool} (hb : badPut L a v g = false) {c : Nat} (hc : c ≤ 50) (hl : L.length ≤ c) (hn : ∀ x ∈ L, x.n ≤ (c : Int)) : GoodO (L ++ [newV L a v g]) ∧ (L ++ [newV L a v g]).length ≤ c + 1 ∧ ∀ x ∈ L ++ [newV L a v g], x.n ≤ ((c + 1 : Nat) : Int) := by
  simp only [badPut, Bool.or_eq_false_iff, decide_eq_false_iff_not, Bool.not_eq_false'] at hb
  obtain ⟨h1, h2, h3⟩ := hb
  have hln : 0 ≤ (lastV L).n ∧ (lastV L).n ≤ c := by
    refine ⟨(lastV_n hG).1, ?_⟩
    by_cases q : L = []
    · subst q
      show (0 : Int) ≤ c
      omega
    · exact hn _ (lastV_mem q).1
  have hx : ∀ x ∈ L ++ [newV L a v g], x ∈ L ∨ x = newV L a v g := fun x hx => by simpa using hx
  refine ⟨⟨fun x h => ?_, fun i hi => ?_, by simp; omega⟩, by simp; omega, fun x h => ?_⟩
  · rcases hx x h with h | rfl
    · exact hG.el x h
    · simp only [newV]
      refine ⟨by omega, by omega, by omega, h3⟩
  · simp only [List.length_append, List.length_singleton] at hi
    by_cases q : i + 1 < L.length
    · rw [List.getElem_append_left (by omega), List.getElem_append_left q]
      exact hG.up i q
    · have hne : L ≠ [] := by rintro rfl; simp at hi
      have e1 : i + 1 = L.length := by omega
      rw [List.getElem_append_left (by omega), List.getElem_append_right (by omega)]
      have e2 : L[i] = lastV L := by
        rw [(lastV_mem hne).2]
        congr 1
        omega
      rw [e2]
      simp only [newV, List.getElem_singleton]
      refine ⟨by omega, trivial⟩
  · rcases hx x h with h | rfl
    · have := hn x h; omega
    · simp only [newV]; omega
theorem ofS_bnd {S : List Rw} (hS : SortedS S) {c : Nat} (h : Bnd c S) (key : ByteArray) : (ofS S key).length ≤ c ∧ ∀ x ∈ ofS S key, x.n ≤ (c : Int) := by
  rcases ofS_cases hS.uniq key with h1 | ⟨_, h2⟩
  · exact h.r _ h1
  · rw [h2]
    exact ⟨Nat.zero_le _, fun x hx => by cases hx⟩
theorem put_goodS {S : List Rw} (hS : GoodS S) {c : Nat} (h : Bnd c S) (hc : c ≤ 50) {key v : ByteArray} {a : Int} {g : Bool} (hk : keyOk key = true) (hb : badPut (ofS S key) a v g = false) : GoodS (setS key (ofS S key ++ [newV (ofS S key) a v g]) S) ∧ Bnd (c + 1) (setS key (ofS S key ++ [newV (ofS S key) a v g]) S) := by
  have hne : ofS S key ++ [newV (ofS S key) a v g] ≠ [] := by simp
  obtain ⟨o1, o2⟩ := ofS_bnd hS.so h key
  obtain ⟨p1, p2, p3⟩ := put_good (hS.gof key) hb hc o1 o2
  obtain ⟨s1, s2, s3⟩ := setS_sorted hS.so key hne
  have hl := h.l
  refine ⟨⟨s1, fun r hr => ?_, fun r hr => ?_, fun r hr => ?_, by omega⟩, ⟨by omega, fun r hr => ?_⟩⟩
  · rcases s2 r hr with rfl | hr
    · exact hk
    · exact hS.ok r hr
  · rcases s2 r hr with rfl | hr
    · exact hne
    · exact hS.ne r hr
  · rcases s2 r hr with rfl | hr
    · exact p1
    · exact hS.go r hr
  · rcases s2 r hr with rfl | hr
    · exact ⟨p2, p3⟩
    · exact ⟨Nat.le_trans (h.r r hr).1 (Nat.le_succ _), fun x hx => by have := (h.r r hr).2 x hx; omega⟩
/-- One round of a turn, in the map. -/
theorem turn_perm {g : List Vn → List Vn} {S M : List Rw} (hS : SortedS S) {k : Nat} (hk : k < S.length) (p : M.Perm (turnS g (S.take k) ++ S.drop k)) : (if (g S[k].2).isEmpty then dropM S[k].1 M else putM S[k].1 (g S[k].2) M).Perm (turnS g (S.take (k + 1)) ++ S.drop (k + 1)) ∧ ofS M S[k].1 = S[k].2 := by
  have hd : S.drop k = S[k] :: S.drop (k + 1) := List.drop_eq_getElem_cons hk
  have hp := List.pairwise_iff_getElem.1 hS
  have hA : ∀ r ∈ turnS g (S.take k), ltS r.1 S[k].1 = true := by
    intro r hr
    obtain ⟨x, hx, he⟩ := turnS_key hr
    rw [he]
    exact (split_at hS hk).2.1 x hx
  have hB := (split_at hS hk).2.2
  have hst := turn_step (g := g) hS hk
  rw [hd] at p hst
  have hso : SortedS (turnS g (S.take k) ++ S[k] :: S.drop (k + 1)) := by
    refine List.pairwise_append.2 ⟨?_, List.pairwise_cons.2 ⟨hB, ?_⟩, fun x hx y hy => ?_⟩
    · unfold turnS
      refine List.Pairwise.filterMap (R := fun a b : Rw => ltS a.1 b.1 = true) (turnR g) (fun a a' h b hb b' hb' => ?_) (List.Pairwise.sublist (List.take_sublist k S) hS)
      unfold turnR at hb hb'
      split at hb
      · cases hb
      · split at hb'
        · cases hb'
        · cases hb
          cases hb'
          exact h
    · exact List.Pairwise.sublist (List.drop_sublist (k + 1) S) hS
    · rcases List.mem_cons.1 hy with rfl | hy
      · exact hA x hx
      · exact ltS_trans (hA x hx) (hB y hy)
  refine ⟨?_, ?_⟩
  · cases hl : (g S[k].2).isEmpty with
    | true =>
      rw [if_pos rfl, ← hst]
      have he : g S[k].2 = [] := List.isEmpty_iff.1 hl
      obtain ⟨M1, M2, rfl, h1, h2⟩ := perm_mid hso.uniq p
      have e2 := setS_at (l := g S[k].2) (l0 := S[k].2) hA hB
      rw [show (S[k].1, S[k].2) = S[k] from rfl] at e2
      rw [e2, hl]
      have := dropM_mid S[k].1 S[k].2 M1 M2 h2
      rw [show (S[k].1, S[k].2) = S[k] from rfl] at this
      rw [this]
      simpa using h1
    | false =>
      rw [if_neg (by simp), ← hst]
      exact put_perm hso p _ (by rintro h; rw [h] at hl; cases hl)
  · rw [ofS_perm hso.uniq p]
    exact ofS_mem hso.uniq (List.mem_append.2 (.inr (List.mem_cons_self ..)))
