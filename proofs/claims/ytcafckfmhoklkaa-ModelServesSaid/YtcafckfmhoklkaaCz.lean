/- Plain laws: the row that the law tells is right; the history so far. -/

import Derived.Test.YtcafckfmhoklkaaCy
open Go Go.Abs Go.Proofs
set_option maxRecDepth 100000
set_option maxHeartbeats 4000000
set_option linter.unusedSimpArgs false
set_option linter.unusedVariables false

def staleV (V : ByteArray → Vl) (rs : List RdI) : Bool := rs.any fun r => decide ((V r.1).1 ≠ r.2)
def codeOf (V : ByteArray → Vl) (kind : Int) (key val : ByteArray) (rs : List RdI) (ws : List WrI) : Int := if kind = 1 then (if (V key).2.2 = true then 0 else 6) else if staleV V (txnP kind key val rs ws).2.1 = true then 8 else 0
def rvalOf (V : ByteArray → Vl) (kind : Int) (key : ByteArray) : ByteArray := if kind = 1 then (V key).2.1 else ⟨#[]⟩
def rnumOf (V : ByteArray → Vl) (kind : Int) (key : ByteArray) : Int := if kind = 1 then (V key).1 else if kind = 2 ∨ kind = 3 then wr .u64 ((V key).1 + 1) else 0
/-- The row that the law tells. -/
def rowOf (k : Nat) (V : ByteArray → Vl) (kind : Int) (key val : ByteArray) (rs : List RdI) (ws : List WrI) : RowD :=
  ⟨(k : Int).tmod 6, (k : Int) + 1, kind, key, val, rs, ws, 10 * (k : Int) + 1, 10 * (k : Int) + 2, 10 * (k : Int) + 3, codeOf V kind key val rs ws, (k : Int).tmod 6, (k : Int) + 1, 0, codeOf V kind key val rs ws, rvalOf V kind key, rnumOf V kind key⟩
theorem okRowOf (k : Nat) (V : ByteArray → Vl) (kind : Int) (key val : ByteArray) (rs : List RdI) (ws : List WrI) : OkRow V (rowOf k V kind key val rs ws) := by
  by_cases q1 : kind = 1
  · left
    simp [rowOf, codeOf, rvalOf, rnumOf, q1]
  by_cases q2 : kind = 2
  · right; left
    subst q2
    simp [rowOf, codeOf, rvalOf, rnumOf, rowTxn, txnP, staleV, updV]
  by_cases q3 : kind = 3
  · right; left
    subst q3
    simp [rowOf, codeOf, rvalOf, rnumOf, rowTxn, txnP, staleV, updV]
  by_cases q4 : kind = 4
  · subst q4
    cases hs : staleV V rs with
    | true =>
      right; right
      have hs' := hs
      unfold staleV at hs'
      simp [rowOf, codeOf, rvalOf, rnumOf, rowTxn, txnP, hs, hs']
      simpa using hs'
    | false =>
      right; left
      have hs' := hs
      unfold staleV at hs'
      simp [rowOf, codeOf, rvalOf, rnumOf, rowTxn, txnP, hs, hs']
      simpa using hs'
  · right; left
    simp [rowOf, codeOf, rvalOf, rnumOf, rowTxn, txnP, staleV, q1, q2, q3, q4]
def HistOk (H : List RowD) : Prop := ∀ (j : Nat) (hj : j < H.length), OkRow (ofK ((H.take j).foldl doP [])) H[j]
theorem HistOk.snoc {H : List RowD} {x : RowD} (h : HistOk H) (hx : OkRow (ofK (H.foldl doP [])) x) : HistOk (H ++ [x]) := by
  intro j hj
  by_cases e : j < H.length
  · rw [List.getElem_append_left e, List.take_append_of_le_length (Nat.le_of_lt e)]
    exact h j e
  · have ej : j = H.length := by simp at hj; omega
    subst ej
    rw [List.take_append_of_le_length (Nat.le_refl _), List.take_length, List.getElem_append_right (Nat.le_refl _)]
    simpa using hx
theorem same_do {M S : List KeyD} (h : ofK S = ofK M) (x : RowD) : ofK (doK S x) = ofK (doP M x) := by
  unfold doK doP
  split
  · exact h
  · split
    · rw [ofK_putsK, ofK_putsP, h]
    · exact h
theorem doK_len {S : List KeyD} {x : RowD} (h1 : x.rs.length ≤ 10) (h2 : x.ws.length ≤ 10) : (doK S x).length ≤ S.length + 10 := by
  unfold doK
  split
  · omega
  · split
    · have h3 := putsK_len (rowTxn x).2.2 S
      have h4 := (txnP_len (kind := x.kind) (key := x.key) (val := x.val) (rs := x.rs) (ws := x.ws) (m := 10) (by omega) h1 h2).2
      have h5 : (rowTxn x).2.2.length ≤ 10 := h4
      omega
    · omega
/-- What the law has so far: rows in some order, their history, the document's map. -/
structure HL (k : Nat) (l H : List RowD) (S : List KeyD) : Prop where
  perm : l.Perm H
  ris : H.Pairwise (fun x y => x.st < y.st)
  el : ∀ x ∈ H, x.st < 10 * (k : Int) + 2 ∧ x.ca < x.st ∧ x.st < x.an ∧ x.st ≠ 0 ∧ x.an ≠ 0 ∧ x.rs.length ≤ 10 ∧ x.ws.length ≤ 10
  len : H.length ≤ k
  slen : S.length ≤ 10 * k
  ok : HistOk H
  same : ofK S = ofK (H.foldl doP [])
theorem HL.nil : HL 0 [] [] [] := ⟨List.Perm.refl _, List.Pairwise.nil, (fun x hx => by cases hx), Nat.le_refl _, Nat.le_refl _, (fun j hj => by cases hj), rfl⟩
theorem HL.skip {k : Nat} {l H : List RowD} {S : List KeyD} (h : HL k l H S) : HL (k + 1) l H S :=
  ⟨h.perm, h.ris, fun x hx => ⟨by have := (h.el x hx).1; omega, (h.el x hx).2⟩, Nat.le_succ_of_le h.len, by have := h.slen; omega, h.ok, h.same⟩
theorem HL.step {k : Nat} {l H : List RowD} {S : List KeyD} (h : HL k l H S) (n : Nat) (kind : Int) (key val : ByteArray) (rs : List RdI) (ws : List WrI) (h1 : rs.length ≤ 10) (h2 : ws.length ≤ 10) :
    HL (k + 1) (l.take n ++ [rowOf k (ofK S) kind key val rs ws] ++ l.drop n) (H ++ [rowOf k (ofK S) kind key val rs ws]) (doK S (rowOf k (ofK S) kind key val rs ws)) := by
  refine ⟨?_, ?_, ?_, ?_, ?_, ?_, ?_⟩
  · have e : (l.take n ++ [rowOf k (ofK S) kind key val rs ws] ++ l.drop n).Perm ((l.take n ++ l.drop n) ++ [rowOf k (ofK S) kind key val rs ws]) := by
      rw [List.append_assoc, List.append_assoc]
      exact List.Perm.append_left _ List.perm_append_comm
    refine e.trans ?_
    rw [List.take_append_drop]
    exact h.perm.append_right _
  · refine List.pairwise_append.2 ⟨h.ris, List.pairwise_singleton _ _, fun x hx y hy => ?_⟩
    rw [List.mem_singleton] at hy
    subst hy
    exact (h.el x hx).1
  · intro x hx
    rcases List.mem_append.1 hx with hx | hx
    · exact ⟨by have := (h.el x hx).1; omega, (h.el x hx).2⟩
    · rw [List.mem_singleton] at hx
      subst hx
      refine ⟨?_, ?_, ?_, ?_, ?_, h1, h2⟩ <;> simp only [rowOf] <;> omega
  · have := h.len; simp; omega
  · have := h.slen
    have := doK_len (S := S) (x := rowOf k (ofK S) kind key val rs ws) h1 h2
    omega
  · refine h.ok.snoc ?_
    rw [← h.same]
    exact okRowOf ..
  · rw [List.foldl_append]
    exact same_do h.same _
/-! ### Appends to a row that the frame has built -/
theorem b59 : bytesA Try.prog 59 = some 192 := by kernel_rfl
theorem app_row {cx : Cx} {σ : AS} {j v : Nat} {es xs : List AV} {P : AV} (hro : cx.ro = none) (hg : σ.get (.st j) = some (.row es 17 v false)) (hP : elemsA σ 17 P = some xs) (hl : es.length + xs.length ≤ 900) :
    ∃ v', appendA Try.prog cx σ [28, 28] (.row (.st j) v 0 es.length) P = some (.row (.st j) v' 0 (es.length + xs.length), σ.set (.st j) (.row (es ++ xs) 17 v' false)) := by
  have hw : wok cx.ro (.st j) = true := by rw [hro]; rfl
  cases xs with
  | nil =>
    refine ⟨v, ?_⟩
    simp [appendA, elemA, isSrc, hP, b59, hg, hw, lay]
  | cons x l =>
    have hby : bytesOk (es.length + (x :: l).length) 192 = true := by simp only [bytesOk, decide_eq_true_eq]; simp only [List.length_cons] at hl ⊢; omega
    refine ⟨v + 1, ?_⟩
    simp only [List.length_cons] at hby
    simp [appendA, elemA, isSrc, hP, b59, hg, hw, hby]
theorem elems_row {σ : AS} {L : Abs.Loc} {v off len : Nat} {es : List AV} {fr : Bool} (hg : σ.get L = some (.row es 17 v fr)) (hl : off + len ≤ es.length) : elemsA σ 17 (.row L v off len) = some ((es.drop off).take len) := by
  simp [elemsA, hg, hl]
/-- The first n of a slice that the frame has built; the others. -/
theorem slice_to {σ : AS} {R : AV} {l : List RowD} {n : Nat} (hB : Built 0 σ 17 R (l.map encRow)) (hn : n ≤ l.length) :
    ∃ P, sliceA Try.prog σ 28 R none (some (.int .i64 (n : Int))) none = some P ∧ P.one = true ∧ elemsA σ 17 P = some ((l.take n).map encRow) := by
  rcases hB with ⟨h1, h2⟩ | ⟨hn2, im, v, h1, hg, hi⟩
  · subst h1
    have hl0 : l = [] := by simpa using h2
    subst hl0
    have hn0 : n = 0 := by simpa using hn
    subst hn0
    exact ⟨.nils, by simp [sliceA, intOf?, boundsA], rfl, rfl⟩
  · subst h1
    refine ⟨.row (.st im) v 0 n, ?_, rfl, ?_⟩
    · simp [sliceA, intOf?, boundsA, hg, hn]
    · rw [elems_row hg (by simp; exact hn), List.drop_zero, List.map_take]
theorem slice_from {σ : AS} {R : AV} {l : List RowD} {n : Nat} (hB : Built 0 σ 17 R (l.map encRow)) (hn : n ≤ l.length) :
    ∃ P, sliceA Try.prog σ 28 R (some (.int .i64 (n : Int))) none none = some P ∧ P.one = true ∧ elemsA σ 17 P = some ((l.drop n).map encRow) := by
  rcases hB with ⟨h1, h2⟩ | ⟨hn2, im, v, h1, hg, hi⟩
  · subst h1
    have hl0 : l = [] := by simpa using h2
    subst hl0
    have hn0 : n = 0 := by simpa using hn
    subst hn0
    exact ⟨.nils, by simp [sliceA, intOf?, boundsA], rfl, rfl⟩
  · subst h1
    refine ⟨.row (.st im) v n (l.length - n), ?_, rfl, ?_⟩
    · have h3 : (n : Int) ≤ (l.length : Int) := by omega
      simp [sliceA, intOf?, boundsA, hg, hn, h3]
    · rw [elems_row hg (by simp; omega), List.map_drop, List.take_of_length_le (by simp)]
def InvM (b k : Nat) (R : AV) (σ : AS) : Prop := ∃ (l H : List RowD) (S : List KeyD) (X : AV), Rows 0 σ [(17, R, l.map encRow)] ∧ HL k l H S ∧ σ.hp[b]? = some (.cells [X]) ∧ HRow σ.hp X (S.map encK)
theorem Rows.hp {h : Nat} {σ : AS} {L : List (Nat × AV × List AV)} (r : Rows h σ L) (hp' : List AObj) : Rows h (AS.mk hp' σ.st) L := ⟨fun e he => (r.1 e he).keep fun _ _ _ _ hg _ => hg, r.2⟩
/-- An op, as the law has it. -/
def isOpM (e : AV) : Prop := ∃ (kind : Int) (key val : ByteArray) (X Y : AV) (rs : List RdI) (ws : List WrI), e = .agg [.int .i64 kind, .str key, .str val, X, Y] ∧ SlOf 2 X (rs.map encRd) ∧ SlOf 3 Y (ws.map encWr) ∧ rs.length ≤ 9223372036854775807 ∧ ws.length ≤ 9223372036854775807 ∧ key.size ≤ 9223372036854775807 ∧ val.size ≤ 9223372036854775807 ∧ RdsOk rs ∧ WrsOk ws