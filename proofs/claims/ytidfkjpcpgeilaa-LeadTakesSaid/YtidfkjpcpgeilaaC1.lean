/- The pure law: what each act does to what is remembered. -/
import Derived.Test.YtidfkjpcpgeilaaC0
open Go Go.Abs Go.Proofs
set_option maxRecDepth 100000
set_option maxHeartbeats 4000000
set_option linter.unusedSimpArgs false
set_option linter.unusedVariables false
/-- The program's lead. -/
structure Lv where
  st : Int
  br : Int
  bn : Int
  fr : Int
  pr : Int
  best : List (Int × Vt)
  op : List (Int × ByteArray × Int)
  nx : Int
/-- The document's. -/
structure Rv where
  st : Int
  br : Int
  bn : Int
  fr : Int
  P : List (Int × List Vt)
  ack : List (Int × Int)
  op : List (Int × ByteArray)
  nx : Int
def idleL : Lv := ⟨0, 0, 0, 0, 0, [], [], 0⟩
def idleR : Rv := ⟨0, 0, 0, 0, [], [], [], 0⟩
def begL (me rd fr : Int) : Lv := ⟨1, rd + 1, me, fr, 0, [], [], 0⟩
def begR (me rd fr : Int) : Rv := ⟨1, rd + 1, me, fr, [], [], [], 0⟩
def nextB (fr : Int) (M : List (Int × Vt)) : Int := M.foldl (fun x e => max x (e.1 + 1)) fr
def rowsB (M : List (Int × Vt)) (a b : Int) : List (Int × ByteArray × Int) := (List.range (b - a).toNat).map fun (k : Nat) => (a + (k : Int), ((mget (a + (k : Int)) M).getD zeroVt).v, 0)
def rowsR (P : List (Int × List Vt)) (a b : Int) : List (Int × ByteArray) := (List.range (b - a).toNat).map fun (k : Nat) => (a + (k : Int), ((valueF P (a + (k : Int))).getD zeroVt).v)
def topK (P : List (Int × List Vt)) (fr : Int) : Nat → Int
  | 0 => fr
  | k + 1 => if ((valueF P (399 - (k : Int))).isSome && decide (topK P fr k = fr)) = true then 399 - (k : Int) + 1 else topK P fr k
def topR (P : List (Int × List Vt)) (fr : Int) : Int := topK P fr (400 - fr).toNat
def askedL (n : Int) (p : Lv) (node br bn : Int) : Bool := decide (p.st = 1) && (decide (br = p.br) && decide (bn = p.bn)) && (decide (0 ≤ node) && decide (node < n)) && !hasM p.pr node
def leadS (p : Lv) : Lv := { p with st := 2, nx := nextB p.fr p.best, op := rowsB p.best p.fr (nextB p.fr p.best) }
def takeS (p : Lv) (node : Int) (vs : List Vt) : Lv := { p with pr := withM p.pr node, best := vs.foldl (stepB p.fr) p.best }
def prL (n : Int) (p : Lv) (node br bn : Int) (vs : List Vt) : Lv × Bool :=
  if askedL n p node br bn = true then
    (if winsM (takeS p node vs).pr n = true then (leadS (takeS p node vs), true) else (takeS p node vs, false))
  else (p, false)
def askedR (n : Int) (r : Rv) (node br bn : Int) : Bool := decide (r.st = 1) && (decide (br = r.br) && decide (bn = r.bn)) && (decide (0 ≤ node) && decide (node < n)) && !(r.P.any fun x => decide (x.1 = node))
def takeR (r : Rv) (node : Int) (vs : List Vt) : Rv := { r with P := r.P ++ [(node, vs)] }
def leadR (r : Rv) : Rv := { r with st := 2, nx := topR r.P r.fr, op := rowsR r.P r.fr (topR r.P r.fr) }
def prR (n : Int) (r : Rv) (node br bn : Int) (vs : List Vt) : Rv × Bool :=
  if askedR n r node br bn = true then
    (if n < 2 * ((takeR r node vs).P.length : Int) then (leadR (takeR r node vs), true) else (takeR r node vs, false))
  else (r, false)
def propE (st nx : Int) (val : ByteArray) : Int := if 64 < (val.size : Int) then 1 else if st ≠ 2 then 10 else if 400 ≤ nx then 9 else 0
def propL (p : Lv) (val : ByteArray) : Lv := if propE p.st p.nx val = 0 then { p with op := p.op ++ [(p.nx, val, 0)], nx := p.nx + 1 } else p
def propR (r : Rv) (val : ByteArray) : Rv := if propE r.st r.nx val = 0 then { r with op := r.op ++ [(r.nx, val)], nx := r.nx + 1 } else r
def accOkL (n : Int) (p : Lv) (node br bn : Int) : Bool := decide (p.st = 2) && (decide (br = p.br) && decide (bn = p.bn)) && (decide (0 ≤ node) && decide (node < n))
def dropK {β : Type} (slot : Int) (l : List (Int × β)) : List (Int × β) := l.filter fun e => decide (e.1 ≠ slot)
/-- One that accepted: the state then, and the value, if it is chosen. -/
def accL (n : Int) (p : Lv) (node br bn slot : Int) : Lv × Option ByteArray :=
  if accOkL n p node br bn = true then
    (match mget slot p.op with
    | none => (p, none)
    | some (v, m) => if winsM (withM m node) n = true then ({ p with op := dropK slot p.op }, some v) else ({ p with op := mput slot (v, withM m node) p.op }, none))
  else (p, none)
def accOkR (n : Int) (r : Rv) (node br bn slot : Int) : Bool := decide (r.st = 2) && (decide (br = r.br) && decide (bn = r.bn)) && (decide (0 ≤ node) && decide (node < n)) && !(r.ack.any fun a => decide (a.2 = slot) && decide (a.1 = node))
def cntR (r : Rv) (slot : Int) : Int := ((r.ack.filter fun a => decide (a.2 = slot)).length : Int)
def accR (n : Int) (r : Rv) (node br bn slot : Int) : Rv × Option ByteArray :=
  match mget slot r.op with
  | none => (r, none)
  | some v =>
    if accOkR n r node br bn slot = true then
      (if n < 2 * (cntR r slot + 1) then ({ r with ack := r.ack ++ [(node, slot)], op := dropK slot r.op }, some v) else ({ r with ack := r.ack ++ [(node, slot)] }, none))
    else (r, none)
/-- Both sides side by side. -/
structure Rel (n : Int) (p : Lv) (r : Rv) : Prop where
  st : p.st = r.st
  br : p.br = r.br
  bn : p.bn = r.bn
  fr : p.fr = r.fr
  nx : p.nx = r.nx
  fr0 : 0 ≤ p.fr ∧ p.fr ≤ 400
  nx0 : 0 ≤ p.nx ∧ p.nx ≤ 400
  stv : p.st = 0 ∨ p.st = 1 ∨ p.st = 2
  op : p.op.map (fun e => (e.1, e.2.1)) = r.op
  asc : p.op.Pairwise fun a b => a.1 < b.1
  lt : ∀ e ∈ p.op, 0 ≤ e.1 ∧ e.1 < p.nx
  msk : ∀ e ∈ p.op, MaskOf n e.2.2 ((r.ack.filter fun a => decide (a.2 = e.1)).map (·.1)) ∧ 2 * cntR r e.1 ≤ n
  acks : ∀ a ∈ r.ack, a.2 < p.nx
  ask : p.st = 1 → MaskOf n p.pr (r.P.map (·.1)) ∧ (∀ slot, mget slot p.best = if p.fr ≤ slot ∧ slot < 400 then valueF r.P slot else none) ∧ (∀ e ∈ p.best, 0 ≤ e.1 ∧ e.1 < 400) ∧ p.op = [] ∧ r.ack = [] ∧ 2 * (r.P.length : Int) ≤ n
  idle : p.st = 0 → p.br = 0 ∧ p.bn = 0
  prok : MOk p.pr
theorem rel_idle {n : Int} : Rel n idleL idleR := by
  constructor <;> simp [idleL, idleR, MOk]
theorem rel_beg {n me rd fr : Int} (hn : 0 ≤ n) (h : 0 ≤ fr ∧ fr ≤ 400) : Rel n (begL me rd fr) (begR me rd fr) := by
  constructor <;> simp [begL, begR, h, MOk]
  refine ⟨MaskOf.nil n, fun slot => ?_, hn⟩
  by_cases q : fr ≤ slot ∧ slot < 400 <;> simp [q, valueF, mget]
theorem nextB_max (M : List (Int × Vt)) : ∀ f : Int, (f ≤ nextB f M ∧ ∀ e ∈ M, e.1 + 1 ≤ nextB f M) ∧ (nextB f M = f ∨ ∃ e ∈ M, nextB f M = e.1 + 1) := by
  induction M with
  | nil => intro f; exact ⟨⟨Int.le_refl _, fun e h => by cases h⟩, .inl rfl⟩
  | cons a l ih =>
    intro f
    obtain ⟨⟨h1, h2⟩, h3⟩ := ih (max f (a.1 + 1))
    have e : nextB f (a :: l) = nextB (max f (a.1 + 1)) l := rfl
    rw [e]
    refine ⟨⟨by omega, fun x hx => ?_⟩, ?_⟩
    · rcases List.mem_cons.1 hx with rfl | hx
      · omega
      · exact h2 x hx
    · rcases h3 with h3 | ⟨x, hx, h3⟩
      · rcases Int.le_total f (a.1 + 1) with q | q
        · exact .inr ⟨a, List.mem_cons_self .., by omega⟩
        · exact .inl (by omega)
      · exact .inr ⟨x, List.mem_cons_of_mem _ hx, h3⟩
theorem topK_is (P : List (Int × List Vt)) (fr : Int) : ∀ k : Nat, fr + (k : Int) ≤ 400 → (topK P fr k = fr ∧ ∀ s, 400 - (k : Int) ≤ s → s < 400 → valueF P s = none) ∨ (fr < topK P fr k ∧ 400 - (k : Int) < topK P fr k ∧ topK P fr k ≤ 400 ∧ (∃ v, valueF P (topK P fr k - 1) = some v) ∧ ∀ s, topK P fr k ≤ s → s < 400 → valueF P s = none)
  | 0, _ => .inl ⟨rfl, fun s h1 h2 => by omega⟩
  | k + 1, h => by
    have ih := topK_is P fr k (by omega)
    unfold topK
    rcases ih with ⟨h1, h2⟩ | ⟨h1, h2, h3, h4, h5⟩
    · rw [h1]
      cases hv : valueF P (399 - (k : Int)) with
      | some v =>
        simp only [Option.isSome_some, decide_true, Bool.and_self, if_true]
        refine .inr ⟨by omega, by omega, by omega, ⟨v, by rw [show 399 - (k : Int) + 1 - 1 = 399 - (k : Int) by omega]; exact hv⟩, fun s a b => h2 s (by omega) b⟩
      | none =>
        simp only [Option.isSome_none, Bool.false_and, Bool.false_eq_true, if_false]
        refine .inl ⟨trivial, fun s a b => ?_⟩
        by_cases q : s = 399 - (k : Int)
        · rw [q]; exact hv
        · exact h2 s (by omega) b
    · have : ¬ topK P fr k = fr := by omega
      simp only [this, decide_false, Bool.and_false, Bool.false_eq_true, if_false]
      exact .inr ⟨h1, by omega, h3, h4, h5⟩
theorem top_next {fr : Int} {P : List (Int × List Vt)} {M : List (Int × Vt)} (h0 : 0 ≤ fr ∧ fr ≤ 400) (hM : ∀ slot, mget slot M = if fr ≤ slot ∧ slot < 400 then valueF P slot else none) : nextB fr M = topR P fr := by
  obtain ⟨⟨a1, a2⟩, a3⟩ := nextB_max M fr
  have hr := topK_is P fr (400 - fr).toNat (by omega)
  have hk : (((400 - fr).toNat : Nat) : Int) = 400 - fr := by omega
  rw [hk] at hr
  unfold topR
  generalize topK P fr (400 - fr).toNat = t at *
  have key : ∀ e ∈ M, fr ≤ e.1 ∧ e.1 < 400 ∧ ∃ v, valueF P e.1 = some v := fun e he => by
    obtain ⟨v, hv⟩ := mget_mem he
    rw [hM] at hv
    by_cases q : fr ≤ e.1 ∧ e.1 < 400
    · rw [if_pos q] at hv; exact ⟨q.1, q.2, v, hv⟩
    · rw [if_neg q] at hv; cases hv
  rcases hr with ⟨b1, b2⟩ | ⟨b1, b2, b3, ⟨v, b4⟩, b5⟩
  · rcases a3 with a3 | ⟨e, he, a3⟩
    · omega
    · obtain ⟨k1, k2, v, k3⟩ := key e he
      rw [b2 e.1 (by omega) k2] at k3; cases k3
  · have hm : mget (t - 1) M = some v := by rw [hM, if_pos ⟨by omega, by omega⟩]; exact b4
    have c1 := a2 _ (mget_some hm)
    simp only at c1
    rcases a3 with a3 | ⟨e, he, a3⟩
    · omega
    · obtain ⟨k1, k2, v', k3⟩ := key e he
      by_cases q : t ≤ e.1
      · rw [b5 e.1 q k2] at k3; cases k3
      · omega
theorem rows_eq {fr nx : Int} {P : List (Int × List Vt)} {M : List (Int × Vt)} (h : nx ≤ 400) (hM : ∀ slot, mget slot M = if fr ≤ slot ∧ slot < 400 then valueF P slot else none) : (rowsB M fr nx).map (fun e => (e.1, e.2.1)) = rowsR P fr nx := by
  unfold rowsB rowsR
  rw [List.map_map]
  refine List.map_congr_left fun k hk => ?_
  rw [List.mem_range] at hk
  simp only [Function.comp]
  rw [hM, if_pos ⟨by omega, by omega⟩]
theorem rel_prom {n : Int} {p : Lv} {r : Rv} (h : Rel n p r) (hn : 1 ≤ n ∧ n ≤ 5) (node br bn : Int) (vs : List Vt) : Rel n (prL n p node br bn vs).1 (prR n r node br bn vs).1 ∧ (prL n p node br bn vs).2 = (prR n r node br bn vs).2 := by
  by_cases hs : p.st = 1
  · obtain ⟨k1, k2, k3, k4, k5, k6⟩ := h.ask hs
    have he : askedL n p node br bn = askedR n r node br bn := by
      unfold askedL askedR
      rw [← h.st, ← h.br, ← h.bn]
      by_cases q : 0 ≤ node ∧ node < n
      · have e : hasM p.pr node = r.P.any fun x => decide (x.1 = node) := by
          have := k1.has node q.1 (by omega)
          rw [Bool.eq_iff_iff, this, List.any_eq_true, List.mem_map]
          simp
        rw [e]
      · have e : (decide (0 ≤ node) && decide (node < n)) = false := by
          rw [Bool.and_eq_false_iff, decide_eq_false_iff_not, decide_eq_false_iff_not]
          omega
        rw [e]
        simp
    unfold prL prR
    rw [← he]
    by_cases hc : askedL n p node br bn = true
    · rw [if_pos hc, if_pos hc]
      have hc' := hc
      rw [he] at hc'
      simp only [askedR, Bool.and_eq_true, decide_eq_true_eq, Bool.not_eq_true', List.any_eq_false] at hc'
      obtain ⟨⟨⟨c1, c2, c3⟩, c4, c5⟩, c6⟩ := hc'
      have hno : node ∉ r.P.map (·.1) := by
        intro hm
        obtain ⟨x, hx, e⟩ := List.mem_map.1 hm
        exact c6 x hx e
      have km := k1.snoc c4 c5 hn.2 hno
      have e1 : winsM (takeS p node vs).pr n = decide (n < 2 * ((takeR r node vs).P.length : Int)) := by
        show winsM (withM p.pr node) n = _
        rw [km.wins hn.1 hn.2]
        simp [takeR]
      have hb : ∀ slot, mget slot (takeS p node vs).best = if p.fr ≤ slot ∧ slot < 400 then valueF (takeR r node vs).P slot else none := fun slot => by
        show mget slot (vs.foldl (stepB p.fr) p.best) = _
        rw [foldB_get, k2 slot]
        by_cases q : p.fr ≤ slot ∧ slot < 400
        · rw [if_pos q, if_pos q, if_pos q]
          simp [valueF, takeR]
        · rw [if_neg q, if_neg q, if_neg q]
      have hkeys : ∀ e ∈ (takeS p node vs).best, 0 ≤ e.1 ∧ e.1 < 400 := foldB_keys h.fr0.1 k3
      rw [e1]
      by_cases hw : n < 2 * ((takeR r node vs).P.length : Int)
      · rw [decide_eq_true hw, if_pos rfl, if_pos hw]
        have hnx : nextB p.fr (takeS p node vs).best = topR (takeR r node vs).P p.fr := top_next h.fr0 hb
        have hnx2 : p.fr ≤ nextB p.fr (takeS p node vs).best ∧ nextB p.fr (takeS p node vs).best ≤ 400 := by
          obtain ⟨⟨a1, a2⟩, a3⟩ := nextB_max (takeS p node vs).best p.fr
          refine ⟨a1, ?_⟩
          rcases a3 with a3 | ⟨e, he', a3⟩
          · have := h.fr0; omega
          · have := hkeys e he'; omega
        refine ⟨?_, rfl⟩
        have hfr := h.fr
        have hfr0 := h.fr0
        constructor
        · rfl
        · exact h.br
        · exact h.bn
        · exact h.fr
        · show nextB p.fr (takeS p node vs).best = topR (takeR r node vs).P r.fr
          rw [← hfr]; exact hnx
        · exact h.fr0
        · show 0 ≤ nextB p.fr (takeS p node vs).best ∧ nextB p.fr (takeS p node vs).best ≤ 400
          omega
        · exact .inr (.inr rfl)
        · show (rowsB (takeS p node vs).best p.fr (nextB p.fr (takeS p node vs).best)).map _ = rowsR (takeR r node vs).P r.fr (topR (takeR r node vs).P r.fr)
          rw [← hfr, ← hnx]
          exact rows_eq hnx2.2 hb
        · show (rowsB (takeS p node vs).best p.fr (nextB p.fr (takeS p node vs).best)).Pairwise _
          unfold rowsB
          rw [List.pairwise_map]
          refine (List.pairwise_lt_range).imp fun {a b} h => ?_
          simp only
          omega
        · show ∀ e ∈ rowsB (takeS p node vs).best p.fr (nextB p.fr (takeS p node vs).best), 0 ≤ e.1 ∧ e.1 < nextB p.fr (takeS p node vs).best
          intro e he'
          obtain ⟨k, hk, rfl⟩ := List.mem_map.1 he'
          rw [List.mem_range] at hk
          simp only
          omega
        · intro e he'
          have he' : e ∈ rowsB (takeS p node vs).best p.fr (nextB p.fr (takeS p node vs).best) := he'
          obtain ⟨k, hk, rfl⟩ := List.mem_map.1 he'
          have ha : (leadR (takeR r node vs)).ack = [] := k5
          simp only [cntR, ha, List.filter_nil, List.map_nil, List.length_nil]
          exact ⟨MaskOf.nil n, by simp; omega⟩
        · have ha : (leadR (takeR r node vs)).ack = [] := k5
          rw [ha]
          intro a ha; cases ha
        · intro e; exact absurd e (by show ¬ (2 : Int) = 1; decide)
        · intro e; exact absurd e (by show ¬ (2 : Int) = 0; decide)
        · exact with_ok h.prok
      · rw [decide_eq_false hw, if_neg (by simp), if_neg hw]
        refine ⟨?_, rfl⟩
        constructor
        · exact h.st
        · exact h.br
        · exact h.bn
        · exact h.fr
        · exact h.nx
        · exact h.fr0
        · exact h.nx0
        · exact h.stv
        · exact h.op
        · exact h.asc
        · exact h.lt
        · exact h.msk
        · exact h.acks
        · intro _
          exact ⟨by show MaskOf n (withM p.pr node) _; simpa [takeR] using km, hb, hkeys, k4, k5, by have := hw; show 2 * ((takeR r node vs).P.length : Int) ≤ n; omega⟩
        · exact h.idle
        · exact with_ok h.prok
    · rw [if_neg hc, if_neg hc]
      exact ⟨h, rfl⟩
  · have h1 : askedL n p node br bn = false := by simp [askedL, hs]
    have h2 : askedR n r node br bn = false := by
      have : ¬ r.st = 1 := by rw [← h.st]; exact hs
      simp [askedR, this]
    unfold prL prR
    rw [h1, h2]
    exact ⟨h, rfl⟩
theorem rel_prop {n : Int} {p : Lv} {r : Rv} (h : Rel n p r) (hn : 1 ≤ n ∧ n ≤ 5) (val : ByteArray) : Rel n (propL p val) (propR r val) ∧ propE p.st p.nx val = propE r.st r.nx val := by
  have he : propE p.st p.nx val = propE r.st r.nx val := by rw [h.st, h.nx]
  refine ⟨?_, he⟩
  unfold propL propR
  rw [← he]
  by_cases q : propE p.st p.nx val = 0
  · rw [if_pos q, if_pos q]
    have hq : p.st = 2 ∧ p.nx < 400 := by
      unfold propE at q
      split at q
      · cases q
      · split at q
        · cases q
        · split at q
          · cases q
          · rename_i a b
            exact ⟨by simpa using a, by omega⟩
    have hnx := h.nx
    have h0 := h.nx0
    constructor
    · exact h.st
    · exact h.br
    · exact h.bn
    · exact h.fr
    · show p.nx + 1 = r.nx + 1; omega
    · exact h.fr0
    · show 0 ≤ p.nx + 1 ∧ p.nx + 1 ≤ 400; omega
    · exact h.stv
    · show (p.op ++ [(p.nx, val, 0)]).map _ = r.op ++ [(r.nx, val)]
      rw [List.map_append, h.op, hnx]
      rfl
    · show (p.op ++ [(p.nx, val, 0)]).Pairwise _
      rw [List.pairwise_append]
      refine ⟨h.asc, by simp, fun a ha b hb => ?_⟩
      rw [List.mem_singleton] at hb
      subst hb
      exact (h.lt a ha).2
    · show ∀ e ∈ p.op ++ [(p.nx, val, 0)], 0 ≤ e.1 ∧ e.1 < p.nx + 1
      intro e he
      rcases List.mem_append.1 he with he | he
      · have := h.lt e he; omega
      · rw [List.mem_singleton.1 he]; simp only; omega
    · show ∀ e ∈ p.op ++ [(p.nx, val, 0)], _
      intro e he
      rcases List.mem_append.1 he with he | he
      · exact h.msk e he
      · rw [List.mem_singleton.1 he]
        have : (r.ack.filter fun a => decide (a.2 = p.nx)) = [] := by
          rw [List.filter_eq_nil_iff]
          intro a ha
          have := h.acks a ha
          simp; omega
        simp only [cntR, this, List.map_nil, List.length_nil]
        exact ⟨MaskOf.nil n, by simp; omega⟩
    · show ∀ a ∈ r.ack, a.2 < p.nx + 1
      intro a ha
      have := h.acks a ha
      omega
    · intro e
      have e : p.st = 1 := e
      omega
    · intro e
      have e : p.st = 0 := e
      omega
    · exact h.prok
  · rw [if_neg q, if_neg q]
    exact h
theorem mget_map {β γ : Type} (g : β → γ) (slot : Int) : ∀ l : List (Int × β), mget slot (l.map fun e => (e.1, g e.2)) = (mget slot l).map g
  | [] => rfl
  | a :: l => by
    have ih := mget_map g slot l
    unfold mget at *
    by_cases q : a.1 = slot
    · simp [q]
    · simp only [List.map_cons, q, decide_false, List.find?_cons_of_neg, Bool.false_eq_true, not_false_eq_true]
      exact ih
theorem mput_pair {β : Type} {slot : Int} {v : β} : ∀ {l : List (Int × β)}, ∀ e ∈ mput slot v l, e = (slot, v) ∨ (e ∈ l ∧ (e.1 = slot → e ∈ l))
  | [], e, he => by
    simp only [mput, List.mem_singleton] at he
    exact .inl he
  | a :: l, e, he => by
    unfold mput at he
    by_cases q : a.1 = slot
    · rw [if_pos q] at he
      rcases List.mem_cons.1 he with h | h
      · exact .inl h
      · exact .inr ⟨List.mem_cons_of_mem _ h, fun _ => List.mem_cons_of_mem _ h⟩
    · rw [if_neg q] at he
      rcases List.mem_cons.1 he with h | h
      · subst h
        exact .inr ⟨List.mem_cons_self .., fun _ => List.mem_cons_self ..⟩
      · rcases mput_pair e h with h | h
        · exact .inl h
        · exact .inr ⟨List.mem_cons_of_mem _ h.1, fun _ => List.mem_cons_of_mem _ h.1⟩
theorem asc_uniq {β : Type} {l : List (Int × β)} (h : l.Pairwise fun a b => a.1 < b.1) {a b : Int × β} (ha : a ∈ l) (hb : b ∈ l) (e : a.1 = b.1) : a = b := by
  obtain ⟨i, hi, rfl⟩ := List.mem_iff_getElem.1 ha
  obtain ⟨j, hj, rfl⟩ := List.mem_iff_getElem.1 hb
  rcases Nat.lt_trichotomy i j with q | q | q
  · have := List.pairwise_iff_getElem.1 h i j hi hj q; omega
  · subst q; rfl
  · have := List.pairwise_iff_getElem.1 h j i hj hi q; omega
theorem mput_asc {β : Type} {slot : Int} {v : β} : ∀ {l : List (Int × β)}, (l.Pairwise fun a b => a.1 < b.1) → (∃ r ∈ l, r.1 = slot) → ((mput slot v l).Pairwise fun a b => a.1 < b.1) ∧ ∀ e ∈ mput slot v l, e = (slot, v) ∨ (e ∈ l ∧ e.1 ≠ slot)
  | [], _, h => by obtain ⟨r, hr, _⟩ := h; cases hr
  | a :: l, hp, h => by
    have hp' := List.pairwise_cons.1 hp
    have hk := mput_keys (key := slot) (v := v) h
    have hpk : ((mput slot v (a :: l)).map (·.1)).Pairwise (· < ·) := by
      rw [hk, List.pairwise_map]
      exact hp
    rw [List.pairwise_map] at hpk
    refine ⟨hpk, fun e he => ?_⟩
    by_cases q : e = (slot, v)
    · exact .inl q
    · refine .inr ⟨?_, fun es => q ?_⟩
      · rcases mput_pair e he with h | h
        · exact absurd h q
        · exact h.1
      · have hm : (slot, v) ∈ mput slot v (a :: l) := mget_some (by rw [mget_mput, if_pos rfl])
        exact asc_uniq hpk he hm es
theorem dropK_map {β γ : Type} (g : β → γ) (slot : Int) (l : List (Int × β)) : (dropK slot l).map (fun e => (e.1, g e.2)) = dropK slot (l.map fun e => (e.1, g e.2)) := by
  unfold dropK
  rw [List.filter_map]
  rfl
theorem mput_map {β γ : Type} (g : β → γ) {slot : Int} {v : β} {w : β} : ∀ {l : List (Int × β)}, mget slot l = some w → g v = g w → (mput slot v l).map (fun e => (e.1, g e.2)) = l.map fun e => (e.1, g e.2)
  | [], h, _ => by cases h
  | a :: l, h, hg => by
    unfold mput
    by_cases q : a.1 = slot
    · rw [if_pos q]
      have : a.2 = w := by simpa [mget, q] using h
      simp [q, hg, this]
    · rw [if_neg q]
      have h' : mget slot l = some w := by
        unfold mget at h ⊢
        simpa [q] using h
      simp only [List.map_cons]
      rw [mput_map g h' hg]
theorem rel_acc {n : Int} {p : Lv} {r : Rv} (h : Rel n p r) (hn : 1 ≤ n ∧ n ≤ 5) (node br bn slot : Int) : Rel n (accL n p node br bn slot).1 (accR n r node br bn slot).1 ∧ (accL n p node br bn slot).2 = (accR n r node br bn slot).2 := by
  have hop : mget slot r.op = (mget slot p.op).map (·.1) := by
    rw [← h.op]
    exact mget_map (fun x : ByteArray × Int => x.1) slot p.op
  unfold accL accR
  rw [hop]
  cases hm : mget slot p.op with
  | none =>
    simp only [Option.map_none]
    split <;> exact ⟨h, rfl⟩
  | some vm =>
    obtain ⟨v, m⟩ := vm
    have hmem := mget_some hm
    obtain ⟨k1, k2⟩ := h.msk _ hmem
    simp only at k1 k2
    simp only [Option.map_some]
    by_cases ha : accOkL n p node br bn = true
    · rw [if_pos ha]
      have ha' := ha
      simp only [accOkL, Bool.and_eq_true, decide_eq_true_eq] at ha'
      obtain ⟨⟨c1, c2, c3⟩, c4, c5⟩ := ha'
      by_cases hin : node ∈ (r.ack.filter fun a => decide (a.2 = slot)).map (·.1)
      · have e1 : accOkR n r node br bn slot = false := by
          obtain ⟨a, ha1, ha2⟩ := List.mem_map.1 hin
          rw [List.mem_filter] at ha1
          have : (r.ack.any fun a => decide (a.2 = slot) && decide (a.1 = node)) = true := List.any_eq_true.2 ⟨a, ha1.1, by rw [Bool.and_eq_true]; exact ⟨ha1.2, decide_eq_true ha2⟩⟩
          simp [accOkR, this]
        have hh := (k1.has node c4 (by omega)).2 hin
        have hw : winsM m n = false := by
          rw [k1.wins hn.1 hn.2, decide_eq_false_iff_not, List.length_map]
          unfold cntR at k2
          omega
        simp only [e1, with_same k1.ok hh, hw, Bool.false_eq_true, if_false]
        refine ⟨?_, trivial⟩
        have he : mput slot (v, m) p.op = p.op := by
          clear h k1 k2 hmem hin e1 hh hw hop ha c1 c2 c3 c4 c5
          generalize p.op = l at *
          induction l with
          | nil => cases hm
          | cons a l ih =>
            unfold mput
            by_cases q : a.1 = slot
            · rw [if_pos q]
              have : a.2 = (v, m) := by simpa [mget, q] using hm
              rw [← this, ← q]
            · rw [if_neg q]
              rw [ih]
              unfold mget at hm ⊢
              simpa [q] using hm
        have : ({ p with op := mput slot (v, m) p.op } : Lv) = p := by rw [he]
        rw [this]
        exact h
      · have e1 : accOkR n r node br bn slot = true := by
          simp only [accOkR, Bool.and_eq_true, decide_eq_true_eq, Bool.not_eq_true', List.any_eq_false]
          rw [← h.st, ← h.br, ← h.bn]
          refine ⟨⟨⟨c1, c2, c3⟩, c4, c5⟩, fun a hb hc => hin ?_⟩
          exact List.mem_map.2 ⟨a, List.mem_filter.2 ⟨hb, decide_eq_true hc.1⟩, hc.2⟩
        rw [e1, if_pos rfl]
        have km := k1.snoc c4 c5 hn.2 hin
        have ew : winsM (withM m node) n = decide (n < 2 * (cntR r slot + 1)) := by
          have e9 : ((((r.ack.filter fun a => decide (a.2 = slot)).map (·.1) ++ [node]).length : Nat) : Int) = cntR r slot + 1 := by simp [cntR]
          rw [km.wins hn.1 hn.2, e9]
        rw [ew]
        have hex : ∃ x ∈ p.op, x.1 = slot := ⟨_, hmem, rfl⟩
        have hack : ∀ s', s' ≠ slot → (r.ack ++ [(node, slot)]).filter (fun a => decide (a.2 = s')) = r.ack.filter (fun a => decide (a.2 = s')) := fun s' hs => by
          rw [List.filter_append]
          have : ¬ slot = s' := fun e => hs e.symm
          simp [this]
        have hack2 : (r.ack ++ [(node, slot)]).filter (fun a => decide (a.2 = slot)) = r.ack.filter (fun a => decide (a.2 = slot)) ++ [(node, slot)] := by
          rw [List.filter_append]; simp
        have hst : p.st = 2 := c1
        by_cases hw : n < 2 * (cntR r slot + 1)
        · rw [decide_eq_true hw, if_pos rfl, if_pos hw]
          refine ⟨?_, rfl⟩
          have hsub : ∀ e ∈ dropK slot p.op, e ∈ p.op ∧ e.1 ≠ slot := fun e he => by
            unfold dropK at he
            rw [List.mem_filter] at he
            exact ⟨he.1, by simpa using he.2⟩
          constructor
          · exact h.st
          · exact h.br
          · exact h.bn
          · exact h.fr
          · exact h.nx
          · exact h.fr0
          · exact h.nx0
          · exact h.stv
          · show (dropK slot p.op).map (fun e => (e.1, e.2.1)) = dropK slot r.op
            rw [dropK_map (fun x : ByteArray × Int => x.1), h.op]
          · exact h.asc.filter _
          · intro e he
            exact h.lt e (hsub e he).1
          · intro e he
            have := hsub e he
            have hh := h.msk e this.1
            unfold cntR at hh ⊢
            simp only
            rw [hack e.1 this.2]
            exact hh
          · show ∀ a ∈ r.ack ++ [(node, slot)], a.2 < p.nx
            intro a ha
            rcases List.mem_append.1 ha with ha | ha
            · exact h.acks a ha
            · rw [List.mem_singleton.1 ha]
              exact (h.lt _ hmem).2
          · intro e
            have e : p.st = 1 := e
            omega
          · intro e
            have e : p.st = 0 := e
            omega
          · exact h.prok
        · rw [decide_eq_false hw, if_neg (by simp), if_neg hw]
          refine ⟨?_, rfl⟩
          obtain ⟨g1, g2⟩ := mput_asc (v := (v, withM m node)) h.asc hex
          constructor
          · exact h.st
          · exact h.br
          · exact h.bn
          · exact h.fr
          · exact h.nx
          · exact h.fr0
          · exact h.nx0
          · exact h.stv
          · show (mput slot (v, withM m node) p.op).map (fun e => (e.1, e.2.1)) = r.op
            rw [mput_map (fun x : ByteArray × Int => x.1) (v := (v, withM m node)) hm rfl, h.op]
          · exact g1
          · intro e he
            rcases g2 e he with rfl | ⟨he, _⟩
            · have := h.lt _ hmem
              exact this
            · exact h.lt e he
          · intro e he
            rcases g2 e he with rfl | ⟨he, hne⟩
            · unfold cntR
              simp only
              rw [hack2]
              refine ⟨by simpa using km, ?_⟩
              unfold cntR at hw
              simp
              omega
            · have hh := h.msk e he
              unfold cntR at hh ⊢
              simp only
              rw [hack e.1 hne]
              exact hh
          · show ∀ a ∈ r.ack ++ [(node, slot)], a.2 < p.nx
            intro a ha
            rcases List.mem_append.1 ha with ha | ha
            · exact h.acks a ha
            · rw [List.mem_singleton.1 ha]
              exact (h.lt _ hmem).2
          · intro e
            have e : p.st = 1 := e
            omega
          · intro e
            have e : p.st = 0 := e
            omega
          · exact h.prok
    · rw [if_neg ha]
      have e1 : accOkR n r node br bn slot = false := by
        have hf : accOkL n p node br bn = false := by simpa using ha
        unfold accOkL at hf
        unfold accOkR
        rw [← h.st, ← h.br, ← h.bn, hf]
        rfl
      rw [e1, if_neg (by simp)]
      exact ⟨h, rfl⟩
