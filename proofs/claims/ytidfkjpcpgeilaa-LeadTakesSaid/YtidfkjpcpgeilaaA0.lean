/- Rows of named fields and their shapes. -/

import Derived.Test.YtidfkjpcpgeilaaAbs13
open Go Go.Abs Go.Proofs
set_option maxRecDepth 100000
set_option maxHeartbeats 4000000
set_option linter.unusedSimpArgs false
set_option linter.unusedVariables false
/-- A version. -/
structure Vn where
  a : Int
  n : Int
  v : ByteArray
  g : Bool
  deriving DecidableEq
def encVn (x : Vn) : AV := .agg [.int .i64 x.a, .int .u64 x.n, .str x.v, .bool x.g]
def signI (c : Int) : Bool := (decide (97 ≤ c) && decide (c ≤ 122)) || (decide (48 ≤ c) && decide (c ≤ 57)) || decide (c = 95)
def bytesI (s : ByteArray) : List Int := s.data.toList.map fun b => (b.toNat : Int)
def signsB (s : ByteArray) : Bool := (bytesI s).all signI
def keyOk (s : ByteArray) : Bool := !beqS s ⟨#[]⟩ && (signsB s && decide ((s.size : Int) ≤ 32))
def valOk (s : ByteArray) : Bool := signsB s && decide ((s.size : Int) ≤ 64)
def mayV (v : ByteArray) (g : Bool) : Bool := valOk v && (!g || beqS v ⟨#[]⟩)
theorem bytesI_len (s : ByteArray) : (bytesI s).length = s.size := by simp [bytesI]
theorem all_take_succ {α : Type} {p : α → Bool} {l : List α} {k : Nat} (hk : k < l.length) : (l.take (k + 1)).all p = ((l.take k).all p && p l[k]) := by
  rw [List.take_succ_eq_append_getElem hk, List.all_append]
  simp
theorem all_false_of {α : Type} {p : α → Bool} {l : List α} {k : Nat} (hk : k < l.length) (h : p l[k] = false) : l.all p = false := by
  rw [List.all_eq_false]
  exact ⟨l[k], List.getElem_mem hk, by simp [h]⟩
/-! ### The end of a call -/
section
variable {P : Program} {how : FuncId → Option How}
theorem call_of {f : FuncId} {args : List AV} {σ : AS} {ro : Option Nat} {fl : Flags} {fn : Func} {c : Code} {env : Env} {e : AExit × St} {r : AV × AS} (hfl : how f = some (.body fl)) (hfn : P.funcs[f]? = some fn) (hc : fn.body = some c) (henv : env = frameA fn args)
    (run : execW P (cxOf fl σ ro) fl.tails (callW P how) c (env, σ) = some e) (fin : finishA P fl fn σ.st.length (some e) = some r) : callW P how f args σ ro = some r := by
  subst henv
  refine callW_body hfl hfn hc ?_
  rw [run]
  exact fin
/-- One result in a slot. -/
theorem fin_tmp {fl : Flags} {fn : Func} {h k : Nat} {en : Env} {σ : AS} {v w : AV} {e : AExit} (he : e = .ret ∨ e = .normal) (hk : fl.keep = false) (hr : fn.results.toList = [.tmp k]) (hv : Env.get en k = v) (hb : v.back h σ = some w) (hi : w.inb h = true) : finishA P fl fn h (some (e, (en, σ))) = some (w, ⟨σ.hp, σ.st.take h⟩) := by
  rcases he with rfl | rfl <;> simp [finishA, hr, resA, hv, hk, oneA, hb, hi]
theorem fin_none {fl : Flags} {fn : Func} {h : Nat} {en : Env} {σ : AS} {e : AExit} (he : e = .ret ∨ e = .normal) (hk : fl.keep = false) (hr : fn.results.toList = []) : finishA P fl fn h (some (e, (en, σ))) = some (.tup [], ⟨σ.hp, σ.st.take h⟩) := by
  rcases he with rfl | rfl <;> simp [finishA, hr, resA, hk, oneA, AV.back, AVs.back, AV.inb, AVs.inb]
theorem outside_st {hp s : List AObj} {σ : AS} (o : Outside s.length ⟨hp, s⟩ σ) : AS.mk σ.hp (σ.st.take s.length) = ⟨hp, s⟩ := by
  obtain ⟨o1, o2, _⟩ := o
  simp only at o1 o2
  rw [o1, o2, List.take_length]
/-- A loop that has a measure. -/
theorem while_exit {cx : Cx} {tails : List Nat} {call : Caller} {c : Code} {M : St → Nat} {Inv : St → Prop} {Q : AExit → St → Prop}
    (step : ∀ st, Inv st → ∃ e st1, execW P cx tails call c st = some (e, st1) ∧ ((e = .normal ∧ Inv st1 ∧ M st1 < M st) ∨ (e ≠ .normal ∧ Q e st1))) :
    ∀ (n : Nat) (st : St), M st ≤ n → Inv st → ∃ e st1, execW P cx tails call (.loop c) st = some (e, st1) ∧ e ≠ .normal ∧ Q e st1
  | n, st, hn, hi => by
    obtain ⟨e, st1, r, h⟩ := step st hi
    rcases h with ⟨rfl, h1, h2⟩ | ⟨h1, h2⟩
    · match n with
      | 0 => omega
      | n + 1 =>
        obtain ⟨e', st2, r2, h3⟩ := while_exit step n st1 (by omega) h1
        refine ⟨e', st2, ?_, h3⟩
        rw [execW] at r2 ⊢
        exact iterW_next r r2
    · refine ⟨e, st1, ?_, h1, h2⟩
      rw [execW]
      exact iterW_out r h1
end
theorem idx_slV (P : Program) (σ : AS) (t e sz : Nat) (h : P.underlying t = some (.slice e)) (l : List AV) (k : Nat) (c : AV) (hs : sizeA P e = some sz) (hz : 0 < sz) (hk : l[k]? = some c) : indexAddrA P σ t (slV sz l) (.int .i64 (k : Int)) = some (.rptr c.cells 0) := by
  unfold slV
  cases l with
  | nil => simp at hk
  | cons a b =>
    simp only [List.isEmpty_cons, Bool.false_eq_true, if_false]
    unfold indexAddrA
    simp [h, hs, hk, hz]
theorem len_slV (P : Program) (σ : AS) (t e sz : Nat) (h : P.underlying t = some (.slice e)) (l : List AV) : lenA P σ t (slV sz l) = some l.length := by
  unfold slV
  cases l with
  | nil => simp [lenA, h]
  | cons a b => simp [lenA, h]
theorem slV_one {sz : Nat} {l : List AV} : (slV sz l).one = true := slV_plain.one
theorem slV_back {l : List AV} {sz h : Nat} {σ : AS} : (slV sz l).back h σ = some (slV sz l) := slV_plain.back h σ
theorem slV_inb {l : List AV} {sz : Nat} (n : Nat) : (slV sz l).inb n = true := slV_plain.inb n
theorem slV_isRow {l : List AV} {sz : Nat} : isRow (slV sz l) = false := slV_plain.row
theorem idx_str {P : Program} {t : TypeId} {s : ByteArray} {k : Nat} (h : P.underlying t = some .string) (hk : k < s.data.toList.length) : indexA P t (.str s) (.int .i64 (k : Int)) = some (.int .u8 (s.data.toList[k].toNat : Int)) := by
  unfold indexA
  simp only [h, Int.natCast_nonneg, if_true, Int.toNat_natCast, List.getElem?_eq_getElem hk]
theorem beqS_empty (k : ByteArray) : beqS k ⟨#[]⟩ = decide ((k.size : Int) = 0) := by
  unfold beqS
  have : k.size = k.data.toList.length := by simp
  rw [this]
  cases k.data.toList with
  | nil => rfl
  | cons a l =>
    have h1 : (a :: l == ([] : List UInt8)) = false := rfl
    have h2 : ¬ (((a :: l).length : Nat) : Int) = 0 := by simp; omega
    rw [decide_eq_false h2]
    exact h1
theorem beq_val {k : ByteArray} (h : beqS k ⟨#[]⟩ = true) : valOk k = true := by
  rw [beqS_empty] at h
  have h0 : k.size = 0 := by simpa using h
  have h1 : (bytesI k) = [] := List.length_eq_zero_iff.1 (by rw [bytesI_len]; exact h0)
  simp [valOk, signsB, h1, h0]
theorem keyOk_eq {k : ByteArray} : keyOk k = (!beqS k ⟨#[]⟩ && (signsB k && decide ((k.size : Int) ≤ 32))) := rfl
theorem valOk_eq {k : ByteArray} : valOk k = (signsB k && decide ((k.size : Int) ≤ 64)) := rfl
/-- A slice that can be read. -/
def Rd (P : Program) (σ : AS) (t e : TypeId) (X : AV) (l : List AV) : Prop :=
  lenA P σ t X = some l.length ∧ ∀ (k : Nat) (c : AV), l[k]? = some c → ∃ p, indexAddrA P σ t X (.int .i64 (k : Int)) = some p ∧ loadA P σ e p = some c
theorem rd_slV {P : Program} {σ : AS} {t e sz : Nat} {l : List AV} (h : P.underlying t = some (.slice e)) (hs : sizeA P e = some sz) (hz : 0 < sz) (he : ∀ c ∈ l, partA P e c.cells 0 = some c) : Rd P σ t e (slV sz l) l :=
  ⟨len_slV P σ t e sz h l, fun k c hk => ⟨_, idx_slV P σ t e sz h l k c hs hz hk, by unfold loadA; exact he c (List.mem_of_getElem? hk)⟩⟩
theorem rd_row {P : Program} {σ : AS} {t e sz v : Nat} {fr : Bool} {L : Abs.Loc} {l : List AV} (h : P.underlying t = some (.slice e)) (hs : sizeA P e = some sz) (hz : 0 < sz) (hg : σ.get L = some (.row l sz v fr)) (he : ∀ c ∈ l, partA P e c.cells 0 = some c) : Rd P σ t e (.row L v 0 l.length) l := by
  refine ⟨by simp [lenA, h], fun k c hk => ⟨.eptr L v k 0, ?_, ?_⟩⟩
  · have hlt : k < l.length := (List.getElem?_eq_some_iff.1 hk).1
    unfold indexAddrA
    simp [h, hs, hg, hz, hlt]
  · unfold loadA
    simp only [hg, if_true, hk]
    exact he c (List.mem_of_getElem? hk)
theorem slK_eq (l : List AV) : slK l = slV 1 l := by cases l <;> rfl
theorem take_eq_succ {α : Type} {A B : List α} {k : Nat} (hA : k < A.length) (hB : k < B.length) (h : A.take k = B.take k) (e : A[k] = B[k]) : A.take (k + 1) = B.take (k + 1) := by
  rw [List.take_succ_eq_append_getElem hA, List.take_succ_eq_append_getElem hB, h, e]
theorem ext_bytes {x y : ByteArray} (h : x.data.toList = y.data.toList) : x = y := by
  cases x with | mk a => cases y with | mk b => cases a with | mk l => cases b with | mk m => simp only at h; rw [h]
theorem beqS_dec (x y : ByteArray) : beqS x y = decide (x = y) := by
  unfold beqS
  by_cases h : x = y
  · rw [decide_eq_true h, h]
    exact beq_self_eq_true _
  · rw [decide_eq_false h]
    cases hb : (x.data.toList == y.data.toList) with
    | false => rfl
    | true => exact absurd (ext_bytes (eq_of_beq hb)) h
/-- What an object is. -/
structure GoodO (l : List Vn) : Prop where
  el : ∀ x ∈ l, 1 ≤ x.a ∧ 1 ≤ x.n ∧ x.n ≤ 1000 ∧ mayV x.v x.g = true
  up : ∀ (i : Nat) (h : i + 1 < l.length), l[i].a < l[i + 1].a ∧ l[i + 1].n = l[i].n + 1
  len : l.length ≤ 100
theorem may_size {v : ByteArray} {g : Bool} (h : mayV v g = true) : v.size ≤ 9223372036854775807 := by
  simp only [mayV, valOk, Bool.and_eq_true, decide_eq_true_eq] at h
  omega
def uptoN (L : List Vn) (m : Int) : Nat := (L.filter fun v => decide (v.a ≤ m)).length
theorem upto_at {L : List Vn} {m : Int} {i : Nat} (hi : i ≤ L.length) (h1 : ∀ x (h : x < L.length), x < i → L[x].a ≤ m) (h2 : ∀ x (h : x < L.length), i ≤ x → m < L[x].a) : L.filter (fun v => decide (v.a ≤ m)) = L.take i := by
  conv => lhs; rw [← List.take_append_drop i L]
  rw [List.filter_append]
  have e1 : (L.take i).filter (fun v => decide (v.a ≤ m)) = L.take i := by
    rw [List.filter_eq_self]
    intro x hx
    obtain ⟨k, hk, rfl⟩ := List.mem_iff_getElem.1 hx
    rw [List.getElem_take]
    have hk' : k < i ∧ k < L.length := by rw [List.length_take] at hk; omega
    exact decide_eq_true (h1 k hk'.2 hk'.1)
  have e2 : (L.drop i).filter (fun v => decide (v.a ≤ m)) = [] := by
    rw [List.filter_eq_nil_iff]
    intro x hx
    obtain ⟨k, hk, rfl⟩ := List.mem_iff_getElem.1 hx
    rw [List.getElem_drop]
    have hk' : i + k < L.length := by rw [List.length_drop] at hk; omega
    have := h2 (i + k) hk' (by omega)
    simp; omega
  rw [e1, e2, List.append_nil]
theorem upto_eq {L : List Vn} {m : Int} {i : Nat} (hi : i ≤ L.length) (h1 : ∀ x (h : x < L.length), x < i → L[x].a ≤ m) (h2 : ∀ x (h : x < L.length), i ≤ x → m < L[x].a) : uptoN L m = i := by
  unfold uptoN
  rw [upto_at hi h1 h2, List.length_take]
  omega
theorem good_lt {L : List Vn} (h : GoodO L) : ∀ (d i : Nat) (hi : i + d + 1 < L.length), L[i].a < L[i + d + 1].a
  | 0, i, hi => (h.up i hi).1
  | d + 1, i, hi => by
    have h1 := good_lt h d i (by omega)
    have h2 := (h.up (i + d + 1) (by omega)).1
    have e : L[i + d + 1 + 1] = L[i + (d + 1) + 1] := by congr 1
    rw [e] at h2
    omega
theorem good_mono {L : List Vn} (h : GoodO L) {i j : Nat} (hij : i < j) (hj : j < L.length) : L[i].a < L[j].a := by
  have e : j = i + (j - i - 1) + 1 := by omega
  have := good_lt h (j - i - 1) i (by omega)
  have e2 : L[i + (j - i - 1) + 1] = L[j] := by congr 1; omega
  rwa [e2] at this
theorem lt_app {ro : Option Nat} {s : List AObj} (h : ∀ k, ro = some k → k ≤ s.length) (t : List AObj) : ∀ k, ro = some k → k ≤ (s ++ t).length := fun k hk => Nat.le_trans (h k hk) (by simp)
def zeroVn : Vn := ⟨0, 0, ⟨#[]⟩, false⟩
def lastV (L : List Vn) : Vn := L.getLast?.getD zeroVn
def readV (L : List Vn) (m : Int) : Vn × Bool := if uptoN L m = 0 then (zeroVn, false) else (L.getD (uptoN L m - 1) zeroVn, true)
theorem upto_le (L : List Vn) (m : Int) : uptoN L m ≤ L.length := List.length_filter_le _ _
theorem wr_u64 {n : Int} (h1 : 0 ≤ n) (h2 : n ≤ 18446744073709551615) : wr .u64 n = n := by simp [wr, loK, hiK, h1, h2]

/-- What a piece of code does: how it ends, with which state, what some slots then have; the others (but for W) stay. -/
def Pc (P : Program) (how : FuncId → Option How) (cx : Cx) (tails : List Nat) (N : Nat) (W : List Nat) (c : Code) (env : Env) (σ : AS) (e : AExit) (σ' : AS) (O : Env → Prop) : Prop :=
  ∃ env', execW P cx tails (callW P how) c (env, σ) = some (e, (env', σ')) ∧ env'.length = N ∧ O env' ∧ ∀ i, i ∉ W → Env.get env' i = Env.get env i
theorem pc_of {P : Program} {how : FuncId → Option How} {cx : Cx} {tails : List Nat} {N : Nat} {W : List Nat} {c : Code} {env : Env} {σ : AS} {e : AExit} {σ' : AS} {O : Env → Prop}
    (h : ∀ res, execW P cx tails (callW P how) c (env, σ) = res → ∃ env', res = some (e, (env', σ')) ∧ env'.length = N ∧ O env' ∧ ∀ i, i ∉ W → Env.get env' i = Env.get env i) : Pc P how cx tails N W c env σ e σ' O := h _ rfl
theorem get_set2 {e : Env} {d i : Nat} {v : AV} : Env.get (e.set d v) i = if i = d ∧ d < e.length then v else Env.get e i := by
  rw [Env.get_set]
  by_cases h : d = i
  · subst h; rfl
  · have h2 : ¬ i = d := fun e => h e.symm
    simp [h, h2]
