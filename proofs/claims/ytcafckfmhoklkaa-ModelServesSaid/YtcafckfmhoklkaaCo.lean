/- What the program's Do does with a row that is told right. -/

import Derived.Test.YtcafckfmhoklkaaCn
open Go Go.Abs Go.Proofs
set_option maxRecDepth 100000
set_option maxHeartbeats 4000000
set_option linter.unusedSimpArgs false
set_option linter.unusedVariables false

section
attribute [local simp] ofV ofCell ofCells seqA_nil seqA_cons seqVK_eq seqEK_eq wantedA yieldedA isVal effA ev evs evps putE optsA optsOk valA fieldAddrA fieldA loadA partA aggA isAggD buildA placesA fillA lay storeA AV.withCells buildSliceA elemsA rowParts fzL promL okE isSrc bytesOk pushA cxOf lenA binA intBinA strBinA unA indexAddrA eqA AVs.inb AV.inb Loc.inb calleeA opsOf sub bodyOf Env.get_set quietA_nil quietA_cons quietK_none quietK_some qstep newA isNew escNew boxOk newLoc flat rowPartsQ quietN quietOp isBS List.takeWhile finishA_eq finK_ret finK_normal retK backK resA oneA AV.back AVs.back execW_seq_eq seqK_normal seqK_ret seqK_exit execW_cond_eq condK_true condK_false execW_block_eq blockK_exit blockK_normal blockK_ret execW_region_eq regK_eq execW_skip execW_exit execW_ret regionA_plain regionA_quiet0 tailK_eq nilCheckA guardOk isConst lookupA keyFits mapUpdateA beqI bneI
theorem f24_g (hp s : List AObj) (a : Nat) (x : RowD) (RX WX : AV) (hRX : Plain RX) (hWX : Plain WX) (qk : x.kind = 1) (h34 : ∀ st, callW Try.prog how 34 [.ptr (.hp a) 0, .agg [.int .i64 x.cl, .int .u64 x.sq, .int .i64 x.kind, .str x.key, .str x.val, RX, WX, .int .i64 x.ca, .int .i64 x.st, .int .i64 x.an, .int .i64 x.code, .int .i64 x.rcl, .int .u64 x.rsq, .int .i64 x.rn, .int .i64 x.rcode, .str x.rval, .int .u64 x.rnum]] ⟨hp, s ++ st⟩ none = some (.bool true, ⟨hp, s ++ st⟩)) :
    callW Try.prog how 24 [.ptr (.hp a) 0, .agg [.int .i64 x.cl, .int .u64 x.sq, .int .i64 x.kind, .str x.key, .str x.val, RX, WX, .int .i64 x.ca, .int .i64 x.st, .int .i64 x.an, .int .i64 x.code, .int .i64 x.rcl, .int .u64 x.rsq, .int .i64 x.rn, .int .i64 x.rcode, .str x.rval, .int .u64 x.rnum]] ⟨hp, s⟩ none = some (.bool true, ⟨hp, s⟩) := by
  refine callW_body (fl := {}) (fn := Try.f24) (c := bodyOf Try.f24) rfl Try.func24 rfl ?_
  have henv : ∃ e, e = frameA Try.f24 [.ptr (.hp a) 0, .agg [.int .i64 x.cl, .int .u64 x.sq, .int .i64 x.kind, .str x.key, .str x.val, RX, WX, .int .i64 x.ca, .int .i64 x.st, .int .i64 x.an, .int .i64 x.code, .int .i64 x.rcl, .int .u64 x.rsq, .int .i64 x.rn, .int .i64 x.rcode, .str x.rval, .int .u64 x.rnum]] := ⟨_, rfl⟩
  obtain ⟨env, henv⟩ := henv
  have hl : env.length = 75 := by rw [henv]; rfl
  have h0 : Env.get env 0 = .ptr (.hp a) 0 := by rw [henv]; rfl
  have h1 : Env.get env 1 = .agg [.int .i64 x.cl, .int .u64 x.sq, .int .i64 x.kind, .str x.key, .str x.val, RX, WX, .int .i64 x.ca, .int .i64 x.st, .int .i64 x.an, .int .i64 x.code, .int .i64 x.rcl, .int .u64 x.rsq, .int .i64 x.rn, .int .i64 x.rcode, .str x.rval, .int .u64 x.rnum] := by rw [henv]; rfl
  rw [← henv]
  clear henv
  rw [qk] at h34
  simp -implicitDefEqProofs [Try.f24, hl, h0, h1, hRX.one, hRX.inb, hRX.row, hRX.cells, hWX.one, hWX.inb, hWX.row, hWX.cells, qk, h34]

theorem f24_p (hp s : List AObj) (a mm : Nat) (hp2 : List AObj) (v : Vl) (x : RowD) (RX WX : AV) (tc ts : Int) (pl : Bool) (X Y : AV) (hRX : Plain RX) (hWX : Plain WX) (hX : Plain X) (hY : Plain Y) (qk : ¬ x.kind = 1) (qc : x.code = 0) (qp : pl = true) (h17 : ∀ st, callW Try.prog how 17 [.agg [.int .i64 x.kind, .str x.key, .str x.val, RX, WX], .agg [.int .i64 x.cl, .int .u64 x.sq]] ⟨hp, s ++ st⟩ none = some (.agg [.int .i64 tc, .int .u64 ts, .bool pl, X, Y], ⟨hp, s ++ st⟩)) (h35 : ∀ st, callW Try.prog how 35 [.ptr (.hp a) 0, .agg [.int .i64 x.cl, .int .u64 x.sq, .int .i64 x.kind, .str x.key, .str x.val, RX, WX, .int .i64 x.ca, .int .i64 x.st, .int .i64 x.an, .int .i64 x.code, .int .i64 x.rcl, .int .u64 x.rsq, .int .i64 x.rn, .int .i64 x.rcode, .str x.rval, .int .u64 x.rnum], .agg [.int .i64 tc, .int .u64 ts, .bool pl, X, Y]] ⟨hp, s ++ st⟩ none = some (.bool true, ⟨hp, s ++ st⟩)) (h36 : ∀ st, callW Try.prog how 36 [.ptr (.hp a) 0, .agg [.int .i64 tc, .int .u64 ts, .bool pl, X, Y]] ⟨hp, s ++ st⟩ none = some (.tup [], ⟨hp2, s ++ st⟩)) (hr1 : x.rcode = x.code) (hv : beqS x.rval ⟨#[]⟩ = true) (hA : ∀ s, (AS.mk hp2 s).get (.hp a) = some (.cells [.map (.hp mm)])) (hlk : ∀ s, lookupA Try.prog ⟨hp2, s⟩ 89 (.map (.hp mm)) (.str x.key) false = some (.agg [.int .u64 v.1, .str v.2.1, .bool v.2.2])) (hn : x.rnum = v.1) :
    callW Try.prog how 24 [.ptr (.hp a) 0, .agg [.int .i64 x.cl, .int .u64 x.sq, .int .i64 x.kind, .str x.key, .str x.val, RX, WX, .int .i64 x.ca, .int .i64 x.st, .int .i64 x.an, .int .i64 x.code, .int .i64 x.rcl, .int .u64 x.rsq, .int .i64 x.rn, .int .i64 x.rcode, .str x.rval, .int .u64 x.rnum]] ⟨hp, s⟩ none = some (.bool true, ⟨hp2, s⟩) := by
  refine callW_body (fl := {}) (fn := Try.f24) (c := bodyOf Try.f24) rfl Try.func24 rfl ?_
  have henv : ∃ e, e = frameA Try.f24 [.ptr (.hp a) 0, .agg [.int .i64 x.cl, .int .u64 x.sq, .int .i64 x.kind, .str x.key, .str x.val, RX, WX, .int .i64 x.ca, .int .i64 x.st, .int .i64 x.an, .int .i64 x.code, .int .i64 x.rcl, .int .u64 x.rsq, .int .i64 x.rn, .int .i64 x.rcode, .str x.rval, .int .u64 x.rnum]] := ⟨_, rfl⟩
  obtain ⟨env, henv⟩ := henv
  have hl : env.length = 75 := by rw [henv]; rfl
  have h0 : Env.get env 0 = .ptr (.hp a) 0 := by rw [henv]; rfl
  have h1 : Env.get env 1 = .agg [.int .i64 x.cl, .int .u64 x.sq, .int .i64 x.kind, .str x.key, .str x.val, RX, WX, .int .i64 x.ca, .int .i64 x.st, .int .i64 x.an, .int .i64 x.code, .int .i64 x.rcl, .int .u64 x.rsq, .int .i64 x.rn, .int .i64 x.rcode, .str x.rval, .int .u64 x.rnum] := by rw [henv]; rfl
  rw [← henv]
  clear henv
  subst qp
  rw [qc] at hr1
  simp only [qc, hr1, hn] at h35
  by_cases p0 : x.an = 0 <;> (try simp only [p0] at h35)
  all_goals simp -implicitDefEqProofs [-lookupA, Try.f24, hl, h0, h1, hRX.one, hRX.inb, hRX.row, hRX.cells, hWX.one, hWX.inb, hWX.row, hWX.cells, hX.one, hX.inb, hX.row, hX.cells, hY.one, hY.inb, hY.row, hY.cells, qk, qc, hr1, hv, h17, h35, h36, hA, hlk, hn, fieldValA, p0]

theorem f24_t (hp s : List AObj) (a : Nat) (hp2 : List AObj) (x : RowD) (RX WX : AV) (tc ts : Int) (pl : Bool) (X Y : AV) (hRX : Plain RX) (hWX : Plain WX) (hX : Plain X) (hY : Plain Y) (qk : ¬ x.kind = 1) (qc : x.code = 0) (qp : pl = false) (h17 : ∀ st, callW Try.prog how 17 [.agg [.int .i64 x.kind, .str x.key, .str x.val, RX, WX], .agg [.int .i64 x.cl, .int .u64 x.sq]] ⟨hp, s ++ st⟩ none = some (.agg [.int .i64 tc, .int .u64 ts, .bool pl, X, Y], ⟨hp, s ++ st⟩)) (h35 : ∀ st, callW Try.prog how 35 [.ptr (.hp a) 0, .agg [.int .i64 x.cl, .int .u64 x.sq, .int .i64 x.kind, .str x.key, .str x.val, RX, WX, .int .i64 x.ca, .int .i64 x.st, .int .i64 x.an, .int .i64 x.code, .int .i64 x.rcl, .int .u64 x.rsq, .int .i64 x.rn, .int .i64 x.rcode, .str x.rval, .int .u64 x.rnum], .agg [.int .i64 tc, .int .u64 ts, .bool pl, X, Y]] ⟨hp, s ++ st⟩ none = some (.bool true, ⟨hp, s ++ st⟩)) (h36 : ∀ st, callW Try.prog how 36 [.ptr (.hp a) 0, .agg [.int .i64 tc, .int .u64 ts, .bool pl, X, Y]] ⟨hp, s ++ st⟩ none = some (.tup [], ⟨hp2, s ++ st⟩)) (hr1 : x.rcode = x.code) (hv : beqS x.rval ⟨#[]⟩ = true) (hn : x.rnum = 0) :
    callW Try.prog how 24 [.ptr (.hp a) 0, .agg [.int .i64 x.cl, .int .u64 x.sq, .int .i64 x.kind, .str x.key, .str x.val, RX, WX, .int .i64 x.ca, .int .i64 x.st, .int .i64 x.an, .int .i64 x.code, .int .i64 x.rcl, .int .u64 x.rsq, .int .i64 x.rn, .int .i64 x.rcode, .str x.rval, .int .u64 x.rnum]] ⟨hp, s⟩ none = some (.bool true, ⟨hp2, s⟩) := by
  refine callW_body (fl := {}) (fn := Try.f24) (c := bodyOf Try.f24) rfl Try.func24 rfl ?_
  have henv : ∃ e, e = frameA Try.f24 [.ptr (.hp a) 0, .agg [.int .i64 x.cl, .int .u64 x.sq, .int .i64 x.kind, .str x.key, .str x.val, RX, WX, .int .i64 x.ca, .int .i64 x.st, .int .i64 x.an, .int .i64 x.code, .int .i64 x.rcl, .int .u64 x.rsq, .int .i64 x.rn, .int .i64 x.rcode, .str x.rval, .int .u64 x.rnum]] := ⟨_, rfl⟩
  obtain ⟨env, henv⟩ := henv
  have hl : env.length = 75 := by rw [henv]; rfl
  have h0 : Env.get env 0 = .ptr (.hp a) 0 := by rw [henv]; rfl
  have h1 : Env.get env 1 = .agg [.int .i64 x.cl, .int .u64 x.sq, .int .i64 x.kind, .str x.key, .str x.val, RX, WX, .int .i64 x.ca, .int .i64 x.st, .int .i64 x.an, .int .i64 x.code, .int .i64 x.rcl, .int .u64 x.rsq, .int .i64 x.rn, .int .i64 x.rcode, .str x.rval, .int .u64 x.rnum] := by rw [henv]; rfl
  rw [← henv]
  clear henv
  subst qp
  rw [qc] at hr1
  simp only [qc, hr1, hn] at h35
  by_cases p0 : x.an = 0 <;> (try simp only [p0] at h35)
  all_goals simp -implicitDefEqProofs [Try.f24, hl, h0, h1, hRX.one, hRX.inb, hRX.row, hRX.cells, hWX.one, hWX.inb, hWX.row, hWX.cells, hX.one, hX.inb, hX.row, hX.cells, hY.one, hY.inb, hY.row, hY.cells, qk, qc, hr1, hv, h17, h35, h36, hn, fieldValA, p0]

theorem f24_s (hp s : List AObj) (a : Nat) (x : RowD) (RX WX : AV) (tc ts : Int) (pl : Bool) (X Y : AV) (hRX : Plain RX) (hWX : Plain WX) (hX : Plain X) (hY : Plain Y) (qk : ¬ x.kind = 1) (qc : ¬ x.code = 0) (h17 : ∀ st, callW Try.prog how 17 [.agg [.int .i64 x.kind, .str x.key, .str x.val, RX, WX], .agg [.int .i64 x.cl, .int .u64 x.sq]] ⟨hp, s ++ st⟩ none = some (.agg [.int .i64 tc, .int .u64 ts, .bool pl, X, Y], ⟨hp, s ++ st⟩)) (h35 : ∀ st, callW Try.prog how 35 [.ptr (.hp a) 0, .agg [.int .i64 x.cl, .int .u64 x.sq, .int .i64 x.kind, .str x.key, .str x.val, RX, WX, .int .i64 x.ca, .int .i64 x.st, .int .i64 x.an, .int .i64 x.code, .int .i64 x.rcl, .int .u64 x.rsq, .int .i64 x.rn, .int .i64 x.rcode, .str x.rval, .int .u64 x.rnum], .agg [.int .i64 tc, .int .u64 ts, .bool pl, X, Y]] ⟨hp, s ++ st⟩ none = some (.bool true, ⟨hp, s ++ st⟩)) (hr1 : x.rcode = x.code) (hv : beqS x.rval ⟨#[]⟩ = true) (hn : x.rnum = 0) :
    callW Try.prog how 24 [.ptr (.hp a) 0, .agg [.int .i64 x.cl, .int .u64 x.sq, .int .i64 x.kind, .str x.key, .str x.val, RX, WX, .int .i64 x.ca, .int .i64 x.st, .int .i64 x.an, .int .i64 x.code, .int .i64 x.rcl, .int .u64 x.rsq, .int .i64 x.rn, .int .i64 x.rcode, .str x.rval, .int .u64 x.rnum]] ⟨hp, s⟩ none = some (.bool true, ⟨hp, s⟩) := by
  refine callW_body (fl := {}) (fn := Try.f24) (c := bodyOf Try.f24) rfl Try.func24 rfl ?_
  have henv : ∃ e, e = frameA Try.f24 [.ptr (.hp a) 0, .agg [.int .i64 x.cl, .int .u64 x.sq, .int .i64 x.kind, .str x.key, .str x.val, RX, WX, .int .i64 x.ca, .int .i64 x.st, .int .i64 x.an, .int .i64 x.code, .int .i64 x.rcl, .int .u64 x.rsq, .int .i64 x.rn, .int .i64 x.rcode, .str x.rval, .int .u64 x.rnum]] := ⟨_, rfl⟩
  obtain ⟨env, henv⟩ := henv
  have hl : env.length = 75 := by rw [henv]; rfl
  have h0 : Env.get env 0 = .ptr (.hp a) 0 := by rw [henv]; rfl
  have h1 : Env.get env 1 = .agg [.int .i64 x.cl, .int .u64 x.sq, .int .i64 x.kind, .str x.key, .str x.val, RX, WX, .int .i64 x.ca, .int .i64 x.st, .int .i64 x.an, .int .i64 x.code, .int .i64 x.rcl, .int .u64 x.rsq, .int .i64 x.rn, .int .i64 x.rcode, .str x.rval, .int .u64 x.rnum] := by rw [henv]; rfl
  rw [← henv]
  clear henv
  simp only [hr1, hn] at h35
  by_cases p0 : x.an = 0 <;> (try simp only [p0] at h35) <;> cases pl
  all_goals simp -implicitDefEqProofs [Try.f24, hl, h0, h1, hRX.one, hRX.inb, hRX.row, hRX.cells, hWX.one, hWX.inb, hWX.row, hWX.cells, hX.one, hX.inb, hX.row, hX.cells, hY.one, hY.inb, hY.row, hY.cells, qk, qc, hr1, hv, h17, h35, hn, fieldValA, p0]

end
/-- Whether a row is told right, as the map has its keys. -/
def OkRow (V : ByteArray → Vl) (x : RowD) : Prop :=
  (x.kind = 1 ∧ x.code = (if (V x.key).2.2 = true then 0 else 6) ∧ x.rcode = x.code ∧ x.rval = (V x.key).2.1 ∧ x.rnum = (V x.key).1) ∨
  (x.kind ≠ 1 ∧ x.code = 0 ∧ x.rcode = 0 ∧ x.rval = ⟨#[]⟩ ∧ ((rowTxn x).2.1.any fun r => decide ((V r.1).1 ≠ r.2)) = false ∧ x.rnum = if (rowTxn x).1 = true then ((rowTxn x).2.2.foldl (fun V w k => if k = w.1 then updV (V w.1) w else V k) V x.key).1 else 0) ∨
  (x.kind = 4 ∧ x.code = 8 ∧ x.rcode = 8 ∧ x.rval = ⟨#[]⟩ ∧ ((rowTxn x).2.1.any fun r => decide ((V r.1).1 ≠ r.2)) = true ∧ x.rnum = 0)
def doP (M : List KeyD) (x : RowD) : List KeyD := if x.kind = 1 then M else if x.code = 0 then putsP M (rowTxn x).2.2 else M
theorem ofK_putsP (ws : List WrI) : ∀ M : List KeyD, ofK (putsP M ws) = ws.foldl (fun V w k => if k = w.1 then updV (V w.1) w else V k) (ofK M) := by
  induction ws with
  | nil => intro M; rfl
  | cons w ws ih =>
    intro M
    show ofK (putsP (putP w.1 (updV (ofK M w.1) w) M) ws) = _
    rw [ih, List.foldl_cons]
    congr 1
    funext k
    exact ofK_putP _ _ _ _
theorem ofK_putsK (ws : List WrI) : ∀ M : List KeyD, ofK (putsK M ws) = ws.foldl (fun V w k => if k = w.1 then updV (V w.1) w else V k) (ofK M) := by
  induction ws with
  | nil => intro M; rfl
  | cons w ws ih =>
    intro M
    show ofK (putsK (putK M w) ws) = _
    rw [ih, List.foldl_cons]
    congr 1
    funext k
    exact ofK_put _ _ _
theorem f24_ok (hp s : List AObj) (a mm : Nat) (M : List KeyD) (x : RowD) (hP : PM hp a mm M) (hx : OkRow (ofK M) x) (hn1 : x.rs.length ≤ 10) (hn2 : x.ws.length ≤ 10) :
    callW Try.prog how 24 [.ptr (.hp a) 0, encRow x] ⟨hp, s⟩ none = some (.bool true, ⟨hp.set mm (.map ((doP M x).map entK)), s⟩) := by
  have hb : ∀ y : ByteArray, beqS y y = true := fun y => by rw [beqS_dec]; exact decide_eq_true rfl
  have hN : ∀ n : Nat, ∀ k, (none : Option Nat) = some k → k ≤ n := fun _ _ h => by cases h
  have hA : ∀ s, (AS.mk hp s).get (.hp a) = some (.cells [.map (.hp mm)]) := fun s => hP.oA
  obtain ⟨tc, ts, h17⟩ := f17_v x.cl x.sq x.kind x.key x.val x.rs x.ws (by omega) (by omega)
  have htl := txnP_len (kind := x.kind) (key := x.key) (val := x.val) (rs := x.rs) (ws := x.ws) (m := 10) (by omega) hn1 hn2
  rcases hx with ⟨k1, k2, k3, k4, k5⟩ | ⟨k1, k2, k3, k4, k5, k6⟩ | ⟨k1, k2, k3, k4, k5, k6⟩
  · have e : doP M x = M := by unfold doP; rw [if_pos k1]
    rw [e, ← hP.self]
    exact f24_g hp s a x _ _ slV_plain slV_plain k1 (fun st => f34_c hp (s ++ st) none a mm (ofK M x.key) x _ _ (hN _) slV_plain slV_plain hA (fun s => hP.look s x.key) k2 k3 (by rw [k4]; exact hb _) k5)
  · have e : doP M x = putsP M (rowTxn x).2.2 := by unfold doP; rw [if_neg k1, if_pos k2]
    rw [e]
    have h39 := fun st => f39_ok hp (s ++ st) none a mm M tc ts (rowTxn x).1 _ _ (rowTxn x).2.1 (hN _) hP slOf_slV (slV_plain (sz := 3) (l := (rowTxn x).2.2.map encWr)) (Nat.le_trans htl.1 (by omega))
    have hst : staleS M (rowTxn x).2.1 = false := k5
    rw [hst] at h39
    have h35 := fun st => f35_0 hp (s ++ st) none a true x (slV 2 (x.rs.map encRd)) (slV 3 (x.ws.map encWr)) tc ts (rowTxn x).1 (slV 2 ((rowTxn x).2.1.map encRd)) (slV 3 ((rowTxn x).2.2.map encWr)) (hN _) slV_plain slV_plain slV_plain slV_plain k2 (fun st2 => by have := h39 (st ++ st2); rw [← List.append_assoc] at this; exact this)
    have h36 := fun st => F36.ok hp (s ++ st) a mm M (rowTxn x).2.2 tc ts (rowTxn x).1 (slV 2 ((rowTxn x).2.1.map encRd)) (slV 3 ((rowTxn x).2.2.map encWr)) hP slV_plain slOf_slV (Nat.le_trans htl.2 (by omega))
    have hP2 := hP.put (putsP M (rowTxn x).2.2)
    cases qp : (rowTxn x).1 with
    | true =>
      rw [qp, if_pos rfl, ← ofK_putsP] at k6
      exact f24_p hp s a mm _ (ofK (putsP M (rowTxn x).2.2) x.key) x _ _ tc ts (rowTxn x).1 _ _ slV_plain slV_plain slV_plain slV_plain k1 k2 qp (fun st => h17 hp (s ++ st) none (hN _)) h35 h36 (k3.trans k2.symm) (by rw [k4]; exact hb _) (fun s => hP2.oA) (fun s => hP2.look s x.key) k6
    | false =>
      rw [qp, if_neg (by simp)] at k6
      exact f24_t hp s a _ x _ _ tc ts (rowTxn x).1 _ _ slV_plain slV_plain slV_plain slV_plain k1 k2 qp (fun st => h17 hp (s ++ st) none (hN _)) h35 h36 (k3.trans k2.symm) (by rw [k4]; exact hb _) k6
  · have e : doP M x = M := by unfold doP; rw [if_neg (by omega), if_neg (by omega)]
    rw [e, ← hP.self]
    have h39 := fun st => f39_ok hp (s ++ st) none a mm M tc ts (rowTxn x).1 _ _ (rowTxn x).2.1 (hN _) hP slOf_slV (slV_plain (sz := 3) (l := (rowTxn x).2.2.map encWr)) (Nat.le_trans htl.1 (by omega))
    have hst : staleS M (rowTxn x).2.1 = true := k5
    rw [hst] at h39
    have h39q := fun st r (hr : ∀ k, r = some k → k ≤ (s ++ st).length) => f39_ok hp (s ++ st) r a mm M tc ts (rowTxn x).1 _ _ (rowTxn x).2.1 hr hP slOf_slV (slV_plain (sz := 3) (l := (rowTxn x).2.2.map encWr)) (Nat.le_trans htl.1 (by omega))
    have h35 := fun st => f35_8 hp (s ++ st) none a false x (slV 2 (x.rs.map encRd)) (slV 3 (x.ws.map encWr)) tc ts (rowTxn x).1 (slV 2 ((rowTxn x).2.1.map encRd)) (slV 3 ((rowTxn x).2.2.map encWr)) (hN _) slV_plain slV_plain slV_plain slV_plain k2 k1 (fun st2 => by have := h39 (st ++ st2); rw [← List.append_assoc] at this; exact this)
    exact f24_s hp s a x _ _ tc ts (rowTxn x).1 _ _ slV_plain slV_plain slV_plain slV_plain (by omega) (by omega) (fun st => h17 hp (s ++ st) none (hN _)) h35 (by omega) (by rw [k4]; exact hb _) k6