/- Whether a row may be so; keys of the program's map are written. -/

import Derived.Test.YtcafckfmhoklkaaCm
open Go Go.Abs Go.Proofs
set_option maxRecDepth 100000
set_option maxHeartbeats 4000000
set_option linter.unusedSimpArgs false
set_option linter.unusedVariables false

/-- What an op's transaction is, in the program. -/
theorem f17_v (cl sq kind : Int) (key val : ByteArray) (rs : List RdI) (ws : List WrI) (hn1 : rs.length ≤ 900) (hn2 : ws.length ≤ 900) :
    ∃ tc ts, ∀ (hp s : List AObj) (ro : Option Nat), (∀ k, ro = some k → k ≤ s.length) → callW Try.prog how 17 [.agg (opA kind key val rs ws), .agg [.int .i64 cl, .int .u64 sq]] ⟨hp, s⟩ ro = some (.agg [.int .i64 tc, .int .u64 ts, .bool (txnP kind key val rs ws).1, slV 2 ((txnP kind key val rs ws).2.1.map encRd), slV 3 ((txnP kind key val rs ws).2.2.map encWr)], ⟨hp, s⟩) := by
  by_cases q2 : kind = 2
  · subst q2
    exact ⟨_, _, fun hp s ro hro => f17_2 hp s ro 2 cl sq key val _ _ hro slV_plain slV_plain⟩
  by_cases q3 : kind = 3
  · subst q3
    exact ⟨_, _, fun hp s ro hro => f17_3 hp s ro 3 cl sq key val _ _ hro slV_plain slV_plain⟩
  by_cases q4 : kind = 4
  · subst q4
    exact ⟨_, _, fun hp s ro hro => f17_4 hp s ro 4 cl sq key val _ _ hro slV_plain slV_plain (fun st2 r hr => f26_ok hp _ (some r) _ (fun k hk => by cases hk; exact hr) (by rw [List.length_map]; exact hn1)) (fun st2 r hr => f27_ok hp _ (some r) _ (fun k hk => by cases hk; exact hr) (by rw [List.length_map]; exact hn2))⟩
  · have e : txnP kind key val rs ws = (false, [], []) := by simp [txnP, q2, q3, q4]
    rw [e]
    exact ⟨_, _, fun hp s ro hro => f17_o hp s ro kind cl sq key val _ _ hro slV_plain slV_plain q2 q3 q4⟩
theorem f39_ok (hp s : List AObj) (ro : Option Nat) (a mm : Nat) (M : List KeyD) (tc ts : Int) (pl : Bool) (X Y : AV) (rs : List RdI) (hro : ∀ k, ro = some k → k ≤ s.length) (hP : PM hp a mm M) (hX : SlOf 2 X (rs.map encRd)) (hY : Plain Y) (hn1 : rs.length ≤ 900) :
    callW Try.prog how 39 [.ptr (.hp a) 0, .agg [.int .i64 tc, .int .u64 ts, .bool pl, X, Y]] ⟨hp, s⟩ ro = some (.bool (!staleS M rs), ⟨hp, s⟩) := by
  obtain ⟨st, hst⟩ : ∃ st : List AObj, st = [.cells [.ptr (.hp a) 0], .cells [.int .i64 tc, .int .u64 ts, .bool pl, X, Y]] := ⟨_, rfl⟩
  have hr2 : ∀ k, ro = some k → k ≤ (s ++ st).length := lt_app hro st
  have hA : ∀ s, (AS.mk hp s).get (.hp a) = some (.cells [.map (.hp mm)]) := fun s => hP.oA
  have h43 : ∀ r : RdI, callW Try.prog how 43 [encRd r, .ptr (.st s.length) 0] ⟨hp, s ++ st⟩ ro = some (.bool (decide ((ofK M r.1).1 ≠ r.2)), ⟨hp, s ++ st⟩) := fun r =>
    f43_c hp (s ++ st) ro a mm s.length r.1 r.2 (ofK M r.1) hr2 hA (fun s => hP.look s r.1) (by rw [hst]; simp) (fun t => by rw [hst]; simp [AS.get])
  obtain ⟨n, h45, hn⟩ := F45.ok hp (s ++ st) ro s.length X rs _ hr2 hX hn1 h43
  have h42 := f42_c hp (s ++ st) ro X _ n hr2 hX.plain rfl h45
  rw [hn] at h42
  exact f39_c hp s ro a _ tc ts pl X Y hro hX.plain hY st hst h42
section
attribute [local simp] ofV ofCell ofCells seqA_nil seqA_cons seqVK_eq seqEK_eq wantedA yieldedA isVal effA ev evs evps putE optsA optsOk valA fieldAddrA fieldA loadA partA aggA isAggD buildA placesA fillA lay storeA AV.withCells buildSliceA elemsA rowParts fzL promL okE isSrc bytesOk pushA cxOf lenA binA intBinA strBinA unA indexAddrA eqA AVs.inb AV.inb Loc.inb calleeA opsOf sub bodyOf Env.get_set quietA_nil quietA_cons quietK_none quietK_some qstep newA isNew escNew boxOk newLoc flat rowPartsQ quietN quietOp isBS List.takeWhile finishA_eq finK_ret finK_normal retK backK resA oneA AV.back AVs.back execW_seq_eq seqK_normal seqK_ret seqK_exit execW_cond_eq condK_true condK_false execW_block_eq blockK_exit blockK_normal blockK_ret execW_region_eq regK_eq execW_skip execW_exit execW_ret regionA_plain regionA_quiet0 tailK_eq nilCheckA guardOk isConst lookupA keyFits mapUpdateA beqI bneI
theorem f35_0 (hp s : List AObj) (ro : Option Nat) (a : Nat) (b : Bool) (x : RowD) (RX WX : AV) (tc ts : Int) (pl : Bool) (X Y : AV) (hro : ∀ k, ro = some k → k ≤ s.length) (hRX : Plain RX) (hWX : Plain WX) (hX : Plain X) (hY : Plain Y) (qc : x.code = 0) (h39 : ∀ st, callW Try.prog how 39 [.ptr (.hp a) 0, .agg [.int .i64 tc, .int .u64 ts, .bool pl, X, Y]] ⟨hp, s ++ st⟩ ro = some (.bool b, ⟨hp, s ++ st⟩)) :
    callW Try.prog how 35 [.ptr (.hp a) 0, .agg [.int .i64 x.cl, .int .u64 x.sq, .int .i64 x.kind, .str x.key, .str x.val, RX, WX, .int .i64 x.ca, .int .i64 x.st, .int .i64 x.an, .int .i64 x.code, .int .i64 x.rcl, .int .u64 x.rsq, .int .i64 x.rn, .int .i64 x.rcode, .str x.rval, .int .u64 x.rnum], .agg [.int .i64 tc, .int .u64 ts, .bool pl, X, Y]] ⟨hp, s⟩ ro = some (.bool b, ⟨hp, s⟩) := by
  refine callW_body (fl := {}) (fn := Try.f35) (c := bodyOf Try.f35) rfl Try.func35 rfl ?_
  have henv : ∃ e, e = frameA Try.f35 [.ptr (.hp a) 0, .agg [.int .i64 x.cl, .int .u64 x.sq, .int .i64 x.kind, .str x.key, .str x.val, RX, WX, .int .i64 x.ca, .int .i64 x.st, .int .i64 x.an, .int .i64 x.code, .int .i64 x.rcl, .int .u64 x.rsq, .int .i64 x.rn, .int .i64 x.rcode, .str x.rval, .int .u64 x.rnum], .agg [.int .i64 tc, .int .u64 ts, .bool pl, X, Y]] := ⟨_, rfl⟩
  obtain ⟨env, henv⟩ := henv
  have hl : env.length = 31 := by rw [henv]; rfl
  have h0 : Env.get env 0 = .ptr (.hp a) 0 := by rw [henv]; rfl
  have h1 : Env.get env 1 = .agg [.int .i64 x.cl, .int .u64 x.sq, .int .i64 x.kind, .str x.key, .str x.val, RX, WX, .int .i64 x.ca, .int .i64 x.st, .int .i64 x.an, .int .i64 x.code, .int .i64 x.rcl, .int .u64 x.rsq, .int .i64 x.rn, .int .i64 x.rcode, .str x.rval, .int .u64 x.rnum] := by rw [henv]; rfl
  have h2 : Env.get env 2 = .agg [.int .i64 tc, .int .u64 ts, .bool pl, X, Y] := by rw [henv]; rfl
  rw [← henv]
  clear henv
  by_cases p1 : x.kind = 4
  all_goals simp -implicitDefEqProofs [Try.f35, hl, h0, h1, h2, wok_le hro, wok_le' hro, hRX.one, hRX.inb, hRX.row, hRX.cells, hWX.one, hWX.inb, hWX.row, hWX.cells, hX.one, hX.inb, hX.row, hX.cells, hY.one, hY.inb, hY.row, hY.cells, qc, h39, p1]

theorem f35_8 (hp s : List AObj) (ro : Option Nat) (a : Nat) (b : Bool) (x : RowD) (RX WX : AV) (tc ts : Int) (pl : Bool) (X Y : AV) (hro : ∀ k, ro = some k → k ≤ s.length) (hRX : Plain RX) (hWX : Plain WX) (hX : Plain X) (hY : Plain Y) (qc : x.code = 8) (qk : x.kind = 4) (h39 : ∀ st, callW Try.prog how 39 [.ptr (.hp a) 0, .agg [.int .i64 tc, .int .u64 ts, .bool pl, X, Y]] ⟨hp, s ++ st⟩ ro = some (.bool b, ⟨hp, s ++ st⟩)) :
    callW Try.prog how 35 [.ptr (.hp a) 0, .agg [.int .i64 x.cl, .int .u64 x.sq, .int .i64 x.kind, .str x.key, .str x.val, RX, WX, .int .i64 x.ca, .int .i64 x.st, .int .i64 x.an, .int .i64 x.code, .int .i64 x.rcl, .int .u64 x.rsq, .int .i64 x.rn, .int .i64 x.rcode, .str x.rval, .int .u64 x.rnum], .agg [.int .i64 tc, .int .u64 ts, .bool pl, X, Y]] ⟨hp, s⟩ ro = some (.bool (!b), ⟨hp, s⟩) := by
  refine callW_body (fl := {}) (fn := Try.f35) (c := bodyOf Try.f35) rfl Try.func35 rfl ?_
  have henv : ∃ e, e = frameA Try.f35 [.ptr (.hp a) 0, .agg [.int .i64 x.cl, .int .u64 x.sq, .int .i64 x.kind, .str x.key, .str x.val, RX, WX, .int .i64 x.ca, .int .i64 x.st, .int .i64 x.an, .int .i64 x.code, .int .i64 x.rcl, .int .u64 x.rsq, .int .i64 x.rn, .int .i64 x.rcode, .str x.rval, .int .u64 x.rnum], .agg [.int .i64 tc, .int .u64 ts, .bool pl, X, Y]] := ⟨_, rfl⟩
  obtain ⟨env, henv⟩ := henv
  have hl : env.length = 31 := by rw [henv]; rfl
  have h0 : Env.get env 0 = .ptr (.hp a) 0 := by rw [henv]; rfl
  have h1 : Env.get env 1 = .agg [.int .i64 x.cl, .int .u64 x.sq, .int .i64 x.kind, .str x.key, .str x.val, RX, WX, .int .i64 x.ca, .int .i64 x.st, .int .i64 x.an, .int .i64 x.code, .int .i64 x.rcl, .int .u64 x.rsq, .int .i64 x.rn, .int .i64 x.rcode, .str x.rval, .int .u64 x.rnum] := by rw [henv]; rfl
  have h2 : Env.get env 2 = .agg [.int .i64 tc, .int .u64 ts, .bool pl, X, Y] := by rw [henv]; rfl
  rw [← henv]
  clear henv
  simp -implicitDefEqProofs [Try.f35, hl, h0, h1, h2, wok_le hro, wok_le' hro, hRX.one, hRX.inb, hRX.row, hRX.cells, hWX.one, hWX.inb, hWX.row, hWX.cells, hX.one, hX.inb, hX.row, hX.cells, hY.one, hY.inb, hY.row, hY.cells, qc, qk, h39]

theorem f34_c (hp s : List AObj) (ro : Option Nat) (a mm : Nat) (v : Vl) (x : RowD) (RX WX : AV) (hro : ∀ k, ro = some k → k ≤ s.length) (hRX : Plain RX) (hWX : Plain WX) (hA : ∀ s, (AS.mk hp s).get (.hp a) = some (.cells [.map (.hp mm)])) (hlk : ∀ s, lookupA Try.prog ⟨hp, s⟩ 89 (.map (.hp mm)) (.str x.key) false = some (.agg [.int .u64 v.1, .str v.2.1, .bool v.2.2])) (hc : x.code = if v.2.2 = true then 0 else 6) (hq : x.rcode = x.code) (hv : beqS x.rval v.2.1 = true) (hn : x.rnum = v.1) :
    callW Try.prog how 34 [.ptr (.hp a) 0, .agg [.int .i64 x.cl, .int .u64 x.sq, .int .i64 x.kind, .str x.key, .str x.val, RX, WX, .int .i64 x.ca, .int .i64 x.st, .int .i64 x.an, .int .i64 x.code, .int .i64 x.rcl, .int .u64 x.rsq, .int .i64 x.rn, .int .i64 x.rcode, .str x.rval, .int .u64 x.rnum]] ⟨hp, s⟩ ro = some (.bool true, ⟨hp, s⟩) := by
  refine callW_body (fl := {}) (fn := Try.f34) (c := bodyOf Try.f34) rfl Try.func34 rfl ?_
  have henv : ∃ e, e = frameA Try.f34 [.ptr (.hp a) 0, .agg [.int .i64 x.cl, .int .u64 x.sq, .int .i64 x.kind, .str x.key, .str x.val, RX, WX, .int .i64 x.ca, .int .i64 x.st, .int .i64 x.an, .int .i64 x.code, .int .i64 x.rcl, .int .u64 x.rsq, .int .i64 x.rn, .int .i64 x.rcode, .str x.rval, .int .u64 x.rnum]] := ⟨_, rfl⟩
  obtain ⟨env, henv⟩ := henv
  have hl : env.length = 47 := by rw [henv]; rfl
  have h0 : Env.get env 0 = .ptr (.hp a) 0 := by rw [henv]; rfl
  have h1 : Env.get env 1 = .agg [.int .i64 x.cl, .int .u64 x.sq, .int .i64 x.kind, .str x.key, .str x.val, RX, WX, .int .i64 x.ca, .int .i64 x.st, .int .i64 x.an, .int .i64 x.code, .int .i64 x.rcl, .int .u64 x.rsq, .int .i64 x.rn, .int .i64 x.rcode, .str x.rval, .int .u64 x.rnum] := by rw [henv]; rfl
  rw [← henv]
  clear henv
  cases hh : v.2.2 <;> by_cases p0 : x.an = 0 <;> rw [hh] at hc hlk <;> simp only [if_true, if_false, Bool.false_eq_true] at hc
  all_goals simp -implicitDefEqProofs [-lookupA, Try.f34, hl, h0, h1, wok_le hro, wok_le' hro, hRX.one, hRX.inb, hRX.row, hRX.cells, hWX.one, hWX.inb, hWX.row, hWX.cells, hA, hlk, hq, hv, hn, p0, hc]

end
/-- What the program's write leaves. -/
def putsP (M : List KeyD) (ws : List WrI) : List KeyD := ws.foldl (fun M w => putP w.1 (updV (ofK M w.1) w) M) M
theorem putsP_succ {M : List KeyD} {ws : List WrI} {k : Nat} (hk : k < ws.length) : putsP M (ws.take (k + 1)) = putP ws[k].1 (updV (ofK (putsP M (ws.take k)) ws[k].1) ws[k]) (putsP M (ws.take k)) := by
  unfold putsP
  rw [List.take_succ_eq_append_getElem hk, List.foldl_append]
  rfl
theorem PM.put {hp : List AObj} {a mm : Nat} {M : List KeyD} (h : PM hp a mm M) (M' : List KeyD) : PM (hp.set mm (.map (M'.map entK))) a mm M' := by
  have hlt : mm < hp.length := (List.getElem?_eq_some_iff.1 h.oM).1
  exact ⟨by rw [List.getElem?_set_ne (fun e => h.ne e.symm)]; exact h.oA, List.getElem?_set_self hlt, h.ne⟩
theorem PM.self {hp : List AObj} {a mm : Nat} {M : List KeyD} (h : PM hp a mm M) : hp = hp.set mm (.map (M.map entK)) := by
  apply List.ext_getElem?
  intro i
  by_cases e : mm = i
  · subst e
    have hlt : mm < hp.length := (List.getElem?_eq_some_iff.1 h.oM).1
    rw [List.getElem?_set_self hlt, h.oM]
  · rw [List.getElem?_set_ne e]
namespace F36
noncomputable def cr (p : List Dir) : Code := sub p (bodyOf Try.f36)

section
attribute [local simp] ofV ofCell ofCells seqA_nil seqA_cons seqVK_eq seqEK_eq wantedA yieldedA isVal effA ev evs evps putE optsA optsOk valA fieldAddrA fieldA loadA partA aggA isAggD buildA placesA fillA lay storeA AV.withCells buildSliceA elemsA rowParts fzL promL okE isSrc bytesOk pushA cxOf lenA binA intBinA strBinA unA indexAddrA eqA AVs.inb AV.inb Loc.inb calleeA opsOf sub bodyOf Env.get_set quietA_nil quietA_cons quietK_none quietK_some qstep newA isNew escNew boxOk newLoc flat rowPartsQ quietN quietOp isBS List.takeWhile finishA_eq finK_ret finK_normal retK backK resA oneA AV.back AVs.back execW_seq_eq seqK_normal seqK_ret seqK_exit execW_cond_eq condK_true condK_false execW_block_eq blockK_exit blockK_normal blockK_ret execW_region_eq regK_eq execW_skip execW_exit execW_ret regionA_plain regionA_quiet0 tailK_eq nilCheckA guardOk isConst lookupA keyFits mapUpdateA beqI bneI
theorem rA (cx : Cx) (env : Env) (σ : AS) (hp s : List AObj) (tc ts : Int) (pl : Bool) (X Y : AV) (hlen : env.length = 35) (hcx : cx.esc = []) (f1 : Env.get env 1 = .agg [.int .i64 tc, .int .u64 ts, .bool pl, X, Y]) (hσ : σ = ⟨hp, s⟩) (hX : Plain X) (hY : Plain Y) (hw : wok cx.ro (.st s.length) = true) (hh : cx.h ≤ s.length) :
    Pc Try.prog how cx [] 35 [3] (cr [.l]) env σ (.normal) (AS.mk hp (s ++ [.cells [.int .i64 tc, .int .u64 ts, .bool pl, X, Y]])) (fun env' => Env.get env' 3 = .ptr (.st s.length) 0) := by
  refine pc_of fun res hr => ?_
  simp -implicitDefEqProofs [AS.get_push_at, AS.get_push_old, AS.push_len, AS.set_st_len, AS.next_st', AS.set_push_at, AS.get_set_self, AS.get_set_other, cr, Try.f36, hlen, hcx, f1, hσ, hX.one, hX.inb, hX.row, hX.cells, hY.one, hY.inb, hY.row, hY.cells, hw, hh] at hr
  subst hr
  refine ⟨_, rfl, by simp [hlen], by simp [Env.get_set, hlen, f1, hσ, hX.one, hX.inb, hX.row, hX.cells, hY.one, hY.inb, hY.row, hY.cells, hw, hh], fun i hi => ?_⟩
  simp only [List.mem_cons, List.not_mem_nil, or_false, not_or] at hi
  simp only [get_set2, hi, false_and, if_false]

theorem rB (cx : Cx) (env : Env) (σ : AS) (t n : Nat) (tc ts : Int) (pl : Bool) (X Y : AV) (hlen : env.length = 35) (hcx : cx.esc = []) (f3 : Env.get env 3 = .ptr (.st t) 0) (gt : σ.get (.st t) = some (.cells [.int .i64 tc, .int .u64 ts, .bool pl, X, Y])) (hX : Plain X) (hY : Plain Y) (hl : lenA Try.prog σ 34 Y = some n) :
    Pc Try.prog how cx [] 35 [6, 7, 8, 9] (cr [.r, .l]) env σ (.normal) (σ) (fun env' => Env.get env' 7 = Y ∧ Env.get env' 8 = .int .i64 (n : Int) ∧ Env.get env' 9 = .int .i64 0) := by
  refine pc_of fun res hr => ?_
  simp -implicitDefEqProofs [-lenA, AS.get_push_at, AS.get_push_old, AS.push_len, AS.set_st_len, AS.next_st', AS.set_push_at, AS.get_set_self, AS.get_set_other, cr, Try.f36, hlen, hcx, f3, gt, hX.one, hX.inb, hX.row, hX.cells, hY.one, hY.inb, hY.row, hY.cells, hl] at hr
  subst hr
  refine ⟨_, rfl, by simp [hlen], by simp [Env.get_set, hlen, f3, gt, hX.one, hX.inb, hX.row, hX.cells, hY.one, hY.inb, hY.row, hY.cells, hl], fun i hi => ?_⟩
  simp only [List.mem_cons, List.not_mem_nil, or_false, not_or] at hi
  simp only [get_set2, hi, false_and, if_false]

theorem rE (cx : Cx) (env : Env) (σ : AS) (k : Nat) (Z p : AV) (wk wv : ByteArray) (wg : Bool) (hlen : env.length = 35) (hcx : cx.esc = []) (f7 : Env.get env 7 = Z) (f9 : Env.get env 9 = .int .i64 (k : Int)) (hia : indexAddrA Try.prog σ 34 Z (.int .i64 (k : Int)) = some p) (hpa : loadA Try.prog σ 85 p = some (.agg [.str wk, .str wv, .bool wg])) (hw : wok cx.ro (.st σ.st.length) = true) (hh : cx.h ≤ σ.st.length) :
    Pc Try.prog how cx [] 35 [5, 11, 12] (cr [.r, .r, .i, .i, .r, .r, .l, .i, .l]) env σ (.normal) (σ.push false (.cells [.str wk, .str wv, .bool wg])) (fun env' => Env.get env' 5 = .ptr (.st σ.st.length) 0) := by
  refine pc_of fun res hr => ?_
  simp -implicitDefEqProofs [-lenA, -indexAddrA, -loadA, AS.get_push_at, AS.get_push_old, AS.push_len, AS.set_st_len, AS.next_st', AS.set_push_at, AS.get_set_self, AS.get_set_other, cr, Try.f36, hlen, hcx, f7, f9, hia, hpa, hw, hh] at hr
  subst hr
  refine ⟨_, rfl, by simp [hlen], by simp [Env.get_set, hlen, f7, f9, hia, hpa, hw, hh], fun i hi => ?_⟩
  simp only [List.mem_cons, List.not_mem_nil, or_false, not_or] at hi
  simp only [get_set2, hi, false_and, if_false]

theorem rU (cx : Cx) (env : Env) (σ : AS) (hp s : List AObj) (a mm c : Nat) (v : Vl) (wk wv : ByteArray) (wg : Bool) (σ' : AS) (hlen : env.length = 35) (hcx : cx.esc = []) (f0 : Env.get env 0 = .ptr (.hp a) 0) (f5 : Env.get env 5 = .ptr (.st c) 0) (hσ : σ = ⟨hp, s⟩) (gc : (AS.mk hp s).get (.st c) = some (.cells [.str wk, .str wv, .bool wg])) (hA : (AS.mk hp s).get (.hp a) = some (.cells [.map (.hp mm)])) (hlk : lookupA Try.prog ⟨hp, s⟩ 89 (.map (.hp mm)) (.str wk) false = some (.agg [.int .u64 v.1, .str v.2.1, .bool v.2.2])) (hmu : mapUpdateA Try.prog cx ⟨hp, s⟩ 89 (.map (.hp mm)) (.str wk) (.agg [.int .u64 (wr .u64 (v.1 + 1)), .str wv, .bool (!wg)]) = some σ') :
    Pc Try.prog how cx [] 35 [13, 14, 15, 16, 17, 18, 19, 20, 21, 22, 23, 24, 25, 26, 27, 28, 29, 30, 31, 32, 33] (cr [.r, .r, .i, .i, .r, .r, .l, .i, .r]) env σ (.normal) (σ') (fun _ => True) := by
  refine pc_of fun res hr => ?_
  simp -implicitDefEqProofs [-lenA, -indexAddrA, -lookupA, -mapUpdateA, AS.get_push_at, AS.get_push_old, AS.push_len, AS.set_st_len, AS.next_st', AS.set_push_at, AS.get_set_self, AS.get_set_other, cr, Try.f36, hlen, hcx, f0, f5, hσ, gc, hA, hlk, hmu, fieldValA, fieldA] at hr
  subst hr
  refine ⟨_, rfl, by simp [hlen], by simp [Env.get_set, hlen, f0, f5, hσ, gc, hA, hlk, hmu, fieldValA, fieldA], fun i hi => ?_⟩
  simp only [List.mem_cons, List.not_mem_nil, or_false, not_or] at hi
  simp only [get_set2, hi, false_and, if_false]

end
/-- What holds ahead of round k. -/
def J (h : Nat) (σ0 : AS) (a mm : Nat) (Y : AV) (ws : List WrI) (M : List KeyD) (k : Nat) (env : Env) (σ : AS) : Prop :=
  Env.get env 0 = .ptr (.hp a) 0 ∧ Env.get env 7 = Y ∧ (σ.hp = σ0.hp.set mm (.map ((putsP M (ws.take k)).map entK))) ∧ Outside h (AS.mk σ.hp σ0.st) σ
def Ex (h : Nat) (σ0 : AS) (a mm : Nat) (Y : AV) (ws : List WrI) (M : List KeyD) (e : AExit) (env : Env) (σ : AS) : Prop := False
theorem J_stable {h : Nat} {σ0 : AS} {a mm : Nat} {Y : AV} {ws : List WrI} {M : List KeyD} : ∀ k env env' σ, env.length = 35 → env'.length = 35 → (∀ i, i ≠ 10 → i ≠ 34 → i ≠ 9 → Env.get env' i = Env.get env i) → J h σ0 a mm Y ws M k env σ → J h σ0 a mm Y ws M k env' σ := by
  rintro k env env' σ _ _ hf ⟨j0, j7, q0, ho⟩
  exact ⟨(hf 0 (by decide) (by decide) (by decide)).trans j0, (hf 7 (by decide) (by decide) (by decide)).trans j7, q0, ho⟩
noncomputable def oT : Oper := (opsOf (cr [.r, .r, .i, .i, .l])).headD default
noncomputable def oI : List Oper := opsOf (cr [.r, .r, .i, .i, .r, .r, .r])
theorem loop_eq : (cr [.r, .r]) = .block 0 (.loop (.seq (.region 2 #[oT] false) (.seq (.cond (.tmp 10) .skip (.exit 0)) (.seq (.block 1 (.seq (cr [.r, .r, .i, .i, .r, .r, .l, .i, .l]) (cr [.r, .r, .i, .i, .r, .r, .l, .i, .r]))) (.region 5 #[oI.headD default, (oI.drop 1).headD default] false))))) := by kernel_rfl
theorem step (cx : Cx) (hcx : cx.esc = []) (hro : ∀ k, cx.ro = some k → k ≤ cx.h) (σ0 : AS) (a mm : Nat) (Y : AV) (ws : List WrI) (M : List KeyD) (hr0 : cx.ro = none) (hP : PM σ0.hp a mm M) (hS : SlOf 3 Y (ws.map encWr)) :
    ∀ k env σ, k < ws.length → env.length = 35 → Env.get env 9 = .int .i64 (k : Int) → Env.get env 8 = .int .i64 ((ws.length : Nat) : Int) → J cx.h σ0 a mm Y ws M k env σ → ∃ e env' σ', execW Try.prog cx [] (callW Try.prog how) (.block 1 (.seq (cr [.r, .r, .i, .i, .r, .r, .l, .i, .l]) (cr [.r, .r, .i, .i, .r, .r, .l, .i, .r]))) (env, σ) = some (e, (env', σ')) ∧
      ((e = .normal ∧ env'.length = 35 ∧ Env.get env' 9 = .int .i64 (k : Int) ∧ Env.get env' 8 = .int .i64 ((ws.length : Nat) : Int) ∧ J cx.h σ0 a mm Y ws M (k + 1) env' σ') ∨ (e ≠ .normal ∧ Ex cx.h σ0 a mm Y ws M e env' σ')) := by
  rintro k env σ hk hlen f9 f8 ⟨f0, f7, q0, ho⟩
  obtain ⟨p, hia, hpa⟩ := (rd34 (σ := σ) hS).2 k (encWr ws[k]) (get_el hk)
  obtain ⟨env1, x1a, x1b, x1c, x1d⟩ := rE cx env σ k Y p (ws[k].1) (ws[k].2.1) (ws[k].2.2) hlen hcx f7 f9 hia hpa (wokst hro ho.2.2) ho.2.2
  have f0 := (x1d 0 (by decide)).trans f0
  have f7 := (x1d 7 (by decide)).trans f7
  have f8 := (x1d 8 (by decide)).trans f8
  have f9 := (x1d 9 (by decide)).trans f9
  have f5 := x1c
  have g1 : ((σ : AS).push false (.cells [.str ws[k].1, .str ws[k].2.1, .bool ws[k].2.2])).get (.st (σ : AS).st.length) = some (.cells [.str ws[k].1, .str ws[k].2.1, .bool ws[k].2.2]) := AS.get_push_at rfl
  have ho := ho.push (ob := .cells [.str ws[k].1, .str ws[k].2.1, .bool ws[k].2.2])
  generalize hib1 : (σ : AS).st.length = ib1 at g1 f5
  generalize (σ : AS).push false (.cells [.str ws[k].1, .str ws[k].2.1, .bool ws[k].2.2]) = σ1 at x1a g1 ho
  have hhp : σ1.hp = σ.hp := ho.1
  have hP1 := hP.put (putsP M (ws.take k))
  rw [← q0, ← hhp] at hP1
  have hmu := mapUp (s := σ1.st) (key := ws[k].1) (v := updV (ofK (putsP M (ws.take k)) ws[k].1) ws[k]) hr0 hP1.oM
  obtain ⟨env2, x2a, x2b, x2c, x2d⟩ := rU cx env1 σ1 σ1.hp σ1.st a mm _ ((ofK (putsP M (ws.take k)) ws[k].1)) (ws[k].1) (ws[k].2.1) (ws[k].2.2) _ x1b hcx f0 f5 rfl g1 hP1.oA (hP1.look σ1.st ws[k].1) hmu 
  have f0 := (x2d 0 (by decide)).trans f0
  have f5 := (x2d 5 (by decide)).trans f5
  have f7 := (x2d 7 (by decide)).trans f7
  have f8 := (x2d 8 (by decide)).trans f8
  have f9 := (x2d 9 (by decide)).trans f9
  exact ⟨.normal, env2, _, (execW_block_of (execW_seq_of x1a x2a)), .inl ⟨rfl, x2b, f9, f8, f0, f7, (by show (σ1.hp.set mm (.map ((putP ws[k].1 (updV (ofK (putsP M (ws.take k)) ws[k].1) ws[k]) (putsP M (ws.take k))).map entK))) = _; rw [hhp, q0, List.set_set, putsP_succ hk]), ⟨rfl, ho.2.1, ho.2.2⟩⟩⟩
theorem loop (cx : Cx) (hcx : cx.esc = []) (hro : ∀ k, cx.ro = some k → k ≤ cx.h) (σ0 : AS) (a mm : Nat) (Y : AV) (ws : List WrI) (M : List KeyD) (hr0 : cx.ro = none) (hP : PM σ0.hp a mm M) (hS : SlOf 3 Y (ws.map encWr)) (hnn : ws.length ≤ 9223372036854775807) {env : Env} {σ : AS} (hl : env.length = 35) (h1 : Env.get env 9 = .int .i64 0) (h2 : Env.get env 8 = .int .i64 ((ws.length : Nat) : Int)) (h0 : J cx.h σ0 a mm Y ws M 0 env σ) :
    ∃ e env' σ', execW Try.prog cx [] (callW Try.prog how) (cr [.r, .r]) (env, σ) = some (e, (env', σ')) ∧ ((e = .normal ∧ ((env'.length = 35 ∧ J cx.h σ0 a mm Y ws M (ws.length) env' σ') ∨ Ex cx.h σ0 a mm Y ws M (.exit 0) env' σ')) ∨ (e ≠ .normal ∧ e ≠ .exit 0 ∧ Ex cx.h σ0 a mm Y ws M e env' σ')) := by
  rw [loop_eq]
  exact range_std (Ex := Ex cx.h σ0 a mm Y ws M) (N := 35) (tc := 10) (ti := 9) (tl := 8) (tx := 34) (ty1 := 3) (ty2 := 3) (ty3 := 3) (ty4 := 3) ⟨by kernel_rfl, by kernel_rfl, by kernel_rfl⟩ ⟨by kernel_rfl, by kernel_rfl, by kernel_rfl⟩ ⟨by kernel_rfl, by kernel_rfl, by kernel_rfl⟩ (by decide) hnn J_stable (step cx hcx hro σ0 a mm Y ws M hr0 hP hS) hl h1 h2 h0
noncomputable def bodyC : Code := (.seq (cr [.l]) (.seq (cr [.r, .l]) (cr [.r, .r])))
theorem body : Try.f36.body = some bodyC := by kernel_rfl
theorem ok (hp s : List AObj) (a mm : Nat) (M : List KeyD) (ws : List WrI) (tc ts : Int) (pl : Bool) (X Y : AV) (hP : PM hp a mm M) (hX : Plain X) (hY : SlOf 3 Y (ws.map encWr)) (hn : ws.length ≤ 900) :
    callW Try.prog how 36 [.ptr (.hp a) 0, .agg [.int .i64 tc, .int .u64 ts, .bool pl, X, Y]] ⟨hp, s⟩ none = some (.tup [], ⟨hp.set mm (.map ((putsP M ws).map entK)), s⟩) := by
  let cx : Cx := { h := s.length, ro := none, esc := [] }
  have hcx : cx.esc = [] := rfl
  have hro : ∀ k, cx.ro = some k → k ≤ cx.h := fun k hk => by cases hk
  obtain ⟨env, henv⟩ : ∃ e, e = frameA Try.f36 [.ptr (.hp a) 0, .agg [.int .i64 tc, .int .u64 ts, .bool pl, X, Y]] := ⟨_, rfl⟩
  have hlen : env.length = 35 := by rw [henv]; rfl
  have f0 : Env.get env 0 = .ptr (.hp a) 0 := by rw [henv]; rfl
  have f1 : Env.get env 1 = .agg [.int .i64 tc, .int .u64 ts, .bool pl, X, Y] := by rw [henv]; rfl
  have ho : Outside s.length (AS.mk hp s) (AS.mk hp s) := Outside.refl (Nat.le_refl _)
  obtain ⟨env1, x1a, x1b, x1c, x1d⟩ := rA cx env (AS.mk hp s) hp s tc ts pl X Y hlen hcx f1 rfl hX hY.plain rfl (Nat.le_refl _) 
  have f0 := (x1d 0 (by decide)).trans f0
  have f1 := (x1d 1 (by decide)).trans f1
  have f3 := x1c
  have ga : (AS.mk hp (s ++ [AObj.cells [.int .i64 tc, .int .u64 ts, .bool pl, X, Y]])).get (.st s.length) = some (.cells [.int .i64 tc, .int .u64 ts, .bool pl, X, Y]) := by simp [AS.get]
  have ho : Outside s.length (AS.mk hp s) (AS.mk hp (s ++ [AObj.cells [.int .i64 tc, .int .u64 ts, .bool pl, X, Y]])) := ⟨rfl, by simp, by simp⟩
  have hl1 := (rd34 (σ := AS.mk hp (s ++ [AObj.cells [.int .i64 tc, .int .u64 ts, .bool pl, X, Y]])) hY).1
  rw [List.length_map] at hl1
  obtain ⟨env2, x2a, x2b, x2c, x2d⟩ := rB cx env1 (AS.mk hp (s ++ [AObj.cells [.int .i64 tc, .int .u64 ts, .bool pl, X, Y]])) s.length ws.length tc ts pl X Y x1b hcx f3 ga hX hY.plain hl1 
  have f0 := (x2d 0 (by decide)).trans f0
  have f1 := (x2d 1 (by decide)).trans f1
  have f3 := (x2d 3 (by decide)).trans f3
  have f7 := x2c.1
  have f8 := x2c.2.1
  have f9 := x2c.2.2
  obtain ⟨e3, env3, σ3, x3a, x3p⟩ := loop cx hcx hro ⟨hp, s⟩ a mm Y ws M rfl hP hY (by omega) (σ := AS.mk hp (s ++ [AObj.cells [.int .i64 tc, .int .u64 ts, .bool pl, X, Y]])) x2b f9 f8 (⟨f0, f7, hP.self, ho⟩)
  rcases x3p with ⟨rfl, ⟨x3b, f0, f7, q0, ho⟩ | x3p⟩ | ⟨x3q, x3r, x3p⟩
  · skip
    rw [List.take_length] at q0
    have htk : σ3.st.take s.length = s := ho.2.1.trans List.take_length
    exact call_of (fl := {}) (fn := Try.f36) (c := bodyC) (env := env) (e := (.normal, (env3, σ3))) rfl Try.func36 body henv (by unfold bodyC; exact (execW_seq_of x1a (execW_seq_of x2a x3a))) ((fin_none (.inr rfl) rfl rfl).trans (by rw [q0, htk]))
  · cases x3p
  · cases x3p
end F36
