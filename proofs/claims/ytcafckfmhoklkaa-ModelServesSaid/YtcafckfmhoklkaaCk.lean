/- What the document's Do does: its pieces and loops. -/

import Derived.Test.YtcafckfmhoklkaaCj
open Go Go.Abs Go.Proofs
set_option maxRecDepth 100000
set_option maxHeartbeats 4000000
set_option linter.unusedSimpArgs false
set_option linter.unusedVariables false

/-- What the document's Do leaves. -/
def putsK (S : List KeyD) (ws : List WrI) : List KeyD := ws.foldl putK S
theorem putsK_succ {S : List KeyD} {ws : List WrI} {k : Nat} (hk : k < ws.length) : putsK S (ws.take (k + 1)) = putK (putsK S (ws.take k)) ws[k] := by
  unfold putsK
  rw [List.take_succ_eq_append_getElem hk, List.foldl_append]
  rfl
theorem putsK_len (ws : List WrI) : ∀ S : List KeyD, (putsK S ws).length ≤ S.length + ws.length := by
  induction ws with
  | nil => intro S; exact Nat.le_refl _
  | cons w ws ih =>
    intro S
    have h1 := ih (putK S w)
    have h2 := putK_len S w
    show (putsK (putK S w) ws).length ≤ _
    simp only [List.length_cons]
    omega
def staleS (S : List KeyD) (rs : List RdI) : Bool := rs.any (fun r => decide ((ofK S r.1).1 ≠ r.2))
theorem any_take_succ {α : Type} {p : α → Bool} {l : List α} {k : Nat} (hk : k < l.length) : (l.take (k + 1)).any p = ((l.take k).any p || p l[k]) := by
  rw [List.take_succ_eq_append_getElem hk, List.any_append]
  simp
theorem stale_succ {S : List KeyD} {rs : List RdI} {k : Nat} (hk : k < rs.length) : staleS S (rs.take (k + 1)) = (staleS S (rs.take k) || decide ((ofK S rs[k].1).1 ≠ rs[k].2)) := any_take_succ hk
def rowTxn (x : RowD) : Bool × List RdI × List WrI := txnP x.kind x.key x.val x.rs x.ws
def doK (S : List KeyD) (x : RowD) : List KeyD := if x.kind = 1 then S else if x.code = 0 then putsK S (rowTxn x).2.2 else S
theorem txnP_len {kind : Int} {key val : ByteArray} {rs : List RdI} {ws : List WrI} {m : Nat} (hm : 1 ≤ m) (h1 : rs.length ≤ m) (h2 : ws.length ≤ m) : (txnP kind key val rs ws).2.1.length ≤ m ∧ (txnP kind key val rs ws).2.2.length ≤ m := by
  unfold txnP
  split
  · exact ⟨by simp, by simpa using hm⟩
  · split
    · exact ⟨by simp, by simpa using hm⟩
    · split
      · exact ⟨h1, h2⟩
      · exact ⟨by simp, by simp⟩
theorem slV_cells {sz : Nat} {l : List AV} : (slV sz l).cells = [slV sz l] := one_cells slV_one
namespace F9
noncomputable def cr (p : List Dir) : Code := sub p (bodyOf Try.f9)

section
attribute [local simp] ofV ofCell ofCells seqA_nil seqA_cons seqVK_eq seqEK_eq wantedA yieldedA isVal effA ev evs evps putE optsA optsOk valA fieldAddrA fieldA loadA partA aggA isAggD buildA placesA fillA lay storeA AV.withCells buildSliceA elemsA rowParts fzL promL okE isSrc bytesOk pushA cxOf lenA binA intBinA strBinA unA indexAddrA eqA AVs.inb AV.inb Loc.inb calleeA opsOf sub bodyOf Env.get_set quietA_nil quietA_cons quietK_none quietK_some qstep newA isNew escNew boxOk newLoc flat rowPartsQ quietN quietOp isBS List.takeWhile finishA_eq finK_ret finK_normal retK backK resA oneA AV.back AVs.back execW_seq_eq seqK_normal seqK_ret seqK_exit execW_cond_eq condK_true condK_false execW_block_eq blockK_exit blockK_normal blockK_ret execW_region_eq regK_eq execW_skip execW_exit execW_ret regionA_plain regionA_quiet0 tailK_eq nilCheckA guardOk isConst lookupA keyFits mapUpdateA beqI bneI
theorem rA (cx : Cx) (env : Env) (σ : AS) (hp s : List AObj) (x : RowD) (RX WX : AV) (hlen : env.length = 155) (hcx : cx.esc = []) (f1 : Env.get env 1 = .agg [.int .i64 x.cl, .int .u64 x.sq, .int .i64 x.kind, .str x.key, .str x.val, RX, WX, .int .i64 x.ca, .int .i64 x.st, .int .i64 x.an, .int .i64 x.code, .int .i64 x.rcl, .int .u64 x.rsq, .int .i64 x.rn, .int .i64 x.rcode, .str x.rval, .int .u64 x.rnum]) (hσ : σ = ⟨hp, s⟩) (hRX : Plain RX) (hWX : Plain WX) (hw : wok cx.ro (.st s.length) = true) (hh : cx.h ≤ s.length) :
    Pc Try.prog how cx [] 155 [3, 4] (cr [.l]) env σ (.normal) (AS.mk hp (s ++ [.cells [.int .i64 x.cl, .int .u64 x.sq, .int .i64 x.kind, .str x.key, .str x.val, RX, WX, .int .i64 x.ca, .int .i64 x.st, .int .i64 x.an, .int .i64 x.code, .int .i64 x.rcl, .int .u64 x.rsq, .int .i64 x.rn, .int .i64 x.rcode, .str x.rval, .int .u64 x.rnum]])) (fun env' => Env.get env' 3 = .ptr (.st s.length) 0 ∧ Env.get env' 4 = .bool false) := by
  refine pc_of fun res hr => ?_
  simp -implicitDefEqProofs [-lenA, -indexAddrA, AS.get_push_at, AS.get_push_old, AS.push_len, AS.set_st_len, AS.next_st', AS.set_push_at, AS.get_set_self, AS.get_set_other, cr, Try.f9, hlen, hcx, f1, hσ, hRX.one, hRX.inb, hRX.row, hRX.cells, hWX.one, hWX.inb, hWX.row, hWX.cells, hw, hh] at hr
  subst hr
  refine ⟨_, rfl, by simp [hlen], by simp [Env.get_set, hlen, f1, hσ, hRX.one, hRX.inb, hRX.row, hRX.cells, hWX.one, hWX.inb, hWX.row, hWX.cells, hw, hh], fun i hi => ?_⟩
  simp only [List.mem_cons, List.not_mem_nil, or_false, not_or] at hi
  simp only [get_set2, hi, false_and, if_false]

theorem rB (cx : Cx) (env : Env) (σ : AS) (a : Nat) (x : RowD) (RX WX : AV) (hlen : env.length = 155) (hcx : cx.esc = []) (f3 : Env.get env 3 = .ptr (.st a) 0) (gr : σ.get (.st a) = some (.cells [.int .i64 x.cl, .int .u64 x.sq, .int .i64 x.kind, .str x.key, .str x.val, RX, WX, .int .i64 x.ca, .int .i64 x.st, .int .i64 x.an, .int .i64 x.code, .int .i64 x.rcl, .int .u64 x.rsq, .int .i64 x.rn, .int .i64 x.rcode, .str x.rval, .int .u64 x.rnum])) (hRX : Plain RX) (hWX : Plain WX) (hw : wok cx.ro (.st σ.st.length) = true) (hh : cx.h ≤ σ.st.length) :
    Pc Try.prog how cx [] 155 [5, 18, 19] (cr [.r, .l]) env σ (.normal) (σ.push false (.cells [.int .i64 x.rcl, .int .u64 x.rsq, .int .i64 x.rn, .int .i64 x.rcode, .str x.rval, .int .u64 x.rnum])) (fun env' => Env.get env' 5 = .ptr (.st σ.st.length) 0) := by
  refine pc_of fun res hr => ?_
  simp -implicitDefEqProofs [-lenA, -indexAddrA, AS.get_push_at, AS.get_push_old, AS.push_len, AS.set_st_len, AS.next_st', AS.set_push_at, AS.get_set_self, AS.get_set_other, cr, Try.f9, hlen, hcx, f3, gr, hRX.one, hRX.inb, hRX.row, hRX.cells, hWX.one, hWX.inb, hWX.row, hWX.cells, hw, hh] at hr
  subst hr
  refine ⟨_, rfl, by simp [hlen], by simp [Env.get_set, hlen, f3, gr, hRX.one, hRX.inb, hRX.row, hRX.cells, hWX.one, hWX.inb, hWX.row, hWX.cells, hw, hh], fun i hi => ?_⟩
  simp only [List.mem_cons, List.not_mem_nil, or_false, not_or] at hi
  simp only [get_set2, hi, false_and, if_false]

theorem rC (cx : Cx) (env : Env) (σ : AS) (a : Nat) (x : RowD) (RX WX : AV) (hlen : env.length = 155) (hcx : cx.esc = []) (f3 : Env.get env 3 = .ptr (.st a) 0) (gr : σ.get (.st a) = some (.cells [.int .i64 x.cl, .int .u64 x.sq, .int .i64 x.kind, .str x.key, .str x.val, RX, WX, .int .i64 x.ca, .int .i64 x.st, .int .i64 x.an, .int .i64 x.code, .int .i64 x.rcl, .int .u64 x.rsq, .int .i64 x.rn, .int .i64 x.rcode, .str x.rval, .int .u64 x.rnum])) (hRX : Plain RX) (hWX : Plain WX) :
    Pc Try.prog how cx [] 155 [6, 20, 21, 22] (cr [.r, .r, .l]) env σ (.normal) (σ) (fun env' => Env.get env' 6 = .bool (decide (x.an ≠ 0))) := by
  by_cases p1 : x.an = 0
  all_goals first | (fail; done) | (
      refine pc_of fun res hr => ?_
      simp -implicitDefEqProofs [-lenA, -indexAddrA, AS.get_push_at, AS.get_push_old, AS.push_len, AS.set_st_len, AS.next_st', AS.set_push_at, AS.get_set_self, AS.get_set_other, cr, Try.f9, hlen, hcx, f3, gr, hRX.one, hRX.inb, hRX.row, hRX.cells, hWX.one, hWX.inb, hWX.row, hWX.cells, p1] at hr
      subst hr
      refine ⟨_, rfl, by simp [hlen], by simp [Env.get_set, hlen, f3, gr, hRX.one, hRX.inb, hRX.row, hRX.cells, hWX.one, hWX.inb, hWX.row, hWX.cells, p1], fun i hi => ?_⟩
      simp only [List.mem_cons, List.not_mem_nil, or_false, not_or] at hi
      simp only [get_set2, hi, false_and, if_false]
    )

theorem rD (cx : Cx) (env : Env) (σ : AS) (a : Nat) (x : RowD) (RX WX : AV) (hlen : env.length = 155) (hcx : cx.esc = []) (f3 : Env.get env 3 = .ptr (.st a) 0) (gr : σ.get (.st a) = some (.cells [.int .i64 x.cl, .int .u64 x.sq, .int .i64 x.kind, .str x.key, .str x.val, RX, WX, .int .i64 x.ca, .int .i64 x.st, .int .i64 x.an, .int .i64 x.code, .int .i64 x.rcl, .int .u64 x.rsq, .int .i64 x.rn, .int .i64 x.rcode, .str x.rval, .int .u64 x.rnum])) (hRX : Plain RX) (hWX : Plain WX) :
    Pc Try.prog how cx [] 155 [23, 24, 25, 26] (cr [.r, .r, .r, .l, .l]) env σ (.normal) (σ) (fun env' => Env.get env' 26 = .bool (decide (x.kind = 1))) := by
  by_cases p1 : x.kind = 1
  all_goals first | (fail; done) | (
      refine pc_of fun res hr => ?_
      simp -implicitDefEqProofs [-lenA, -indexAddrA, AS.get_push_at, AS.get_push_old, AS.push_len, AS.set_st_len, AS.next_st', AS.set_push_at, AS.get_set_self, AS.get_set_other, cr, Try.f9, hlen, hcx, f3, gr, hRX.one, hRX.inb, hRX.row, hRX.cells, hWX.one, hWX.inb, hWX.row, hWX.cells, p1] at hr
      subst hr
      refine ⟨_, rfl, by simp [hlen], by simp [Env.get_set, hlen, f3, gr, hRX.one, hRX.inb, hRX.row, hRX.cells, hWX.one, hWX.inb, hWX.row, hWX.cells, p1], fun i hi => ?_⟩
      simp only [List.mem_cons, List.not_mem_nil, or_false, not_or] at hi
      simp only [get_set2, hi, false_and, if_false]
    )

theorem rK (cx : Cx) (env : Env) (σ : AS) (a b : Nat) (x : RowD) (RX WX : AV) (k0 : ByteArray) (n0 : Int) (v0 : ByteArray) (h0 : Bool) (hlen : env.length = 155) (hcx : cx.esc = []) (f0 : Env.get env 0 = .ptr (.hp b) 0) (f3 : Env.get env 3 = .ptr (.st a) 0) (gr : σ.get (.st a) = some (.cells [.int .i64 x.cl, .int .u64 x.sq, .int .i64 x.kind, .str x.key, .str x.val, RX, WX, .int .i64 x.ca, .int .i64 x.st, .int .i64 x.an, .int .i64 x.code, .int .i64 x.rcl, .int .u64 x.rsq, .int .i64 x.rn, .int .i64 x.rcode, .str x.rval, .int .u64 x.rnum])) (hRX : Plain RX) (hWX : Plain WX) (h7 : callW Try.prog how 7 [.ptr (.hp b) 0, .str x.key] σ cx.ro = some (.agg [.str k0, .int .u64 n0, .str v0, .bool h0], σ)) (hw : wok cx.ro (.st σ.st.length) = true) (hh : cx.h ≤ σ.st.length) :
    Pc Try.prog how cx [] 155 [7, 27, 28, 29, 30, 31] (cr [.r, .r, .r, .l, .r, .l, .l]) env σ (.normal) (σ.push false (.cells [.str k0, .int .u64 n0, .str v0, .bool h0])) (fun env' => Env.get env' 7 = .ptr (.st σ.st.length) 0) := by
  refine pc_of fun res hr => ?_
  simp -implicitDefEqProofs [-lenA, -indexAddrA, AS.get_push_at, AS.get_push_old, AS.push_len, AS.set_st_len, AS.next_st', AS.set_push_at, AS.get_set_self, AS.get_set_other, cr, Try.f9, hlen, hcx, f0, f3, gr, hRX.one, hRX.inb, hRX.row, hRX.cells, hWX.one, hWX.inb, hWX.row, hWX.cells, h7, hw, hh] at hr
  subst hr
  refine ⟨_, rfl, by simp [hlen], by simp [Env.get_set, hlen, f0, f3, gr, hRX.one, hRX.inb, hRX.row, hRX.cells, hWX.one, hWX.inb, hWX.row, hWX.cells, h7, hw, hh], fun i hi => ?_⟩
  simp only [List.mem_cons, List.not_mem_nil, or_false, not_or] at hi
  simp only [get_set2, hi, false_and, if_false]

theorem rK6 (cx : Cx) (env : Env) (σ : AS)  (hlen : env.length = 155) (hcx : cx.esc = [])  :
    Pc Try.prog how cx [] 155 [8] (cr [.r, .r, .r, .l, .r, .l, .r, .l]) env σ (.normal) (σ) (fun env' => Env.get env' 8 = .int .i64 6) := by
  refine pc_of fun res hr => ?_
  simp -implicitDefEqProofs [-lenA, -indexAddrA, AS.get_push_at, AS.get_push_old, AS.push_len, AS.set_st_len, AS.next_st', AS.set_push_at, AS.get_set_self, AS.get_set_other, cr, Try.f9, hlen, hcx] at hr
  subst hr
  refine ⟨_, rfl, by simp [hlen], by simp [Env.get_set, hlen], fun i hi => ?_⟩
  simp only [List.mem_cons, List.not_mem_nil, or_false, not_or] at hi
  simp only [get_set2, hi, false_and, if_false]

theorem rKh (cx : Cx) (env : Env) (σ : AS) (c : Nat) (k0 : ByteArray) (n0 : Int) (v0 : ByteArray) (h0 : Bool) (hlen : env.length = 155) (hcx : cx.esc = []) (f7 : Env.get env 7 = .ptr (.st c) 0) (gk : σ.get (.st c) = some (.cells [.str k0, .int .u64 n0, .str v0, .bool h0])) :
    Pc Try.prog how cx [] 155 [32, 33] (cr [.r, .r, .r, .l, .r, .l, .r, .r, .l, .l]) env σ (.normal) (σ) (fun env' => Env.get env' 33 = .bool h0) := by
  refine pc_of fun res hr => ?_
  simp -implicitDefEqProofs [-lenA, -indexAddrA, AS.get_push_at, AS.get_push_old, AS.push_len, AS.set_st_len, AS.next_st', AS.set_push_at, AS.get_set_self, AS.get_set_other, cr, Try.f9, hlen, hcx, f7, gk] at hr
  subst hr
  refine ⟨_, rfl, by simp [hlen], by simp [Env.get_set, hlen, f7, gk], fun i hi => ?_⟩
  simp only [List.mem_cons, List.not_mem_nil, or_false, not_or] at hi
  simp only [get_set2, hi, false_and, if_false]

theorem rK0 (cx : Cx) (env : Env) (σ : AS)  (hlen : env.length = 155) (hcx : cx.esc = [])  :
    Pc Try.prog how cx [] 155 [8] (cr [.r, .r, .r, .l, .r, .l, .r, .r, .l, .r, .l]) env σ (.normal) (σ) (fun env' => Env.get env' 8 = .int .i64 0) := by
  refine pc_of fun res hr => ?_
  simp -implicitDefEqProofs [-lenA, -indexAddrA, AS.get_push_at, AS.get_push_old, AS.push_len, AS.set_st_len, AS.next_st', AS.set_push_at, AS.get_set_self, AS.get_set_other, cr, Try.f9, hlen, hcx] at hr
  subst hr
  refine ⟨_, rfl, by simp [hlen], by simp [Env.get_set, hlen], fun i hi => ?_⟩
  simp only [List.mem_cons, List.not_mem_nil, or_false, not_or] at hi
  simp only [get_set2, hi, false_and, if_false]

theorem rKc (cx : Cx) (env : Env) (σ : AS) (c e : Nat) (told : Bool) (c8 : Int) (x : RowD) (k0 : ByteArray) (n0 : Int) (v0 : ByteArray) (h0 : Bool) (hlen : env.length = 155) (hcx : cx.esc = []) (f5 : Env.get env 5 = .ptr (.st e) 0) (f6 : Env.get env 6 = .bool told) (f7 : Env.get env 7 = .ptr (.st c) 0) (f8 : Env.get env 8 = .int .i64 c8) (gk : σ.get (.st c) = some (.cells [.str k0, .int .u64 n0, .str v0, .bool h0])) (ge : σ.get (.st e) = some (.cells [.int .i64 x.rcl, .int .u64 x.rsq, .int .i64 x.rn, .int .i64 x.rcode, .str x.rval, .int .u64 x.rnum])) :
    Pc Try.prog how cx [] 155 [34, 35, 36, 37, 38, 39, 40, 41, 42, 43, 44, 45, 46, 47, 48, 49, 50, 51, 52, 53, 54] (cr [.r, .r, .r, .l, .r, .l, .r, .r, .r, .l, .l]) env σ (.normal) (σ) (fun env' => Env.get env' 54 = .bool (told && (decide (x.rcode ≠ c8) || (!beqS x.rval v0 || decide (x.rnum ≠ n0))))) := by
  cases told <;> by_cases p1 : x.rcode = c8 <;> cases p2 : beqS x.rval v0 <;> by_cases p3 : x.rnum = n0
  all_goals first | (fail; done) | (
      refine pc_of fun res hr => ?_
      simp -implicitDefEqProofs [-lenA, -indexAddrA, AS.get_push_at, AS.get_push_old, AS.push_len, AS.set_st_len, AS.next_st', AS.set_push_at, AS.get_set_self, AS.get_set_other, cr, Try.f9, hlen, hcx, f5, f6, f7, f8, gk, ge, p1, p2, p3] at hr
      subst hr
      refine ⟨_, rfl, by simp [hlen], by simp [Env.get_set, hlen, f5, f6, f7, f8, gk, ge, p1, p2, p3], fun i hi => ?_⟩
      simp only [List.mem_cons, List.not_mem_nil, or_false, not_or] at hi
      simp only [get_set2, hi, false_and, if_false]
    )

theorem rKr (cx : Cx) (env : Env) (σ : AS)  (hlen : env.length = 155) (hcx : cx.esc = [])  :
    Pc Try.prog how cx [] 155 [4] (cr [.r, .r, .r, .l, .r, .l, .r, .r, .r, .l, .r, .l]) env σ (.ret) (σ) (fun env' => Env.get env' 4 = .bool false) := by
  refine pc_of fun res hr => ?_
  simp -implicitDefEqProofs [-lenA, -indexAddrA, AS.get_push_at, AS.get_push_old, AS.push_len, AS.set_st_len, AS.next_st', AS.set_push_at, AS.get_set_self, AS.get_set_other, cr, Try.f9, hlen, hcx] at hr
  subst hr
  refine ⟨_, rfl, by simp [hlen], by simp [Env.get_set, hlen], fun i hi => ?_⟩
  simp only [List.mem_cons, List.not_mem_nil, or_false, not_or] at hi
  simp only [get_set2, hi, false_and, if_false]

theorem rKe (cx : Cx) (env : Env) (σ : AS) (a : Nat) (c8 : Int) (x : RowD) (RX WX : AV) (hlen : env.length = 155) (hcx : cx.esc = []) (f3 : Env.get env 3 = .ptr (.st a) 0) (f8 : Env.get env 8 = .int .i64 c8) (gr : σ.get (.st a) = some (.cells [.int .i64 x.cl, .int .u64 x.sq, .int .i64 x.kind, .str x.key, .str x.val, RX, WX, .int .i64 x.ca, .int .i64 x.st, .int .i64 x.an, .int .i64 x.code, .int .i64 x.rcl, .int .u64 x.rsq, .int .i64 x.rn, .int .i64 x.rcode, .str x.rval, .int .u64 x.rnum])) (hRX : Plain RX) (hWX : Plain WX) :
    Pc Try.prog how cx [] 155 [4, 55, 56, 57, 58] (cr [.r, .r, .r, .l, .r, .l, .r, .r, .r, .r, .l]) env σ (.normal) (σ) (fun env' => Env.get env' 4 = .bool (decide (x.code = c8))) := by
  by_cases p1 : x.code = c8
  all_goals first | (fail; done) | (
      refine pc_of fun res hr => ?_
      simp -implicitDefEqProofs [-lenA, -indexAddrA, AS.get_push_at, AS.get_push_old, AS.push_len, AS.set_st_len, AS.next_st', AS.set_push_at, AS.get_set_self, AS.get_set_other, cr, Try.f9, hlen, hcx, f3, f8, gr, hRX.one, hRX.inb, hRX.row, hRX.cells, hWX.one, hWX.inb, hWX.row, hWX.cells, p1] at hr
      subst hr
      refine ⟨_, rfl, by simp [hlen], by simp [Env.get_set, hlen, f3, f8, gr, hRX.one, hRX.inb, hRX.row, hRX.cells, hWX.one, hWX.inb, hWX.row, hWX.cells, p1], fun i hi => ?_⟩
      simp only [List.mem_cons, List.not_mem_nil, or_false, not_or] at hi
      simp only [get_set2, hi, false_and, if_false]
    )

theorem rT (cx : Cx) (env : Env) (σ : AS) (a : Nat) (x : RowD) (RX WX : AV) (tc ts : Int) (pl : Bool) (X Y : AV) (hlen : env.length = 155) (hcx : cx.esc = []) (f3 : Env.get env 3 = .ptr (.st a) 0) (gr : σ.get (.st a) = some (.cells [.int .i64 x.cl, .int .u64 x.sq, .int .i64 x.kind, .str x.key, .str x.val, RX, WX, .int .i64 x.ca, .int .i64 x.st, .int .i64 x.an, .int .i64 x.code, .int .i64 x.rcl, .int .u64 x.rsq, .int .i64 x.rn, .int .i64 x.rcode, .str x.rval, .int .u64 x.rnum])) (hRX : Plain RX) (hWX : Plain WX) (hX : Plain X) (hY : Plain Y) (h8 : callW Try.prog how 8 [.agg [.int .i64 x.kind, .str x.key, .str x.val, RX, WX], .agg [.int .i64 x.cl, .int .u64 x.sq]] σ cx.ro = some (.agg [.int .i64 tc, .int .u64 ts, .bool pl, X, Y], σ)) (hw : wok cx.ro (.st σ.st.length) = true) (hh : cx.h ≤ σ.st.length) :
    Pc Try.prog how cx [] 155 [9, 59, 60, 61, 62, 63] (cr [.r, .r, .r, .r, .l]) env σ (.normal) (σ.push false (.cells [.int .i64 tc, .int .u64 ts, .bool pl, X, Y])) (fun env' => Env.get env' 9 = .ptr (.st σ.st.length) 0) := by
  refine pc_of fun res hr => ?_
  simp -implicitDefEqProofs [-lenA, -indexAddrA, AS.get_push_at, AS.get_push_old, AS.push_len, AS.set_st_len, AS.next_st', AS.set_push_at, AS.get_set_self, AS.get_set_other, cr, Try.f9, hlen, hcx, f3, gr, hRX.one, hRX.inb, hRX.row, hRX.cells, hWX.one, hWX.inb, hWX.row, hWX.cells, hX.one, hX.inb, hX.row, hX.cells, hY.one, hY.inb, hY.row, hY.cells, h8, hw, hh] at hr
  subst hr
  refine ⟨_, rfl, by simp [hlen], by simp [Env.get_set, hlen, f3, gr, hRX.one, hRX.inb, hRX.row, hRX.cells, hWX.one, hWX.inb, hWX.row, hWX.cells, hX.one, hX.inb, hX.row, hX.cells, hY.one, hY.inb, hY.row, hY.cells, h8, hw, hh], fun i hi => ?_⟩
  simp only [List.mem_cons, List.not_mem_nil, or_false, not_or] at hi
  simp only [get_set2, hi, false_and, if_false]

theorem rU (cx : Cx) (env : Env) (σ : AS)  (hlen : env.length = 155) (hcx : cx.esc = [])  :
    Pc Try.prog how cx [] 155 [10] (cr [.r, .r, .r, .r, .r, .l]) env σ (.normal) (σ) (fun env' => Env.get env' 10 = .bool false) := by
  refine pc_of fun res hr => ?_
  simp -implicitDefEqProofs [-lenA, -indexAddrA, AS.get_push_at, AS.get_push_old, AS.push_len, AS.set_st_len, AS.next_st', AS.set_push_at, AS.get_set_self, AS.get_set_other, cr, Try.f9, hlen, hcx] at hr
  subst hr
  refine ⟨_, rfl, by simp [hlen], by simp [Env.get_set, hlen], fun i hi => ?_⟩
  simp only [List.mem_cons, List.not_mem_nil, or_false, not_or] at hi
  simp only [get_set2, hi, false_and, if_false]

theorem rV (cx : Cx) (env : Env) (σ : AS) (t n : Nat) (tc ts : Int) (pl : Bool) (X Y : AV) (hlen : env.length = 155) (hcx : cx.esc = []) (f9 : Env.get env 9 = .ptr (.st t) 0) (gt : σ.get (.st t) = some (.cells [.int .i64 tc, .int .u64 ts, .bool pl, X, Y])) (hX : Plain X) (hY : Plain Y) (hl : lenA Try.prog σ 29 X = some n) :
    Pc Try.prog how cx [] 155 [64, 65, 66, 67] (cr [.r, .r, .r, .r, .r, .r, .l, .l]) env σ (.normal) (σ) (fun env' => Env.get env' 65 = X ∧ Env.get env' 66 = .int .i64 (n : Int) ∧ Env.get env' 67 = .int .i64 0) := by
  refine pc_of fun res hr => ?_
  simp -implicitDefEqProofs [-lenA, -indexAddrA, AS.get_push_at, AS.get_push_old, AS.push_len, AS.set_st_len, AS.next_st', AS.set_push_at, AS.get_set_self, AS.get_set_other, cr, Try.f9, hlen, hcx, f9, gt, hX.one, hX.inb, hX.row, hX.cells, hY.one, hY.inb, hY.row, hY.cells, hl] at hr
  subst hr
  refine ⟨_, rfl, by simp [hlen], by simp [Env.get_set, hlen, f9, gt, hX.one, hX.inb, hX.row, hX.cells, hY.one, hY.inb, hY.row, hY.cells, hl], fun i hi => ?_⟩
  simp only [List.mem_cons, List.not_mem_nil, or_false, not_or] at hi
  simp only [get_set2, hi, false_and, if_false]

theorem rE1 (cx : Cx) (env : Env) (σ : AS) (k : Nat) (Z p : AV) (key : ByteArray) (num : Int) (hlen : env.length = 155) (hcx : cx.esc = []) (f65 : Env.get env 65 = Z) (f67 : Env.get env 67 = .int .i64 (k : Int)) (hia : indexAddrA Try.prog σ 29 Z (.int .i64 (k : Int)) = some p) (hpa : loadA Try.prog σ 55 p = some (.agg [.str key, .int .u64 num])) (hw : wok cx.ro (.st σ.st.length) = true) (hh : cx.h ≤ σ.st.length) :
    Pc Try.prog how cx [] 155 [12, 69, 70] (cr [.r, .r, .r, .r, .r, .r, .l, .r, .i, .i, .r, .r, .l, .i, .l]) env σ (.normal) (σ.push false (.cells [.str key, .int .u64 num])) (fun env' => Env.get env' 12 = .ptr (.st σ.st.length) 0) := by
  refine pc_of fun res hr => ?_
  simp -implicitDefEqProofs [-lenA, -indexAddrA, -loadA, AS.get_push_at, AS.get_push_old, AS.push_len, AS.set_st_len, AS.next_st', AS.set_push_at, AS.get_set_self, AS.get_set_other, cr, Try.f9, hlen, hcx, f65, f67, hia, hpa, hw, hh] at hr
  subst hr
  refine ⟨_, rfl, by simp [hlen], by simp [Env.get_set, hlen, f65, f67, hia, hpa, hw, hh], fun i hi => ?_⟩
  simp only [List.mem_cons, List.not_mem_nil, or_false, not_or] at hi
  simp only [get_set2, hi, false_and, if_false]

theorem rS1 (cx : Cx) (env : Env) (σ : AS) (b c : Nat) (st : Bool) (key : ByteArray) (num : Int) (k0 : ByteArray) (n0 : Int) (v0 : ByteArray) (h0 : Bool) (hlen : env.length = 155) (hcx : cx.esc = []) (f0 : Env.get env 0 = .ptr (.hp b) 0) (f10 : Env.get env 10 = .bool st) (f12 : Env.get env 12 = .ptr (.st c) 0) (g12 : σ.get (.st c) = some (.cells [.str key, .int .u64 num])) (h7 : callW Try.prog how 7 [.ptr (.hp b) 0, .str key] σ (some σ.st.length) = some (.agg [.str k0, .int .u64 n0, .str v0, .bool h0], σ)) :
    Pc Try.prog how cx [] 155 [10, 71, 72, 73, 74, 75, 76, 77, 78, 79, 80, 81] (cr [.r, .r, .r, .r, .r, .r, .l, .r, .i, .i, .r, .r, .l, .i, .r]) env σ (.normal) (σ) (fun env' => Env.get env' 10 = .bool (st || decide (n0 ≠ num))) := by
  cases st <;> by_cases p1 : n0 = num
  all_goals first | (fail; done) | (
      refine pc_of fun res hr => ?_
      simp -implicitDefEqProofs [-lenA, -indexAddrA, AS.get_push_at, AS.get_push_old, AS.push_len, AS.set_st_len, AS.next_st', AS.set_push_at, AS.get_set_self, AS.get_set_other, cr, Try.f9, hlen, hcx, f0, f10, f12, g12, h7, p1, fieldValA, fieldA] at hr
      subst hr
      refine ⟨_, rfl, by simp [hlen], by simp [Env.get_set, hlen, f0, f10, f12, g12, h7, p1, fieldValA, fieldA], fun i hi => ?_⟩
      simp only [List.mem_cons, List.not_mem_nil, or_false, not_or] at hi
      simp only [get_set2, hi, false_and, if_false]
    )

theorem rW (cx : Cx) (env : Env) (σ : AS) (a : Nat) (x : RowD) (RX WX : AV) (hlen : env.length = 155) (hcx : cx.esc = []) (f3 : Env.get env 3 = .ptr (.st a) 0) (gr : σ.get (.st a) = some (.cells [.int .i64 x.cl, .int .u64 x.sq, .int .i64 x.kind, .str x.key, .str x.val, RX, WX, .int .i64 x.ca, .int .i64 x.st, .int .i64 x.an, .int .i64 x.code, .int .i64 x.rcl, .int .u64 x.rsq, .int .i64 x.rn, .int .i64 x.rcode, .str x.rval, .int .u64 x.rnum])) (hRX : Plain RX) (hWX : Plain WX) :
    Pc Try.prog how cx [] 155 [13, 83, 84, 85, 86] (cr [.r, .r, .r, .r, .r, .r, .r, .l]) env σ (.normal) (σ) (fun env' => Env.get env' 13 = .bool (decide (x.kind = 4))) := by
  by_cases p1 : x.kind = 4
  all_goals first | (fail; done) | (
      refine pc_of fun res hr => ?_
      simp -implicitDefEqProofs [-lenA, -indexAddrA, AS.get_push_at, AS.get_push_old, AS.push_len, AS.set_st_len, AS.next_st', AS.set_push_at, AS.get_set_self, AS.get_set_other, cr, Try.f9, hlen, hcx, f3, gr, hRX.one, hRX.inb, hRX.row, hRX.cells, hWX.one, hWX.inb, hWX.row, hWX.cells, p1] at hr
      subst hr
      refine ⟨_, rfl, by simp [hlen], by simp [Env.get_set, hlen, f3, gr, hRX.one, hRX.inb, hRX.row, hRX.cells, hWX.one, hWX.inb, hWX.row, hWX.cells, p1], fun i hi => ?_⟩
      simp only [List.mem_cons, List.not_mem_nil, or_false, not_or] at hi
      simp only [get_set2, hi, false_and, if_false]
    )

theorem rX (cx : Cx) (env : Env) (σ : AS) (a : Nat) (st k4 : Bool) (x : RowD) (RX WX : AV) (hlen : env.length = 155) (hcx : cx.esc = []) (f3 : Env.get env 3 = .ptr (.st a) 0) (f10 : Env.get env 10 = .bool st) (f13 : Env.get env 13 = .bool k4) (gr : σ.get (.st a) = some (.cells [.int .i64 x.cl, .int .u64 x.sq, .int .i64 x.kind, .str x.key, .str x.val, RX, WX, .int .i64 x.ca, .int .i64 x.st, .int .i64 x.an, .int .i64 x.code, .int .i64 x.rcl, .int .u64 x.rsq, .int .i64 x.rn, .int .i64 x.rcode, .str x.rval, .int .u64 x.rnum])) (hRX : Plain RX) (hWX : Plain WX) :
    Pc Try.prog how cx [] 155 [14, 87, 88, 89, 90, 91, 92, 93, 94, 95, 96, 97, 98, 99, 100, 101, 102, 103, 104, 105, 106, 107, 108, 109, 110, 111, 112] (cr [.r, .r, .r, .r, .r, .r, .r, .r, .l]) env σ (.normal) (σ) (fun env' => Env.get env' 14 = .bool (((decide (x.code = 0) && !st) || ((decide (x.code = 8) && k4) && st)) || (decide (x.code = 11) && k4))) := by
  cases st <;> cases k4 <;> by_cases p1 : x.code = 0 <;> (try by_cases p2 : x.code = 8) <;> (try by_cases p3 : x.code = 11) <;> (try (exfalso; omega))
  all_goals first | (fail; done) | (
      refine pc_of fun res hr => ?_
      simp -implicitDefEqProofs [-lenA, -indexAddrA, AS.get_push_at, AS.get_push_old, AS.push_len, AS.set_st_len, AS.next_st', AS.set_push_at, AS.get_set_self, AS.get_set_other, cr, Try.f9, hlen, hcx, f3, f10, f13, gr, hRX.one, hRX.inb, hRX.row, hRX.cells, hWX.one, hWX.inb, hWX.row, hWX.cells, p1, p2, p3] at hr
      subst hr
      refine ⟨_, rfl, by simp [hlen], by simp [Env.get_set, hlen, f3, f10, f13, gr, hRX.one, hRX.inb, hRX.row, hRX.cells, hWX.one, hWX.inb, hWX.row, hWX.cells, p1, p2, p3], fun i hi => ?_⟩
      simp only [List.mem_cons, List.not_mem_nil, or_false, not_or] at hi
      simp only [get_set2, hi, false_and, if_false]
    )

theorem rY (cx : Cx) (env : Env) (σ : AS)  (hlen : env.length = 155) (hcx : cx.esc = [])  :
    Pc Try.prog how cx [] 155 [15] (cr [.r, .r, .r, .r, .r, .r, .r, .r, .r, .l]) env σ (.normal) (σ) (fun env' => Env.get env' 15 = .int .u64 0) := by
  refine pc_of fun res hr => ?_
  simp -implicitDefEqProofs [-lenA, -indexAddrA, AS.get_push_at, AS.get_push_old, AS.push_len, AS.set_st_len, AS.next_st', AS.set_push_at, AS.get_set_self, AS.get_set_other, cr, Try.f9, hlen, hcx] at hr
  subst hr
  refine ⟨_, rfl, by simp [hlen], by simp [Env.get_set, hlen], fun i hi => ?_⟩
  simp only [List.mem_cons, List.not_mem_nil, or_false, not_or] at hi
  simp only [get_set2, hi, false_and, if_false]

theorem rZ (cx : Cx) (env : Env) (σ : AS) (a : Nat) (x : RowD) (RX WX : AV) (hlen : env.length = 155) (hcx : cx.esc = []) (f3 : Env.get env 3 = .ptr (.st a) 0) (gr : σ.get (.st a) = some (.cells [.int .i64 x.cl, .int .u64 x.sq, .int .i64 x.kind, .str x.key, .str x.val, RX, WX, .int .i64 x.ca, .int .i64 x.st, .int .i64 x.an, .int .i64 x.code, .int .i64 x.rcl, .int .u64 x.rsq, .int .i64 x.rn, .int .i64 x.rcode, .str x.rval, .int .u64 x.rnum])) (hRX : Plain RX) (hWX : Plain WX) :
    Pc Try.prog how cx [] 155 [113, 114, 115] (cr [.r, .r, .r, .r, .r, .r, .r, .r, .r, .r, .l, .l]) env σ (.normal) (σ) (fun env' => Env.get env' 115 = .bool (decide (x.code = 0))) := by
  by_cases p1 : x.code = 0
  all_goals first | (fail; done) | (
      refine pc_of fun res hr => ?_
      simp -implicitDefEqProofs [-lenA, -indexAddrA, AS.get_push_at, AS.get_push_old, AS.push_len, AS.set_st_len, AS.next_st', AS.set_push_at, AS.get_set_self, AS.get_set_other, cr, Try.f9, hlen, hcx, f3, gr, hRX.one, hRX.inb, hRX.row, hRX.cells, hWX.one, hWX.inb, hWX.row, hWX.cells, p1] at hr
      subst hr
      refine ⟨_, rfl, by simp [hlen], by simp [Env.get_set, hlen, f3, gr, hRX.one, hRX.inb, hRX.row, hRX.cells, hWX.one, hWX.inb, hWX.row, hWX.cells, p1], fun i hi => ?_⟩
      simp only [List.mem_cons, List.not_mem_nil, or_false, not_or] at hi
      simp only [get_set2, hi, false_and, if_false]
    )

theorem rH (cx : Cx) (env : Env) (σ : AS) (t n : Nat) (tc ts : Int) (pl : Bool) (X Y : AV) (hlen : env.length = 155) (hcx : cx.esc = []) (f9 : Env.get env 9 = .ptr (.st t) 0) (gt : σ.get (.st t) = some (.cells [.int .i64 tc, .int .u64 ts, .bool pl, X, Y])) (hX : Plain X) (hY : Plain Y) (hl : lenA Try.prog σ 30 Y = some n) :
    Pc Try.prog how cx [] 155 [116, 117, 118, 119] (cr [.r, .r, .r, .r, .r, .r, .r, .r, .r, .r, .l, .r, .l, .l, .l]) env σ (.normal) (σ) (fun env' => Env.get env' 117 = Y ∧ Env.get env' 118 = .int .i64 (n : Int) ∧ Env.get env' 119 = .int .i64 0) := by
  refine pc_of fun res hr => ?_
  simp -implicitDefEqProofs [-lenA, -indexAddrA, AS.get_push_at, AS.get_push_old, AS.push_len, AS.set_st_len, AS.next_st', AS.set_push_at, AS.get_set_self, AS.get_set_other, cr, Try.f9, hlen, hcx, f9, gt, hX.one, hX.inb, hX.row, hX.cells, hY.one, hY.inb, hY.row, hY.cells, hl] at hr
  subst hr
  refine ⟨_, rfl, by simp [hlen], by simp [Env.get_set, hlen, f9, gt, hX.one, hX.inb, hX.row, hX.cells, hY.one, hY.inb, hY.row, hY.cells, hl], fun i hi => ?_⟩
  simp only [List.mem_cons, List.not_mem_nil, or_false, not_or] at hi
  simp only [get_set2, hi, false_and, if_false]

theorem rE2 (cx : Cx) (env : Env) (σ : AS) (k : Nat) (Z p : AV) (wk wv : ByteArray) (wg : Bool) (hlen : env.length = 155) (hcx : cx.esc = []) (f117 : Env.get env 117 = Z) (f119 : Env.get env 119 = .int .i64 (k : Int)) (hia : indexAddrA Try.prog σ 30 Z (.int .i64 (k : Int)) = some p) (hpa : loadA Try.prog σ 76 p = some (.agg [.str wk, .str wv, .bool wg])) (hw : wok cx.ro (.st σ.st.length) = true) (hh : cx.h ≤ σ.st.length) :
    Pc Try.prog how cx [] 155 [17, 121, 122] (cr [.r, .r, .r, .r, .r, .r, .r, .r, .r, .r, .l, .r, .l, .l, .r, .i, .i, .r, .r, .l, .i, .l]) env σ (.normal) (σ.push false (.cells [.str wk, .str wv, .bool wg])) (fun env' => Env.get env' 17 = .ptr (.st σ.st.length) 0) := by
  refine pc_of fun res hr => ?_
  simp -implicitDefEqProofs [-lenA, -indexAddrA, -loadA, AS.get_push_at, AS.get_push_old, AS.push_len, AS.set_st_len, AS.next_st', AS.set_push_at, AS.get_set_self, AS.get_set_other, cr, Try.f9, hlen, hcx, f117, f119, hia, hpa, hw, hh] at hr
  subst hr
  refine ⟨_, rfl, by simp [hlen], by simp [Env.get_set, hlen, f117, f119, hia, hpa, hw, hh], fun i hi => ?_⟩
  simp only [List.mem_cons, List.not_mem_nil, or_false, not_or] at hi
  simp only [get_set2, hi, false_and, if_false]

theorem rP2 (cx : Cx) (env : Env) (σ : AS) (b c : Nat) (wk wv : ByteArray) (wg : Bool) (σ' : AS) (hlen : env.length = 155) (hcx : cx.esc = []) (f0 : Env.get env 0 = .ptr (.hp b) 0) (f17 : Env.get env 17 = .ptr (.st c) 0) (g17 : σ.get (.st c) = some (.cells [.str wk, .str wv, .bool wg])) (h20 : callW Try.prog how 20 [.ptr (.hp b) 0, .agg [.str wk, .str wv, .bool wg]] σ cx.ro = some (.tup [], σ')) :
    Pc Try.prog how cx [] 155 [123, 124, 125] (cr [.r, .r, .r, .r, .r, .r, .r, .r, .r, .r, .l, .r, .l, .l, .r, .i, .i, .r, .r, .l, .i, .r]) env σ (.normal) (σ') (fun _ => True) := by
  refine pc_of fun res hr => ?_
  simp -implicitDefEqProofs [-lenA, -indexAddrA, AS.get_push_at, AS.get_push_old, AS.push_len, AS.set_st_len, AS.next_st', AS.set_push_at, AS.get_set_self, AS.get_set_other, cr, Try.f9, hlen, hcx, f0, f17, g17, h20] at hr
  subst hr
  refine ⟨_, rfl, by simp [hlen], by simp [Env.get_set, hlen, f0, f17, g17, h20], fun i hi => ?_⟩
  simp only [List.mem_cons, List.not_mem_nil, or_false, not_or] at hi
  simp only [get_set2, hi, false_and, if_false]

theorem rI (cx : Cx) (env : Env) (σ : AS) (t : Nat) (tc ts : Int) (pl : Bool) (X Y : AV) (hlen : env.length = 155) (hcx : cx.esc = []) (f9 : Env.get env 9 = .ptr (.st t) 0) (gt : σ.get (.st t) = some (.cells [.int .i64 tc, .int .u64 ts, .bool pl, X, Y])) (hX : Plain X) (hY : Plain Y) :
    Pc Try.prog how cx [] 155 [127, 128] (cr [.r, .r, .r, .r, .r, .r, .r, .r, .r, .r, .l, .r, .l, .r, .l]) env σ (.normal) (σ) (fun env' => Env.get env' 128 = .bool pl) := by
  refine pc_of fun res hr => ?_
  simp -implicitDefEqProofs [-lenA, -indexAddrA, AS.get_push_at, AS.get_push_old, AS.push_len, AS.set_st_len, AS.next_st', AS.set_push_at, AS.get_set_self, AS.get_set_other, cr, Try.f9, hlen, hcx, f9, gt, hX.one, hX.inb, hX.row, hX.cells, hY.one, hY.inb, hY.row, hY.cells] at hr
  subst hr
  refine ⟨_, rfl, by simp [hlen], by simp [Env.get_set, hlen, f9, gt, hX.one, hX.inb, hX.row, hX.cells, hY.one, hY.inb, hY.row, hY.cells], fun i hi => ?_⟩
  simp only [List.mem_cons, List.not_mem_nil, or_false, not_or] at hi
  simp only [get_set2, hi, false_and, if_false]

theorem rJ (cx : Cx) (env : Env) (σ : AS) (a b : Nat) (x : RowD) (RX WX : AV) (k0 : ByteArray) (n0 : Int) (v0 : ByteArray) (h0 : Bool) (hlen : env.length = 155) (hcx : cx.esc = []) (f0 : Env.get env 0 = .ptr (.hp b) 0) (f3 : Env.get env 3 = .ptr (.st a) 0) (gr : σ.get (.st a) = some (.cells [.int .i64 x.cl, .int .u64 x.sq, .int .i64 x.kind, .str x.key, .str x.val, RX, WX, .int .i64 x.ca, .int .i64 x.st, .int .i64 x.an, .int .i64 x.code, .int .i64 x.rcl, .int .u64 x.rsq, .int .i64 x.rn, .int .i64 x.rcode, .str x.rval, .int .u64 x.rnum])) (hRX : Plain RX) (hWX : Plain WX) (h7 : callW Try.prog how 7 [.ptr (.hp b) 0, .str x.key] σ cx.ro = some (.agg [.str k0, .int .u64 n0, .str v0, .bool h0], σ)) :
    Pc Try.prog how cx [] 155 [15, 129, 130, 131, 132, 133, 134] (cr [.r, .r, .r, .r, .r, .r, .r, .r, .r, .r, .l, .r, .l, .r, .r, .l]) env σ (.normal) (σ) (fun env' => Env.get env' 15 = .int .u64 n0) := by
  refine pc_of fun res hr => ?_
  simp -implicitDefEqProofs [-lenA, -indexAddrA, AS.get_push_at, AS.get_push_old, AS.push_len, AS.set_st_len, AS.next_st', AS.set_push_at, AS.get_set_self, AS.get_set_other, cr, Try.f9, hlen, hcx, f0, f3, gr, hRX.one, hRX.inb, hRX.row, hRX.cells, hWX.one, hWX.inb, hWX.row, hWX.cells, h7, fieldValA, fieldA] at hr
  subst hr
  refine ⟨_, rfl, by simp [hlen], by simp [Env.get_set, hlen, f0, f3, gr, hRX.one, hRX.inb, hRX.row, hRX.cells, hWX.one, hWX.inb, hWX.row, hWX.cells, h7, fieldValA, fieldA], fun i hi => ?_⟩
  simp only [List.mem_cons, List.not_mem_nil, or_false, not_or] at hi
  simp only [get_set2, hi, false_and, if_false]

theorem rM (cx : Cx) (env : Env) (σ : AS) (a e : Nat) (told : Bool) (n15 : Int) (x : RowD) (RX WX : AV) (hlen : env.length = 155) (hcx : cx.esc = []) (f3 : Env.get env 3 = .ptr (.st a) 0) (f5 : Env.get env 5 = .ptr (.st e) 0) (f6 : Env.get env 6 = .bool told) (f15 : Env.get env 15 = .int .u64 n15) (gr : σ.get (.st a) = some (.cells [.int .i64 x.cl, .int .u64 x.sq, .int .i64 x.kind, .str x.key, .str x.val, RX, WX, .int .i64 x.ca, .int .i64 x.st, .int .i64 x.an, .int .i64 x.code, .int .i64 x.rcl, .int .u64 x.rsq, .int .i64 x.rn, .int .i64 x.rcode, .str x.rval, .int .u64 x.rnum])) (hRX : Plain RX) (hWX : Plain WX) (ge : σ.get (.st e) = some (.cells [.int .i64 x.rcl, .int .u64 x.rsq, .int .i64 x.rn, .int .i64 x.rcode, .str x.rval, .int .u64 x.rnum])) :
    Pc Try.prog how cx [] 155 [135, 136, 137, 138, 139, 140, 141, 142, 143, 144, 145, 146, 147, 148, 149, 150, 151, 152, 153] (cr [.r, .r, .r, .r, .r, .r, .r, .r, .r, .r, .r, .l, .l]) env σ (.normal) (σ) (fun env' => Env.get env' 153 = .bool (told && ((decide (x.rcode ≠ x.code) || decide (x.rnum ≠ n15)) || !beqS x.rval ⟨#[]⟩))) := by
  cases told <;> by_cases p1 : x.rcode = x.code <;> by_cases p3 : x.rnum = n15 <;> cases p2 : beqS x.rval ⟨#[]⟩
  all_goals first | (fail; done) | (
      refine pc_of fun res hr => ?_
      simp -implicitDefEqProofs [-lenA, -indexAddrA, AS.get_push_at, AS.get_push_old, AS.push_len, AS.set_st_len, AS.next_st', AS.set_push_at, AS.get_set_self, AS.get_set_other, cr, Try.f9, hlen, hcx, f3, f5, f6, f15, gr, hRX.one, hRX.inb, hRX.row, hRX.cells, hWX.one, hWX.inb, hWX.row, hWX.cells, ge, p1, p2, p3] at hr
      subst hr
      refine ⟨_, rfl, by simp [hlen], by simp [Env.get_set, hlen, f3, f5, f6, f15, gr, hRX.one, hRX.inb, hRX.row, hRX.cells, hWX.one, hWX.inb, hWX.row, hWX.cells, ge, p1, p2, p3], fun i hi => ?_⟩
      simp only [List.mem_cons, List.not_mem_nil, or_false, not_or] at hi
      simp only [get_set2, hi, false_and, if_false]
    )

theorem rMr (cx : Cx) (env : Env) (σ : AS)  (hlen : env.length = 155) (hcx : cx.esc = [])  :
    Pc Try.prog how cx [] 155 [4] (cr [.r, .r, .r, .r, .r, .r, .r, .r, .r, .r, .r, .l, .r, .l]) env σ (.ret) (σ) (fun env' => Env.get env' 4 = .bool false) := by
  refine pc_of fun res hr => ?_
  simp -implicitDefEqProofs [-lenA, -indexAddrA, AS.get_push_at, AS.get_push_old, AS.push_len, AS.set_st_len, AS.next_st', AS.set_push_at, AS.get_set_self, AS.get_set_other, cr, Try.f9, hlen, hcx] at hr
  subst hr
  refine ⟨_, rfl, by simp [hlen], by simp [Env.get_set, hlen], fun i hi => ?_⟩
  simp only [List.mem_cons, List.not_mem_nil, or_false, not_or] at hi
  simp only [get_set2, hi, false_and, if_false]

theorem rF (cx : Cx) (env : Env) (σ : AS) (b14 : Bool) (hlen : env.length = 155) (hcx : cx.esc = []) (f14 : Env.get env 14 = .bool b14) :
    Pc Try.prog how cx [] 155 [4, 154] (cr [.r, .r, .r, .r, .r, .r, .r, .r, .r, .r, .r, .r, .l]) env σ (.normal) (σ) (fun env' => Env.get env' 4 = .bool b14) := by
  refine pc_of fun res hr => ?_
  simp -implicitDefEqProofs [-lenA, -indexAddrA, AS.get_push_at, AS.get_push_old, AS.push_len, AS.set_st_len, AS.next_st', AS.set_push_at, AS.get_set_self, AS.get_set_other, cr, Try.f9, hlen, hcx, f14] at hr
  subst hr
  refine ⟨_, rfl, by simp [hlen], by simp [Env.get_set, hlen, f14], fun i hi => ?_⟩
  simp only [List.mem_cons, List.not_mem_nil, or_false, not_or] at hi
  simp only [get_set2, hi, false_and, if_false]

end
/-- What holds ahead of round k. -/
def J1 (h : Nat) (σ0 : AS) (a b ce t : Nat) (told : Bool) (x : RowD) (RX WX : AV) (tc ts : Int) (pl : Bool) (X Y : AV) (rs : List RdI) (S : List KeyD) (k : Nat) (env : Env) (σ : AS) : Prop :=
  Env.get env 0 = .ptr (.hp b) 0 ∧ Env.get env 3 = .ptr (.st a) 0 ∧ Env.get env 5 = .ptr (.st ce) 0 ∧ Env.get env 6 = .bool told ∧ Env.get env 9 = .ptr (.st t) 0 ∧ Env.get env 10 = .bool (staleS S (rs.take k)) ∧ Env.get env 65 = X ∧ (σ.get (.st a) = some (.cells [.int .i64 x.cl, .int .u64 x.sq, .int .i64 x.kind, .str x.key, .str x.val, RX, WX, .int .i64 x.ca, .int .i64 x.st, .int .i64 x.an, .int .i64 x.code, .int .i64 x.rcl, .int .u64 x.rsq, .int .i64 x.rn, .int .i64 x.rcode, .str x.rval, .int .u64 x.rnum])) ∧ (σ.get (.st ce) = some (.cells [.int .i64 x.rcl, .int .u64 x.rsq, .int .i64 x.rn, .int .i64 x.rcode, .str x.rval, .int .u64 x.rnum])) ∧ (σ.get (.st t) = some (.cells [.int .i64 tc, .int .u64 ts, .bool pl, X, Y])) ∧ Outside h σ0 σ
def Ex1 (h : Nat) (σ0 : AS) (a b ce t : Nat) (told : Bool) (x : RowD) (RX WX : AV) (tc ts : Int) (pl : Bool) (X Y : AV) (rs : List RdI) (S : List KeyD) (e : AExit) (env : Env) (σ : AS) : Prop := False
theorem J1_stable {h : Nat} {σ0 : AS} {a b ce t : Nat} {told : Bool} {x : RowD} {RX WX : AV} {tc ts : Int} {pl : Bool} {X Y : AV} {rs : List RdI} {S : List KeyD} : ∀ k env env' σ, env.length = 155 → env'.length = 155 → (∀ i, i ≠ 68 → i ≠ 82 → i ≠ 67 → Env.get env' i = Env.get env i) → J1 h σ0 a b ce t told x RX WX tc ts pl X Y rs S k env σ → J1 h σ0 a b ce t told x RX WX tc ts pl X Y rs S k env' σ := by
  rintro k env env' σ _ _ hf ⟨j0, j3, j5, j6, j9, j10, j65, q0, q1, q2, ho⟩
  exact ⟨(hf 0 (by decide) (by decide) (by decide)).trans j0, (hf 3 (by decide) (by decide) (by decide)).trans j3, (hf 5 (by decide) (by decide) (by decide)).trans j5, (hf 6 (by decide) (by decide) (by decide)).trans j6, (hf 9 (by decide) (by decide) (by decide)).trans j9, (hf 10 (by decide) (by decide) (by decide)).trans j10, (hf 65 (by decide) (by decide) (by decide)).trans j65, q0, q1, q2, ho⟩
noncomputable def oT1 : Oper := (opsOf (cr [.r, .r, .r, .r, .r, .r, .l, .r, .i, .i, .l])).headD default
noncomputable def oI1 : List Oper := opsOf (cr [.r, .r, .r, .r, .r, .r, .l, .r, .i, .i, .r, .r, .r])
theorem loop_eq1 : (cr [.r, .r, .r, .r, .r, .r, .l, .r]) = .block 0 (.loop (.seq (.region 14 #[oT1] false) (.seq (.cond (.tmp 68) .skip (.exit 0)) (.seq (.block 1 (.seq (cr [.r, .r, .r, .r, .r, .r, .l, .r, .i, .i, .r, .r, .l, .i, .l]) (cr [.r, .r, .r, .r, .r, .r, .l, .r, .i, .i, .r, .r, .l, .i, .r]))) (.region 17 #[oI1.headD default, (oI1.drop 1).headD default] false))))) := by kernel_rfl
theorem step1 (cx : Cx) (hcx : cx.esc = []) (hro : ∀ k, cx.ro = some k → k ≤ cx.h) (σ0 : AS) (a b ce t : Nat) (told : Bool) (x : RowD) (RX WX : AV) (tc ts : Int) (pl : Bool) (X Y : AV) (rs : List RdI) (S : List KeyD) (M : AV) (hA : σ0.hp[b]? = some (.cells [M])) (hM : HRow σ0.hp M (S.map encK)) (hlen2 : S.length ≤ 1000) (hS : SlOf 2 X (rs.map encRd)) :
    ∀ k env σ, k < rs.length → env.length = 155 → Env.get env 67 = .int .i64 (k : Int) → Env.get env 66 = .int .i64 ((rs.length : Nat) : Int) → J1 cx.h σ0 a b ce t told x RX WX tc ts pl X Y rs S k env σ → ∃ e env' σ', execW Try.prog cx [] (callW Try.prog how) (.block 1 (.seq (cr [.r, .r, .r, .r, .r, .r, .l, .r, .i, .i, .r, .r, .l, .i, .l]) (cr [.r, .r, .r, .r, .r, .r, .l, .r, .i, .i, .r, .r, .l, .i, .r]))) (env, σ) = some (e, (env', σ')) ∧
      ((e = .normal ∧ env'.length = 155 ∧ Env.get env' 67 = .int .i64 (k : Int) ∧ Env.get env' 66 = .int .i64 ((rs.length : Nat) : Int) ∧ J1 cx.h σ0 a b ce t told x RX WX tc ts pl X Y rs S (k + 1) env' σ') ∨ (e ≠ .normal ∧ Ex1 cx.h σ0 a b ce t told x RX WX tc ts pl X Y rs S e env' σ')) := by
  rintro k env σ hk hlen f67 f66 ⟨f0, f3, f5, f6, f9, f10, f65, q0, q1, q2, ho⟩
  obtain ⟨p, hia, hpa⟩ := (rd29 (σ := σ) hS).2 k (encRd rs[k]) (get_el hk)
  obtain ⟨env1, x1a, x1b, x1c, x1d⟩ := rE1 cx env σ k X p (rs[k].1) (rs[k].2) hlen hcx f65 f67 hia hpa (wokst hro ho.2.2) ho.2.2
  have f0 := (x1d 0 (by decide)).trans f0
  have f3 := (x1d 3 (by decide)).trans f3
  have f5 := (x1d 5 (by decide)).trans f5
  have f6 := (x1d 6 (by decide)).trans f6
  have f9 := (x1d 9 (by decide)).trans f9
  have f10 := (x1d 10 (by decide)).trans f10
  have f65 := (x1d 65 (by decide)).trans f65
  have f66 := (x1d 66 (by decide)).trans f66
  have f67 := (x1d 67 (by decide)).trans f67
  have f12 := x1c
  have g1 : ((σ : AS).push false (.cells [.str rs[k].1, .int .u64 rs[k].2])).get (.st (σ : AS).st.length) = some (.cells [.str rs[k].1, .int .u64 rs[k].2]) := AS.get_push_at rfl
  have q0 := get_push' (ob' := .cells [.str rs[k].1, .int .u64 rs[k].2]) q0
  have q1 := get_push' (ob' := .cells [.str rs[k].1, .int .u64 rs[k].2]) q1
  have q2 := get_push' (ob' := .cells [.str rs[k].1, .int .u64 rs[k].2]) q2
  have ho := ho.push (ob := .cells [.str rs[k].1, .int .u64 rs[k].2])
  generalize hib1 : (σ : AS).st.length = ib1 at g1 f12
  generalize (σ : AS).push false (.cells [.str rs[k].1, .int .u64 rs[k].2]) = σ1 at x1a g1 q0 q1 q2 ho
  have hhp : σ1.hp = σ0.hp := ho.1
  have h7 := F7.ok σ1.hp σ1.st (some σ1.st.length) b rs[k].1 M S (fun j hj => by cases hj; exact Nat.le_refl _) (by rw [hhp]; exact hA) (by rw [hhp]; exact hM) hlen2
  obtain ⟨env2, x2a, x2b, x2c, x2d⟩ := rS1 cx env1 σ1 b _ _ (rs[k].1) (rs[k].2) (rs[k].1) ((ofK S rs[k].1).1) ((ofK S rs[k].1).2.1) ((ofK S rs[k].1).2.2) x1b hcx f0 f10 f12 g1 h7 
  have f0 := (x2d 0 (by decide)).trans f0
  have f3 := (x2d 3 (by decide)).trans f3
  have f5 := (x2d 5 (by decide)).trans f5
  have f6 := (x2d 6 (by decide)).trans f6
  have f9 := (x2d 9 (by decide)).trans f9
  have f12 := (x2d 12 (by decide)).trans f12
  have f65 := (x2d 65 (by decide)).trans f65
  have f66 := (x2d 66 (by decide)).trans f66
  have f67 := (x2d 67 (by decide)).trans f67
  have f10 := x2c
  rw [← stale_succ hk] at f10
  exact ⟨.normal, env2, _, (execW_block_of (execW_seq_of x1a x2a)), .inl ⟨rfl, x2b, f67, f66, f0, f3, f5, f6, f9, f10, f65, q0, q1, q2, ho⟩⟩
theorem loop1 (cx : Cx) (hcx : cx.esc = []) (hro : ∀ k, cx.ro = some k → k ≤ cx.h) (σ0 : AS) (a b ce t : Nat) (told : Bool) (x : RowD) (RX WX : AV) (tc ts : Int) (pl : Bool) (X Y : AV) (rs : List RdI) (S : List KeyD) (M : AV) (hA : σ0.hp[b]? = some (.cells [M])) (hM : HRow σ0.hp M (S.map encK)) (hlen2 : S.length ≤ 1000) (hS : SlOf 2 X (rs.map encRd)) (hnn : rs.length ≤ 9223372036854775807) {env : Env} {σ : AS} (hl : env.length = 155) (h1 : Env.get env 67 = .int .i64 0) (h2 : Env.get env 66 = .int .i64 ((rs.length : Nat) : Int)) (h0 : J1 cx.h σ0 a b ce t told x RX WX tc ts pl X Y rs S 0 env σ) :
    ∃ e env' σ', execW Try.prog cx [] (callW Try.prog how) (cr [.r, .r, .r, .r, .r, .r, .l, .r]) (env, σ) = some (e, (env', σ')) ∧ ((e = .normal ∧ ((env'.length = 155 ∧ J1 cx.h σ0 a b ce t told x RX WX tc ts pl X Y rs S (rs.length) env' σ') ∨ Ex1 cx.h σ0 a b ce t told x RX WX tc ts pl X Y rs S (.exit 0) env' σ')) ∨ (e ≠ .normal ∧ e ≠ .exit 0 ∧ Ex1 cx.h σ0 a b ce t told x RX WX tc ts pl X Y rs S e env' σ')) := by
  rw [loop_eq1]
  exact range_std (Ex := Ex1 cx.h σ0 a b ce t told x RX WX tc ts pl X Y rs S) (N := 155) (tc := 68) (ti := 67) (tl := 66) (tx := 82) (ty1 := 3) (ty2 := 3) (ty3 := 3) (ty4 := 3) ⟨by kernel_rfl, by kernel_rfl, by kernel_rfl⟩ ⟨by kernel_rfl, by kernel_rfl, by kernel_rfl⟩ ⟨by kernel_rfl, by kernel_rfl, by kernel_rfl⟩ (by decide) hnn J1_stable (step1 cx hcx hro σ0 a b ce t told x RX WX tc ts pl X Y rs S M hA hM hlen2 hS) hl h1 h2 h0
/-- What holds ahead of round k. -/
def J2 (h : Nat) (σ0 : AS) (a b ce t : Nat) (told : Bool) (x : RowD) (RX WX : AV) (tc ts : Int) (pl : Bool) (X Y : AV) (n15 : Int) (b14 : Bool) (ws : List WrI) (S : List KeyD) (k : Nat) (env : Env) (σ : AS) : Prop :=
  Env.get env 0 = .ptr (.hp b) 0 ∧ Env.get env 3 = .ptr (.st a) 0 ∧ Env.get env 5 = .ptr (.st ce) 0 ∧ Env.get env 6 = .bool told ∧ Env.get env 9 = .ptr (.st t) 0 ∧ Env.get env 14 = .bool b14 ∧ Env.get env 15 = .int .u64 n15 ∧ Env.get env 117 = Y ∧ (σ.get (.st a) = some (.cells [.int .i64 x.cl, .int .u64 x.sq, .int .i64 x.kind, .str x.key, .str x.val, RX, WX, .int .i64 x.ca, .int .i64 x.st, .int .i64 x.an, .int .i64 x.code, .int .i64 x.rcl, .int .u64 x.rsq, .int .i64 x.rn, .int .i64 x.rcode, .str x.rval, .int .u64 x.rnum])) ∧ (σ.get (.st ce) = some (.cells [.int .i64 x.rcl, .int .u64 x.rsq, .int .i64 x.rn, .int .i64 x.rcode, .str x.rval, .int .u64 x.rnum])) ∧ (σ.get (.st t) = some (.cells [.int .i64 tc, .int .u64 ts, .bool pl, X, Y])) ∧ (SetR σ0.hp σ.hp b (putsK S (ws.take k))) ∧ Outside h (AS.mk σ.hp σ0.st) σ
def Ex2 (h : Nat) (σ0 : AS) (a b ce t : Nat) (told : Bool) (x : RowD) (RX WX : AV) (tc ts : Int) (pl : Bool) (X Y : AV) (n15 : Int) (b14 : Bool) (ws : List WrI) (S : List KeyD) (e : AExit) (env : Env) (σ : AS) : Prop := False
theorem J2_stable {h : Nat} {σ0 : AS} {a b ce t : Nat} {told : Bool} {x : RowD} {RX WX : AV} {tc ts : Int} {pl : Bool} {X Y : AV} {n15 : Int} {b14 : Bool} {ws : List WrI} {S : List KeyD} : ∀ k env env' σ, env.length = 155 → env'.length = 155 → (∀ i, i ≠ 120 → i ≠ 126 → i ≠ 119 → Env.get env' i = Env.get env i) → J2 h σ0 a b ce t told x RX WX tc ts pl X Y n15 b14 ws S k env σ → J2 h σ0 a b ce t told x RX WX tc ts pl X Y n15 b14 ws S k env' σ := by
  rintro k env env' σ _ _ hf ⟨j0, j3, j5, j6, j9, j14, j15, j117, q0, q1, q2, q3, ho⟩
  exact ⟨(hf 0 (by decide) (by decide) (by decide)).trans j0, (hf 3 (by decide) (by decide) (by decide)).trans j3, (hf 5 (by decide) (by decide) (by decide)).trans j5, (hf 6 (by decide) (by decide) (by decide)).trans j6, (hf 9 (by decide) (by decide) (by decide)).trans j9, (hf 14 (by decide) (by decide) (by decide)).trans j14, (hf 15 (by decide) (by decide) (by decide)).trans j15, (hf 117 (by decide) (by decide) (by decide)).trans j117, q0, q1, q2, q3, ho⟩
noncomputable def oT2 : Oper := (opsOf (cr [.r, .r, .r, .r, .r, .r, .r, .r, .r, .r, .l, .r, .l, .l, .r, .i, .i, .l])).headD default
noncomputable def oI2 : List Oper := opsOf (cr [.r, .r, .r, .r, .r, .r, .r, .r, .r, .r, .l, .r, .l, .l, .r, .i, .i, .r, .r, .r])
theorem loop_eq2 : (cr [.r, .r, .r, .r, .r, .r, .r, .r, .r, .r, .l, .r, .l, .l, .r]) = .block 2 (.loop (.seq (.region 23 #[oT2] false) (.seq (.cond (.tmp 120) .skip (.exit 2)) (.seq (.block 3 (.seq (cr [.r, .r, .r, .r, .r, .r, .r, .r, .r, .r, .l, .r, .l, .l, .r, .i, .i, .r, .r, .l, .i, .l]) (cr [.r, .r, .r, .r, .r, .r, .r, .r, .r, .r, .l, .r, .l, .l, .r, .i, .i, .r, .r, .l, .i, .r]))) (.region 26 #[oI2.headD default, (oI2.drop 1).headD default] false))))) := by kernel_rfl
theorem step2 (cx : Cx) (hcx : cx.esc = []) (hro : ∀ k, cx.ro = some k → k ≤ cx.h) (σ0 : AS) (a b ce t : Nat) (told : Bool) (x : RowD) (RX WX : AV) (tc ts : Int) (pl : Bool) (X Y : AV) (n15 : Int) (b14 : Bool) (ws : List WrI) (S : List KeyD) (hr0 : cx.ro = none) (hlen2 : S.length + ws.length ≤ 900) (hS : SlOf 3 Y (ws.map encWr)) :
    ∀ k env σ, k < ws.length → env.length = 155 → Env.get env 119 = .int .i64 (k : Int) → Env.get env 118 = .int .i64 ((ws.length : Nat) : Int) → J2 cx.h σ0 a b ce t told x RX WX tc ts pl X Y n15 b14 ws S k env σ → ∃ e env' σ', execW Try.prog cx [] (callW Try.prog how) (.block 3 (.seq (cr [.r, .r, .r, .r, .r, .r, .r, .r, .r, .r, .l, .r, .l, .l, .r, .i, .i, .r, .r, .l, .i, .l]) (cr [.r, .r, .r, .r, .r, .r, .r, .r, .r, .r, .l, .r, .l, .l, .r, .i, .i, .r, .r, .l, .i, .r]))) (env, σ) = some (e, (env', σ')) ∧
      ((e = .normal ∧ env'.length = 155 ∧ Env.get env' 119 = .int .i64 (k : Int) ∧ Env.get env' 118 = .int .i64 ((ws.length : Nat) : Int) ∧ J2 cx.h σ0 a b ce t told x RX WX tc ts pl X Y n15 b14 ws S (k + 1) env' σ') ∨ (e ≠ .normal ∧ Ex2 cx.h σ0 a b ce t told x RX WX tc ts pl X Y n15 b14 ws S e env' σ')) := by
  rintro k env σ hk hlen f119 f118 ⟨f0, f3, f5, f6, f9, f14, f15, f117, q0, q1, q2, q3, ho⟩
  obtain ⟨p, hia, hpa⟩ := (rd30 (σ := σ) hS).2 k (encWr ws[k]) (get_el hk)
  obtain ⟨env1, x1a, x1b, x1c, x1d⟩ := rE2 cx env σ k Y p (ws[k].1) (ws[k].2.1) (ws[k].2.2) hlen hcx f117 f119 hia hpa (wokst hro ho.2.2) ho.2.2
  have f0 := (x1d 0 (by decide)).trans f0
  have f3 := (x1d 3 (by decide)).trans f3
  have f5 := (x1d 5 (by decide)).trans f5
  have f6 := (x1d 6 (by decide)).trans f6
  have f9 := (x1d 9 (by decide)).trans f9
  have f14 := (x1d 14 (by decide)).trans f14
  have f15 := (x1d 15 (by decide)).trans f15
  have f117 := (x1d 117 (by decide)).trans f117
  have f118 := (x1d 118 (by decide)).trans f118
  have f119 := (x1d 119 (by decide)).trans f119
  have f17 := x1c
  have g1 : ((σ : AS).push false (.cells [.str ws[k].1, .str ws[k].2.1, .bool ws[k].2.2])).get (.st (σ : AS).st.length) = some (.cells [.str ws[k].1, .str ws[k].2.1, .bool ws[k].2.2]) := AS.get_push_at rfl
  have q0 := get_push' (ob' := .cells [.str ws[k].1, .str ws[k].2.1, .bool ws[k].2.2]) q0
  have q1 := get_push' (ob' := .cells [.str ws[k].1, .str ws[k].2.1, .bool ws[k].2.2]) q1
  have q2 := get_push' (ob' := .cells [.str ws[k].1, .str ws[k].2.1, .bool ws[k].2.2]) q2
  have ho := ho.push (ob := .cells [.str ws[k].1, .str ws[k].2.1, .bool ws[k].2.2])
  generalize hib1 : (σ : AS).st.length = ib1 at g1 f17
  generalize (σ : AS).push false (.cells [.str ws[k].1, .str ws[k].2.1, .bool ws[k].2.2]) = σ1 at x1a g1 q0 q1 q2 ho
  have hhp : σ1.hp = σ.hp := ho.1
  rw [← hhp] at q3
  obtain ⟨X1, hA1, hX1⟩ := q3.2.2
  have hpl := putsK_len (ws.take k) S
  rw [List.length_take] at hpl
  obtain ⟨hp', h20, hset⟩ := F20.ok σ1.hp σ1.st b X1 (putsK S (ws.take k)) ws[k].1 ws[k].2.1 ws[k].2.2 hA1 hX1 (by omega)
  rw [← hr0] at h20
  obtain ⟨env2, x2a, x2b, x2c, x2d⟩ := rP2 cx env1 σ1 b _ (ws[k].1) (ws[k].2.1) (ws[k].2.2) _ x1b hcx f0 f17 g1 h20 
  have f0 := (x2d 0 (by decide)).trans f0
  have f3 := (x2d 3 (by decide)).trans f3
  have f5 := (x2d 5 (by decide)).trans f5
  have f6 := (x2d 6 (by decide)).trans f6
  have f9 := (x2d 9 (by decide)).trans f9
  have f14 := (x2d 14 (by decide)).trans f14
  have f15 := (x2d 15 (by decide)).trans f15
  have f17 := (x2d 17 (by decide)).trans f17
  have f117 := (x2d 117 (by decide)).trans f117
  have f118 := (x2d 118 (by decide)).trans f118
  have f119 := (x2d 119 (by decide)).trans f119
  exact ⟨.normal, env2, _, (execW_block_of (execW_seq_of x1a x2a)), .inl ⟨rfl, x2b, f119, f118, f0, f3, f5, f6, f9, f14, f15, f117, q0, q1, q2, (by rw [putsK_succ hk]; exact q3.trans hset), ⟨rfl, ho.2.1, ho.2.2⟩⟩⟩
theorem loop2 (cx : Cx) (hcx : cx.esc = []) (hro : ∀ k, cx.ro = some k → k ≤ cx.h) (σ0 : AS) (a b ce t : Nat) (told : Bool) (x : RowD) (RX WX : AV) (tc ts : Int) (pl : Bool) (X Y : AV) (n15 : Int) (b14 : Bool) (ws : List WrI) (S : List KeyD) (hr0 : cx.ro = none) (hlen2 : S.length + ws.length ≤ 900) (hS : SlOf 3 Y (ws.map encWr)) (hnn : ws.length ≤ 9223372036854775807) {env : Env} {σ : AS} (hl : env.length = 155) (h1 : Env.get env 119 = .int .i64 0) (h2 : Env.get env 118 = .int .i64 ((ws.length : Nat) : Int)) (h0 : J2 cx.h σ0 a b ce t told x RX WX tc ts pl X Y n15 b14 ws S 0 env σ) :
    ∃ e env' σ', execW Try.prog cx [] (callW Try.prog how) (cr [.r, .r, .r, .r, .r, .r, .r, .r, .r, .r, .l, .r, .l, .l, .r]) (env, σ) = some (e, (env', σ')) ∧ ((e = .normal ∧ ((env'.length = 155 ∧ J2 cx.h σ0 a b ce t told x RX WX tc ts pl X Y n15 b14 ws S (ws.length) env' σ') ∨ Ex2 cx.h σ0 a b ce t told x RX WX tc ts pl X Y n15 b14 ws S (.exit 2) env' σ')) ∨ (e ≠ .normal ∧ e ≠ .exit 2 ∧ Ex2 cx.h σ0 a b ce t told x RX WX tc ts pl X Y n15 b14 ws S e env' σ')) := by
  rw [loop_eq2]
  exact range_std (Ex := Ex2 cx.h σ0 a b ce t told x RX WX tc ts pl X Y n15 b14 ws S) (N := 155) (tc := 120) (ti := 119) (tl := 118) (tx := 126) (ty1 := 3) (ty2 := 3) (ty3 := 3) (ty4 := 3) ⟨by kernel_rfl, by kernel_rfl, by kernel_rfl⟩ ⟨by kernel_rfl, by kernel_rfl, by kernel_rfl⟩ ⟨by kernel_rfl, by kernel_rfl, by kernel_rfl⟩ (by decide) hnn J2_stable (step2 cx hcx hro σ0 a b ce t told x RX WX tc ts pl X Y n15 b14 ws S hr0 hlen2 hS) hl h1 h2 h0
noncomputable def bodyC : Code := (.seq (cr [.l]) (.seq (cr [.r, .l]) (.seq (cr [.r, .r, .l]) (.seq (.seq (cr [.r, .r, .r, .l, .l]) (.cond (.tmp 26) (.seq (cr [.r, .r, .r, .l, .r, .l, .l]) (.seq (cr [.r, .r, .r, .l, .r, .l, .r, .l]) (.seq (.seq (cr [.r, .r, .r, .l, .r, .l, .r, .r, .l, .l]) (.cond (.tmp 33) (cr [.r, .r, .r, .l, .r, .l, .r, .r, .l, .r, .l]) .skip)) (.seq (.seq (cr [.r, .r, .r, .l, .r, .l, .r, .r, .r, .l, .l]) (.cond (.tmp 54) (cr [.r, .r, .r, .l, .r, .l, .r, .r, .r, .l, .r, .l]) .skip)) (.seq (cr [.r, .r, .r, .l, .r, .l, .r, .r, .r, .r, .l]) .ret))))) .skip)) (.seq (cr [.r, .r, .r, .r, .l]) (.seq (cr [.r, .r, .r, .r, .r, .l]) (.seq (.seq (cr [.r, .r, .r, .r, .r, .r, .l, .l]) (cr [.r, .r, .r, .r, .r, .r, .l, .r])) (.seq (cr [.r, .r, .r, .r, .r, .r, .r, .l]) (.seq (cr [.r, .r, .r, .r, .r, .r, .r, .r, .l]) (.seq (cr [.r, .r, .r, .r, .r, .r, .r, .r, .r, .l]) (.seq (.seq (cr [.r, .r, .r, .r, .r, .r, .r, .r, .r, .r, .l, .l]) (.cond (.tmp 115) (.seq (.seq (cr [.r, .r, .r, .r, .r, .r, .r, .r, .r, .r, .l, .r, .l, .l, .l]) (cr [.r, .r, .r, .r, .r, .r, .r, .r, .r, .r, .l, .r, .l, .l, .r])) (.seq (cr [.r, .r, .r, .r, .r, .r, .r, .r, .r, .r, .l, .r, .l, .r, .l]) (.cond (.tmp 128) (cr [.r, .r, .r, .r, .r, .r, .r, .r, .r, .r, .l, .r, .l, .r, .r, .l]) .skip))) .skip)) (.seq (.seq (cr [.r, .r, .r, .r, .r, .r, .r, .r, .r, .r, .r, .l, .l]) (.cond (.tmp 153) (cr [.r, .r, .r, .r, .r, .r, .r, .r, .r, .r, .r, .l, .r, .l]) .skip)) (.seq (cr [.r, .r, .r, .r, .r, .r, .r, .r, .r, .r, .r, .r, .l]) .ret)))))))))))))
theorem body : Try.f9.body = some bodyC := by kernel_rfl
end F9
