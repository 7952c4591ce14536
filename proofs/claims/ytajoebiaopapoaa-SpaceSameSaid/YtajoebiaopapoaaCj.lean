/- An object with one version more. -/

import Derived.Test.YtajoebiaopapoaaCi
open Go Go.Abs Go.Proofs
set_option maxRecDepth 100000
set_option maxHeartbeats 4000000
set_option linter.unusedSimpArgs false
set_option linter.unusedVariables false

theorem b46 : bytesA Try.prog 46 = some 40 := by kernel_rfl
theorem app72b (cx : Cx) (hro : cx.ro = none) (hp t : List AObj) (es : List AV) (x : AV) (k : Nat) (hl : es.length ≤ 1000) (hk : (AS.mk (hp ++ [.row es 4 1 false]) t).get (.st k) = some (.row [x] 4 0 false)) : appendA Try.prog cx ⟨hp ++ [.row es 4 1 false], t⟩ [72, 72] (.row (.hp hp.length) 1 0 es.length) (.row (.st k) 0 0 1) = some (.row (.hp hp.length) 2 0 (es.length + 1), ⟨hp ++ [.row (es ++ [x]) 4 2 false], t⟩) := by
  have hg : (AS.mk (hp ++ [.row es 4 1 false]) t).get (.hp hp.length) = some (.row es 4 1 false) := by simp [AS.get]
  have hw : wok cx.ro (.hp hp.length) = true := by rw [hro]; rfl
  have hby : bytesOk (es.length + 1) 40 = true := by simp only [bytesOk, decide_eq_true_eq]; omega
  simp [appendA, elemA, isSrc, elemsA, b46, hg, hk, hw, hby, AS.set]
theorem app72n (cx : Cx) (hp t : List AObj) (x : AV) (k : Nat) (hk : (AS.mk hp t).get (.st k) = some (.row [x] 4 0 false)) : appendA Try.prog cx ⟨hp, t⟩ [72, 72] .nils (.row (.st k) 0 0 1) = some (.row (.st t.length) 0 0 1, ⟨hp, t ++ [.row [x] 4 0 false]⟩) := by
  have hby : bytesOk 1 40 = true := by decide
  simp [appendA, elemA, isSrc, elemsA, b46, hk, hby, AS.next, AS.push]
def badPut (L : List Vn) (a : Int) (val : ByteArray) (gone : Bool) : Bool := decide (a < 1) || (decide (a ≤ (lastV L).a) || !mayV val gone)
def newV (L : List Vn) (a : Int) (val : ByteArray) (gone : Bool) : Vn := ⟨a, (lastV L).n + 1, val, gone⟩
theorem lastV_n {L : List Vn} (hG : GoodO L) : 0 ≤ (lastV L).n ∧ (lastV L).n ≤ 1000 := by
  cases h : L.getLast? with
  | none =>
    unfold lastV
    rw [h]
    exact ⟨Int.le_refl _, by decide⟩
  | some v =>
    have hm := List.mem_of_getLast? h
    have := hG.el v hm
    unfold lastV
    rw [h]
    show 0 ≤ v.n ∧ v.n ≤ 1000
    omega
def PutY (hp hp2 : List AObj) (Y : AV) (es : List AV) : Prop := (hp2 = hp ∧ Y = .sl false 4 es) ∨ (hp2 = hp ++ [.row es 4 2 false] ∧ Y = .row (.hp hp.length) 2 0 es.length)
namespace F39
noncomputable def cr (p : List Dir) : Code := sub p (bodyOf Try.f39)

section
attribute [local simp] ofV ofCell ofCells seqA_nil seqA_cons seqVK_eq seqEK_eq wantedA yieldedA isVal effA ev evs evps putE optsA optsOk valA fieldAddrA fieldA loadA partA aggA isAggD buildA placesA fillA lay storeA AV.withCells buildSliceA elemsA rowParts fzL promL okE isSrc bytesOk pushA cxOf lenA binA intBinA strBinA unA indexAddrA eqA AVs.inb AV.inb Loc.inb calleeA opsOf sub bodyOf Env.get_set quietA_nil quietA_cons quietK_none quietK_some qstep newA isNew escNew boxOk newLoc flat rowPartsQ quietN quietOp isBS List.takeWhile finishA_eq finK_ret finK_normal retK backK resA oneA AV.back AVs.back execW_seq_eq seqK_normal seqK_ret seqK_exit execW_cond_eq condK_true condK_false execW_block_eq blockK_exit blockK_normal blockK_ret execW_region_eq regK_eq execW_skip execW_exit execW_ret regionA_plain regionA_quiet0 tailK_eq nilCheckA guardOk isConst lookupA keyFits mapUpdateA beqI bneI mixL_nil mixL_cons mixK_eq tK_pre tK_eq vK_eq stepL_0 stepL_1n stepL_1s stepL_2 stepL_3 stepL_4 stepL_5 cutCall newL tchkL agreeB Op.operands sameO truncM beq_bool beq_int beq_str beq_nilp beq_ptr beq_eptr beq_nils beq_row beq_nilm beq_map beq_agg beq_sl beqs_nil beqs_cons
theorem rA (cx : Cx) (env : Env) (σ : AS) (hp s : List AObj) (X : AV) (hlen : env.length = 52) (hcx : cx.esc = []) (f0 : Env.get env 0 = .agg [X]) (hσ : σ = ⟨hp, s⟩) (hX : Plain X) (hw : wok cx.ro (.st σ.st.length) = true) (hh : cx.h ≤ σ.st.length) :
    Pc Try.prog how cx [2000006] 52 [4, 8, 9] (cr [.l]) env σ (.normal) (AS.mk hp (s ++ [.cells [X], .cells [.nils]])) (fun env' => Env.get env' 4 = .ptr (.st s.length) 0 ∧ Env.get env' 8 = .ptr (.st (s.length + 1)) 0 ∧ Env.get env' 9 = .int .i64 0) := by
  refine pc_of fun res hr => ?_
  simp -implicitDefEqProofs [-lenA, -indexAddrA, AS.get_push_at, AS.get_push_old, AS.push_len, AS.set_st_len, AS.next_st', AS.set_push_at, AS.get_set_self, AS.get_set_other, cr, Try.f39, hlen, hcx, f0, hσ, hX.one, hX.inb, hX.row, hw, hh] at hr
  subst hr
  refine ⟨_, rfl, by simp [hlen], by simp [Env.get_set, hlen, f0, hσ, hX.one, hX.inb, hX.row, hw, hh], fun i hi => ?_⟩
  simp only [List.mem_cons, List.not_mem_nil, or_false, not_or] at hi
  simp only [get_set2, hi, false_and, if_false]

theorem rB (cx : Cx) (env : Env) (σ : AS) (hp s : List AObj) (a : Nat) (X : AV) (v : Vn) (hlen : env.length = 52) (hcx : cx.esc = []) (f4 : Env.get env 4 = .ptr (.st a) 0) (hσ : σ = ⟨hp, s⟩) (ga : (AS.mk hp s).get (.st a) = some (.cells [X])) (h32 : callW Try.prog how 32 [.agg [X]] ⟨hp, s⟩ cx.ro = some (.agg [.int .i64 v.a, .int .u64 v.n, .str v.v, .bool v.g], ⟨hp, s⟩)) (hww : wok cx.ro (.st s.length) = true) (hhr : cx.h ≤ s.length) :
    Pc Try.prog how cx [2000006] 52 [10, 11, 12] (cr [.r, .l]) env σ (.normal) (AS.mk hp (s ++ [.cells [.int .i64 v.a, .int .u64 v.n, .str v.v, .bool v.g]])) (fun env' => Env.get env' 10 = .ptr (.st s.length) 0) := by
  refine pc_of fun res hr => ?_
  simp -implicitDefEqProofs [-lenA, -indexAddrA, AS.get_push_at, AS.get_push_old, AS.push_len, AS.set_st_len, AS.next_st', AS.set_push_at, AS.get_set_self, AS.get_set_other, cr, Try.f39, hlen, hcx, f4, hσ, ga, h32, hww, hhr] at hr
  subst hr
  refine ⟨_, rfl, by simp [hlen], by simp [Env.get_set, hlen, f4, hσ, ga, h32, hww, hhr], fun i hi => ?_⟩
  simp only [List.mem_cons, List.not_mem_nil, or_false, not_or] at hi
  simp only [get_set2, hi, false_and, if_false]

theorem rE1 (cx : Cx) (env : Env) (σ : AS) (a r w : Nat) (at_ : Int) (val : ByteArray) (gone : Bool) (X : AV) (v : Vn) (hlen : env.length = 52) (hcx : cx.esc = []) (f1 : Env.get env 1 = .int .i64 at_) (f2 : Env.get env 2 = .str val) (f3 : Env.get env 3 = .bool gone) (f4 : Env.get env 4 = .ptr (.st a) 0) (f8 : Env.get env 8 = .ptr (.st r) 0) (f10 : Env.get env 10 = .ptr (.st w) 0) (ga : σ.get (.st a) = some (.cells [X])) (gr : σ.get (.st r) = some (.cells [.nils])) (gw : σ.get (.st w) = some (.cells [.int .i64 v.a, .int .u64 v.n, .str v.v, .bool v.g])) (h58 : callW Try.prog how 58 [.agg [X]] σ cx.ro = some (.bool true, σ)) (hww : wok cx.ro (.st r) = true) (hhr : cx.h ≤ r) (q1 : at_ < 1) :
    Pc Try.prog how cx [2000006] 52 [9, 13, 14, 15, 16, 17, 18, 19, 20, 21, 22, 23, 24, 25, 26, 27, 28, 29, 30, 31, 32, 33, 34, 35, 36, 37, 38] (cr [.r, .r, .l]) env σ (.ret) (σ.set (.st r) (.cells [.nils])) (fun env' => Env.get env' 9 = .int .i64 1) := by
  refine pc_of fun res hr => ?_
  simp -implicitDefEqProofs [-lenA, -indexAddrA, AS.get_push_at, AS.get_push_old, AS.push_len, AS.set_st_len, AS.next_st', AS.set_push_at, AS.get_set_self, AS.get_set_other, cr, Try.f39, hlen, hcx, f1, f2, f3, f4, f8, f10, ga, gr, gw, h58, hww, hhr, q1] at hr
  subst hr
  refine ⟨_, rfl, by simp [hlen], by simp [Env.get_set, hlen, f1, f2, f3, f4, f8, f10, ga, gr, gw, h58, hww, hhr, q1], fun i hi => ?_⟩
  simp only [List.mem_cons, List.not_mem_nil, or_false, not_or] at hi
  simp only [get_set2, hi, false_and, if_false]

theorem rE2 (cx : Cx) (env : Env) (σ : AS) (a r w : Nat) (at_ : Int) (val : ByteArray) (gone : Bool) (X : AV) (v : Vn) (hlen : env.length = 52) (hcx : cx.esc = []) (f1 : Env.get env 1 = .int .i64 at_) (f2 : Env.get env 2 = .str val) (f3 : Env.get env 3 = .bool gone) (f4 : Env.get env 4 = .ptr (.st a) 0) (f8 : Env.get env 8 = .ptr (.st r) 0) (f10 : Env.get env 10 = .ptr (.st w) 0) (ga : σ.get (.st a) = some (.cells [X])) (gr : σ.get (.st r) = some (.cells [.nils])) (gw : σ.get (.st w) = some (.cells [.int .i64 v.a, .int .u64 v.n, .str v.v, .bool v.g])) (h58 : callW Try.prog how 58 [.agg [X]] σ cx.ro = some (.bool true, σ)) (hww : wok cx.ro (.st r) = true) (hhr : cx.h ≤ r) (q1 : ¬ at_ < 1) (q2 : at_ ≤ v.a) :
    Pc Try.prog how cx [2000006] 52 [9, 13, 14, 15, 16, 17, 18, 19, 20, 21, 22, 23, 24, 25, 26, 27, 28, 29, 30, 31, 32, 33, 34, 35, 36, 37, 38] (cr [.r, .r, .l]) env σ (.ret) (σ.set (.st r) (.cells [.nils])) (fun env' => Env.get env' 9 = .int .i64 1) := by
  refine pc_of fun res hr => ?_
  simp -implicitDefEqProofs [-lenA, -indexAddrA, AS.get_push_at, AS.get_push_old, AS.push_len, AS.set_st_len, AS.next_st', AS.set_push_at, AS.get_set_self, AS.get_set_other, cr, Try.f39, hlen, hcx, f1, f2, f3, f4, f8, f10, ga, gr, gw, h58, hww, hhr, q1, q2] at hr
  subst hr
  refine ⟨_, rfl, by simp [hlen], by simp [Env.get_set, hlen, f1, f2, f3, f4, f8, f10, ga, gr, gw, h58, hww, hhr, q1, q2], fun i hi => ?_⟩
  simp only [List.mem_cons, List.not_mem_nil, or_false, not_or] at hi
  simp only [get_set2, hi, false_and, if_false]

theorem rE3 (cx : Cx) (env : Env) (σ : AS) (a r w : Nat) (at_ : Int) (val : ByteArray) (gone : Bool) (X : AV) (v : Vn) (hlen : env.length = 52) (hcx : cx.esc = []) (f1 : Env.get env 1 = .int .i64 at_) (f2 : Env.get env 2 = .str val) (f3 : Env.get env 3 = .bool gone) (f4 : Env.get env 4 = .ptr (.st a) 0) (f8 : Env.get env 8 = .ptr (.st r) 0) (f10 : Env.get env 10 = .ptr (.st w) 0) (ga : σ.get (.st a) = some (.cells [X])) (gr : σ.get (.st r) = some (.cells [.nils])) (gw : σ.get (.st w) = some (.cells [.int .i64 v.a, .int .u64 v.n, .str v.v, .bool v.g])) (h58 : callW Try.prog how 58 [.agg [X]] σ cx.ro = some (.bool true, σ)) (hww : wok cx.ro (.st r) = true) (hhr : cx.h ≤ r) (q1 : ¬ at_ < 1) (q2 : ¬ at_ ≤ v.a) (h64 : callW Try.prog how 64 [.str val, .bool gone] σ cx.ro = some (.bool false, σ)) :
    Pc Try.prog how cx [2000006] 52 [9, 13, 14, 15, 16, 17, 18, 19, 20, 21, 22, 23, 24, 25, 26, 27, 28, 29, 30, 31, 32, 33, 34, 35, 36, 37, 38] (cr [.r, .r, .l]) env σ (.ret) (σ.set (.st r) (.cells [.nils])) (fun env' => Env.get env' 9 = .int .i64 1) := by
  refine pc_of fun res hr => ?_
  simp -implicitDefEqProofs [-lenA, -indexAddrA, AS.get_push_at, AS.get_push_old, AS.push_len, AS.set_st_len, AS.next_st', AS.set_push_at, AS.get_set_self, AS.get_set_other, cr, Try.f39, hlen, hcx, f1, f2, f3, f4, f8, f10, ga, gr, gw, h58, hww, hhr, q1, q2, h64] at hr
  subst hr
  refine ⟨_, rfl, by simp [hlen], by simp [Env.get_set, hlen, f1, f2, f3, f4, f8, f10, ga, gr, gw, h58, hww, hhr, q1, q2, h64], fun i hi => ?_⟩
  simp only [List.mem_cons, List.not_mem_nil, or_false, not_or] at hi
  simp only [get_set2, hi, false_and, if_false]

theorem rK (cx : Cx) (env : Env) (σ : AS) (a r w : Nat) (at_ : Int) (val : ByteArray) (gone : Bool) (X : AV) (v : Vn) (hlen : env.length = 52) (hcx : cx.esc = []) (f1 : Env.get env 1 = .int .i64 at_) (f2 : Env.get env 2 = .str val) (f3 : Env.get env 3 = .bool gone) (f4 : Env.get env 4 = .ptr (.st a) 0) (f8 : Env.get env 8 = .ptr (.st r) 0) (f10 : Env.get env 10 = .ptr (.st w) 0) (ga : σ.get (.st a) = some (.cells [X])) (gr : σ.get (.st r) = some (.cells [.nils])) (gw : σ.get (.st w) = some (.cells [.int .i64 v.a, .int .u64 v.n, .str v.v, .bool v.g])) (h58 : callW Try.prog how 58 [.agg [X]] σ cx.ro = some (.bool true, σ)) (hww : wok cx.ro (.st r) = true) (hhr : cx.h ≤ r) (q1 : ¬ at_ < 1) (q2 : ¬ at_ ≤ v.a) (h64 : callW Try.prog how 64 [.str val, .bool gone] σ cx.ro = some (.bool true, σ)) (q3 : ¬ v.n = 18446744073709551615) :
    Pc Try.prog how cx [2000006] 52 [13, 14, 15, 16, 17, 18, 19, 20, 21, 22, 23, 24, 25, 26, 27, 28, 29, 30, 31, 32, 34, 35, 36, 37] (cr [.r, .r, .l]) env σ (.normal) (σ) (fun _ => True) := by
  refine pc_of fun res hr => ?_
  simp -implicitDefEqProofs [-lenA, -indexAddrA, AS.get_push_at, AS.get_push_old, AS.push_len, AS.set_st_len, AS.next_st', AS.set_push_at, AS.get_set_self, AS.get_set_other, cr, Try.f39, hlen, hcx, f1, f2, f3, f4, f8, f10, ga, gr, gw, h58, hww, hhr, q1, q2, h64, q3] at hr
  subst hr
  refine ⟨_, rfl, by simp [hlen], by simp [Env.get_set, hlen, f1, f2, f3, f4, f8, f10, ga, gr, gw, h58, hww, hhr, q1, q2, h64, q3], fun i hi => ?_⟩
  simp only [List.mem_cons, List.not_mem_nil, or_false, not_or] at hi
  simp only [get_set2, hi, false_and, if_false]

noncomputable def mx_q : List Oper := opsOf (cr [.r, .r, .r, .l])
def mx_plan : List (Nat × List Nat) := [(0, []), (1, []), (5, [5]), (0, []), (0, []), (1, []), (0, []), (0, []), (0, []), (0, []), (3, [0]), (4, []), (0, []), (4, []), (0, [])]
theorem mx_reg : (cr [.r, .r, .r, .l]) = .region 6 mx_q.toArray true := by kernel_rfl
theorem mx_ok (h : Nat) (ro : Option Nat) : planOk Try.prog (Cx.mk h ro []) mx_q mx_plan = true := by kernel_rfl
theorem mx_lt : anyLT Try.prog mx_q = true := by kernel_rfl
theorem mx_room (h : Nat) (ro : Option Nat) : roomL Try.prog (Cx.mk h ro []) mx_q = 1 := by kernel_rfl
theorem mx (h : Nat) (ro : Option Nat) (hp s : List AObj) (env : Env) (a r w : Nat) (at_ : Int) (val : ByteArray) (gone : Bool) (X Y R : AV) (v : Vn) (hpA hpB sB : List AObj) (hlen : env.length = 52) (f1 : Env.get env 1 = .int .i64 at_) (f2 : Env.get env 2 = .str val) (f3 : Env.get env 3 = .bool gone) (f4 : Env.get env 4 = .ptr (.st a) 0) (f8 : Env.get env 8 = .ptr (.st r) 0) (f10 : Env.get env 10 = .ptr (.st w) 0) (hro0 : ro = none) (ga : ∀ hp, (AS.mk hp s).get (.st a) = some (.cells [X])) (gw : ∀ hp, (AS.mk hp s).get (.st w) = some (.cells [.int .i64 v.a, .int .u64 v.n, .str v.v, .bool v.g])) (hX : Plain X) (hbq : AV.beq X X = true) (h65 : callW Try.prog how 65 [X] ⟨hp, s⟩ none = some (Y, ⟨hpA, s⟩)) (hle : hp.length ≤ hpA.length) (hY1 : Y.one = true) (hY2 : ∀ n, Y.inb n = true) (gw2 : ∀ hp l, (AS.mk hp (s ++ l)).get (.st w) = some (.cells [.int .i64 v.a, .int .u64 v.n, .str v.v, .bool v.g])) (hw : wr .u64 (v.n + 1) = v.n + 1) (hap : appendA Try.prog (Cx.mk h none []) ⟨hpA, s ++ [.row [.agg [.int .i64 at_, .int .u64 (v.n + 1), .str val, .bool gone]] 4 0 false]⟩ [72, 72] Y (.row (.st s.length) 0 0 1) = some (R, ⟨hpB, sB⟩)) (hR1 : R.one = true) (hR2 : R.cells = [R]) (grB : (AS.mk hpB sB).get (.st r) = some (.cells [.nils])) (hhr : h ≤ r) :
    Pc Try.prog how (Cx.mk h ro []) [2000006] 52 [9, 39, 40, 41, 42, 43, 44, 45, 46, 47, 48, 49, 50, 51] (cr [.r, .r, .r, .l]) env ⟨hp, s⟩ .normal ⟨hpB, sB.set r (.cells [R])⟩ (fun env' => Env.get env' 9 = .int .i64 0) := by
  refine pc_of fun res hr => ?_
  have hroom := mx_room h ro
  rw [mx_reg, execW_region_eq] at hr
  rw [show (mx_q.toArray).toList = mx_q from rfl, regionA_mix rfl rfl] at hr
  generalize h1 : mixL Try.prog (Cx.mk h ro []) (callW Try.prog how) ⟨hp, s⟩ mx_q true none (mx_q.zip mx_plan) env (layL Try.prog (Cx.mk h ro []) ⟨hp, s⟩ mx_q) = r1 at *
  have h1' := h1
  rw [layL1 hroom] at h1'
  simp -implicitDefEqProofs [mx_plan, -lenA, -indexAddrA, mx_q, cr, Try.f39, hlen, f1, f2, f3, f4, f8, f10, hro0, ga, gw, hX.one, hX.inb, hX.row, hbq, h65, hle, hY1, hY2, gw2, hw, hap, hR1, hR2, grB, hhr, AS.set, elemA, noHp, newHp, isNew, escNew] at h1'
  subst h1'
  rw [mixA_plan2 (mx_ok h ro) mx_lt h1, layL1 hroom] at hr
  simp -implicitDefEqProofs [mx_plan, -lenA, -indexAddrA, mx_q, cr, Try.f39, hlen, f1, f2, f3, f4, f8, f10, hro0, ga, gw, hX.one, hX.inb, hX.row, hbq, h65, hle, hY1, hY2, gw2, hw, hap, hR1, hR2, grB, hhr, AS.set, elemA, noHp, newHp, isNew, escNew] at hr
  subst hr
  refine ⟨_, rfl, by simp [hlen], by simp [Env.get_set, hlen, f1, f2, f3, f4, f8, f10, hro0, ga, gw, hX.one, hX.inb, hX.row, hbq, h65, hle, hY1, hY2, gw2, hw, hap, hR1, hR2, grB, hhr, AS.set, elemA, noHp, newHp, isNew, escNew], fun i hi => ?_⟩
  simp only [List.mem_cons, List.not_mem_nil, or_false, not_or] at hi
  simp only [get_set2, hi, false_and, if_false]

end
noncomputable def bodyC : Code := (.seq (cr [.l]) (.seq (cr [.r, .l]) (.seq (cr [.r, .r, .l]) (.seq (cr [.r, .r, .r, .l]) .ret))))
theorem body : Try.f39.body = some bodyC := by kernel_rfl
theorem ok (hp s : List AObj) (L : List Vn) (a : Int) (val : ByteArray) (gone : Bool) (hG : GoodO L) (hsz : val.size ≤ 9223372036854775807) :
    (badPut L a val gone = true ∧ callW Try.prog how 39 [.agg [slV 4 (L.map encVn)], .int .i64 a, .str val, .bool gone] ⟨hp, s⟩ none = some (.tup [.agg [.nils], .int .i64 1], ⟨hp, s⟩)) ∨
    (badPut L a val gone = false ∧ ∃ Y hp2, callW Try.prog how 39 [.agg [slV 4 (L.map encVn)], .int .i64 a, .str val, .bool gone] ⟨hp, s⟩ none = some (.tup [.agg [Y], .int .i64 0], ⟨hp2, s⟩) ∧ PutY hp hp2 Y ((L ++ [newV L a val gone]).map encVn)) := by
  let cx : Cx := { h := s.length, ro := none, esc := [] }
  have hcx : cx.esc = [] := rfl
  have hro : ∀ k, cx.ro = some k → k ≤ cx.h := fun k hk => by cases hk
  obtain ⟨env, henv⟩ : ∃ e, e = frameA Try.f39 [.agg [slV 4 (L.map encVn)], .int .i64 a, .str val, .bool gone] := ⟨_, rfl⟩
  have hlen : env.length = 52 := by rw [henv]; rfl
  have f0 : Env.get env 0 = .agg [slV 4 (L.map encVn)] := by rw [henv]; rfl
  have f1 : Env.get env 1 = .int .i64 a := by rw [henv]; rfl
  have f2 : Env.get env 2 = .str val := by rw [henv]; rfl
  have f3 : Env.get env 3 = .bool gone := by rw [henv]; rfl
  have ho : Outside s.length (AS.mk hp s) (AS.mk hp s) := Outside.refl (Nat.le_refl _)
  obtain ⟨env1, x1a, x1b, x1c, x1d⟩ := rA cx env (AS.mk hp s) hp s (slV 4 (L.map encVn)) hlen hcx f0 rfl slV_plain rfl (Nat.le_refl _)
  have f0 := (x1d 0 (by decide)).trans f0
  have f1 := (x1d 1 (by decide)).trans f1
  have f2 := (x1d 2 (by decide)).trans f2
  have f3 := (x1d 3 (by decide)).trans f3
  have f4 := x1c.1
  have f8 := x1c.2.1
  have f9 := x1c.2.2
  have ga : (AS.mk hp (s ++ [AObj.cells [slV 4 (L.map encVn)], AObj.cells [.nils]])).get (.st s.length) = some (.cells [slV 4 (L.map encVn)]) := by simp [AS.get]
  obtain ⟨env2, x2a, x2b, x2c, x2d⟩ := rB cx env1 (AS.mk hp (s ++ [.cells [slV 4 (L.map encVn)], .cells [.nils]])) hp (s ++ [AObj.cells [slV 4 (L.map encVn)], AObj.cells [.nils]]) s.length (slV 4 (L.map encVn)) ((lastV L)) x1b hcx f4 rfl ga (f32_ok hp (s ++ [AObj.cells [slV 4 (L.map encVn)], AObj.cells [.nils]]) none L (fun k hk => by cases hk) hG) rfl (by show s.length ≤ _; simp) 
  have f0 := (x2d 0 (by decide)).trans f0
  have f1 := (x2d 1 (by decide)).trans f1
  have f2 := (x2d 2 (by decide)).trans f2
  have f3 := (x2d 3 (by decide)).trans f3
  have f4 := (x2d 4 (by decide)).trans f4
  have f8 := (x2d 8 (by decide)).trans f8
  have f9 := (x2d 9 (by decide)).trans f9
  have f10 := x2c
  have e2 : (s ++ [AObj.cells [slV 4 (L.map encVn)], AObj.cells [.nils]]) ++ [AObj.cells [.int .i64 (lastV L).a, .int .u64 (lastV L).n, .str (lastV L).v, .bool (lastV L).g]] = s ++ [AObj.cells [slV 4 (L.map encVn)], AObj.cells [.nils], AObj.cells [.int .i64 (lastV L).a, .int .u64 (lastV L).n, .str (lastV L).v, .bool (lastV L).g]] := by simp
  rw [e2] at x2a
  have e3 : (s ++ [AObj.cells [slV 4 (L.map encVn)], AObj.cells [.nils]]).length = s.length + 2 := by simp
  rw [e3] at f10
  clear ga
  have ga : ∀ hp, (AS.mk hp (s ++ [AObj.cells [slV 4 (L.map encVn)], AObj.cells [.nils], AObj.cells [.int .i64 (lastV L).a, .int .u64 (lastV L).n, .str (lastV L).v, .bool (lastV L).g]])).get (.st s.length) = some (.cells [slV 4 (L.map encVn)]) := by intro hp; simp [AS.get]
  have gr : ∀ hp, (AS.mk hp (s ++ [AObj.cells [slV 4 (L.map encVn)], AObj.cells [.nils], AObj.cells [.int .i64 (lastV L).a, .int .u64 (lastV L).n, .str (lastV L).v, .bool (lastV L).g]])).get (.st (s.length + 1)) = some (.cells [.nils]) := by intro hp; simp [AS.get]
  have gw : ∀ hp, (AS.mk hp (s ++ [AObj.cells [slV 4 (L.map encVn)], AObj.cells [.nils], AObj.cells [.int .i64 (lastV L).a, .int .u64 (lastV L).n, .str (lastV L).v, .bool (lastV L).g]])).get (.st (s.length + 2)) = some (.cells [.int .i64 (lastV L).a, .int .u64 (lastV L).n, .str (lastV L).v, .bool (lastV L).g]) := by intro hp; simp [AS.get]
  have h58 := F58.ok hp (s ++ [AObj.cells [slV 4 (L.map encVn)], AObj.cells [.nils], AObj.cells [.int .i64 (lastV L).a, .int .u64 (lastV L).n, .str (lastV L).v, .bool (lastV L).g]]) none L (fun k hk => by cases hk) hG
  have h64 := f64_ok hp (s ++ [AObj.cells [slV 4 (L.map encVn)], AObj.cells [.nils], AObj.cells [.int .i64 (lastV L).a, .int .u64 (lastV L).n, .str (lastV L).v, .bool (lastV L).g]]) none val gone (fun k hk => by cases hk) hsz
  have gs : (AS.mk hp (s ++ [AObj.cells [slV 4 (L.map encVn)], AObj.cells [.nils], AObj.cells [.int .i64 (lastV L).a, .int .u64 (lastV L).n, .str (lastV L).v, .bool (lastV L).g]])).set (.st (s.length + 1)) (.cells [.nils]) = AS.mk hp ((s ++ [AObj.cells [slV 4 (L.map encVn)], AObj.cells [.nils], AObj.cells [.int .i64 (lastV L).a, .int .u64 (lastV L).n, .str (lastV L).v, .bool (lastV L).g]]).set (s.length + 1) (.cells [.nils])) := rfl
  by_cases q1 : a < 1
  · skip
    obtain ⟨env3, x3a, x3b, x3c, x3d⟩ := rE1 cx env2 (AS.mk hp (s ++ [AObj.cells [slV 4 (L.map encVn)], AObj.cells [.nils], AObj.cells [.int .i64 (lastV L).a, .int .u64 (lastV L).n, .str (lastV L).v, .bool (lastV L).g]])) s.length ((s.length + 1)) ((s.length + 2)) a val gone (slV 4 (L.map encVn)) ((lastV L)) x2b hcx f1 f2 f3 f4 f8 f10 (ga _) (gr _) (gw _) h58 rfl (Nat.le_add_right _ _) q1 
    have f0 := (x3d 0 (by decide)).trans f0
    have f1 := (x3d 1 (by decide)).trans f1
    have f2 := (x3d 2 (by decide)).trans f2
    have f3 := (x3d 3 (by decide)).trans f3
    have f4 := (x3d 4 (by decide)).trans f4
    have f8 := (x3d 8 (by decide)).trans f8
    have f10 := (x3d 10 (by decide)).trans f10
    have f9 := x3c
    exact .inl ⟨by unfold badPut; rw [decide_eq_true q1]; rfl, call_of (fl := { tails := [2000006] }) (fn := Try.f39) (c := bodyC) (env := env) (e := (.ret, (env3, (AS.mk hp (s ++ [AObj.cells [slV 4 (L.map encVn)], AObj.cells [.nils], AObj.cells [.int .i64 (lastV L).a, .int .u64 (lastV L).n, .str (lastV L).v, .bool (lastV L).g]])).set (.st (s.length + 1)) (.cells [.nils])))) rfl Try.func39 body henv (by unfold bodyC; exact (execW_seq_of x1a (execW_seq_of x2a (execW_seq_ret x3a)))) ((fin_two (v := .agg [.nils]) (v' := .int .i64 1) (.inl rfl) rfl (by simp [resA, Try.f39, f8, f9, gs, loadA, partA, AS.get, aggA, isAggD]) (by simp [AV.back, AVs.back]; rfl) (by simp [AV.inb, AVs.inb])).trans (by simp [gs]))⟩
  by_cases q2 : a ≤ (lastV L).a
  · skip
    obtain ⟨env3, x3a, x3b, x3c, x3d⟩ := rE2 cx env2 (AS.mk hp (s ++ [AObj.cells [slV 4 (L.map encVn)], AObj.cells [.nils], AObj.cells [.int .i64 (lastV L).a, .int .u64 (lastV L).n, .str (lastV L).v, .bool (lastV L).g]])) s.length ((s.length + 1)) ((s.length + 2)) a val gone (slV 4 (L.map encVn)) ((lastV L)) x2b hcx f1 f2 f3 f4 f8 f10 (ga _) (gr _) (gw _) h58 rfl (Nat.le_add_right _ _) q1 q2 
    have f0 := (x3d 0 (by decide)).trans f0
    have f1 := (x3d 1 (by decide)).trans f1
    have f2 := (x3d 2 (by decide)).trans f2
    have f3 := (x3d 3 (by decide)).trans f3
    have f4 := (x3d 4 (by decide)).trans f4
    have f8 := (x3d 8 (by decide)).trans f8
    have f10 := (x3d 10 (by decide)).trans f10
    have f9 := x3c
    exact .inl ⟨by unfold badPut; rw [decide_eq_true q2, Bool.true_or, Bool.or_true], call_of (fl := { tails := [2000006] }) (fn := Try.f39) (c := bodyC) (env := env) (e := (.ret, (env3, (AS.mk hp (s ++ [AObj.cells [slV 4 (L.map encVn)], AObj.cells [.nils], AObj.cells [.int .i64 (lastV L).a, .int .u64 (lastV L).n, .str (lastV L).v, .bool (lastV L).g]])).set (.st (s.length + 1)) (.cells [.nils])))) rfl Try.func39 body henv (by unfold bodyC; exact (execW_seq_of x1a (execW_seq_of x2a (execW_seq_ret x3a)))) ((fin_two (v := .agg [.nils]) (v' := .int .i64 1) (.inl rfl) rfl (by simp [resA, Try.f39, f8, f9, gs, loadA, partA, AS.get, aggA, isAggD]) (by simp [AV.back, AVs.back]; rfl) (by simp [AV.inb, AVs.inb])).trans (by simp [gs]))⟩
  cases q3 : mayV val gone with
  | false =>
    rw [q3] at h64
    obtain ⟨env3, x3a, x3b, x3c, x3d⟩ := rE3 cx env2 (AS.mk hp (s ++ [AObj.cells [slV 4 (L.map encVn)], AObj.cells [.nils], AObj.cells [.int .i64 (lastV L).a, .int .u64 (lastV L).n, .str (lastV L).v, .bool (lastV L).g]])) s.length ((s.length + 1)) ((s.length + 2)) a val gone (slV 4 (L.map encVn)) ((lastV L)) x2b hcx f1 f2 f3 f4 f8 f10 (ga _) (gr _) (gw _) h58 rfl (Nat.le_add_right _ _) q1 q2 h64 
    have f0 := (x3d 0 (by decide)).trans f0
    have f1 := (x3d 1 (by decide)).trans f1
    have f2 := (x3d 2 (by decide)).trans f2
    have f3 := (x3d 3 (by decide)).trans f3
    have f4 := (x3d 4 (by decide)).trans f4
    have f8 := (x3d 8 (by decide)).trans f8
    have f10 := (x3d 10 (by decide)).trans f10
    have f9 := x3c
    exact .inl ⟨by unfold badPut; rw [q3, Bool.not_false, Bool.or_true, Bool.or_true], call_of (fl := { tails := [2000006] }) (fn := Try.f39) (c := bodyC) (env := env) (e := (.ret, (env3, (AS.mk hp (s ++ [AObj.cells [slV 4 (L.map encVn)], AObj.cells [.nils], AObj.cells [.int .i64 (lastV L).a, .int .u64 (lastV L).n, .str (lastV L).v, .bool (lastV L).g]])).set (.st (s.length + 1)) (.cells [.nils])))) rfl Try.func39 body henv (by unfold bodyC; exact (execW_seq_of x1a (execW_seq_of x2a (execW_seq_ret x3a)))) ((fin_two (v := .agg [.nils]) (v' := .int .i64 1) (.inl rfl) rfl (by simp [resA, Try.f39, f8, f9, gs, loadA, partA, AS.get, aggA, isAggD]) (by simp [AV.back, AVs.back]; rfl) (by simp [AV.inb, AVs.inb])).trans (by simp [gs]))⟩
  | true =>
    rw [q3] at h64
    have hln : 0 ≤ (lastV L).n ∧ (lastV L).n ≤ 1000 := lastV_n hG
    obtain ⟨env3, x3a, x3b, x3c, x3d⟩ := rK cx env2 (AS.mk hp (s ++ [AObj.cells [slV 4 (L.map encVn)], AObj.cells [.nils], AObj.cells [.int .i64 (lastV L).a, .int .u64 (lastV L).n, .str (lastV L).v, .bool (lastV L).g]])) s.length ((s.length + 1)) ((s.length + 2)) a val gone (slV 4 (L.map encVn)) ((lastV L)) x2b hcx f1 f2 f3 f4 f8 f10 (ga _) (gr _) (gw _) h58 rfl (Nat.le_add_right _ _) q1 q2 h64 (by omega) 
    have f0 := (x3d 0 (by decide)).trans f0
    have f1 := (x3d 1 (by decide)).trans f1
    have f2 := (x3d 2 (by decide)).trans f2
    have f3 := (x3d 3 (by decide)).trans f3
    have f4 := (x3d 4 (by decide)).trans f4
    have f8 := (x3d 8 (by decide)).trans f8
    have f9 := (x3d 9 (by decide)).trans f9
    have f10 := (x3d 10 (by decide)).trans f10
    have hbp : badPut L a val gone = false := by unfold badPut; rw [decide_eq_false q1, decide_eq_false q2, q3]; rfl
    refine .inr ⟨hbp, ?_⟩
    have hL3 := hG.len
    have gw2 : ∀ (hp l : List AObj), (AS.mk hp ((s ++ [AObj.cells [slV 4 (L.map encVn)], AObj.cells [.nils], AObj.cells [.int .i64 (lastV L).a, .int .u64 (lastV L).n, .str (lastV L).v, .bool (lastV L).g]]) ++ l)).get (.st (s.length + 2)) = some (.cells [.int .i64 (lastV L).a, .int .u64 (lastV L).n, .str (lastV L).v, .bool (lastV L).g]) := by intro hp l; simp [AS.get]
    have grB : ∀ (hp l : List AObj), (AS.mk hp ((s ++ [AObj.cells [slV 4 (L.map encVn)], AObj.cells [.nils], AObj.cells [.int .i64 (lastV L).a, .int .u64 (lastV L).n, .str (lastV L).v, .bool (lastV L).g]]) ++ l)).get (.st (s.length + 1)) = some (.cells [.nils]) := by intro hp l; simp [AS.get]
    have gn : ∀ hp, (AS.mk hp ((s ++ [AObj.cells [slV 4 (L.map encVn)], AObj.cells [.nils], AObj.cells [.int .i64 (lastV L).a, .int .u64 (lastV L).n, .str (lastV L).v, .bool (lastV L).g]]) ++ [.row [encVn (newV L a val gone)] 4 0 false])).get (.st (s ++ [AObj.cells [slV 4 (L.map encVn)], AObj.cells [.nils], AObj.cells [.int .i64 (lastV L).a, .int .u64 (lastV L).n, .str (lastV L).v, .bool (lastV L).g]]).length) = some (.row [encVn (newV L a val gone)] 4 0 false) := by intro hp; simp [AS.get]
    rcases Classical.em (L = []) with rfl | hL
    · skip
      have h65 := f65_nil hp (s ++ [AObj.cells [slV 4 (([] : List Vn).map encVn)], AObj.cells [.nils], AObj.cells [.int .i64 (lastV []).a, .int .u64 (lastV []).n, .str (lastV []).v, .bool (lastV []).g]])
      have hap := app72n (Cx.mk s.length none []) hp ((s ++ [AObj.cells [slV 4 (([] : List Vn).map encVn)], AObj.cells [.nils], AObj.cells [.int .i64 (lastV []).a, .int .u64 (lastV []).n, .str (lastV []).v, .bool (lastV []).g]]) ++ [.row [encVn (newV [] a val gone)] 4 0 false]) (encVn (newV [] a val gone)) (s ++ [AObj.cells [slV 4 (([] : List Vn).map encVn)], AObj.cells [.nils], AObj.cells [.int .i64 (lastV []).a, .int .u64 (lastV []).n, .str (lastV []).v, .bool (lastV []).g]]).length (gn hp)
      obtain ⟨env4, x4a, x4b, x4c, x4d⟩ := mx s.length none hp (s ++ [AObj.cells [slV 4 (([] : List Vn).map encVn)], AObj.cells [.nils], AObj.cells [.int .i64 (lastV []).a, .int .u64 (lastV []).n, .str (lastV []).v, .bool (lastV []).g]]) env3 s.length ((s.length + 1)) ((s.length + 2)) a val gone (slV 4 (([] : List Vn).map encVn)) .nils ((.row (.st ((s ++ [AObj.cells [slV 4 (([] : List Vn).map encVn)], AObj.cells [.nils], AObj.cells [.int .i64 (lastV []).a, .int .u64 (lastV []).n, .str (lastV []).v, .bool (lastV []).g]]) ++ [AObj.row [encVn (newV [] a val gone)] 4 0 false]).length) 0 0 1)) ((lastV [])) hp hp (((s ++ [AObj.cells [slV 4 (([] : List Vn).map encVn)], AObj.cells [.nils], AObj.cells [.int .i64 (lastV []).a, .int .u64 (lastV []).n, .str (lastV []).v, .bool (lastV []).g]]) ++ [AObj.row [encVn (newV [] a val gone)] 4 0 false] ++ [AObj.row [encVn (newV [] a val gone)] 4 0 false])) x3b f1 f2 f3 f4 f8 f10 rfl ga gw slV_plain (slV_beq []) h65 (Nat.le_refl _) rfl (fun n => rfl) gw2 (wr_u64 (by omega) (by omega)) hap rfl rfl (by rw [List.append_assoc]; exact grB _ _) (Nat.le_add_right _ _)
      have f0 := (x4d 0 (by decide)).trans f0
      have f1 := (x4d 1 (by decide)).trans f1
      have f2 := (x4d 2 (by decide)).trans f2
      have f3 := (x4d 3 (by decide)).trans f3
      have f4 := (x4d 4 (by decide)).trans f4
      have f8 := (x4d 8 (by decide)).trans f8
      have f10 := (x4d 10 (by decide)).trans f10
      have f9 := x4c
      exact ⟨.sl false 4 [encVn (newV [] a val gone)], hp, call_of (fl := { tails := [2000006] }) (fn := Try.f39) (c := bodyC) (env := env) (e := (.ret, (env4, AS.mk hp (((s ++ [AObj.cells [slV 4 (([] : List Vn).map encVn)], AObj.cells [.nils], AObj.cells [.int .i64 (lastV []).a, .int .u64 (lastV []).n, .str (lastV []).v, .bool (lastV []).g]]) ++ [AObj.row [encVn (newV [] a val gone)] 4 0 false] ++ [AObj.row [encVn (newV [] a val gone)] 4 0 false]).set (s.length + 1) (.cells [.row (.st ((s ++ [AObj.cells [slV 4 (([] : List Vn).map encVn)], AObj.cells [.nils], AObj.cells [.int .i64 (lastV []).a, .int .u64 (lastV []).n, .str (lastV []).v, .bool (lastV []).g]]) ++ [AObj.row [encVn (newV [] a val gone)] 4 0 false]).length) 0 0 1]))))) rfl Try.func39 body henv (by unfold bodyC; exact (execW_seq_of x1a (execW_seq_of x2a (execW_seq_of x3a (execW_seq_of x4a (by rfl)))))) ((fin_two (v := .agg [.row (.st ((s ++ [AObj.cells [slV 4 (([] : List Vn).map encVn)], AObj.cells [.nils], AObj.cells [.int .i64 (lastV []).a, .int .u64 (lastV []).n, .str (lastV []).v, .bool (lastV []).g]]) ++ [AObj.row [encVn (newV [] a val gone)] 4 0 false]).length) 0 0 1]) (v' := .int .i64 0) (w := .tup [.agg [.sl false 4 [encVn (newV [] a val gone)]], .int .i64 0]) (.inl rfl) rfl (by simp [resA, Try.f39, f8, f9, loadA, partA, AS.get, aggA, isAggD]) (by simp [AV.back, AVs.back, show ¬ s.length + 4 < s.length by omega]) (by simp [AV.inb, AVs.inb])).trans (by simp)), .inl ⟨rfl, rfl⟩⟩
    · skip
      have hXe : slV 4 (L.map encVn) = .sl false 4 (L.map encVn) := by cases L with | nil => exact absurd rfl hL | cons x l => rfl
      have hne : ((L.map encVn)).isEmpty = false := by cases L with | nil => exact absurd rfl hL | cons x l => rfl
      have h65 := f65_sl hp (s ++ [AObj.cells [slV 4 (L.map encVn)], AObj.cells [.nils], AObj.cells [.int .i64 (lastV L).a, .int .u64 (lastV L).n, .str (lastV L).v, .bool (lastV L).g]]) false (L.map encVn) (by simp; omega)
      rw [← hXe] at h65
      simp only [clR, clO, hne, Bool.false_eq_true, if_false] at h65
      have hap := app72b (Cx.mk s.length none []) rfl hp ((s ++ [AObj.cells [slV 4 (L.map encVn)], AObj.cells [.nils], AObj.cells [.int .i64 (lastV L).a, .int .u64 (lastV L).n, .str (lastV L).v, .bool (lastV L).g]]) ++ [.row [encVn (newV L a val gone)] 4 0 false]) (L.map encVn) (encVn (newV L a val gone)) (s ++ [AObj.cells [slV 4 (L.map encVn)], AObj.cells [.nils], AObj.cells [.int .i64 (lastV L).a, .int .u64 (lastV L).n, .str (lastV L).v, .bool (lastV L).g]]).length (by simp; omega) (gn _)
      obtain ⟨env4, x4a, x4b, x4c, x4d⟩ := mx s.length none hp (s ++ [AObj.cells [slV 4 (L.map encVn)], AObj.cells [.nils], AObj.cells [.int .i64 (lastV L).a, .int .u64 (lastV L).n, .str (lastV L).v, .bool (lastV L).g]]) env3 s.length ((s.length + 1)) ((s.length + 2)) a val gone (slV 4 (L.map encVn)) _ ((.row (.hp hp.length) 2 0 ((L.map encVn).length + 1))) ((lastV L)) _ ((hp ++ [AObj.row ((L.map encVn) ++ [encVn (newV L a val gone)]) 4 2 false])) (((s ++ [AObj.cells [slV 4 (L.map encVn)], AObj.cells [.nils], AObj.cells [.int .i64 (lastV L).a, .int .u64 (lastV L).n, .str (lastV L).v, .bool (lastV L).g]]) ++ [AObj.row [encVn (newV L a val gone)] 4 0 false])) x3b f1 f2 f3 f4 f8 f10 rfl ga gw slV_plain (slV_beq L) h65 (by simp) rfl (fun n => rfl) gw2 (wr_u64 (by omega) (by omega)) hap rfl rfl (grB _ _) (Nat.le_add_right _ _)
      have f0 := (x4d 0 (by decide)).trans f0
      have f1 := (x4d 1 (by decide)).trans f1
      have f2 := (x4d 2 (by decide)).trans f2
      have f3 := (x4d 3 (by decide)).trans f3
      have f4 := (x4d 4 (by decide)).trans f4
      have f8 := (x4d 8 (by decide)).trans f8
      have f10 := (x4d 10 (by decide)).trans f10
      have f9 := x4c
      exact ⟨.row (.hp hp.length) 2 0 ((L.map encVn).length + 1), hp ++ [AObj.row ((L.map encVn) ++ [encVn (newV L a val gone)]) 4 2 false], call_of (fl := { tails := [2000006] }) (fn := Try.f39) (c := bodyC) (env := env) (e := (.ret, (env4, AS.mk (hp ++ [AObj.row ((L.map encVn) ++ [encVn (newV L a val gone)]) 4 2 false]) (((s ++ [AObj.cells [slV 4 (L.map encVn)], AObj.cells [.nils], AObj.cells [.int .i64 (lastV L).a, .int .u64 (lastV L).n, .str (lastV L).v, .bool (lastV L).g]]) ++ [AObj.row [encVn (newV L a val gone)] 4 0 false]).set (s.length + 1) (.cells [.row (.hp hp.length) 2 0 ((L.map encVn).length + 1)]))))) rfl Try.func39 body henv (by unfold bodyC; exact (execW_seq_of x1a (execW_seq_of x2a (execW_seq_of x3a (execW_seq_of x4a (by rfl)))))) ((fin_two (v := .agg [.row (.hp hp.length) 2 0 ((L.map encVn).length + 1)]) (v' := .int .i64 0) (w := .tup [.agg [.row (.hp hp.length) 2 0 ((L.map encVn).length + 1)], .int .i64 0]) (.inl rfl) rfl (by simp [resA, Try.f39, f8, f9, loadA, partA, AS.get, aggA, isAggD]) (by simp [AV.back, AVs.back]) (by simp [AV.inb, AVs.inb, Loc.inb])).trans (by simp)), .inr ⟨by simp, by simp⟩⟩
end F39
