/- One call of both spaces: they answer alike, and stay alike. -/

import Derived.Test.YtajoebiaopapoaaCy
open Go Go.Abs Go.Proofs
set_option maxRecDepth 100000
set_option maxHeartbeats 4000000
set_option linter.unusedSimpArgs false
set_option linter.unusedVariables false

namespace F8
noncomputable def cr (p : List Dir) : Code := sub p (bodyOf Try.f8)

section
attribute [local simp] ofV ofCell ofCells seqA_nil seqA_cons seqVK_eq seqEK_eq wantedA yieldedA isVal effA ev evs evps putE optsA optsOk valA fieldAddrA fieldA loadA partA aggA isAggD buildA placesA fillA lay storeA AV.withCells buildSliceA elemsA rowParts fzL promL okE isSrc bytesOk pushA cxOf lenA binA intBinA strBinA unA indexAddrA eqA AVs.inb AV.inb Loc.inb calleeA opsOf sub bodyOf Env.get_set quietA_nil quietA_cons quietK_none quietK_some qstep newA isNew escNew boxOk newLoc flat rowPartsQ quietN quietOp isBS List.takeWhile finishA_eq finK_ret finK_normal retK backK resA oneA AV.back AVs.back execW_seq_eq seqK_normal seqK_ret seqK_exit execW_cond_eq condK_true condK_false execW_block_eq blockK_exit blockK_normal blockK_ret execW_region_eq regK_eq execW_skip execW_exit execW_ret regionA_plain regionA_quiet0 tailK_eq nilCheckA guardOk isConst lookupA keyFits mapUpdateA beqI bneI mixL_nil mixL_cons mixK_eq tK_pre tK_eq vK_eq stepL_0 stepL_1n stepL_1s stepL_2 stepL_3 stepL_4 stepL_5 cutCall newL tchkL agreeB Op.operands sameO truncM beq_bool beq_int beq_str beq_nilp beq_ptr beq_eptr beq_nils beq_row beq_nilm beq_map beq_agg beq_sl beqs_nil beqs_cons
theorem rA (cx : Cx) (env : Env) (σ : AS) (hp s : List AObj) (c0 at_ : Int) (key val : ByteArray) (gone : Bool) (hlen : env.length = 71) (hcx : cx.esc = []) (f2 : Env.get env 2 = .agg [.int .i64 c0, .str key, .int .i64 at_, .str val, .bool gone]) (hσ : σ = ⟨hp, s⟩) (hww : wok cx.ro (.st s.length) = true) (hhr : cx.h ≤ s.length) :
    Pc Try.prog how cx [2000010] 71 [5, 6] (cr [.l]) env σ (.normal) (AS.mk hp (s ++ [.cells [.int .i64 c0, .str key, .int .i64 at_, .str val, .bool gone]])) (fun env' => Env.get env' 5 = .ptr (.st s.length) 0 ∧ Env.get env' 6 = .bool false) := by
  refine pc_of fun res hr => ?_
  simp -implicitDefEqProofs [AS.get_push_at, AS.get_push_old, AS.push_len, AS.set_st_len, AS.next_st', AS.set_push_at, AS.get_set_self, AS.get_set_other, cr, Try.f8, hlen, hcx, f2, hσ, hww, hhr] at hr
  subst hr
  refine ⟨_, rfl, by simp [hlen], by simp [Env.get_set, hlen, f2, hσ, hww, hhr], fun i hi => ?_⟩
  simp only [List.mem_cons, List.not_mem_nil, or_false, not_or] at hi
  simp only [get_set2, hi, false_and, if_false]

theorem rB0 (cx : Cx) (env : Env) (σ : AS) (c : Nat) (c0 at_ : Int) (key val : ByteArray) (gone : Bool) (hlen : env.length = 71) (hcx : cx.esc = []) (f5 : Env.get env 5 = .ptr (.st c) 0) (gc : σ.get (.st c) = some (.cells [.int .i64 c0, .str key, .int .i64 at_, .str val, .bool gone])) (q : ¬ (40 : Int) < (key.size : Int)) :
    Pc Try.prog how cx [2000010] 71 [7, 8, 9, 10] (cr [.r, .l]) env σ (.normal) (σ) (fun _ => True) := by
  refine pc_of fun res hr => ?_
  simp -implicitDefEqProofs [AS.get_push_at, AS.get_push_old, AS.push_len, AS.set_st_len, AS.next_st', AS.set_push_at, AS.get_set_self, AS.get_set_other, cr, Try.f8, hlen, hcx, f5, gc, q] at hr
  subst hr
  refine ⟨_, rfl, by simp [hlen], by simp [Env.get_set, hlen, f5, gc, q], fun i hi => ?_⟩
  simp only [List.mem_cons, List.not_mem_nil, or_false, not_or] at hi
  simp only [get_set2, hi, false_and, if_false]

theorem rB1 (cx : Cx) (env : Env) (σ : AS) (c : Nat) (c0 at_ : Int) (key val : ByteArray) (gone : Bool) (k2 : ByteArray) (hlen : env.length = 71) (hcx : cx.esc = []) (f5 : Env.get env 5 = .ptr (.st c) 0) (gc : σ.get (.st c) = some (.cells [.int .i64 c0, .str key, .int .i64 at_, .str val, .bool gone])) (q : (40 : Int) < (key.size : Int)) (hsl : sliceA Try.prog σ 9 (.str key) none (some (.int .i64 40)) none = some (.str k2)) (hww : wok cx.ro (.st c) = true) (hhr : cx.h ≤ c) :
    Pc Try.prog how cx [2000010] 71 [7, 8, 9, 10, 11, 12, 13, 14] (cr [.r, .l]) env σ (.normal) (σ.set (.st c) (.cells [.int .i64 c0, .str k2, .int .i64 at_, .str val, .bool gone])) (fun _ => True) := by
  refine pc_of fun res hr => ?_
  simp -implicitDefEqProofs [AS.get_push_at, AS.get_push_old, AS.push_len, AS.set_st_len, AS.next_st', AS.set_push_at, AS.get_set_self, AS.get_set_other, cr, Try.f8, hlen, hcx, f5, gc, q, hsl, hww, hhr] at hr
  subst hr
  refine ⟨_, rfl, by simp [hlen], by simp [Env.get_set, hlen, f5, gc, q, hsl, hww, hhr], fun i hi => ?_⟩
  simp only [List.mem_cons, List.not_mem_nil, or_false, not_or] at hi
  simp only [get_set2, hi, false_and, if_false]

theorem rC0 (cx : Cx) (env : Env) (σ : AS) (c : Nat) (c0 at_ : Int) (key val : ByteArray) (gone : Bool) (hlen : env.length = 71) (hcx : cx.esc = []) (f5 : Env.get env 5 = .ptr (.st c) 0) (gc : σ.get (.st c) = some (.cells [.int .i64 c0, .str key, .int .i64 at_, .str val, .bool gone])) (q : ¬ (70 : Int) < (val.size : Int)) :
    Pc Try.prog how cx [2000010] 71 [15, 16, 17, 18] (cr [.r, .r, .l]) env σ (.normal) (σ) (fun _ => True) := by
  refine pc_of fun res hr => ?_
  simp -implicitDefEqProofs [AS.get_push_at, AS.get_push_old, AS.push_len, AS.set_st_len, AS.next_st', AS.set_push_at, AS.get_set_self, AS.get_set_other, cr, Try.f8, hlen, hcx, f5, gc, q] at hr
  subst hr
  refine ⟨_, rfl, by simp [hlen], by simp [Env.get_set, hlen, f5, gc, q], fun i hi => ?_⟩
  simp only [List.mem_cons, List.not_mem_nil, or_false, not_or] at hi
  simp only [get_set2, hi, false_and, if_false]

theorem rC1 (cx : Cx) (env : Env) (σ : AS) (c : Nat) (c0 at_ : Int) (key val : ByteArray) (gone : Bool) (k2 : ByteArray) (hlen : env.length = 71) (hcx : cx.esc = []) (f5 : Env.get env 5 = .ptr (.st c) 0) (gc : σ.get (.st c) = some (.cells [.int .i64 c0, .str key, .int .i64 at_, .str val, .bool gone])) (q : (70 : Int) < (val.size : Int)) (hsl : sliceA Try.prog σ 9 (.str val) none (some (.int .i64 70)) none = some (.str k2)) (hww : wok cx.ro (.st c) = true) (hhr : cx.h ≤ c) :
    Pc Try.prog how cx [2000010] 71 [15, 16, 17, 18, 19, 20, 21, 22] (cr [.r, .r, .l]) env σ (.normal) (σ.set (.st c) (.cells [.int .i64 c0, .str key, .int .i64 at_, .str k2, .bool gone])) (fun _ => True) := by
  refine pc_of fun res hr => ?_
  simp -implicitDefEqProofs [AS.get_push_at, AS.get_push_old, AS.push_len, AS.set_st_len, AS.next_st', AS.set_push_at, AS.get_set_self, AS.get_set_other, cr, Try.f8, hlen, hcx, f5, gc, q, hsl, hww, hhr] at hr
  subst hr
  refine ⟨_, rfl, by simp [hlen], by simp [Env.get_set, hlen, f5, gc, q, hsl, hww, hhr], fun i hi => ?_⟩
  simp only [List.mem_cons, List.not_mem_nil, or_false, not_or] at hi
  simp only [get_set2, hi, false_and, if_false]

theorem rD (cx : Cx) (env : Env) (σ : AS) (c : Nat) (c0 at_ : Int) (key val : ByteArray) (gone : Bool) (hlen : env.length = 71) (hcx : cx.esc = []) (f5 : Env.get env 5 = .ptr (.st c) 0) (gc : σ.get (.st c) = some (.cells [.int .i64 c0, .str key, .int .i64 at_, .str val, .bool gone])) :
    Pc Try.prog how cx [2000010] 71 [23, 24] (cr [.r, .r, .r, .l, .l]) env σ (.normal) (σ) (fun env' => Env.get env' 24 = .int .i64 c0) := by
  refine pc_of fun res hr => ?_
  simp -implicitDefEqProofs [AS.get_push_at, AS.get_push_old, AS.push_len, AS.set_st_len, AS.next_st', AS.set_push_at, AS.get_set_self, AS.get_set_other, cr, Try.f8, hlen, hcx, f5, gc] at hr
  subst hr
  refine ⟨_, rfl, by simp [hlen], by simp [Env.get_set, hlen, f5, gc], fun i hi => ?_⟩
  simp only [List.mem_cons, List.not_mem_nil, or_false, not_or] at hi
  simp only [get_set2, hi, false_and, if_false]

theorem rP (cx : Cx) (env : Env) (σ : AS) (c0 : Int) (hlen : env.length = 71) (hcx : cx.esc = []) (f24 : Env.get env 24 = .int .i64 c0) (q : c0 = 0 ∨ c0 = 1 ∨ c0 = 2 ∨ c0 = 3) :
    Pc Try.prog how cx [2000010] 71 [25, 26, 27, 28, 29] (cr [.r, .r, .r, .l, .r, .i, .l]) env σ (.normal) (σ) (fun env' => Env.get env' 25 = .bool true) := by
  rcases q with rfl | rfl | rfl | rfl
  all_goals first | (fail; done) | (
      refine pc_of fun res hr => ?_
      simp -implicitDefEqProofs [AS.get_push_at, AS.get_push_old, AS.push_len, AS.set_st_len, AS.next_st', AS.set_push_at, AS.get_set_self, AS.get_set_other, cr, Try.f8, hlen, hcx, f24] at hr
      subst hr
      refine ⟨_, rfl, by simp [hlen], by simp [Env.get_set, hlen, f24], fun i hi => ?_⟩
      simp only [List.mem_cons, List.not_mem_nil, or_false, not_or] at hi
      simp only [get_set2, hi, false_and, if_false]
    )

theorem rQ (cx : Cx) (env : Env) (σ : AS) (c0 : Int) (hlen : env.length = 71) (hcx : cx.esc = []) (f24 : Env.get env 24 = .int .i64 c0) (q0 : ¬ c0 = 0) (q1 : ¬ c0 = 1) (q2 : ¬ c0 = 2) (q3 : ¬ c0 = 3) :
    Pc Try.prog how cx [2000010] 71 [25, 26, 27, 28, 29] (cr [.r, .r, .r, .l, .r, .i, .l]) env σ (.normal) (σ) (fun env' => Env.get env' 25 = .bool false) := by
  refine pc_of fun res hr => ?_
  simp -implicitDefEqProofs [AS.get_push_at, AS.get_push_old, AS.push_len, AS.set_st_len, AS.next_st', AS.set_push_at, AS.get_set_self, AS.get_set_other, cr, Try.f8, hlen, hcx, f24, q0, q1, q2, q3] at hr
  subst hr
  refine ⟨_, rfl, by simp [hlen], by simp [Env.get_set, hlen, f24, q0, q1, q2, q3], fun i hi => ?_⟩
  simp only [List.mem_cons, List.not_mem_nil, or_false, not_or] at hi
  simp only [get_set2, hi, false_and, if_false]

noncomputable def mx_q : List Oper := opsOf (cr [.r, .r, .r, .l, .r, .i, .r, .l, .l])
def mx_plan : List (Nat × List Nat) := [(0, []), (0, []), (2, []), (0, []), (2, []), (0, []), (2, []), (0, []), (2, []), (4, [12, 14, 16, 18]), (0, []), (0, []), (1, []), (0, []), (1, []), (0, []), (1, []), (0, []), (1, []), (4, []), (0, []), (0, [])]
theorem mx_reg : (cr [.r, .r, .r, .l, .r, .i, .r, .l, .l]) = .region 10 mx_q.toArray true := by kernel_rfl
theorem mx_ok (h : Nat) (ro : Option Nat) : planOk Try.prog (Cx.mk h ro []) mx_q mx_plan = true := by kernel_rfl
theorem mx_lt : anyLT Try.prog mx_q = true := by kernel_rfl
theorem mx_room (h : Nat) (ro : Option Nat) : roomL Try.prog (Cx.mk h ro []) mx_q = 0 := by kernel_rfl
theorem mx (h : Nat) (ro : Option Nat) (hp s : List AObj) (env : Env) (a b c : Nat) (c0 at_ : Int) (key val : ByteArray) (gone : Bool) (e : Int) (hp1 hp2 : List AObj) (hlen : env.length = 71) (f0 : Env.get env 0 = .ptr (.hp a) 0) (f1 : Env.get env 1 = .ptr (.hp b) 0) (f5 : Env.get env 5 = .ptr (.st c) 0) (gc : ∀ hp, (AS.mk hp s).get (.st c) = some (.cells [.int .i64 c0, .str key, .int .i64 at_, .str val, .bool gone])) (h17 : callW Try.prog how 17 [.ptr (.hp a) 0, .str key, .int .i64 at_, .str val, .bool gone] ⟨hp, s⟩ ro = some (.int .i64 e, ⟨hp1, s⟩)) (h25 : callW Try.prog how 25 [.ptr (.hp b) 0, .str key, .int .i64 at_, .str val, .bool gone] ⟨hp1, s⟩ ro = some (.int .i64 e, ⟨hp2, s⟩)) :
    Pc Try.prog how (Cx.mk h ro []) [2000010] 71 [6, 30, 31, 32, 33, 34, 35, 36, 37, 38, 39, 40, 41, 42, 43, 44, 45, 46, 47, 48, 49, 50] (cr [.r, .r, .r, .l, .r, .i, .r, .l, .l]) env ⟨hp, s⟩ .normal ⟨hp2, s⟩ (fun env' => Env.get env' 6 = .bool true) := by
  refine pc_of fun res hr => ?_
  have hroom := mx_room h ro
  rw [mx_reg, execW_region_eq] at hr
  rw [show (mx_q.toArray).toList = mx_q from rfl, regionA_mix rfl rfl] at hr
  generalize h1 : mixL Try.prog (Cx.mk h ro []) (callW Try.prog how) ⟨hp, s⟩ mx_q true none (mx_q.zip mx_plan) env (layL Try.prog (Cx.mk h ro []) ⟨hp, s⟩ mx_q) = r1 at *
  have h1' := h1
  rw [layL0 hroom] at h1'
  simp -implicitDefEqProofs [mx_plan, mx_q, cr, Try.f8, hlen, f0, f1, f5, gc, h17, h25] at h1'
  subst h1'
  rw [mixA_plan2 (mx_ok h ro) mx_lt h1, layL0 hroom] at hr
  simp -implicitDefEqProofs [mx_plan, mx_q, cr, Try.f8, hlen, f0, f1, f5, gc, h17, h25] at hr
  subst hr
  refine ⟨_, rfl, by simp [hlen], by simp [Env.get_set, hlen, f0, f1, f5, gc, h17, h25], fun i hi => ?_⟩
  simp only [List.mem_cons, List.not_mem_nil, or_false, not_or] at hi
  simp only [get_set2, hi, false_and, if_false]

theorem r4 (cx : Cx) (env : Env) (σ : AS) (a b c : Nat) (c0 at_ : Int) (key val : ByteArray) (gone : Bool) (σ1 σ2 : AS) (hlen : env.length = 71) (hcx : cx.esc = []) (f0 : Env.get env 0 = .ptr (.hp a) 0) (f1 : Env.get env 1 = .ptr (.hp b) 0) (f5 : Env.get env 5 = .ptr (.st c) 0) (f24 : Env.get env 24 = .int .i64 4) (gc : σ.get (.st c) = some (.cells [.int .i64 4, .str key, .int .i64 at_, .str val, .bool gone])) (gc1 : σ1.get (.st c) = some (.cells [.int .i64 4, .str key, .int .i64 at_, .str val, .bool gone])) (hx : callW Try.prog how 26 [.ptr (.hp a) 0, .int .i64 at_] σ cx.ro = some (.tup [], σ1)) (hy : callW Try.prog how 27 [.ptr (.hp b) 0, .int .i64 at_] σ1 cx.ro = some (.tup [], σ2)) :
    Pc Try.prog how cx [2000010] 71 [51, 52, 53, 54, 55, 56, 57, 58, 59, 60, 61, 62, 63, 64, 65, 66, 67, 68, 69, 70] (cr [.r, .r, .r, .l, .r, .i, .r, .r]) env σ (.normal) (σ2) (fun _ => True) := by
  refine pc_of fun res hr => ?_
  simp -implicitDefEqProofs [AS.get_push_at, AS.get_push_old, AS.push_len, AS.set_st_len, AS.next_st', AS.set_push_at, AS.get_set_self, AS.get_set_other, cr, Try.f8, hlen, hcx, f0, f1, f5, f24, gc, gc1, hx, hy] at hr
  subst hr
  refine ⟨_, rfl, by simp [hlen], by simp [Env.get_set, hlen, f0, f1, f5, f24, gc, gc1, hx, hy], fun i hi => ?_⟩
  simp only [List.mem_cons, List.not_mem_nil, or_false, not_or] at hi
  simp only [get_set2, hi, false_and, if_false]

theorem r5 (cx : Cx) (env : Env) (σ : AS) (a b c : Nat) (c0 at_ : Int) (key val : ByteArray) (gone : Bool) (σ1 σ2 : AS) (hlen : env.length = 71) (hcx : cx.esc = []) (f0 : Env.get env 0 = .ptr (.hp a) 0) (f1 : Env.get env 1 = .ptr (.hp b) 0) (f5 : Env.get env 5 = .ptr (.st c) 0) (f24 : Env.get env 24 = .int .i64 5) (gc : σ.get (.st c) = some (.cells [.int .i64 5, .str key, .int .i64 at_, .str val, .bool gone])) (gc1 : σ1.get (.st c) = some (.cells [.int .i64 5, .str key, .int .i64 at_, .str val, .bool gone])) (hx : callW Try.prog how 28 [.ptr (.hp a) 0, .int .i64 at_] σ cx.ro = some (.tup [], σ1)) (hy : callW Try.prog how 29 [.ptr (.hp b) 0, .int .i64 at_] σ1 cx.ro = some (.tup [], σ2)) :
    Pc Try.prog how cx [2000010] 71 [51, 52, 53, 54, 55, 56, 57, 58, 59, 60, 61, 62, 63, 64, 65, 66, 67, 68, 69, 70] (cr [.r, .r, .r, .l, .r, .i, .r, .r]) env σ (.normal) (σ2) (fun _ => True) := by
  refine pc_of fun res hr => ?_
  simp -implicitDefEqProofs [AS.get_push_at, AS.get_push_old, AS.push_len, AS.set_st_len, AS.next_st', AS.set_push_at, AS.get_set_self, AS.get_set_other, cr, Try.f8, hlen, hcx, f0, f1, f5, f24, gc, gc1, hx, hy] at hr
  subst hr
  refine ⟨_, rfl, by simp [hlen], by simp [Env.get_set, hlen, f0, f1, f5, f24, gc, gc1, hx, hy], fun i hi => ?_⟩
  simp only [List.mem_cons, List.not_mem_nil, or_false, not_or] at hi
  simp only [get_set2, hi, false_and, if_false]

theorem r6 (cx : Cx) (env : Env) (σ : AS) (c0 : Int) (hlen : env.length = 71) (hcx : cx.esc = []) (f24 : Env.get env 24 = .int .i64 c0) (q4 : ¬ c0 = 4) (q5 : ¬ c0 = 5) :
    Pc Try.prog how cx [2000010] 71 [51, 52, 53, 54, 55, 56, 57, 58, 59, 60, 61, 62, 63, 64, 65, 66, 67, 68, 69, 70] (cr [.r, .r, .r, .l, .r, .i, .r, .r]) env σ (.normal) (σ) (fun _ => True) := by
  refine pc_of fun res hr => ?_
  simp -implicitDefEqProofs [AS.get_push_at, AS.get_push_old, AS.push_len, AS.set_st_len, AS.next_st', AS.set_push_at, AS.get_set_self, AS.get_set_other, cr, Try.f8, hlen, hcx, f24, q4, q5] at hr
  subst hr
  refine ⟨_, rfl, by simp [hlen], by simp [Env.get_set, hlen, f24, q4, q5], fun i hi => ?_⟩
  simp only [List.mem_cons, List.not_mem_nil, or_false, not_or] at hi
  simp only [get_set2, hi, false_and, if_false]

theorem rZ (cx : Cx) (env : Env) (σ : AS)  (hlen : env.length = 71) (hcx : cx.esc = [])  :
    Pc Try.prog how cx [2000010] 71 [6] (cr [.r, .r, .r, .r, .l]) env σ (.normal) (σ) (fun env' => Env.get env' 6 = .bool true) := by
  refine pc_of fun res hr => ?_
  simp -implicitDefEqProofs [AS.get_push_at, AS.get_push_old, AS.push_len, AS.set_st_len, AS.next_st', AS.set_push_at, AS.get_set_self, AS.get_set_other, cr, Try.f8, hlen, hcx] at hr
  subst hr
  refine ⟨_, rfl, by simp [hlen], by simp [Env.get_set, hlen], fun i hi => ?_⟩
  simp only [List.mem_cons, List.not_mem_nil, or_false, not_or] at hi
  simp only [get_set2, hi, false_and, if_false]

end
noncomputable def bodyC : Code := (.seq (cr [.l]) (.seq (cr [.r, .l]) (.seq (cr [.r, .r, .l]) (.seq (.seq (cr [.r, .r, .r, .l, .l]) (.block 0 (.seq (cr [.r, .r, .r, .l, .r, .i, .l]) (.cond (.tmp 25) (.seq (cr [.r, .r, .r, .l, .r, .i, .r, .l, .l]) .ret) (cr [.r, .r, .r, .l, .r, .i, .r, .r]))))) (.seq (cr [.r, .r, .r, .r, .l]) .ret)))))
theorem body : Try.f8.body = some bodyC := by kernel_rfl
theorem ok (hp s : List AObj) (a mm b n : Nat) (c0 at_ : Int) (key val : ByteArray) (gone : Bool) (S : List Rw) (h : Two hp a mm b S) (hS : GoodS S) (hB : Bnd n S) (hn : n ≤ 50) :
    ∃ hp' S', callW Try.prog how 8 [.ptr (.hp a) 0, .ptr (.hp b) 0, .agg [.int .i64 c0, .str key, .int .i64 at_, .str val, .bool gone]] ⟨hp, s⟩ none = some (.bool true, ⟨hp', s⟩) ∧ Two hp' a mm b S' ∧ GoodS S' ∧ Bnd (n + 1) S' ∧ Keep2 hp hp' mm b := by
  let cx : Cx := { h := s.length, ro := none, esc := [] }
  have hcx : cx.esc = [] := rfl
  have hro : ∀ k, cx.ro = some k → k ≤ cx.h := fun k hk => by cases hk
  obtain ⟨env, henv⟩ : ∃ e, e = frameA Try.f8 [.ptr (.hp a) 0, .ptr (.hp b) 0, .agg [.int .i64 c0, .str key, .int .i64 at_, .str val, .bool gone]] := ⟨_, rfl⟩
  have hlen : env.length = 71 := by rw [henv]; rfl
  have f0 : Env.get env 0 = .ptr (.hp a) 0 := by rw [henv]; rfl
  have f1 : Env.get env 1 = .ptr (.hp b) 0 := by rw [henv]; rfl
  have f2 : Env.get env 2 = .agg [.int .i64 c0, .str key, .int .i64 at_, .str val, .bool gone] := by rw [henv]; rfl
  have ho : Outside s.length (AS.mk hp s) (AS.mk hp s) := Outside.refl (Nat.le_refl _)
  obtain ⟨env1, x1a, x1b, x1c, x1d⟩ := rA cx env (AS.mk hp s) hp s c0 at_ key val gone hlen hcx f2 rfl rfl (Nat.le_refl _) 
  have f0 := (x1d 0 (by decide)).trans f0
  have f1 := (x1d 1 (by decide)).trans f1
  have f2 := (x1d 2 (by decide)).trans f2
  have f5 := x1c.1
  have f6 := x1c.2
  have cut2 : ∃ env' key2, key2.size ≤ 40 ∧ execW Try.prog cx [2000010] (callW Try.prog how) (cr [.r, .l]) (env1, AS.mk hp (s ++ [AObj.cells [.int .i64 c0, .str key, .int .i64 at_, .str val, .bool gone]])) = some (.normal, (env', AS.mk hp (s ++ [AObj.cells [.int .i64 c0, .str key2, .int .i64 at_, .str val, .bool gone]]))) ∧ env'.length = 71 ∧ ∀ i, i ∉ [7, 8, 9, 10, 11, 12, 13, 14] → Env.get env' i = Env.get env1 i := by
    have gc : (AS.mk hp (s ++ [AObj.cells [.int .i64 c0, .str key, .int .i64 at_, .str val, .bool gone]])).get (.st s.length) = some (.cells [.int .i64 c0, .str key, .int .i64 at_, .str val, .bool gone]) := by simp [AS.get]
    by_cases q : (40 : Int) < (key.size : Int)
    · have hsl : sliceA Try.prog (AS.mk hp (s ++ [AObj.cells [.int .i64 c0, .str key, .int .i64 at_, .str val, .bool gone]])) 9 (.str key) none (some (.int .i64 40)) none = some (.str (key.extract 0 40)) := by
        have h1 : (40 : Int) ≤ (key.size : Int) := by omega
        have h2 : 40 ≤ key.size := by omega
        simp [sliceA, intOf?, boundsA, h1, h2]
      obtain ⟨e, r1, r2, _, r4⟩ := rB1 cx env1 (AS.mk hp (s ++ [AObj.cells [.int .i64 c0, .str key, .int .i64 at_, .str val, .bool gone]])) s.length c0 at_ key val gone (key.extract 0 40) x1b hcx f5 gc q hsl rfl (Nat.le_refl _)
      refine ⟨e, key.extract 0 40, ?_, r1.trans ?_, r2, r4⟩
      · simp; omega
      · simp [AS.set]
    · obtain ⟨e, r1, r2, _, r4⟩ := rB0 cx env1 (AS.mk hp (s ++ [AObj.cells [.int .i64 c0, .str key, .int .i64 at_, .str val, .bool gone]])) s.length c0 at_ key val gone x1b hcx f5 gc q
      exact ⟨e, key, by omega, r1, r2, fun i hi => r4 i (by simp at hi ⊢; omega)⟩
  obtain ⟨env2, key2, hszkey2, x2a, x2b, x2d⟩ := cut2
  have f0 := (x2d 0 (by decide)).trans f0
  have f1 := (x2d 1 (by decide)).trans f1
  have f2 := (x2d 2 (by decide)).trans f2
  have f5 := (x2d 5 (by decide)).trans f5
  have f6 := (x2d 6 (by decide)).trans f6
  have cut3 : ∃ env' val2, val2.size ≤ 70 ∧ execW Try.prog cx [2000010] (callW Try.prog how) (cr [.r, .r, .l]) (env2, AS.mk hp (s ++ [AObj.cells [.int .i64 c0, .str key2, .int .i64 at_, .str val, .bool gone]])) = some (.normal, (env', AS.mk hp (s ++ [AObj.cells [.int .i64 c0, .str key2, .int .i64 at_, .str val2, .bool gone]]))) ∧ env'.length = 71 ∧ ∀ i, i ∉ [15, 16, 17, 18, 19, 20, 21, 22] → Env.get env' i = Env.get env2 i := by
    have gc : (AS.mk hp (s ++ [AObj.cells [.int .i64 c0, .str key2, .int .i64 at_, .str val, .bool gone]])).get (.st s.length) = some (.cells [.int .i64 c0, .str key2, .int .i64 at_, .str val, .bool gone]) := by simp [AS.get]
    by_cases q : (70 : Int) < (val.size : Int)
    · have hsl : sliceA Try.prog (AS.mk hp (s ++ [AObj.cells [.int .i64 c0, .str key2, .int .i64 at_, .str val, .bool gone]])) 9 (.str val) none (some (.int .i64 70)) none = some (.str (val.extract 0 70)) := by
        have h1 : (70 : Int) ≤ (val.size : Int) := by omega
        have h2 : 70 ≤ val.size := by omega
        simp [sliceA, intOf?, boundsA, h1, h2]
      obtain ⟨e, r1, r2, _, r4⟩ := rC1 cx env2 (AS.mk hp (s ++ [AObj.cells [.int .i64 c0, .str key2, .int .i64 at_, .str val, .bool gone]])) s.length c0 at_ key2 val gone (val.extract 0 70) x2b hcx f5 gc q hsl rfl (Nat.le_refl _)
      refine ⟨e, val.extract 0 70, ?_, r1.trans ?_, r2, r4⟩
      · simp; omega
      · simp [AS.set]
    · obtain ⟨e, r1, r2, _, r4⟩ := rC0 cx env2 (AS.mk hp (s ++ [AObj.cells [.int .i64 c0, .str key2, .int .i64 at_, .str val, .bool gone]])) s.length c0 at_ key2 val gone x2b hcx f5 gc q
      exact ⟨e, val, by omega, r1, r2, fun i hi => r4 i (by simp at hi ⊢; omega)⟩
  obtain ⟨env3, val2, hszval2, x3a, x3b, x3d⟩ := cut3
  have f0 := (x3d 0 (by decide)).trans f0
  have f1 := (x3d 1 (by decide)).trans f1
  have f2 := (x3d 2 (by decide)).trans f2
  have f5 := (x3d 5 (by decide)).trans f5
  have f6 := (x3d 6 (by decide)).trans f6
  have gc : ∀ hp, (AS.mk hp (s ++ [AObj.cells [.int .i64 c0, .str key2, .int .i64 at_, .str val2, .bool gone]])).get (.st s.length) = some (.cells [.int .i64 c0, .str key2, .int .i64 at_, .str val2, .bool gone]) := fun hp => by simp [AS.get]
  obtain ⟨env4, x4a, x4b, x4c, x4d⟩ := rD cx env3 (AS.mk hp (s ++ [AObj.cells [.int .i64 c0, .str key2, .int .i64 at_, .str val2, .bool gone]])) s.length c0 at_ key2 val2 gone x3b hcx f5 (gc _) 
  have f0 := (x4d 0 (by decide)).trans f0
  have f1 := (x4d 1 (by decide)).trans f1
  have f2 := (x4d 2 (by decide)).trans f2
  have f5 := (x4d 5 (by decide)).trans f5
  have f6 := (x4d 6 (by decide)).trans f6
  have f24 := x4c
  have hP0 := h.p
  obtain ⟨M, hP⟩ := hP0
  by_cases q : c0 = 0 ∨ c0 = 1 ∨ c0 = 2 ∨ c0 = 3
  · skip
    obtain ⟨env5, x5a, x5b, x5c, x5d⟩ := rP cx env4 (AS.mk hp (s ++ [AObj.cells [.int .i64 c0, .str key2, .int .i64 at_, .str val2, .bool gone]])) c0 x4b hcx f24 q 
    have f0 := (x5d 0 (by decide)).trans f0
    have f1 := (x5d 1 (by decide)).trans f1
    have f2 := (x5d 2 (by decide)).trans f2
    have f5 := (x5d 5 (by decide)).trans f5
    have f6 := (x5d 6 (by decide)).trans f6
    have f24 := (x5d 24 (by decide)).trans f24
    have f25 := x5c
    have hc25 := ev_tmp f25
    have h17 := F17.ok hp (s ++ [AObj.cells [.int .i64 c0, .str key2, .int .i64 at_, .str val2, .bool gone]]) a mm at_ key2 val2 gone M S hP hS (by omega) (by omega)
    rcases h17 with ⟨qb, h17⟩ | ⟨qb, hp1, h17, hP1, hk1⟩
    · skip
      obtain ⟨X, hX, hR⟩ := h.r
      have h25 := (F25.ok hp (s ++ [AObj.cells [.int .i64 c0, .str key2, .int .i64 at_, .str val2, .bool gone]]) b at_ key2 val2 gone X S hX hR (Nat.le_trans hS.len (by decide)) (hS.gof key2) (by omega) (by omega)).resolve_right (fun x => by rw [qb] at x; exact absurd x.1 (by simp))
      obtain ⟨env6, x6a, x6b, x6c, x6d⟩ := mx s.length none hp ((s ++ [AObj.cells [.int .i64 c0, .str key2, .int .i64 at_, .str val2, .bool gone]])) env5 a b s.length c0 at_ key2 val2 gone 1 hp hp x5b f0 f1 f5 gc h17 h25.2
      have f0 := (x6d 0 (by decide)).trans f0
      have f1 := (x6d 1 (by decide)).trans f1
      have f2 := (x6d 2 (by decide)).trans f2
      have f5 := (x6d 5 (by decide)).trans f5
      have f24 := (x6d 24 (by decide)).trans f24
      have f25 := (x6d 25 (by decide)).trans f25
      have f6 := x6c
      exact ⟨hp, S, call_of (fl := { tails := [2000010] }) (fn := Try.f8) (c := bodyC) (env := env) (e := (.ret, (env6, AS.mk hp (s ++ [AObj.cells [.int .i64 c0, .str key2, .int .i64 at_, .str val2, .bool gone]])))) rfl Try.func8 body henv (by unfold bodyC; exact (execW_seq_of x1a (execW_seq_of x2a (execW_seq_of x3a (execW_seq_ret (execW_seq_of x4a (block_exit (execW_seq_of x5a (execW_cond_t hc25 (execW_seq_of x6a (by rfl)))) (by simp)))))))) ((fin_tmp (k := 6) (w := .bool true) (.inl rfl) rfl rfl f6 (by simp [AV.back]) (by simp [AV.inb])).trans (by simp)), h, hS, (hB.le (Nat.le_succ _)), (Keep2.refl _ _ _)⟩
    · skip
      obtain ⟨X, hX, hR⟩ := ref_row h hk1
      have h25 := (F25.ok hp1 (s ++ [AObj.cells [.int .i64 c0, .str key2, .int .i64 at_, .str val2, .bool gone]]) b at_ key2 val2 gone X S hX hR (Nat.le_trans hS.len (by decide)) (hS.gof key2) (by omega) (by omega)).resolve_left (fun x => by rw [qb] at x; exact absurd x.1 (by simp))
      obtain ⟨_, hp2, h25, hs⟩ := h25
      have hb := h.both hP1 hk1 (hp2 := hp2) (fun X' hX' _ => hs)
      have hkk : keyOk key2 = true ∧ badPut (ofS S key2) at_ val2 gone = false := by simpa using qb
      have hg := put_goodS hS hB hn hkk.1 hkk.2
      obtain ⟨env6, x6a, x6b, x6c, x6d⟩ := mx s.length none hp ((s ++ [AObj.cells [.int .i64 c0, .str key2, .int .i64 at_, .str val2, .bool gone]])) env5 a b s.length c0 at_ key2 val2 gone 0 hp1 hp2 x5b f0 f1 f5 gc h17 h25
      have f0 := (x6d 0 (by decide)).trans f0
      have f1 := (x6d 1 (by decide)).trans f1
      have f2 := (x6d 2 (by decide)).trans f2
      have f5 := (x6d 5 (by decide)).trans f5
      have f24 := (x6d 24 (by decide)).trans f24
      have f25 := (x6d 25 (by decide)).trans f25
      have f6 := x6c
      exact ⟨hp2, _, call_of (fl := { tails := [2000010] }) (fn := Try.f8) (c := bodyC) (env := env) (e := (.ret, (env6, AS.mk hp2 (s ++ [AObj.cells [.int .i64 c0, .str key2, .int .i64 at_, .str val2, .bool gone]])))) rfl Try.func8 body henv (by unfold bodyC; exact (execW_seq_of x1a (execW_seq_of x2a (execW_seq_of x3a (execW_seq_ret (execW_seq_of x4a (block_exit (execW_seq_of x5a (execW_cond_t hc25 (execW_seq_of x6a (by rfl)))) (by simp)))))))) ((fin_tmp (k := 6) (w := .bool true) (.inl rfl) rfl rfl f6 (by simp [AV.back]) (by simp [AV.inb])).trans (by simp)), hb.1, hg.1, hg.2, hb.2⟩
  · skip
    have q0 : ¬ c0 = 0 := fun e => q (.inl e)
    have q1 : ¬ c0 = 1 := fun e => q (.inr (.inl e))
    have q2 : ¬ c0 = 2 := fun e => q (.inr (.inr (.inl e)))
    have q3 : ¬ c0 = 3 := fun e => q (.inr (.inr (.inr e)))
    obtain ⟨env5, x5a, x5b, x5c, x5d⟩ := rQ cx env4 (AS.mk hp (s ++ [AObj.cells [.int .i64 c0, .str key2, .int .i64 at_, .str val2, .bool gone]])) c0 x4b hcx f24 q0 q1 q2 q3 
    have f0 := (x5d 0 (by decide)).trans f0
    have f1 := (x5d 1 (by decide)).trans f1
    have f2 := (x5d 2 (by decide)).trans f2
    have f5 := (x5d 5 (by decide)).trans f5
    have f6 := (x5d 6 (by decide)).trans f6
    have f24 := (x5d 24 (by decide)).trans f24
    have f25 := x5c
    have hc25 := ev_tmp f25
    by_cases q4 : c0 = 4
    · subst q4
      obtain ⟨hp1, M', hx, hP1, hk1⟩ := f26_ok hp (s ++ [AObj.cells [.int .i64 4, .str key2, .int .i64 at_, .str val2, .bool gone]]) a mm at_ M S hP hS
      obtain ⟨X, hX, hR⟩ := ref_row h hk1
      obtain ⟨hp2, hy, hs⟩ := F27.ok hp1 (s ++ [AObj.cells [.int .i64 4, .str key2, .int .i64 at_, .str val2, .bool gone]]) b at_ X S hX hR hS.so hS.go hS.len
      rw [turnS_congr (g' := (fun L : List Vn => L.take (uptoN L at_))) (fun r hr => good_filter (hS.go r hr) at_)] at hs
      have hb := h.both hP1 hk1 (hp2 := hp2) (fun X' hX' _ => hs)
      have hg := turn_good (g := (fun L : List Vn => L.take (uptoN L at_))) hS hB (fun L h => good_take h _) (fun L x hx => List.mem_of_mem_take hx) (fun L => by simp; omega)
      obtain ⟨env6, x6a, x6b, x6c, x6d⟩ := r4 cx env5 (AS.mk hp (s ++ [AObj.cells [.int .i64 4, .str key2, .int .i64 at_, .str val2, .bool gone]])) a b s.length 4 at_ key2 val2 gone _ _ x5b hcx f0 f1 f5 f24 (gc _) (gc _) hx hy 
      have f0 := (x6d 0 (by decide)).trans f0
      have f1 := (x6d 1 (by decide)).trans f1
      have f2 := (x6d 2 (by decide)).trans f2
      have f5 := (x6d 5 (by decide)).trans f5
      have f6 := (x6d 6 (by decide)).trans f6
      have f24 := (x6d 24 (by decide)).trans f24
      have f25 := (x6d 25 (by decide)).trans f25
      obtain ⟨env7, x7a, x7b, x7c, x7d⟩ := rZ cx env6 (AS.mk hp2 (s ++ [AObj.cells [.int .i64 4, .str key2, .int .i64 at_, .str val2, .bool gone]]))  x6b hcx   
      have f0 := (x7d 0 (by decide)).trans f0
      have f1 := (x7d 1 (by decide)).trans f1
      have f2 := (x7d 2 (by decide)).trans f2
      have f5 := (x7d 5 (by decide)).trans f5
      have f24 := (x7d 24 (by decide)).trans f24
      have f25 := (x7d 25 (by decide)).trans f25
      have f6 := x7c
      exact ⟨hp2, _, call_of (fl := { tails := [2000010] }) (fn := Try.f8) (c := bodyC) (env := env) (e := (.ret, (env7, AS.mk hp2 (s ++ [AObj.cells [.int .i64 4, .str key2, .int .i64 at_, .str val2, .bool gone]])))) rfl Try.func8 body henv (by unfold bodyC; exact (execW_seq_of x1a (execW_seq_of x2a (execW_seq_of x3a (execW_seq_of (execW_seq_of x4a (execW_block_of (execW_seq_of x5a (execW_cond_f hc25 x6a)))) (execW_seq_of x7a (by rfl))))))) ((fin_tmp (k := 6) (w := .bool true) (.inl rfl) rfl rfl f6 (by simp [AV.back]) (by simp [AV.inb])).trans (by simp)), hb.1, hg.1, (hg.2.le (Nat.le_succ _)), hb.2⟩
    · skip
      by_cases q5 : c0 = 5
      · subst q5
        obtain ⟨hp1, M', hx, hP1, hk1⟩ := f28_ok hp (s ++ [AObj.cells [.int .i64 5, .str key2, .int .i64 at_, .str val2, .bool gone]]) a mm at_ M S hP hS
        obtain ⟨X, hX, hR⟩ := ref_row h hk1
        obtain ⟨hp2, hy, hs⟩ := F29.ok hp1 (s ++ [AObj.cells [.int .i64 5, .str key2, .int .i64 at_, .str val2, .bool gone]]) b at_ X S hX hR hS.so hS.go hS.len
        rw [turnS_congr (g' := (fun L : List Vn => L.drop (uptoN L at_ - 1))) (fun r hr => clean_eq (hS.go r hr) at_)] at hs
        have hb := h.both hP1 hk1 (hp2 := hp2) (fun X' hX' _ => hs)
        have hg := turn_good (g := (fun L : List Vn => L.drop (uptoN L at_ - 1))) hS hB (fun L h => good_drop h _) (fun L x hx => List.mem_of_mem_drop hx) (fun L => by simp)
        obtain ⟨env6, x6a, x6b, x6c, x6d⟩ := r5 cx env5 (AS.mk hp (s ++ [AObj.cells [.int .i64 5, .str key2, .int .i64 at_, .str val2, .bool gone]])) a b s.length 5 at_ key2 val2 gone _ _ x5b hcx f0 f1 f5 f24 (gc _) (gc _) hx hy 
        have f0 := (x6d 0 (by decide)).trans f0
        have f1 := (x6d 1 (by decide)).trans f1
        have f2 := (x6d 2 (by decide)).trans f2
        have f5 := (x6d 5 (by decide)).trans f5
        have f6 := (x6d 6 (by decide)).trans f6
        have f24 := (x6d 24 (by decide)).trans f24
        have f25 := (x6d 25 (by decide)).trans f25
        obtain ⟨env7, x7a, x7b, x7c, x7d⟩ := rZ cx env6 (AS.mk hp2 (s ++ [AObj.cells [.int .i64 5, .str key2, .int .i64 at_, .str val2, .bool gone]]))  x6b hcx   
        have f0 := (x7d 0 (by decide)).trans f0
        have f1 := (x7d 1 (by decide)).trans f1
        have f2 := (x7d 2 (by decide)).trans f2
        have f5 := (x7d 5 (by decide)).trans f5
        have f24 := (x7d 24 (by decide)).trans f24
        have f25 := (x7d 25 (by decide)).trans f25
        have f6 := x7c
        exact ⟨hp2, _, call_of (fl := { tails := [2000010] }) (fn := Try.f8) (c := bodyC) (env := env) (e := (.ret, (env7, AS.mk hp2 (s ++ [AObj.cells [.int .i64 5, .str key2, .int .i64 at_, .str val2, .bool gone]])))) rfl Try.func8 body henv (by unfold bodyC; exact (execW_seq_of x1a (execW_seq_of x2a (execW_seq_of x3a (execW_seq_of (execW_seq_of x4a (execW_block_of (execW_seq_of x5a (execW_cond_f hc25 x6a)))) (execW_seq_of x7a (by rfl))))))) ((fin_tmp (k := 6) (w := .bool true) (.inl rfl) rfl rfl f6 (by simp [AV.back]) (by simp [AV.inb])).trans (by simp)), hb.1, hg.1, (hg.2.le (Nat.le_succ _)), hb.2⟩
      · skip
        obtain ⟨env6, x6a, x6b, x6c, x6d⟩ := r6 cx env5 (AS.mk hp (s ++ [AObj.cells [.int .i64 c0, .str key2, .int .i64 at_, .str val2, .bool gone]])) c0 x5b hcx f24 q4 q5 
        have f0 := (x6d 0 (by decide)).trans f0
        have f1 := (x6d 1 (by decide)).trans f1
        have f2 := (x6d 2 (by decide)).trans f2
        have f5 := (x6d 5 (by decide)).trans f5
        have f6 := (x6d 6 (by decide)).trans f6
        have f24 := (x6d 24 (by decide)).trans f24
        have f25 := (x6d 25 (by decide)).trans f25
        obtain ⟨env7, x7a, x7b, x7c, x7d⟩ := rZ cx env6 (AS.mk hp (s ++ [AObj.cells [.int .i64 c0, .str key2, .int .i64 at_, .str val2, .bool gone]]))  x6b hcx   
        have f0 := (x7d 0 (by decide)).trans f0
        have f1 := (x7d 1 (by decide)).trans f1
        have f2 := (x7d 2 (by decide)).trans f2
        have f5 := (x7d 5 (by decide)).trans f5
        have f24 := (x7d 24 (by decide)).trans f24
        have f25 := (x7d 25 (by decide)).trans f25
        have f6 := x7c
        exact ⟨hp, S, call_of (fl := { tails := [2000010] }) (fn := Try.f8) (c := bodyC) (env := env) (e := (.ret, (env7, AS.mk hp (s ++ [AObj.cells [.int .i64 c0, .str key2, .int .i64 at_, .str val2, .bool gone]])))) rfl Try.func8 body henv (by unfold bodyC; exact (execW_seq_of x1a (execW_seq_of x2a (execW_seq_of x3a (execW_seq_of (execW_seq_of x4a (execW_block_of (execW_seq_of x5a (execW_cond_f hc25 x6a)))) (execW_seq_of x7a (by rfl))))))) ((fin_tmp (k := 6) (w := .bool true) (.inl rfl) rfl rfl f6 (by simp [AV.back]) (by simp [AV.inb])).trans (by simp)), h, hS, (hB.le (Nat.le_succ _)), (Keep2.refl _ _ _)⟩
end F8
