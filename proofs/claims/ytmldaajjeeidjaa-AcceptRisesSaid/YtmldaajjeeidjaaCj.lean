/- Pieces of the law's step. -/
import Derived.Test.YtmldaajjeeidjaaCi
open Go Go.Abs Go.Proofs
set_option maxRecDepth 100000
set_option maxHeartbeats 4000000
set_option linter.unusedSimpArgs false
set_option linter.unusedVariables false
namespace F7

noncomputable def cr (p : List Dir) : Code := sub p (bodyOf Try.f7)

theorem rA (cx : Cx) (env : Env) (σ : AS) (k m : Int) (v : Vt) (hlen : env.length = 57) (hcx : cx.esc = []) (f2 : Env.get env 2 = .agg [.int .i64 k, .int .i64 v.s, .int .u64 v.r, .int .i64 v.n, .str v.v, .int .i64 m]) (hw : wok cx.ro (.st σ.st.length) = true) (hh : cx.h ≤ σ.st.length) :
    ∃ env', execW Try.prog cx [2000003, 2000008] (callW Try.prog how) (cr [.l]) (env, σ) = some (.normal, (env', σ.push false (.cells [.int .i64 k, .int .i64 v.s, .int .u64 v.r, .int .i64 v.n, .str v.v, .int .i64 m]))) ∧ env'.length = 57 ∧ (Env.get env' 5 = .ptr (.st σ.st.length) 0 ∧ Env.get env' 6 = .bool false) ∧ ∀ i, i ∉ [5, 6] → Env.get env' i = Env.get env i := by
  suffices h : ∀ res, execW Try.prog cx [2000003, 2000008] (callW Try.prog how) (cr [.l]) (env, σ) = res → ∃ env', res = some (.normal, (env', σ.push false (.cells [.int .i64 k, .int .i64 v.s, .int .u64 v.r, .int .i64 v.n, .str v.v, .int .i64 m]))) ∧ env'.length = 57 ∧ (Env.get env' 5 = .ptr (.st σ.st.length) 0 ∧ Env.get env' 6 = .bool false) ∧ ∀ i, i ∉ [5, 6] → Env.get env' i = Env.get env i from h _ rfl
  intro res hr
  simp -implicitDefEqProofs [ofV, ofCell, ofCells, seqA_nil, seqA_cons, seqVK_eq, seqEK_eq, wantedA, yieldedA, isVal, effA, ev, evs, evps, putE, optsA, optsOk, valA, fieldAddrA, fieldA, loadA, partA, aggA, isAggD, buildA, placesA, fillA, lay, storeA, AV.withCells, buildSliceA, elemsA, rowParts, fzL, promL, okE, isSrc, bytesOk, pushA, cxOf, lenA, binA, intBinA, strBinA, unA, indexAddrA, eqA, AVs.inb, AV.inb, Loc.inb, calleeA, opsOf, sub, bodyOf, Env.get_set, quietA_nil, quietA_cons, quietK_none, quietK_some, qstep, newA, isNew, escNew, boxOk, newLoc, flat, rowPartsQ, quietN, quietOp, isBS, List.takeWhile, finishA_eq, finK_ret, finK_normal, retK, backK, resA, oneA, AV.back, AVs.back, execW_seq_eq, seqK_normal, seqK_ret, seqK_exit, execW_cond_eq, condK_true, condK_false, execW_block_eq, blockK_exit, blockK_normal, blockK_ret, execW_region_eq, regK_eq, execW_skip, execW_exit, execW_ret, regionA_plain, regionA_quiet0, tailK_eq, nilCheckA, guardOk, isConst, lookupA, keyFits, mapUpdateA, beqI, bneI, AS.get_push_at, AS.get_push_old, AS.push_len, AS.set_st_len, AS.next_st', AS.set_push_at, AS.get_set_self, AS.get_set_other, cr, Try.f7, hlen, hcx, f2, hw, hh] at hr
  subst hr
  refine ⟨_, rfl, by simp [hlen], by simp [Env.get_set, hlen, f2, hw, hh], fun i hi => ?_⟩
  simp only [List.mem_cons, List.not_mem_nil, or_false, not_or] at hi
  obtain ⟨x0, x1⟩ := hi
  simp [Env.get_set, Ne.symm x0, Ne.symm x1]

theorem r1 (cx : Cx) (env : Env) (σ : AS) (b : Nat) (k m : Int) (v : Vt) (hlen : env.length = 57) (hcx : cx.esc = []) (f5 : Env.get env 5 = .ptr (.st b) 0) (g5 : σ.get (.st b) = some (.cells [.int .i64 k, .int .i64 v.s, .int .u64 v.r, .int .i64 v.n, .str v.v, .int .i64 m])) :
    ∃ env', execW Try.prog cx [2000003, 2000008] (callW Try.prog how) (cr [.r, .l, .l]) (env, σ) = some (.normal, (env', σ)) ∧ env'.length = 57 ∧ (Env.get env' 12 = .int .i64 k) ∧ ∀ i, i ∉ [11, 12] → Env.get env' i = Env.get env i := by
  suffices h : ∀ res, execW Try.prog cx [2000003, 2000008] (callW Try.prog how) (cr [.r, .l, .l]) (env, σ) = res → ∃ env', res = some (.normal, (env', σ)) ∧ env'.length = 57 ∧ (Env.get env' 12 = .int .i64 k) ∧ ∀ i, i ∉ [11, 12] → Env.get env' i = Env.get env i from h _ rfl
  intro res hr
  simp -implicitDefEqProofs [ofV, ofCell, ofCells, seqA_nil, seqA_cons, seqVK_eq, seqEK_eq, wantedA, yieldedA, isVal, effA, ev, evs, evps, putE, optsA, optsOk, valA, fieldAddrA, fieldA, loadA, partA, aggA, isAggD, buildA, placesA, fillA, lay, storeA, AV.withCells, buildSliceA, elemsA, rowParts, fzL, promL, okE, isSrc, bytesOk, pushA, cxOf, lenA, binA, intBinA, strBinA, unA, indexAddrA, eqA, AVs.inb, AV.inb, Loc.inb, calleeA, opsOf, sub, bodyOf, Env.get_set, quietA_nil, quietA_cons, quietK_none, quietK_some, qstep, newA, isNew, escNew, boxOk, newLoc, flat, rowPartsQ, quietN, quietOp, isBS, List.takeWhile, finishA_eq, finK_ret, finK_normal, retK, backK, resA, oneA, AV.back, AVs.back, execW_seq_eq, seqK_normal, seqK_ret, seqK_exit, execW_cond_eq, condK_true, condK_false, execW_block_eq, blockK_exit, blockK_normal, blockK_ret, execW_region_eq, regK_eq, execW_skip, execW_exit, execW_ret, regionA_plain, regionA_quiet0, tailK_eq, nilCheckA, guardOk, isConst, lookupA, keyFits, mapUpdateA, beqI, bneI, AS.get_push_at, AS.get_push_old, AS.push_len, AS.set_st_len, AS.next_st', AS.set_push_at, AS.get_set_self, AS.get_set_other, cr, Try.f7, hlen, hcx, f5, g5] at hr
  subst hr
  refine ⟨_, rfl, by simp [hlen], by simp [Env.get_set, hlen, f5, g5], fun i hi => ?_⟩
  simp only [List.mem_cons, List.not_mem_nil, or_false, not_or] at hi
  obtain ⟨x0, x1⟩ := hi
  simp [Env.get_set, Ne.symm x0, Ne.symm x1]

theorem r2 (cx : Cx) (env : Env) (σ : AS) (k : Int) (hlen : env.length = 57) (hcx : cx.esc = []) (f12 : Env.get env 12 = .int .i64 k) :
    ∃ env', execW Try.prog cx [2000003, 2000008] (callW Try.prog how) (cr [.r, .l, .r, .i, .l]) (env, σ) = some (.normal, (env', σ)) ∧ env'.length = 57 ∧ (Env.get env' 13 = .bool (decide (k = 0))) ∧ ∀ i, i ∉ [13, 14] → Env.get env' i = Env.get env i := by
  suffices h : ∀ res, execW Try.prog cx [2000003, 2000008] (callW Try.prog how) (cr [.r, .l, .r, .i, .l]) (env, σ) = res → ∃ env', res = some (.normal, (env', σ)) ∧ env'.length = 57 ∧ (Env.get env' 13 = .bool (decide (k = 0))) ∧ ∀ i, i ∉ [13, 14] → Env.get env' i = Env.get env i from h _ rfl
  intro res hr
  simp -implicitDefEqProofs [ofV, ofCell, ofCells, seqA_nil, seqA_cons, seqVK_eq, seqEK_eq, wantedA, yieldedA, isVal, effA, ev, evs, evps, putE, optsA, optsOk, valA, fieldAddrA, fieldA, loadA, partA, aggA, isAggD, buildA, placesA, fillA, lay, storeA, AV.withCells, buildSliceA, elemsA, rowParts, fzL, promL, okE, isSrc, bytesOk, pushA, cxOf, lenA, binA, intBinA, strBinA, unA, indexAddrA, eqA, AVs.inb, AV.inb, Loc.inb, calleeA, opsOf, sub, bodyOf, Env.get_set, quietA_nil, quietA_cons, quietK_none, quietK_some, qstep, newA, isNew, escNew, boxOk, newLoc, flat, rowPartsQ, quietN, quietOp, isBS, List.takeWhile, finishA_eq, finK_ret, finK_normal, retK, backK, resA, oneA, AV.back, AVs.back, execW_seq_eq, seqK_normal, seqK_ret, seqK_exit, execW_cond_eq, condK_true, condK_false, execW_block_eq, blockK_exit, blockK_normal, blockK_ret, execW_region_eq, regK_eq, execW_skip, execW_exit, execW_ret, regionA_plain, regionA_quiet0, tailK_eq, nilCheckA, guardOk, isConst, lookupA, keyFits, mapUpdateA, beqI, bneI, AS.get_push_at, AS.get_push_old, AS.push_len, AS.set_st_len, AS.next_st', AS.set_push_at, AS.get_set_self, AS.get_set_other, cr, Try.f7, hlen, hcx, f12] at hr
  subst hr
  refine ⟨_, rfl, by simp [hlen], by simp [Env.get_set, hlen, f12], fun i hi => ?_⟩
  simp only [List.mem_cons, List.not_mem_nil, or_false, not_or] at hi
  obtain ⟨x0, x1⟩ := hi
  simp [Env.get_set, Ne.symm x0, Ne.symm x1]

theorem r6a (cx : Cx) (env : Env) (σ : AS)  (hlen : env.length = 57) (hcx : cx.esc = []) (f12 : Env.get env 12 = .int .i64 1) :
    ∃ env', execW Try.prog cx [2000003, 2000008] (callW Try.prog how) (cr [.r, .l, .r, .i, .r, .r, .l]) (env, σ) = some (.normal, (env', σ)) ∧ env'.length = 57 ∧ (Env.get env' 44 = .bool true) ∧ ∀ i, i ∉ [44, 45, 46] → Env.get env' i = Env.get env i := by
  suffices h : ∀ res, execW Try.prog cx [2000003, 2000008] (callW Try.prog how) (cr [.r, .l, .r, .i, .r, .r, .l]) (env, σ) = res → ∃ env', res = some (.normal, (env', σ)) ∧ env'.length = 57 ∧ (Env.get env' 44 = .bool true) ∧ ∀ i, i ∉ [44, 45, 46] → Env.get env' i = Env.get env i from h _ rfl
  intro res hr
  simp -implicitDefEqProofs [ofV, ofCell, ofCells, seqA_nil, seqA_cons, seqVK_eq, seqEK_eq, wantedA, yieldedA, isVal, effA, ev, evs, evps, putE, optsA, optsOk, valA, fieldAddrA, fieldA, loadA, partA, aggA, isAggD, buildA, placesA, fillA, lay, storeA, AV.withCells, buildSliceA, elemsA, rowParts, fzL, promL, okE, isSrc, bytesOk, pushA, cxOf, lenA, binA, intBinA, strBinA, unA, indexAddrA, eqA, AVs.inb, AV.inb, Loc.inb, calleeA, opsOf, sub, bodyOf, Env.get_set, quietA_nil, quietA_cons, quietK_none, quietK_some, qstep, newA, isNew, escNew, boxOk, newLoc, flat, rowPartsQ, quietN, quietOp, isBS, List.takeWhile, finishA_eq, finK_ret, finK_normal, retK, backK, resA, oneA, AV.back, AVs.back, execW_seq_eq, seqK_normal, seqK_ret, seqK_exit, execW_cond_eq, condK_true, condK_false, execW_block_eq, blockK_exit, blockK_normal, blockK_ret, execW_region_eq, regK_eq, execW_skip, execW_exit, execW_ret, regionA_plain, regionA_quiet0, tailK_eq, nilCheckA, guardOk, isConst, lookupA, keyFits, mapUpdateA, beqI, bneI, AS.get_push_at, AS.get_push_old, AS.push_len, AS.set_st_len, AS.next_st', AS.set_push_at, AS.get_set_self, AS.get_set_other, cr, Try.f7, hlen, hcx, f12] at hr
  subst hr
  refine ⟨_, rfl, by simp [hlen], by simp [Env.get_set, hlen, f12], fun i hi => ?_⟩
  simp only [List.mem_cons, List.not_mem_nil, or_false, not_or] at hi
  obtain ⟨x0, x1, x2⟩ := hi
  simp [Env.get_set, Ne.symm x0, Ne.symm x1, Ne.symm x2]

theorem r6b (cx : Cx) (env : Env) (σ : AS)  (hlen : env.length = 57) (hcx : cx.esc = []) (f12 : Env.get env 12 = .int .i64 2) :
    ∃ env', execW Try.prog cx [2000003, 2000008] (callW Try.prog how) (cr [.r, .l, .r, .i, .r, .r, .l]) (env, σ) = some (.normal, (env', σ)) ∧ env'.length = 57 ∧ (Env.get env' 44 = .bool true) ∧ ∀ i, i ∉ [44, 45, 46] → Env.get env' i = Env.get env i := by
  suffices h : ∀ res, execW Try.prog cx [2000003, 2000008] (callW Try.prog how) (cr [.r, .l, .r, .i, .r, .r, .l]) (env, σ) = res → ∃ env', res = some (.normal, (env', σ)) ∧ env'.length = 57 ∧ (Env.get env' 44 = .bool true) ∧ ∀ i, i ∉ [44, 45, 46] → Env.get env' i = Env.get env i from h _ rfl
  intro res hr
  simp -implicitDefEqProofs [ofV, ofCell, ofCells, seqA_nil, seqA_cons, seqVK_eq, seqEK_eq, wantedA, yieldedA, isVal, effA, ev, evs, evps, putE, optsA, optsOk, valA, fieldAddrA, fieldA, loadA, partA, aggA, isAggD, buildA, placesA, fillA, lay, storeA, AV.withCells, buildSliceA, elemsA, rowParts, fzL, promL, okE, isSrc, bytesOk, pushA, cxOf, lenA, binA, intBinA, strBinA, unA, indexAddrA, eqA, AVs.inb, AV.inb, Loc.inb, calleeA, opsOf, sub, bodyOf, Env.get_set, quietA_nil, quietA_cons, quietK_none, quietK_some, qstep, newA, isNew, escNew, boxOk, newLoc, flat, rowPartsQ, quietN, quietOp, isBS, List.takeWhile, finishA_eq, finK_ret, finK_normal, retK, backK, resA, oneA, AV.back, AVs.back, execW_seq_eq, seqK_normal, seqK_ret, seqK_exit, execW_cond_eq, condK_true, condK_false, execW_block_eq, blockK_exit, blockK_normal, blockK_ret, execW_region_eq, regK_eq, execW_skip, execW_exit, execW_ret, regionA_plain, regionA_quiet0, tailK_eq, nilCheckA, guardOk, isConst, lookupA, keyFits, mapUpdateA, beqI, bneI, AS.get_push_at, AS.get_push_old, AS.push_len, AS.set_st_len, AS.next_st', AS.set_push_at, AS.get_set_self, AS.get_set_other, cr, Try.f7, hlen, hcx, f12] at hr
  subst hr
  refine ⟨_, rfl, by simp [hlen], by simp [Env.get_set, hlen, f12], fun i hi => ?_⟩
  simp only [List.mem_cons, List.not_mem_nil, or_false, not_or] at hi
  obtain ⟨x0, x1, x2⟩ := hi
  simp [Env.get_set, Ne.symm x0, Ne.symm x1, Ne.symm x2]

theorem r6c (cx : Cx) (env : Env) (σ : AS) (k : Int) (hlen : env.length = 57) (hcx : cx.esc = []) (f12 : Env.get env 12 = .int .i64 k) (q1 : ¬ k = 1) (q2 : ¬ k = 2) :
    ∃ env', execW Try.prog cx [2000003, 2000008] (callW Try.prog how) (cr [.r, .l, .r, .i, .r, .r, .l]) (env, σ) = some (.normal, (env', σ)) ∧ env'.length = 57 ∧ (Env.get env' 44 = .bool false) ∧ ∀ i, i ∉ [44, 45, 46] → Env.get env' i = Env.get env i := by
  suffices h : ∀ res, execW Try.prog cx [2000003, 2000008] (callW Try.prog how) (cr [.r, .l, .r, .i, .r, .r, .l]) (env, σ) = res → ∃ env', res = some (.normal, (env', σ)) ∧ env'.length = 57 ∧ (Env.get env' 44 = .bool false) ∧ ∀ i, i ∉ [44, 45, 46] → Env.get env' i = Env.get env i from h _ rfl
  intro res hr
  simp -implicitDefEqProofs [ofV, ofCell, ofCells, seqA_nil, seqA_cons, seqVK_eq, seqEK_eq, wantedA, yieldedA, isVal, effA, ev, evs, evps, putE, optsA, optsOk, valA, fieldAddrA, fieldA, loadA, partA, aggA, isAggD, buildA, placesA, fillA, lay, storeA, AV.withCells, buildSliceA, elemsA, rowParts, fzL, promL, okE, isSrc, bytesOk, pushA, cxOf, lenA, binA, intBinA, strBinA, unA, indexAddrA, eqA, AVs.inb, AV.inb, Loc.inb, calleeA, opsOf, sub, bodyOf, Env.get_set, quietA_nil, quietA_cons, quietK_none, quietK_some, qstep, newA, isNew, escNew, boxOk, newLoc, flat, rowPartsQ, quietN, quietOp, isBS, List.takeWhile, finishA_eq, finK_ret, finK_normal, retK, backK, resA, oneA, AV.back, AVs.back, execW_seq_eq, seqK_normal, seqK_ret, seqK_exit, execW_cond_eq, condK_true, condK_false, execW_block_eq, blockK_exit, blockK_normal, blockK_ret, execW_region_eq, regK_eq, execW_skip, execW_exit, execW_ret, regionA_plain, regionA_quiet0, tailK_eq, nilCheckA, guardOk, isConst, lookupA, keyFits, mapUpdateA, beqI, bneI, AS.get_push_at, AS.get_push_old, AS.push_len, AS.set_st_len, AS.next_st', AS.set_push_at, AS.get_set_self, AS.get_set_other, cr, Try.f7, hlen, hcx, f12, q1, q2] at hr
  subst hr
  refine ⟨_, rfl, by simp [hlen], by simp [Env.get_set, hlen, f12, q1, q2], fun i hi => ?_⟩
  simp only [List.mem_cons, List.not_mem_nil, or_false, not_or] at hi
  obtain ⟨x0, x1, x2⟩ := hi
  simp [Env.get_set, Ne.symm x0, Ne.symm x1, Ne.symm x2]

theorem r9 (cx : Cx) (env : Env) (σ : AS)  (hlen : env.length = 57) (hcx : cx.esc = [])  :
    ∃ env', execW Try.prog cx [2000003, 2000008] (callW Try.prog how) (cr [.r, .r, .l]) (env, σ) = some (.normal, (env', σ)) ∧ env'.length = 57 ∧ (Env.get env' 6 = .bool true) ∧ ∀ i, i ∉ [6] → Env.get env' i = Env.get env i := by
  suffices h : ∀ res, execW Try.prog cx [2000003, 2000008] (callW Try.prog how) (cr [.r, .r, .l]) (env, σ) = res → ∃ env', res = some (.normal, (env', σ)) ∧ env'.length = 57 ∧ (Env.get env' 6 = .bool true) ∧ ∀ i, i ∉ [6] → Env.get env' i = Env.get env i from h _ rfl
  intro res hr
  simp -implicitDefEqProofs [ofV, ofCell, ofCells, seqA_nil, seqA_cons, seqVK_eq, seqEK_eq, wantedA, yieldedA, isVal, effA, ev, evs, evps, putE, optsA, optsOk, valA, fieldAddrA, fieldA, loadA, partA, aggA, isAggD, buildA, placesA, fillA, lay, storeA, AV.withCells, buildSliceA, elemsA, rowParts, fzL, promL, okE, isSrc, bytesOk, pushA, cxOf, lenA, binA, intBinA, strBinA, unA, indexAddrA, eqA, AVs.inb, AV.inb, Loc.inb, calleeA, opsOf, sub, bodyOf, Env.get_set, quietA_nil, quietA_cons, quietK_none, quietK_some, qstep, newA, isNew, escNew, boxOk, newLoc, flat, rowPartsQ, quietN, quietOp, isBS, List.takeWhile, finishA_eq, finK_ret, finK_normal, retK, backK, resA, oneA, AV.back, AVs.back, execW_seq_eq, seqK_normal, seqK_ret, seqK_exit, execW_cond_eq, condK_true, condK_false, execW_block_eq, blockK_exit, blockK_normal, blockK_ret, execW_region_eq, regK_eq, execW_skip, execW_exit, execW_ret, regionA_plain, regionA_quiet0, tailK_eq, nilCheckA, guardOk, isConst, lookupA, keyFits, mapUpdateA, beqI, bneI, AS.get_push_at, AS.get_push_old, AS.push_len, AS.set_st_len, AS.next_st', AS.set_push_at, AS.get_set_self, AS.get_set_other, cr, Try.f7, hlen, hcx] at hr
  subst hr
  refine ⟨_, rfl, by simp [hlen], by simp [Env.get_set, hlen], fun i hi => ?_⟩
  simp only [List.mem_cons, List.not_mem_nil, or_false, not_or] at hi
  have x0 := hi
  simp [Env.get_set, Ne.symm x0]

noncomputable def m3_q : List Oper := opsOf (cr [.r, .l, .r, .i, .r, .l, .l])
def m3_plan : List (Nat × List Nat) := [(0, []), (0, []), (0, []), (2, []), (4, [6]), (0, []), (1, []), (4, []), (0, []), (0, []), (0, []), (0, []), (0, [])]
theorem m3_reg : (cr [.r, .l, .r, .i, .r, .l, .l]) = .region 3 m3_q.toArray true := by kernel_rfl
theorem m3_ok (h : Nat) (ro : Option Nat) : planOk Try.prog (Cx.mk h ro []) m3_q m3_plan = true := by kernel_rfl
theorem m3_lt : anyLT Try.prog m3_q = true := by kernel_rfl
theorem m3_room (h : Nat) (ro : Option Nat) : roomL Try.prog (Cx.mk h ro []) m3_q = 0 := by kernel_rfl
theorem m3 (h : Nat) (ro : Option Nat) (hp s : List AObj) (env : Env) (a b : Nat) (k m : Int) (v : Vt) (hp' : List AObj) (l e : AV) (hlen : env.length = 57) (f0 : Env.get env 0 = .ptr (.hp a) 0) (f5 : Env.get env 5 = .ptr (.st b) 0) (g5 : ∀ H, (AS.mk H s).get (.st b) = some (.cells [.int .i64 k, .int .i64 v.s, .int .u64 v.r, .int .i64 v.n, .str v.v, .int .i64 m])) (hc13 : callW Try.prog how 13 [.agg [.int .u64 v.r, .int .i64 v.n]] ⟨hp, s⟩ ro = some (.agg [.int .u64 v.r, .int .i64 v.n], ⟨hp, s⟩)) (hc12 : callW Try.prog how 12 [.ptr (.hp a) 0, .agg [.int .u64 v.r, .int .i64 v.n], .int .i64 m] ⟨hp, s⟩ ro = some (.tup [l, e], ⟨hp', s⟩)) :
    ∃ env', execW Try.prog (Cx.mk h ro []) [2000003, 2000008] (callW Try.prog how) (cr [.r, .l, .r, .i, .r, .l, .l]) (env, ⟨hp, s⟩) = some (.normal, (env', AS.mk (hp') (s))) ∧ env'.length = 57 ∧ (Env.get env' 7 = l ∧ Env.get env' 8 = e) ∧ ∀ i, i ∉ [7, 8, 15, 16, 17, 18, 19, 20, 21, 22, 23, 24, 25] → Env.get env' i = Env.get env i := by
  suffices hh : ∀ res, execW Try.prog (Cx.mk h ro []) [2000003, 2000008] (callW Try.prog how) (cr [.r, .l, .r, .i, .r, .l, .l]) (env, ⟨hp, s⟩) = res → ∃ env', res = some (.normal, (env', AS.mk (hp') (s))) ∧ env'.length = 57 ∧ (Env.get env' 7 = l ∧ Env.get env' 8 = e) ∧ ∀ i, i ∉ [7, 8, 15, 16, 17, 18, 19, 20, 21, 22, 23, 24, 25] → Env.get env' i = Env.get env i from hh _ rfl
  intro res hr
  have hroom := m3_room h ro
  rw [m3_reg, execW_region_eq] at hr
  rw [show (m3_q.toArray).toList = m3_q from rfl, regionA_mix rfl rfl] at hr
  generalize h1 : mixL Try.prog (Cx.mk h ro []) (callW Try.prog how) ⟨hp, s⟩ m3_q true none (m3_q.zip m3_plan) env (layL Try.prog (Cx.mk h ro []) ⟨hp, s⟩ m3_q) = r1 at *
  have h1' := h1
  rw [layL0 hroom] at h1'
  simp -implicitDefEqProofs [m3_plan, ofV, ofCell, ofCells, seqA_nil, seqA_cons, seqVK_eq, seqEK_eq, wantedA, yieldedA, isVal, effA, ev, evs, evps, putE, optsA, optsOk, valA, fieldAddrA, fieldA, loadA, partA, aggA, isAggD, buildA, placesA, fillA, lay, storeA, AV.withCells, buildSliceA, elemsA, rowParts, fzL, promL, okE, isSrc, bytesOk, pushA, cxOf, lenA, binA, intBinA, strBinA, unA, indexAddrA, eqA, AVs.inb, AV.inb, Loc.inb, calleeA, opsOf, sub, bodyOf, Env.get_set, quietA_nil, quietA_cons, quietK_none, quietK_some, qstep, newA, isNew, escNew, boxOk, newLoc, flat, rowPartsQ, quietN, quietOp, isBS, List.takeWhile, finishA_eq, finK_ret, finK_normal, retK, backK, resA, oneA, AV.back, AVs.back, execW_seq_eq, seqK_normal, seqK_ret, seqK_exit, execW_cond_eq, condK_true, condK_false, execW_block_eq, blockK_exit, blockK_normal, blockK_ret, execW_region_eq, regK_eq, execW_skip, execW_exit, execW_ret, regionA_plain, regionA_quiet0, tailK_eq, nilCheckA, guardOk, isConst, lookupA, keyFits, mapUpdateA, beqI, bneI, mixL_nil, mixL_cons, mixK_eq, tK_pre, tK_eq, vK_eq, stepL_0, stepL_1n, stepL_1s, stepL_2, stepL_3, stepL_4, newL, tchkL, agreeB, Op.operands, sameO, truncM, beq_bool, beq_int, beq_str, beq_nilp, beq_ptr, beq_eptr, beq_nils, beq_row, beq_nilm, beq_map, beq_agg, beq_sl, beqs_nil, beqs_cons, m3_q, cr, Try.f7, hlen, f0, f5, g5, hc13, hc12] at h1'
  subst h1'
  rw [mixA_plan2 (m3_ok h ro) m3_lt h1, layL0 hroom] at hr
  simp -implicitDefEqProofs [m3_plan, ofV, ofCell, ofCells, seqA_nil, seqA_cons, seqVK_eq, seqEK_eq, wantedA, yieldedA, isVal, effA, ev, evs, evps, putE, optsA, optsOk, valA, fieldAddrA, fieldA, loadA, partA, aggA, isAggD, buildA, placesA, fillA, lay, storeA, AV.withCells, buildSliceA, elemsA, rowParts, fzL, promL, okE, isSrc, bytesOk, pushA, cxOf, lenA, binA, intBinA, strBinA, unA, indexAddrA, eqA, AVs.inb, AV.inb, Loc.inb, calleeA, opsOf, sub, bodyOf, Env.get_set, quietA_nil, quietA_cons, quietK_none, quietK_some, qstep, newA, isNew, escNew, boxOk, newLoc, flat, rowPartsQ, quietN, quietOp, isBS, List.takeWhile, finishA_eq, finK_ret, finK_normal, retK, backK, resA, oneA, AV.back, AVs.back, execW_seq_eq, seqK_normal, seqK_ret, seqK_exit, execW_cond_eq, condK_true, condK_false, execW_block_eq, blockK_exit, blockK_normal, blockK_ret, execW_region_eq, regK_eq, execW_skip, execW_exit, execW_ret, regionA_plain, regionA_quiet0, tailK_eq, nilCheckA, guardOk, isConst, lookupA, keyFits, mapUpdateA, beqI, bneI, mixL_nil, mixL_cons, mixK_eq, tK_pre, tK_eq, vK_eq, stepL_0, stepL_1n, stepL_1s, stepL_2, stepL_3, stepL_4, newL, tchkL, agreeB, Op.operands, sameO, truncM, beq_bool, beq_int, beq_str, beq_nilp, beq_ptr, beq_eptr, beq_nils, beq_row, beq_nilm, beq_map, beq_agg, beq_sl, beqs_nil, beqs_cons, m3_q, cr, Try.f7, hlen, f0, f5, g5, hc13, hc12] at hr
  subst hr
  refine ⟨_, rfl, by simp [hlen], by simp [Env.get_set, hlen, f0, f5, g5, hc13, hc12], fun i hi => ?_⟩
  simp only [List.mem_cons, List.not_mem_nil, or_false, not_or] at hi
  obtain ⟨x0, x1, x2, x3, x4, x5, x6, x7, x8, x9, x10, x11, x12⟩ := hi
  simp [Env.get_set, Ne.symm x0, Ne.symm x1, Ne.symm x2, Ne.symm x3, Ne.symm x4, Ne.symm x5, Ne.symm x6, Ne.symm x7, Ne.symm x8, Ne.symm x9, Ne.symm x10, Ne.symm x11, Ne.symm x12]

noncomputable def m8_q : List Oper := opsOf (cr [.r, .l, .r, .i, .r, .r, .r, .l, .l])
def m8_plan : List (Nat × List Nat) := [(0, []), (0, []), (2, []), (4, [7]), (4, [7]), (0, []), (0, []), (1, []), (4, []), (0, []), (0, [])]
theorem m8_reg : (cr [.r, .l, .r, .i, .r, .r, .r, .l, .l]) = .region 8 m8_q.toArray true := by kernel_rfl
theorem m8_ok (h : Nat) (ro : Option Nat) : planOk Try.prog (Cx.mk h ro []) m8_q m8_plan = true := by kernel_rfl
theorem m8_lt : anyLT Try.prog m8_q = true := by kernel_rfl
theorem m8_room (h : Nat) (ro : Option Nat) : roomL Try.prog (Cx.mk h ro []) m8_q = 0 := by kernel_rfl
theorem m8 (h : Nat) (ro : Option Nat) (hp s : List AObj) (env : Env) (a r b : Nat) (k m : Int) (v : Vt) (hp1 hp2 : List AObj) (c1 c2 : Int) (hlen : env.length = 57) (f0 : Env.get env 0 = .ptr (.hp a) 0) (f1 : Env.get env 1 = .ptr (.hp r) 0) (f5 : Env.get env 5 = .ptr (.st b) 0) (g5 : ∀ H, (AS.mk H s).get (.st b) = some (.cells [.int .i64 k, .int .i64 v.s, .int .u64 v.r, .int .i64 v.n, .str v.v, .int .i64 m])) (hc9 : callW Try.prog how 9 [.agg [.int .i64 v.s, .int .u64 v.r, .int .i64 v.n, .str v.v]] ⟨hp, s⟩ ro = some (.agg [.int .i64 v.s, .int .u64 v.r, .int .i64 v.n, .str v.v], ⟨hp, s⟩)) (hc8 : callW Try.prog how 8 [.ptr (.hp a) 0, .agg [.int .i64 v.s, .int .u64 v.r, .int .i64 v.n, .str v.v]] ⟨hp, s⟩ ro = some (.int .i64 c1, ⟨hp1, s⟩)) (hc10 : callW Try.prog how 10 [.ptr (.hp r) 0, .agg [.int .i64 v.s, .int .u64 v.r, .int .i64 v.n, .str v.v]] ⟨hp1, s⟩ ro = some (.int .i64 c2, ⟨hp2, s⟩)) :
    ∃ env', execW Try.prog (Cx.mk h ro []) [2000003, 2000008] (callW Try.prog how) (cr [.r, .l, .r, .i, .r, .r, .r, .l, .l]) (env, ⟨hp, s⟩) = some (.normal, (env', AS.mk (hp2) (s))) ∧ env'.length = 57 ∧ (Env.get env' 6 = .bool (decide (c1 = c2))) ∧ ∀ i, i ∉ [6, 47, 48, 49, 50, 51, 52, 53, 54, 55, 56] → Env.get env' i = Env.get env i := by
  suffices hh : ∀ res, execW Try.prog (Cx.mk h ro []) [2000003, 2000008] (callW Try.prog how) (cr [.r, .l, .r, .i, .r, .r, .r, .l, .l]) (env, ⟨hp, s⟩) = res → ∃ env', res = some (.normal, (env', AS.mk (hp2) (s))) ∧ env'.length = 57 ∧ (Env.get env' 6 = .bool (decide (c1 = c2))) ∧ ∀ i, i ∉ [6, 47, 48, 49, 50, 51, 52, 53, 54, 55, 56] → Env.get env' i = Env.get env i from hh _ rfl
  intro res hr
  have hroom := m8_room h ro
  rw [m8_reg, execW_region_eq] at hr
  rw [show (m8_q.toArray).toList = m8_q from rfl, regionA_mix rfl rfl] at hr
  generalize h1 : mixL Try.prog (Cx.mk h ro []) (callW Try.prog how) ⟨hp, s⟩ m8_q true none (m8_q.zip m8_plan) env (layL Try.prog (Cx.mk h ro []) ⟨hp, s⟩ m8_q) = r1 at *
  have h1' := h1
  rw [layL0 hroom] at h1'
  simp -implicitDefEqProofs [m8_plan, ofV, ofCell, ofCells, seqA_nil, seqA_cons, seqVK_eq, seqEK_eq, wantedA, yieldedA, isVal, effA, ev, evs, evps, putE, optsA, optsOk, valA, fieldAddrA, fieldA, loadA, partA, aggA, isAggD, buildA, placesA, fillA, lay, storeA, AV.withCells, buildSliceA, elemsA, rowParts, fzL, promL, okE, isSrc, bytesOk, pushA, cxOf, lenA, binA, intBinA, strBinA, unA, indexAddrA, eqA, AVs.inb, AV.inb, Loc.inb, calleeA, opsOf, sub, bodyOf, Env.get_set, quietA_nil, quietA_cons, quietK_none, quietK_some, qstep, newA, isNew, escNew, boxOk, newLoc, flat, rowPartsQ, quietN, quietOp, isBS, List.takeWhile, finishA_eq, finK_ret, finK_normal, retK, backK, resA, oneA, AV.back, AVs.back, execW_seq_eq, seqK_normal, seqK_ret, seqK_exit, execW_cond_eq, condK_true, condK_false, execW_block_eq, blockK_exit, blockK_normal, blockK_ret, execW_region_eq, regK_eq, execW_skip, execW_exit, execW_ret, regionA_plain, regionA_quiet0, tailK_eq, nilCheckA, guardOk, isConst, lookupA, keyFits, mapUpdateA, beqI, bneI, mixL_nil, mixL_cons, mixK_eq, tK_pre, tK_eq, vK_eq, stepL_0, stepL_1n, stepL_1s, stepL_2, stepL_3, stepL_4, newL, tchkL, agreeB, Op.operands, sameO, truncM, beq_bool, beq_int, beq_str, beq_nilp, beq_ptr, beq_eptr, beq_nils, beq_row, beq_nilm, beq_map, beq_agg, beq_sl, beqs_nil, beqs_cons, m8_q, cr, Try.f7, hlen, f0, f1, f5, g5, hc9, hc8, hc10] at h1'
  subst h1'
  rw [mixA_plan2 (m8_ok h ro) m8_lt h1, layL0 hroom] at hr
  simp -implicitDefEqProofs [m8_plan, ofV, ofCell, ofCells, seqA_nil, seqA_cons, seqVK_eq, seqEK_eq, wantedA, yieldedA, isVal, effA, ev, evs, evps, putE, optsA, optsOk, valA, fieldAddrA, fieldA, loadA, partA, aggA, isAggD, buildA, placesA, fillA, lay, storeA, AV.withCells, buildSliceA, elemsA, rowParts, fzL, promL, okE, isSrc, bytesOk, pushA, cxOf, lenA, binA, intBinA, strBinA, unA, indexAddrA, eqA, AVs.inb, AV.inb, Loc.inb, calleeA, opsOf, sub, bodyOf, Env.get_set, quietA_nil, quietA_cons, quietK_none, quietK_some, qstep, newA, isNew, escNew, boxOk, newLoc, flat, rowPartsQ, quietN, quietOp, isBS, List.takeWhile, finishA_eq, finK_ret, finK_normal, retK, backK, resA, oneA, AV.back, AVs.back, execW_seq_eq, seqK_normal, seqK_ret, seqK_exit, execW_cond_eq, condK_true, condK_false, execW_block_eq, blockK_exit, blockK_normal, blockK_ret, execW_region_eq, regK_eq, execW_skip, execW_exit, execW_ret, regionA_plain, regionA_quiet0, tailK_eq, nilCheckA, guardOk, isConst, lookupA, keyFits, mapUpdateA, beqI, bneI, mixL_nil, mixL_cons, mixK_eq, tK_pre, tK_eq, vK_eq, stepL_0, stepL_1n, stepL_1s, stepL_2, stepL_3, stepL_4, newL, tchkL, agreeB, Op.operands, sameO, truncM, beq_bool, beq_int, beq_str, beq_nilp, beq_ptr, beq_eptr, beq_nils, beq_row, beq_nilm, beq_map, beq_agg, beq_sl, beqs_nil, beqs_cons, m8_q, cr, Try.f7, hlen, f0, f1, f5, g5, hc9, hc8, hc10] at hr
  subst hr
  refine ⟨_, rfl, by simp [hlen], by simp [Env.get_set, hlen, f0, f1, f5, g5, hc9, hc8, hc10], fun i hi => ?_⟩
  simp only [List.mem_cons, List.not_mem_nil, or_false, not_or] at hi
  obtain ⟨x0, x1, x2, x3, x4, x5, x6, x7, x8, x9, x10⟩ := hi
  simp [Env.get_set, Ne.symm x0, Ne.symm x1, Ne.symm x2, Ne.symm x3, Ne.symm x4, Ne.symm x5, Ne.symm x6, Ne.symm x7, Ne.symm x8, Ne.symm x9, Ne.symm x10]

theorem r4 (cx : Cx) (env : Env) (σ : AS) (r b : Nat) (k m : Int) (v : Vt) (w e : AV) (σ' : AS) (hlen : env.length = 57) (hcx : cx.esc = []) (f1 : Env.get env 1 = .ptr (.hp r) 0) (f5 : Env.get env 5 = .ptr (.st b) 0) (g5 : σ.get (.st b) = some (.cells [.int .i64 k, .int .i64 v.s, .int .u64 v.r, .int .i64 v.n, .str v.v, .int .i64 m])) (hc : callW Try.prog how 21 [.ptr (.hp r) 0, .agg [.int .u64 v.r, .int .i64 v.n], .int .i64 m] σ cx.ro = some (.tup [w, e], σ')) :
    ∃ env', execW Try.prog cx [2000003, 2000008] (callW Try.prog how) (cr [.r, .l, .r, .i, .r, .l, .r, .l]) (env, σ) = some (.normal, (env', σ')) ∧ env'.length = 57 ∧ (Env.get env' 9 = w ∧ Env.get env' 10 = e) ∧ ∀ i, i ∉ [9, 10, 26, 27, 28, 29, 30, 31, 32, 33, 34, 35] → Env.get env' i = Env.get env i := by
  suffices h : ∀ res, execW Try.prog cx [2000003, 2000008] (callW Try.prog how) (cr [.r, .l, .r, .i, .r, .l, .r, .l]) (env, σ) = res → ∃ env', res = some (.normal, (env', σ')) ∧ env'.length = 57 ∧ (Env.get env' 9 = w ∧ Env.get env' 10 = e) ∧ ∀ i, i ∉ [9, 10, 26, 27, 28, 29, 30, 31, 32, 33, 34, 35] → Env.get env' i = Env.get env i from h _ rfl
  intro res hr
  simp -implicitDefEqProofs [ofV, ofCell, ofCells, seqA_nil, seqA_cons, seqVK_eq, seqEK_eq, wantedA, yieldedA, isVal, effA, ev, evs, evps, putE, optsA, optsOk, valA, fieldAddrA, fieldA, loadA, partA, aggA, isAggD, buildA, placesA, fillA, lay, storeA, AV.withCells, buildSliceA, elemsA, rowParts, fzL, promL, okE, isSrc, bytesOk, pushA, cxOf, lenA, binA, intBinA, strBinA, unA, indexAddrA, eqA, AVs.inb, AV.inb, Loc.inb, calleeA, opsOf, sub, bodyOf, Env.get_set, quietA_nil, quietA_cons, quietK_none, quietK_some, qstep, newA, isNew, escNew, boxOk, newLoc, flat, rowPartsQ, quietN, quietOp, isBS, List.takeWhile, finishA_eq, finK_ret, finK_normal, retK, backK, resA, oneA, AV.back, AVs.back, execW_seq_eq, seqK_normal, seqK_ret, seqK_exit, execW_cond_eq, condK_true, condK_false, execW_block_eq, blockK_exit, blockK_normal, blockK_ret, execW_region_eq, regK_eq, execW_skip, execW_exit, execW_ret, regionA_plain, regionA_quiet0, tailK_eq, nilCheckA, guardOk, isConst, lookupA, keyFits, mapUpdateA, beqI, bneI, AS.get_push_at, AS.get_push_old, AS.push_len, AS.set_st_len, AS.next_st', AS.set_push_at, AS.get_set_self, AS.get_set_other, cr, Try.f7, hlen, hcx, f1, f5, g5, hc] at hr
  subst hr
  refine ⟨_, rfl, by simp [hlen], by simp [Env.get_set, hlen, f1, f5, g5, hc], fun i hi => ?_⟩
  simp only [List.mem_cons, List.not_mem_nil, or_false, not_or] at hi
  obtain ⟨x0, x1, x2, x3, x4, x5, x6, x7, x8, x9, x10, x11⟩ := hi
  simp [Env.get_set, Ne.symm x0, Ne.symm x1, Ne.symm x2, Ne.symm x3, Ne.symm x4, Ne.symm x5, Ne.symm x6, Ne.symm x7, Ne.symm x8, Ne.symm x9, Ne.symm x10, Ne.symm x11]

theorem r5 (cx : Cx) (env : Env) (σ : AS) (l w : AV) (c : Int) (hlen : env.length = 57) (hcx : cx.esc = []) (f7 : Env.get env 7 = l) (f8 : Env.get env 8 = .int .i64 c) (f9 : Env.get env 9 = w) (f10 : Env.get env 10 = .int .i64 c) (hc : callW Try.prog how 18 [l, w] σ cx.ro = some (.bool true, σ)) :
    ∃ env', execW Try.prog cx [2000003, 2000008] (callW Try.prog how) (cr [.r, .l, .r, .i, .r, .l, .r, .r, .l]) (env, σ) = some (.normal, (env', σ)) ∧ env'.length = 57 ∧ (Env.get env' 6 = .bool true) ∧ ∀ i, i ∉ [6, 36, 37, 38, 39, 40, 41, 42, 43] → Env.get env' i = Env.get env i := by
  suffices h : ∀ res, execW Try.prog cx [2000003, 2000008] (callW Try.prog how) (cr [.r, .l, .r, .i, .r, .l, .r, .r, .l]) (env, σ) = res → ∃ env', res = some (.normal, (env', σ)) ∧ env'.length = 57 ∧ (Env.get env' 6 = .bool true) ∧ ∀ i, i ∉ [6, 36, 37, 38, 39, 40, 41, 42, 43] → Env.get env' i = Env.get env i from h _ rfl
  intro res hr
  simp -implicitDefEqProofs [ofV, ofCell, ofCells, seqA_nil, seqA_cons, seqVK_eq, seqEK_eq, wantedA, yieldedA, isVal, effA, ev, evs, evps, putE, optsA, optsOk, valA, fieldAddrA, fieldA, loadA, partA, aggA, isAggD, buildA, placesA, fillA, lay, storeA, AV.withCells, buildSliceA, elemsA, rowParts, fzL, promL, okE, isSrc, bytesOk, pushA, cxOf, lenA, binA, intBinA, strBinA, unA, indexAddrA, eqA, AVs.inb, AV.inb, Loc.inb, calleeA, opsOf, sub, bodyOf, Env.get_set, quietA_nil, quietA_cons, quietK_none, quietK_some, qstep, newA, isNew, escNew, boxOk, newLoc, flat, rowPartsQ, quietN, quietOp, isBS, List.takeWhile, finishA_eq, finK_ret, finK_normal, retK, backK, resA, oneA, AV.back, AVs.back, execW_seq_eq, seqK_normal, seqK_ret, seqK_exit, execW_cond_eq, condK_true, condK_false, execW_block_eq, blockK_exit, blockK_normal, blockK_ret, execW_region_eq, regK_eq, execW_skip, execW_exit, execW_ret, regionA_plain, regionA_quiet0, tailK_eq, nilCheckA, guardOk, isConst, lookupA, keyFits, mapUpdateA, beqI, bneI, AS.get_push_at, AS.get_push_old, AS.push_len, AS.set_st_len, AS.next_st', AS.set_push_at, AS.get_set_self, AS.get_set_other, cr, Try.f7, hlen, hcx, f7, f8, f9, f10, hc] at hr
  subst hr
  refine ⟨_, rfl, by simp [hlen], by simp [Env.get_set, hlen, f7, f8, f9, f10, hc], fun i hi => ?_⟩
  simp only [List.mem_cons, List.not_mem_nil, or_false, not_or] at hi
  obtain ⟨x0, x1, x2, x3, x4, x5, x6, x7, x8⟩ := hi
  simp [Env.get_set, Ne.symm x0, Ne.symm x1, Ne.symm x2, Ne.symm x3, Ne.symm x4, Ne.symm x5, Ne.symm x6, Ne.symm x7, Ne.symm x8]

end F7