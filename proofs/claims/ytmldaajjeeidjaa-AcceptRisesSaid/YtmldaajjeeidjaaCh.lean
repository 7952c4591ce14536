/- What both Prepares do. -/
import Derived.Test.YtmldaajjeeidjaaCg
open Go Go.Abs Go.Proofs
set_option maxRecDepth 100000
set_option maxHeartbeats 4000000
set_option linter.unusedSimpArgs false
set_option linter.unusedVariables false
theorem slV_row {l : List AV} {sz : Nat} (n : Nat) : (slV sz l).inb n = true := slV_plain.inb n
theorem slV_back {l : List AV} {sz h : Nat} {σ : AS} : (slV sz l).back h σ = some (slV sz l) := slV_plain.back h σ

namespace F12
noncomputable def cr (p : List Dir) : Code := sub p (bodyOf Try.f12)

theorem rA (cx : Cx) (env : Env) (σ : AS) (r n : Int) (hlen : env.length = 33) (hcx : cx.esc = []) (f1 : Env.get env 1 = .agg [.int .u64 r, .int .i64 n]) (hw : wok cx.ro (.st σ.st.length) = true) (hh : cx.h ≤ σ.st.length) :
    ∃ env', execW Try.prog cx [] (callW Try.prog how) (cr [.l]) (env, σ) = some (.normal, (env', σ.push false (.cells [.int .u64 r, .int .i64 n]))) ∧ env'.length = 33 ∧ (Env.get env' 4 = .ptr (.st σ.st.length) 0 ∧ Env.get env' 6 = .nils ∧ Env.get env' 7 = .int .i64 0) ∧ ∀ i, i ∉ [4, 6, 7] → Env.get env' i = Env.get env i := by
  suffices h : ∀ res, execW Try.prog cx [] (callW Try.prog how) (cr [.l]) (env, σ) = res → ∃ env', res = some (.normal, (env', σ.push false (.cells [.int .u64 r, .int .i64 n]))) ∧ env'.length = 33 ∧ (Env.get env' 4 = .ptr (.st σ.st.length) 0 ∧ Env.get env' 6 = .nils ∧ Env.get env' 7 = .int .i64 0) ∧ ∀ i, i ∉ [4, 6, 7] → Env.get env' i = Env.get env i from h _ rfl
  intro res hr
  simp -implicitDefEqProofs [ofV, ofCell, ofCells, seqA_nil, seqA_cons, seqVK_eq, seqEK_eq, wantedA, yieldedA, isVal, effA, ev, evs, evps, putE, optsA, optsOk, valA, fieldAddrA, fieldA, loadA, partA, aggA, isAggD, buildA, placesA, fillA, lay, storeA, AV.withCells, buildSliceA, elemsA, rowParts, fzL, promL, okE, isSrc, bytesOk, pushA, cxOf, lenA, binA, intBinA, strBinA, unA, indexAddrA, eqA, AVs.inb, AV.inb, Loc.inb, calleeA, opsOf, sub, bodyOf, Env.get_set, quietA_nil, quietA_cons, quietK_none, quietK_some, qstep, newA, isNew, escNew, boxOk, newLoc, flat, rowPartsQ, quietN, quietOp, isBS, List.takeWhile, finishA_eq, finK_ret, finK_normal, retK, backK, resA, oneA, AV.back, AVs.back, execW_seq_eq, seqK_normal, seqK_ret, seqK_exit, execW_cond_eq, condK_true, condK_false, execW_block_eq, blockK_exit, blockK_normal, blockK_ret, execW_region_eq, regK_eq, execW_skip, execW_exit, execW_ret, regionA_plain, regionA_quiet0, tailK_eq, nilCheckA, guardOk, isConst, lookupA, keyFits, mapUpdateA, beqI, bneI, AS.get_push_at, AS.get_push_old, AS.push_len, AS.set_st_len, AS.next_st', AS.set_push_at, AS.get_set_self, AS.get_set_other, cr, Try.f12, hlen, hcx, f1, hw, hh] at hr
  subst hr
  refine ⟨_, rfl, by simp [hlen], by simp [Env.get_set, hlen, f1, hw, hh], fun i hi => ?_⟩
  simp only [List.mem_cons, List.not_mem_nil, or_false, not_or] at hi
  obtain ⟨x0, x1, x2⟩ := hi
  simp [Env.get_set, Ne.symm x0, Ne.symm x1, Ne.symm x2]

theorem rEa (cx : Cx) (env : Env) (σ : AS) (a b : Nat) (r n m : Int) (hlen : env.length = 33) (hcx : cx.esc = []) (f0 : Env.get env 0 = .ptr (.hp a) 0) (f2 : Env.get env 2 = .int .i64 m) (f4 : Env.get env 4 = .ptr (.st b) 0) (g4 : σ.get (.st b) = some (.cells [.int .u64 r, .int .i64 n])) (hc : callW Try.prog how 22 [.agg [.int .u64 r, .int .i64 n]] σ cx.ro = some (.bool false, σ)) :
    ∃ env', execW Try.prog cx [] (callW Try.prog how) (cr [.r, .l]) (env, σ) = some (.ret, (env', σ)) ∧ env'.length = 33 ∧ (Env.get env' 6 = .nils ∧ Env.get env' 7 = .int .i64 1) ∧ ∀ i, i ∉ [6, 7, 8, 9, 10, 11, 12, 13, 14, 15, 16, 17, 18, 19, 20, 21, 22, 23, 24, 25] → Env.get env' i = Env.get env i := by
  suffices h : ∀ res, execW Try.prog cx [] (callW Try.prog how) (cr [.r, .l]) (env, σ) = res → ∃ env', res = some (.ret, (env', σ)) ∧ env'.length = 33 ∧ (Env.get env' 6 = .nils ∧ Env.get env' 7 = .int .i64 1) ∧ ∀ i, i ∉ [6, 7, 8, 9, 10, 11, 12, 13, 14, 15, 16, 17, 18, 19, 20, 21, 22, 23, 24, 25] → Env.get env' i = Env.get env i from h _ rfl
  intro res hr
  simp -implicitDefEqProofs [ofV, ofCell, ofCells, seqA_nil, seqA_cons, seqVK_eq, seqEK_eq, wantedA, yieldedA, isVal, effA, ev, evs, evps, putE, optsA, optsOk, valA, fieldAddrA, fieldA, loadA, partA, aggA, isAggD, buildA, placesA, fillA, lay, storeA, AV.withCells, buildSliceA, elemsA, rowParts, fzL, promL, okE, isSrc, bytesOk, pushA, cxOf, lenA, binA, intBinA, strBinA, unA, indexAddrA, eqA, AVs.inb, AV.inb, Loc.inb, calleeA, opsOf, sub, bodyOf, Env.get_set, quietA_nil, quietA_cons, quietK_none, quietK_some, qstep, newA, isNew, escNew, boxOk, newLoc, flat, rowPartsQ, quietN, quietOp, isBS, List.takeWhile, finishA_eq, finK_ret, finK_normal, retK, backK, resA, oneA, AV.back, AVs.back, execW_seq_eq, seqK_normal, seqK_ret, seqK_exit, execW_cond_eq, condK_true, condK_false, execW_block_eq, blockK_exit, blockK_normal, blockK_ret, execW_region_eq, regK_eq, execW_skip, execW_exit, execW_ret, regionA_plain, regionA_quiet0, tailK_eq, nilCheckA, guardOk, isConst, lookupA, keyFits, mapUpdateA, beqI, bneI, AS.get_push_at, AS.get_push_old, AS.push_len, AS.set_st_len, AS.next_st', AS.set_push_at, AS.get_set_self, AS.get_set_other, cr, Try.f12, hlen, hcx, f0, f2, f4, g4, hc] at hr
  subst hr
  refine ⟨_, rfl, by simp [hlen], by simp [Env.get_set, hlen, f0, f2, f4, g4, hc], fun i hi => ?_⟩
  simp only [List.mem_cons, List.not_mem_nil, or_false, not_or] at hi
  obtain ⟨x0, x1, x2, x3, x4, x5, x6, x7, x8, x9, x10, x11, x12, x13, x14, x15, x16, x17, x18, x19⟩ := hi
  simp [Env.get_set, Ne.symm x0, Ne.symm x1, Ne.symm x2, Ne.symm x3, Ne.symm x4, Ne.symm x5, Ne.symm x6, Ne.symm x7, Ne.symm x8, Ne.symm x9, Ne.symm x10, Ne.symm x11, Ne.symm x12, Ne.symm x13, Ne.symm x14, Ne.symm x15, Ne.symm x16, Ne.symm x17, Ne.symm x18, Ne.symm x19]

theorem rEb (cx : Cx) (env : Env) (σ : AS) (a b : Nat) (r n m : Int) (hlen : env.length = 33) (hcx : cx.esc = []) (f0 : Env.get env 0 = .ptr (.hp a) 0) (f2 : Env.get env 2 = .int .i64 m) (f4 : Env.get env 4 = .ptr (.st b) 0) (g4 : σ.get (.st b) = some (.cells [.int .u64 r, .int .i64 n])) (hc : callW Try.prog how 22 [.agg [.int .u64 r, .int .i64 n]] σ cx.ro = some (.bool true, σ)) (q : m < 0) :
    ∃ env', execW Try.prog cx [] (callW Try.prog how) (cr [.r, .l]) (env, σ) = some (.ret, (env', σ)) ∧ env'.length = 33 ∧ (Env.get env' 6 = .nils ∧ Env.get env' 7 = .int .i64 1) ∧ ∀ i, i ∉ [6, 7, 8, 9, 10, 11, 12, 13, 14, 15, 16, 17, 18, 19, 20, 21, 22, 23, 24, 25] → Env.get env' i = Env.get env i := by
  suffices h : ∀ res, execW Try.prog cx [] (callW Try.prog how) (cr [.r, .l]) (env, σ) = res → ∃ env', res = some (.ret, (env', σ)) ∧ env'.length = 33 ∧ (Env.get env' 6 = .nils ∧ Env.get env' 7 = .int .i64 1) ∧ ∀ i, i ∉ [6, 7, 8, 9, 10, 11, 12, 13, 14, 15, 16, 17, 18, 19, 20, 21, 22, 23, 24, 25] → Env.get env' i = Env.get env i from h _ rfl
  intro res hr
  simp -implicitDefEqProofs [ofV, ofCell, ofCells, seqA_nil, seqA_cons, seqVK_eq, seqEK_eq, wantedA, yieldedA, isVal, effA, ev, evs, evps, putE, optsA, optsOk, valA, fieldAddrA, fieldA, loadA, partA, aggA, isAggD, buildA, placesA, fillA, lay, storeA, AV.withCells, buildSliceA, elemsA, rowParts, fzL, promL, okE, isSrc, bytesOk, pushA, cxOf, lenA, binA, intBinA, strBinA, unA, indexAddrA, eqA, AVs.inb, AV.inb, Loc.inb, calleeA, opsOf, sub, bodyOf, Env.get_set, quietA_nil, quietA_cons, quietK_none, quietK_some, qstep, newA, isNew, escNew, boxOk, newLoc, flat, rowPartsQ, quietN, quietOp, isBS, List.takeWhile, finishA_eq, finK_ret, finK_normal, retK, backK, resA, oneA, AV.back, AVs.back, execW_seq_eq, seqK_normal, seqK_ret, seqK_exit, execW_cond_eq, condK_true, condK_false, execW_block_eq, blockK_exit, blockK_normal, blockK_ret, execW_region_eq, regK_eq, execW_skip, execW_exit, execW_ret, regionA_plain, regionA_quiet0, tailK_eq, nilCheckA, guardOk, isConst, lookupA, keyFits, mapUpdateA, beqI, bneI, AS.get_push_at, AS.get_push_old, AS.push_len, AS.set_st_len, AS.next_st', AS.set_push_at, AS.get_set_self, AS.get_set_other, cr, Try.f12, hlen, hcx, f0, f2, f4, g4, hc, q] at hr
  subst hr
  refine ⟨_, rfl, by simp [hlen], by simp [Env.get_set, hlen, f0, f2, f4, g4, hc, q], fun i hi => ?_⟩
  simp only [List.mem_cons, List.not_mem_nil, or_false, not_or] at hi
  obtain ⟨x0, x1, x2, x3, x4, x5, x6, x7, x8, x9, x10, x11, x12, x13, x14, x15, x16, x17, x18, x19⟩ := hi
  simp [Env.get_set, Ne.symm x0, Ne.symm x1, Ne.symm x2, Ne.symm x3, Ne.symm x4, Ne.symm x5, Ne.symm x6, Ne.symm x7, Ne.symm x8, Ne.symm x9, Ne.symm x10, Ne.symm x11, Ne.symm x12, Ne.symm x13, Ne.symm x14, Ne.symm x15, Ne.symm x16, Ne.symm x17, Ne.symm x18, Ne.symm x19]

theorem rOld (cx : Cx) (env : Env) (σ : AS) (a b : Nat) (r n m pr pn : Int) (X : AV) (hlen : env.length = 33) (hcx : cx.esc = []) (f0 : Env.get env 0 = .ptr (.hp a) 0) (f2 : Env.get env 2 = .int .i64 m) (f4 : Env.get env 4 = .ptr (.st b) 0) (g4 : σ.get (.st b) = some (.cells [.int .u64 r, .int .i64 n])) (hc : callW Try.prog how 22 [.agg [.int .u64 r, .int .i64 n]] σ cx.ro = some (.bool true, σ)) (q : ¬ m < 0) (hA : σ.get (.hp a) = some (.cells [.int .u64 pr, .int .i64 pn, X])) (hc2 : callW Try.prog how 23 [.agg [.int .u64 r, .int .i64 n], .agg [.int .u64 pr, .int .i64 pn]] σ (some σ.st.length) = some (.bool true, σ)) :
    ∃ env', execW Try.prog cx [] (callW Try.prog how) (cr [.r, .l]) (env, σ) = some (.ret, (env', σ)) ∧ env'.length = 33 ∧ (Env.get env' 6 = .nils ∧ Env.get env' 7 = .int .i64 13) ∧ ∀ i, i ∉ [6, 7, 8, 9, 10, 11, 12, 13, 14, 15, 16, 17, 18, 19, 20, 21, 22, 23, 24, 25] → Env.get env' i = Env.get env i := by
  suffices h : ∀ res, execW Try.prog cx [] (callW Try.prog how) (cr [.r, .l]) (env, σ) = res → ∃ env', res = some (.ret, (env', σ)) ∧ env'.length = 33 ∧ (Env.get env' 6 = .nils ∧ Env.get env' 7 = .int .i64 13) ∧ ∀ i, i ∉ [6, 7, 8, 9, 10, 11, 12, 13, 14, 15, 16, 17, 18, 19, 20, 21, 22, 23, 24, 25] → Env.get env' i = Env.get env i from h _ rfl
  intro res hr
  simp -implicitDefEqProofs [ofV, ofCell, ofCells, seqA_nil, seqA_cons, seqVK_eq, seqEK_eq, wantedA, yieldedA, isVal, effA, ev, evs, evps, putE, optsA, optsOk, valA, fieldAddrA, fieldA, loadA, partA, aggA, isAggD, buildA, placesA, fillA, lay, storeA, AV.withCells, buildSliceA, elemsA, rowParts, fzL, promL, okE, isSrc, bytesOk, pushA, cxOf, lenA, binA, intBinA, strBinA, unA, indexAddrA, eqA, AVs.inb, AV.inb, Loc.inb, calleeA, opsOf, sub, bodyOf, Env.get_set, quietA_nil, quietA_cons, quietK_none, quietK_some, qstep, newA, isNew, escNew, boxOk, newLoc, flat, rowPartsQ, quietN, quietOp, isBS, List.takeWhile, finishA_eq, finK_ret, finK_normal, retK, backK, resA, oneA, AV.back, AVs.back, execW_seq_eq, seqK_normal, seqK_ret, seqK_exit, execW_cond_eq, condK_true, condK_false, execW_block_eq, blockK_exit, blockK_normal, blockK_ret, execW_region_eq, regK_eq, execW_skip, execW_exit, execW_ret, regionA_plain, regionA_quiet0, tailK_eq, nilCheckA, guardOk, isConst, lookupA, keyFits, mapUpdateA, beqI, bneI, AS.get_push_at, AS.get_push_old, AS.push_len, AS.set_st_len, AS.next_st', AS.set_push_at, AS.get_set_self, AS.get_set_other, cr, Try.f12, hlen, hcx, f0, f2, f4, g4, hc, q, hA, hc2] at hr
  subst hr
  refine ⟨_, rfl, by simp [hlen], by simp [Env.get_set, hlen, f0, f2, f4, g4, hc, q, hA, hc2], fun i hi => ?_⟩
  simp only [List.mem_cons, List.not_mem_nil, or_false, not_or] at hi
  obtain ⟨x0, x1, x2, x3, x4, x5, x6, x7, x8, x9, x10, x11, x12, x13, x14, x15, x16, x17, x18, x19⟩ := hi
  simp [Env.get_set, Ne.symm x0, Ne.symm x1, Ne.symm x2, Ne.symm x3, Ne.symm x4, Ne.symm x5, Ne.symm x6, Ne.symm x7, Ne.symm x8, Ne.symm x9, Ne.symm x10, Ne.symm x11, Ne.symm x12, Ne.symm x13, Ne.symm x14, Ne.symm x15, Ne.symm x16, Ne.symm x17, Ne.symm x18, Ne.symm x19]

theorem rOk (cx : Cx) (env : Env) (σ : AS) (a b : Nat) (r n m pr pn : Int) (X : AV) (hlen : env.length = 33) (hcx : cx.esc = []) (f0 : Env.get env 0 = .ptr (.hp a) 0) (f2 : Env.get env 2 = .int .i64 m) (f4 : Env.get env 4 = .ptr (.st b) 0) (g4 : σ.get (.st b) = some (.cells [.int .u64 r, .int .i64 n])) (hc : callW Try.prog how 22 [.agg [.int .u64 r, .int .i64 n]] σ cx.ro = some (.bool true, σ)) (q : ¬ m < 0) (hA : σ.get (.hp a) = some (.cells [.int .u64 pr, .int .i64 pn, X])) (hc2 : callW Try.prog how 23 [.agg [.int .u64 r, .int .i64 n], .agg [.int .u64 pr, .int .i64 pn]] σ (some σ.st.length) = some (.bool false, σ)) :
    ∃ env', execW Try.prog cx [] (callW Try.prog how) (cr [.r, .l]) (env, σ) = some (.normal, (env', σ)) ∧ env'.length = 33 ∧ (True) ∧ ∀ i, i ∉ [8, 9, 10, 11, 12, 13, 14, 15, 16, 17, 18, 19, 20, 21, 22, 23, 24, 25] → Env.get env' i = Env.get env i := by
  suffices h : ∀ res, execW Try.prog cx [] (callW Try.prog how) (cr [.r, .l]) (env, σ) = res → ∃ env', res = some (.normal, (env', σ)) ∧ env'.length = 33 ∧ (True) ∧ ∀ i, i ∉ [8, 9, 10, 11, 12, 13, 14, 15, 16, 17, 18, 19, 20, 21, 22, 23, 24, 25] → Env.get env' i = Env.get env i from h _ rfl
  intro res hr
  simp -implicitDefEqProofs [ofV, ofCell, ofCells, seqA_nil, seqA_cons, seqVK_eq, seqEK_eq, wantedA, yieldedA, isVal, effA, ev, evs, evps, putE, optsA, optsOk, valA, fieldAddrA, fieldA, loadA, partA, aggA, isAggD, buildA, placesA, fillA, lay, storeA, AV.withCells, buildSliceA, elemsA, rowParts, fzL, promL, okE, isSrc, bytesOk, pushA, cxOf, lenA, binA, intBinA, strBinA, unA, indexAddrA, eqA, AVs.inb, AV.inb, Loc.inb, calleeA, opsOf, sub, bodyOf, Env.get_set, quietA_nil, quietA_cons, quietK_none, quietK_some, qstep, newA, isNew, escNew, boxOk, newLoc, flat, rowPartsQ, quietN, quietOp, isBS, List.takeWhile, finishA_eq, finK_ret, finK_normal, retK, backK, resA, oneA, AV.back, AVs.back, execW_seq_eq, seqK_normal, seqK_ret, seqK_exit, execW_cond_eq, condK_true, condK_false, execW_block_eq, blockK_exit, blockK_normal, blockK_ret, execW_region_eq, regK_eq, execW_skip, execW_exit, execW_ret, regionA_plain, regionA_quiet0, tailK_eq, nilCheckA, guardOk, isConst, lookupA, keyFits, mapUpdateA, beqI, bneI, AS.get_push_at, AS.get_push_old, AS.push_len, AS.set_st_len, AS.next_st', AS.set_push_at, AS.get_set_self, AS.get_set_other, cr, Try.f12, hlen, hcx, f0, f2, f4, g4, hc, q, hA, hc2] at hr
  subst hr
  refine ⟨_, rfl, by simp [hlen], by simp [Env.get_set, hlen, f0, f2, f4, g4, hc, q, hA, hc2], fun i hi => ?_⟩
  simp only [List.mem_cons, List.not_mem_nil, or_false, not_or] at hi
  obtain ⟨x0, x1, x2, x3, x4, x5, x6, x7, x8, x9, x10, x11, x12, x13, x14, x15, x16, x17⟩ := hi
  simp [Env.get_set, Ne.symm x0, Ne.symm x1, Ne.symm x2, Ne.symm x3, Ne.symm x4, Ne.symm x5, Ne.symm x6, Ne.symm x7, Ne.symm x8, Ne.symm x9, Ne.symm x10, Ne.symm x11, Ne.symm x12, Ne.symm x13, Ne.symm x14, Ne.symm x15, Ne.symm x16, Ne.symm x17]

theorem rS (cx : Cx) (env : Env) (σ : AS) (a b : Nat) (r n pr pn : Int) (X : AV) (hlen : env.length = 33) (hcx : cx.esc = []) (f0 : Env.get env 0 = .ptr (.hp a) 0) (f4 : Env.get env 4 = .ptr (.st b) 0) (g4 : σ.get (.st b) = some (.cells [.int .u64 r, .int .i64 n])) (hA : σ.get (.hp a) = some (.cells [.int .u64 pr, .int .i64 pn, X])) (hro0 : cx.ro = none) :
    ∃ env', execW Try.prog cx [] (callW Try.prog how) (cr [.r, .r, .l]) (env, σ) = some (.normal, (env', σ.set (.hp a) (.cells [.int .u64 r, .int .i64 n, X]))) ∧ env'.length = 33 ∧ (True) ∧ ∀ i, i ∉ [26, 27, 28, 29] → Env.get env' i = Env.get env i := by
  suffices h : ∀ res, execW Try.prog cx [] (callW Try.prog how) (cr [.r, .r, .l]) (env, σ) = res → ∃ env', res = some (.normal, (env', σ.set (.hp a) (.cells [.int .u64 r, .int .i64 n, X]))) ∧ env'.length = 33 ∧ (True) ∧ ∀ i, i ∉ [26, 27, 28, 29] → Env.get env' i = Env.get env i from h _ rfl
  intro res hr
  simp -implicitDefEqProofs [ofV, ofCell, ofCells, seqA_nil, seqA_cons, seqVK_eq, seqEK_eq, wantedA, yieldedA, isVal, effA, ev, evs, evps, putE, optsA, optsOk, valA, fieldAddrA, fieldA, loadA, partA, aggA, isAggD, buildA, placesA, fillA, lay, storeA, AV.withCells, buildSliceA, elemsA, rowParts, fzL, promL, okE, isSrc, bytesOk, pushA, cxOf, lenA, binA, intBinA, strBinA, unA, indexAddrA, eqA, AVs.inb, AV.inb, Loc.inb, calleeA, opsOf, sub, bodyOf, Env.get_set, quietA_nil, quietA_cons, quietK_none, quietK_some, qstep, newA, isNew, escNew, boxOk, newLoc, flat, rowPartsQ, quietN, quietOp, isBS, List.takeWhile, finishA_eq, finK_ret, finK_normal, retK, backK, resA, oneA, AV.back, AVs.back, execW_seq_eq, seqK_normal, seqK_ret, seqK_exit, execW_cond_eq, condK_true, condK_false, execW_block_eq, blockK_exit, blockK_normal, blockK_ret, execW_region_eq, regK_eq, execW_skip, execW_exit, execW_ret, regionA_plain, regionA_quiet0, tailK_eq, nilCheckA, guardOk, isConst, lookupA, keyFits, mapUpdateA, beqI, bneI, AS.get_push_at, AS.get_push_old, AS.push_len, AS.set_st_len, AS.next_st', AS.set_push_at, AS.get_set_self, AS.get_set_other, cr, Try.f12, hlen, hcx, f0, f4, g4, hA, hro0] at hr
  subst hr
  refine ⟨_, rfl, by simp [hlen], by simp [Env.get_set, hlen, f0, f4, g4, hA, hro0], fun i hi => ?_⟩
  simp only [List.mem_cons, List.not_mem_nil, or_false, not_or] at hi
  obtain ⟨x0, x1, x2, x3⟩ := hi
  simp [Env.get_set, Ne.symm x0, Ne.symm x1, Ne.symm x2, Ne.symm x3]

theorem rV (cx : Cx) (env : Env) (σ : AS) (a : Nat) (m : Int) (x : AV) (σ' : AS) (hlen : env.length = 33) (hcx : cx.esc = []) (f0 : Env.get env 0 = .ptr (.hp a) 0) (f2 : Env.get env 2 = .int .i64 m) (hc : callW Try.prog how 19 [.ptr (.hp a) 0, .int .i64 m] σ cx.ro = some (x, σ')) :
    ∃ env', execW Try.prog cx [] (callW Try.prog how) (cr [.r, .r, .r, .l]) (env, σ) = some (.normal, (env', σ')) ∧ env'.length = 33 ∧ (Env.get env' 6 = x ∧ Env.get env' 7 = .int .i64 0) ∧ ∀ i, i ∉ [6, 7, 30, 31, 32] → Env.get env' i = Env.get env i := by
  suffices h : ∀ res, execW Try.prog cx [] (callW Try.prog how) (cr [.r, .r, .r, .l]) (env, σ) = res → ∃ env', res = some (.normal, (env', σ')) ∧ env'.length = 33 ∧ (Env.get env' 6 = x ∧ Env.get env' 7 = .int .i64 0) ∧ ∀ i, i ∉ [6, 7, 30, 31, 32] → Env.get env' i = Env.get env i from h _ rfl
  intro res hr
  simp -implicitDefEqProofs [ofV, ofCell, ofCells, seqA_nil, seqA_cons, seqVK_eq, seqEK_eq, wantedA, yieldedA, isVal, effA, ev, evs, evps, putE, optsA, optsOk, valA, fieldAddrA, fieldA, loadA, partA, aggA, isAggD, buildA, placesA, fillA, lay, storeA, AV.withCells, buildSliceA, elemsA, rowParts, fzL, promL, okE, isSrc, bytesOk, pushA, cxOf, lenA, binA, intBinA, strBinA, unA, indexAddrA, eqA, AVs.inb, AV.inb, Loc.inb, calleeA, opsOf, sub, bodyOf, Env.get_set, quietA_nil, quietA_cons, quietK_none, quietK_some, qstep, newA, isNew, escNew, boxOk, newLoc, flat, rowPartsQ, quietN, quietOp, isBS, List.takeWhile, finishA_eq, finK_ret, finK_normal, retK, backK, resA, oneA, AV.back, AVs.back, execW_seq_eq, seqK_normal, seqK_ret, seqK_exit, execW_cond_eq, condK_true, condK_false, execW_block_eq, blockK_exit, blockK_normal, blockK_ret, execW_region_eq, regK_eq, execW_skip, execW_exit, execW_ret, regionA_plain, regionA_quiet0, tailK_eq, nilCheckA, guardOk, isConst, lookupA, keyFits, mapUpdateA, beqI, bneI, AS.get_push_at, AS.get_push_old, AS.push_len, AS.set_st_len, AS.next_st', AS.set_push_at, AS.get_set_self, AS.get_set_other, cr, Try.f12, hlen, hcx, f0, f2, hc] at hr
  subst hr
  refine ⟨_, rfl, by simp [hlen], by simp [Env.get_set, hlen, f0, f2, hc], fun i hi => ?_⟩
  simp only [List.mem_cons, List.not_mem_nil, or_false, not_or] at hi
  obtain ⟨x0, x1, x2, x3, x4⟩ := hi
  simp [Env.get_set, Ne.symm x0, Ne.symm x1, Ne.symm x2, Ne.symm x3, Ne.symm x4]

theorem body : Try.f12.body = some ((cr [.l]).seq ((cr [.r, .l]).seq ((cr [.r, .r, .l]).seq ((cr [.r, .r, .r, .l]).seq .ret)))) := by kernel_rfl
theorem fin_code (s hp' st' : List AObj) (e : Env) (l : List AV) (k : Int) (h6 : Env.get e 6 = slV 4 l) (h7 : Env.get e 7 = .int .i64 k) (hs : List.take s.length st' = s) : finishA Try.prog {} Try.f12 s.length (some (.ret, (e, ⟨hp', st'⟩))) = some (.tup [slV 4 l, .int .i64 k], ⟨hp', s⟩) := by
  simp -implicitDefEqProofs [finishA, resA, Try.f12, h6, h7, oneA, AV.back, AVs.back, slV_back, slV_row, AV.inb, AVs.inb, hs]
theorem ok (hp s : List AObj) (a : Nat) (r n m pr pn : Int) (mm : Nat) (M L : List Vt) (hM : M.Perm L) (hRi : Rising L) (hok : ∀ v ∈ M, SlotOk v) (hL : L.length ≤ 1000) (hA : hp[a]? = some (.cells [.int .u64 pr, .int .i64 pn, .map (.hp mm)])) (hmm : hp[mm]? = some (.map (M.map entV))) (hr : 0 ≤ r) :
    ((askedB r n && decide (0 ≤ m)) = false ∧ callW Try.prog how 12 [.ptr (.hp a) 0, .agg [.int .u64 r, .int .i64 n], .int .i64 m] ⟨hp, s⟩ none = some (.tup [.nils, .int .i64 1], ⟨hp, s⟩)) ∨
    ((askedB r n && decide (0 ≤ m)) = true ∧ lessB r n pr pn = true ∧ callW Try.prog how 12 [.ptr (.hp a) 0, .agg [.int .u64 r, .int .i64 n], .int .i64 m] ⟨hp, s⟩ none = some (.tup [.nils, .int .i64 13], ⟨hp, s⟩)) ∨
    ((askedB r n && decide (0 ≤ m)) = true ∧ lessB r n pr pn = false ∧ callW Try.prog how 12 [.ptr (.hp a) 0, .agg [.int .u64 r, .int .i64 n], .int .i64 m] ⟨hp, s⟩ none = some (.tup [slV 4 ((fromV L m).map encV), .int .i64 0], ⟨hp.set a (.cells [.int .u64 r, .int .i64 n, .map (.hp mm)]) ++ [.cells [.map (.hp mm)]], s⟩)) := by
  let cx : Cx := { h := s.length, ro := none, esc := [] }
  have hcx : cx.esc = [] := rfl
  have henv : ∃ e, e = frameA Try.f12 [.ptr (.hp a) 0, .agg [.int .u64 r, .int .i64 n], .int .i64 m] := ⟨_, rfl⟩
  obtain ⟨env, henv⟩ := henv
  have hl : env.length = 33 := by rw [henv]; rfl
  have h0 : Env.get env 0 = .ptr (.hp a) 0 := by rw [henv]; rfl
  have h1 : Env.get env 1 = .agg [.int .u64 r, .int .i64 n] := by rw [henv]; rfl
  have h2 : Env.get env 2 = .int .i64 m := by rw [henv]; rfl
  have call : ∀ (e : Env) (hp' st' : List AObj) (l : List AV) (k : Int), execW Try.prog cx [] (callW Try.prog how) ((cr [.l]).seq ((cr [.r, .l]).seq ((cr [.r, .r, .l]).seq ((cr [.r, .r, .r, .l]).seq .ret)))) (env, ⟨hp, s⟩) = some (.ret, (e, ⟨hp', st'⟩)) → Env.get e 6 = slV 4 l → Env.get e 7 = .int .i64 k → List.take s.length st' = s → callW Try.prog how 12 [.ptr (.hp a) 0, .agg [.int .u64 r, .int .i64 n], .int .i64 m] ⟨hp, s⟩ none = some (.tup [slV 4 l, .int .i64 k], ⟨hp', s⟩) := by
    intro e hp' st' l k hx h6 h7 ht
    refine callW_body (fl := {}) (fn := Try.f12) rfl Try.func12 body ?_
    rw [← henv]
    exact (congrArg (finishA Try.prog {} Try.f12 s.length) hx).trans (fin_code s hp' st' e l k h6 h7 ht)
  clear henv
  obtain ⟨env1, a1, a2, a3, a4⟩ := rA cx env ⟨hp, s⟩ r n hl hcx h1 rfl (Nat.le_refl _)
  have hσ : (AS.mk hp s).push false (.cells [.int .u64 r, .int .i64 n]) = ⟨hp, s ++ [.cells [.int .u64 r, .int .i64 n]]⟩ := by simp [AS.push]
  rw [hσ] at a1
  have g4 : (AS.mk hp (s ++ [.cells [.int .u64 r, .int .i64 n]])).get (.st s.length) = some (.cells [.int .u64 r, .int .i64 n]) := by simp [AS.get]
  have hAσ : (AS.mk hp (s ++ [.cells [.int .u64 r, .int .i64 n]])).get (.hp a) = some (.cells [.int .u64 pr, .int .i64 pn, .map (.hp mm)]) := hA
  have f4 : Env.get env1 4 = .ptr (.st s.length) 0 := a3.1
  have f0 := (a4 0 (by decide)).trans h0
  have f2 := (a4 2 (by decide)).trans h2
  have htk : List.take s.length (s ++ [AObj.cells [.int .u64 r, .int .i64 n]]) = s := by simp
  have hc1 := f22_ok hp (s ++ [.cells [.int .u64 r, .int .i64 n]]) none r n hr (fun k hk => by cases hk)
  have hc2 := f23_ok hp (s ++ [.cells [.int .u64 r, .int .i64 n]]) (some (s ++ [AObj.cells [.int .u64 r, .int .i64 n]]).length) r n pr pn (fun k hk => by cases hk; exact Nat.le_refl _)
  cases hk : askedB r n with
  | false =>
    rw [hk] at hc1
    obtain ⟨e, b1, _, b3, _⟩ := rEa cx env1 _ a s.length r n m a2 hcx f0 f2 f4 g4 hc1
    exact .inl ⟨by simp, call e _ _ [] 1 (execW_seq_of a1 (execW_seq_ret b1)) b3.1 b3.2 htk⟩
  | true =>
    rw [hk] at hc1
    by_cases q : m < 0
    · obtain ⟨e, b1, _, b3, _⟩ := rEb cx env1 _ a s.length r n m a2 hcx f0 f2 f4 g4 hc1 q
      exact .inl ⟨by simp; omega, call e _ _ [] 1 (execW_seq_of a1 (execW_seq_ret b1)) b3.1 b3.2 htk⟩
    · have hd : (true && decide (0 ≤ m)) = true := by simp; omega
      cases hle : lessB r n pr pn with
      | true =>
        rw [hle] at hc2
        obtain ⟨e, b1, _, b3, _⟩ := rOld cx env1 _ a s.length r n m pr pn _ a2 hcx f0 f2 f4 g4 hc1 q hAσ hc2
        exact .inr (.inl ⟨hd, rfl, call e _ _ [] 13 (execW_seq_of a1 (execW_seq_ret b1)) b3.1 b3.2 htk⟩)
      | false =>
        rw [hle] at hc2
        obtain ⟨env2, b1, b2, _, b4⟩ := rOk cx env1 _ a s.length r n m pr pn _ a2 hcx f0 f2 f4 g4 hc1 q hAσ hc2
        have f0 := (b4 0 (by decide)).trans f0
        have f2 := (b4 2 (by decide)).trans f2
        have f4 := (b4 4 (by decide)).trans f4
        obtain ⟨env3, c1, c2, _, c4⟩ := rS cx env2 _ a s.length r n pr pn _ b2 hcx f0 f4 g4 hAσ rfl
        have hne : mm ≠ a := by rintro rfl; rw [hA] at hmm; cases hmm
        have hlt : a < hp.length := (List.getElem?_eq_some_iff.1 hA).1
        have hA' : (hp.set a (.cells [.int .u64 r, .int .i64 n, .map (.hp mm)]))[a]? = some (.cells [.int .u64 r, .int .i64 n, .map (.hp mm)]) := List.getElem?_set_self hlt
        have hM' : (hp.set a (.cells [.int .u64 r, .int .i64 n, .map (.hp mm)]))[mm]? = some (.map (M.map entV)) := by rw [List.getElem?_set_ne (fun e => hne e.symm)]; exact hmm
        have hv := F19.ok (hp.set a (.cells [.int .u64 r, .int .i64 n, .map (.hp mm)])) (s ++ [.cells [.int .u64 r, .int .i64 n]]) a mm r n m M L hM hRi hok hL hA' hM'
        obtain ⟨env4, d1, d2, d3, d4⟩ := rV cx env3 _ a m _ _ c2 hcx ((c4 0 (by decide)).trans f0) ((c4 2 (by decide)).trans f2) hv
        exact .inr (.inr ⟨hd, rfl, call env4 _ _ _ 0 (execW_seq_of a1 (execW_seq_of b1 (execW_seq_of c1 (execW_seq_of (b := .ret) d1 rfl)))) d3.1 d3.2 htk⟩)

end F12
namespace F21
noncomputable def cr (p : List Dir) : Code := sub p (bodyOf Try.f21)

theorem rA (cx : Cx) (env : Env) (σ : AS) (r n : Int) (hlen : env.length = 28) (hcx : cx.esc = []) (f1 : Env.get env 1 = .agg [.int .u64 r, .int .i64 n]) (hw : wok cx.ro (.st σ.st.length) = true) (hh : cx.h ≤ σ.st.length) :
    ∃ env', execW Try.prog cx [] (callW Try.prog how) (cr [.l]) (env, σ) = some (.normal, (env', σ.push false (.cells [.int .u64 r, .int .i64 n]))) ∧ env'.length = 28 ∧ (Env.get env' 4 = .ptr (.st σ.st.length) 0 ∧ Env.get env' 6 = .nils ∧ Env.get env' 7 = .int .i64 0) ∧ ∀ i, i ∉ [4, 6, 7] → Env.get env' i = Env.get env i := by
  suffices h : ∀ res, execW Try.prog cx [] (callW Try.prog how) (cr [.l]) (env, σ) = res → ∃ env', res = some (.normal, (env', σ.push false (.cells [.int .u64 r, .int .i64 n]))) ∧ env'.length = 28 ∧ (Env.get env' 4 = .ptr (.st σ.st.length) 0 ∧ Env.get env' 6 = .nils ∧ Env.get env' 7 = .int .i64 0) ∧ ∀ i, i ∉ [4, 6, 7] → Env.get env' i = Env.get env i from h _ rfl
  intro res hr
  simp -implicitDefEqProofs [ofV, ofCell, ofCells, seqA_nil, seqA_cons, seqVK_eq, seqEK_eq, wantedA, yieldedA, isVal, effA, ev, evs, evps, putE, optsA, optsOk, valA, fieldAddrA, fieldA, loadA, partA, aggA, isAggD, buildA, placesA, fillA, lay, storeA, AV.withCells, buildSliceA, elemsA, rowParts, fzL, promL, okE, isSrc, bytesOk, pushA, cxOf, lenA, binA, intBinA, strBinA, unA, indexAddrA, eqA, AVs.inb, AV.inb, Loc.inb, calleeA, opsOf, sub, bodyOf, Env.get_set, quietA_nil, quietA_cons, quietK_none, quietK_some, qstep, newA, isNew, escNew, boxOk, newLoc, flat, rowPartsQ, quietN, quietOp, isBS, List.takeWhile, finishA_eq, finK_ret, finK_normal, retK, backK, resA, oneA, AV.back, AVs.back, execW_seq_eq, seqK_normal, seqK_ret, seqK_exit, execW_cond_eq, condK_true, condK_false, execW_block_eq, blockK_exit, blockK_normal, blockK_ret, execW_region_eq, regK_eq, execW_skip, execW_exit, execW_ret, regionA_plain, regionA_quiet0, tailK_eq, nilCheckA, guardOk, isConst, lookupA, keyFits, mapUpdateA, beqI, bneI, AS.get_push_at, AS.get_push_old, AS.push_len, AS.set_st_len, AS.next_st', AS.set_push_at, AS.get_set_self, AS.get_set_other, cr, Try.f21, hlen, hcx, f1, hw, hh] at hr
  subst hr
  refine ⟨_, rfl, by simp [hlen], by simp [Env.get_set, hlen, f1, hw, hh], fun i hi => ?_⟩
  simp only [List.mem_cons, List.not_mem_nil, or_false, not_or] at hi
  obtain ⟨x0, x1, x2⟩ := hi
  simp [Env.get_set, Ne.symm x0, Ne.symm x1, Ne.symm x2]

theorem rEa (cx : Cx) (env : Env) (σ : AS) (a b : Nat) (r n m : Int) (hlen : env.length = 28) (hcx : cx.esc = []) (f0 : Env.get env 0 = .ptr (.hp a) 0) (f2 : Env.get env 2 = .int .i64 m) (f4 : Env.get env 4 = .ptr (.st b) 0) (g4 : σ.get (.st b) = some (.cells [.int .u64 r, .int .i64 n])) (hc : callW Try.prog how 24 [.agg [.int .u64 r, .int .i64 n]] σ cx.ro = some (.bool false, σ)) :
    ∃ env', execW Try.prog cx [] (callW Try.prog how) (cr [.r, .l]) (env, σ) = some (.ret, (env', σ)) ∧ env'.length = 28 ∧ (Env.get env' 6 = .nils ∧ Env.get env' 7 = .int .i64 1) ∧ ∀ i, i ∉ [6, 7, 8, 9, 10, 11, 12, 13, 14] → Env.get env' i = Env.get env i := by
  suffices h : ∀ res, execW Try.prog cx [] (callW Try.prog how) (cr [.r, .l]) (env, σ) = res → ∃ env', res = some (.ret, (env', σ)) ∧ env'.length = 28 ∧ (Env.get env' 6 = .nils ∧ Env.get env' 7 = .int .i64 1) ∧ ∀ i, i ∉ [6, 7, 8, 9, 10, 11, 12, 13, 14] → Env.get env' i = Env.get env i from h _ rfl
  intro res hr
  simp -implicitDefEqProofs [ofV, ofCell, ofCells, seqA_nil, seqA_cons, seqVK_eq, seqEK_eq, wantedA, yieldedA, isVal, effA, ev, evs, evps, putE, optsA, optsOk, valA, fieldAddrA, fieldA, loadA, partA, aggA, isAggD, buildA, placesA, fillA, lay, storeA, AV.withCells, buildSliceA, elemsA, rowParts, fzL, promL, okE, isSrc, bytesOk, pushA, cxOf, lenA, binA, intBinA, strBinA, unA, indexAddrA, eqA, AVs.inb, AV.inb, Loc.inb, calleeA, opsOf, sub, bodyOf, Env.get_set, quietA_nil, quietA_cons, quietK_none, quietK_some, qstep, newA, isNew, escNew, boxOk, newLoc, flat, rowPartsQ, quietN, quietOp, isBS, List.takeWhile, finishA_eq, finK_ret, finK_normal, retK, backK, resA, oneA, AV.back, AVs.back, execW_seq_eq, seqK_normal, seqK_ret, seqK_exit, execW_cond_eq, condK_true, condK_false, execW_block_eq, blockK_exit, blockK_normal, blockK_ret, execW_region_eq, regK_eq, execW_skip, execW_exit, execW_ret, regionA_plain, regionA_quiet0, tailK_eq, nilCheckA, guardOk, isConst, lookupA, keyFits, mapUpdateA, beqI, bneI, AS.get_push_at, AS.get_push_old, AS.push_len, AS.set_st_len, AS.next_st', AS.set_push_at, AS.get_set_self, AS.get_set_other, cr, Try.f21, hlen, hcx, f0, f2, f4, g4, hc] at hr
  subst hr
  refine ⟨_, rfl, by simp [hlen], by simp [Env.get_set, hlen, f0, f2, f4, g4, hc], fun i hi => ?_⟩
  simp only [List.mem_cons, List.not_mem_nil, or_false, not_or] at hi
  obtain ⟨x0, x1, x2, x3, x4, x5, x6, x7, x8⟩ := hi
  simp [Env.get_set, Ne.symm x0, Ne.symm x1, Ne.symm x2, Ne.symm x3, Ne.symm x4, Ne.symm x5, Ne.symm x6, Ne.symm x7, Ne.symm x8]

theorem rEb (cx : Cx) (env : Env) (σ : AS) (a b : Nat) (r n m : Int) (hlen : env.length = 28) (hcx : cx.esc = []) (f0 : Env.get env 0 = .ptr (.hp a) 0) (f2 : Env.get env 2 = .int .i64 m) (f4 : Env.get env 4 = .ptr (.st b) 0) (g4 : σ.get (.st b) = some (.cells [.int .u64 r, .int .i64 n])) (hc : callW Try.prog how 24 [.agg [.int .u64 r, .int .i64 n]] σ cx.ro = some (.bool true, σ)) (q : m < 0) :
    ∃ env', execW Try.prog cx [] (callW Try.prog how) (cr [.r, .l]) (env, σ) = some (.ret, (env', σ)) ∧ env'.length = 28 ∧ (Env.get env' 6 = .nils ∧ Env.get env' 7 = .int .i64 1) ∧ ∀ i, i ∉ [6, 7, 8, 9, 10, 11, 12, 13, 14] → Env.get env' i = Env.get env i := by
  suffices h : ∀ res, execW Try.prog cx [] (callW Try.prog how) (cr [.r, .l]) (env, σ) = res → ∃ env', res = some (.ret, (env', σ)) ∧ env'.length = 28 ∧ (Env.get env' 6 = .nils ∧ Env.get env' 7 = .int .i64 1) ∧ ∀ i, i ∉ [6, 7, 8, 9, 10, 11, 12, 13, 14] → Env.get env' i = Env.get env i from h _ rfl
  intro res hr
  simp -implicitDefEqProofs [ofV, ofCell, ofCells, seqA_nil, seqA_cons, seqVK_eq, seqEK_eq, wantedA, yieldedA, isVal, effA, ev, evs, evps, putE, optsA, optsOk, valA, fieldAddrA, fieldA, loadA, partA, aggA, isAggD, buildA, placesA, fillA, lay, storeA, AV.withCells, buildSliceA, elemsA, rowParts, fzL, promL, okE, isSrc, bytesOk, pushA, cxOf, lenA, binA, intBinA, strBinA, unA, indexAddrA, eqA, AVs.inb, AV.inb, Loc.inb, calleeA, opsOf, sub, bodyOf, Env.get_set, quietA_nil, quietA_cons, quietK_none, quietK_some, qstep, newA, isNew, escNew, boxOk, newLoc, flat, rowPartsQ, quietN, quietOp, isBS, List.takeWhile, finishA_eq, finK_ret, finK_normal, retK, backK, resA, oneA, AV.back, AVs.back, execW_seq_eq, seqK_normal, seqK_ret, seqK_exit, execW_cond_eq, condK_true, condK_false, execW_block_eq, blockK_exit, blockK_normal, blockK_ret, execW_region_eq, regK_eq, execW_skip, execW_exit, execW_ret, regionA_plain, regionA_quiet0, tailK_eq, nilCheckA, guardOk, isConst, lookupA, keyFits, mapUpdateA, beqI, bneI, AS.get_push_at, AS.get_push_old, AS.push_len, AS.set_st_len, AS.next_st', AS.set_push_at, AS.get_set_self, AS.get_set_other, cr, Try.f21, hlen, hcx, f0, f2, f4, g4, hc, q] at hr
  subst hr
  refine ⟨_, rfl, by simp [hlen], by simp [Env.get_set, hlen, f0, f2, f4, g4, hc, q], fun i hi => ?_⟩
  simp only [List.mem_cons, List.not_mem_nil, or_false, not_or] at hi
  obtain ⟨x0, x1, x2, x3, x4, x5, x6, x7, x8⟩ := hi
  simp [Env.get_set, Ne.symm x0, Ne.symm x1, Ne.symm x2, Ne.symm x3, Ne.symm x4, Ne.symm x5, Ne.symm x6, Ne.symm x7, Ne.symm x8]

theorem rOk1 (cx : Cx) (env : Env) (σ : AS) (a b : Nat) (r n m : Int) (hlen : env.length = 28) (hcx : cx.esc = []) (f0 : Env.get env 0 = .ptr (.hp a) 0) (f2 : Env.get env 2 = .int .i64 m) (f4 : Env.get env 4 = .ptr (.st b) 0) (g4 : σ.get (.st b) = some (.cells [.int .u64 r, .int .i64 n])) (hc : callW Try.prog how 24 [.agg [.int .u64 r, .int .i64 n]] σ cx.ro = some (.bool true, σ)) (q : ¬ m < 0) :
    ∃ env', execW Try.prog cx [] (callW Try.prog how) (cr [.r, .l]) (env, σ) = some (.normal, (env', σ)) ∧ env'.length = 28 ∧ (True) ∧ ∀ i, i ∉ [8, 9, 10, 11, 12, 13, 14] → Env.get env' i = Env.get env i := by
  suffices h : ∀ res, execW Try.prog cx [] (callW Try.prog how) (cr [.r, .l]) (env, σ) = res → ∃ env', res = some (.normal, (env', σ)) ∧ env'.length = 28 ∧ (True) ∧ ∀ i, i ∉ [8, 9, 10, 11, 12, 13, 14] → Env.get env' i = Env.get env i from h _ rfl
  intro res hr
  simp -implicitDefEqProofs [ofV, ofCell, ofCells, seqA_nil, seqA_cons, seqVK_eq, seqEK_eq, wantedA, yieldedA, isVal, effA, ev, evs, evps, putE, optsA, optsOk, valA, fieldAddrA, fieldA, loadA, partA, aggA, isAggD, buildA, placesA, fillA, lay, storeA, AV.withCells, buildSliceA, elemsA, rowParts, fzL, promL, okE, isSrc, bytesOk, pushA, cxOf, lenA, binA, intBinA, strBinA, unA, indexAddrA, eqA, AVs.inb, AV.inb, Loc.inb, calleeA, opsOf, sub, bodyOf, Env.get_set, quietA_nil, quietA_cons, quietK_none, quietK_some, qstep, newA, isNew, escNew, boxOk, newLoc, flat, rowPartsQ, quietN, quietOp, isBS, List.takeWhile, finishA_eq, finK_ret, finK_normal, retK, backK, resA, oneA, AV.back, AVs.back, execW_seq_eq, seqK_normal, seqK_ret, seqK_exit, execW_cond_eq, condK_true, condK_false, execW_block_eq, blockK_exit, blockK_normal, blockK_ret, execW_region_eq, regK_eq, execW_skip, execW_exit, execW_ret, regionA_plain, regionA_quiet0, tailK_eq, nilCheckA, guardOk, isConst, lookupA, keyFits, mapUpdateA, beqI, bneI, AS.get_push_at, AS.get_push_old, AS.push_len, AS.set_st_len, AS.next_st', AS.set_push_at, AS.get_set_self, AS.get_set_other, cr, Try.f21, hlen, hcx, f0, f2, f4, g4, hc, q] at hr
  subst hr
  refine ⟨_, rfl, by simp [hlen], by simp [Env.get_set, hlen, f0, f2, f4, g4, hc, q], fun i hi => ?_⟩
  simp only [List.mem_cons, List.not_mem_nil, or_false, not_or] at hi
  obtain ⟨x0, x1, x2, x3, x4, x5, x6⟩ := hi
  simp [Env.get_set, Ne.symm x0, Ne.symm x1, Ne.symm x2, Ne.symm x3, Ne.symm x4, Ne.symm x5, Ne.symm x6]

theorem rOld (cx : Cx) (env : Env) (σ : AS) (a b : Nat) (r n m pr pn : Int) (X : AV) (hlen : env.length = 28) (hcx : cx.esc = []) (f0 : Env.get env 0 = .ptr (.hp a) 0) (f2 : Env.get env 2 = .int .i64 m) (f4 : Env.get env 4 = .ptr (.st b) 0) (g4 : σ.get (.st b) = some (.cells [.int .u64 r, .int .i64 n])) (hA : σ.get (.hp a) = some (.cells [.int .u64 pr, .int .i64 pn, X])) (hc2 : callW Try.prog how 14 [.agg [.int .u64 r, .int .i64 n], .agg [.int .u64 pr, .int .i64 pn]] σ (some σ.st.length) = some (.bool true, σ)) :
    ∃ env', execW Try.prog cx [] (callW Try.prog how) (cr [.r, .r, .l]) (env, σ) = some (.ret, (env', σ)) ∧ env'.length = 28 ∧ (Env.get env' 6 = .nils ∧ Env.get env' 7 = .int .i64 13) ∧ ∀ i, i ∉ [6, 7, 15, 16, 17, 18, 19, 20] → Env.get env' i = Env.get env i := by
  suffices h : ∀ res, execW Try.prog cx [] (callW Try.prog how) (cr [.r, .r, .l]) (env, σ) = res → ∃ env', res = some (.ret, (env', σ)) ∧ env'.length = 28 ∧ (Env.get env' 6 = .nils ∧ Env.get env' 7 = .int .i64 13) ∧ ∀ i, i ∉ [6, 7, 15, 16, 17, 18, 19, 20] → Env.get env' i = Env.get env i from h _ rfl
  intro res hr
  simp -implicitDefEqProofs [ofV, ofCell, ofCells, seqA_nil, seqA_cons, seqVK_eq, seqEK_eq, wantedA, yieldedA, isVal, effA, ev, evs, evps, putE, optsA, optsOk, valA, fieldAddrA, fieldA, loadA, partA, aggA, isAggD, buildA, placesA, fillA, lay, storeA, AV.withCells, buildSliceA, elemsA, rowParts, fzL, promL, okE, isSrc, bytesOk, pushA, cxOf, lenA, binA, intBinA, strBinA, unA, indexAddrA, eqA, AVs.inb, AV.inb, Loc.inb, calleeA, opsOf, sub, bodyOf, Env.get_set, quietA_nil, quietA_cons, quietK_none, quietK_some, qstep, newA, isNew, escNew, boxOk, newLoc, flat, rowPartsQ, quietN, quietOp, isBS, List.takeWhile, finishA_eq, finK_ret, finK_normal, retK, backK, resA, oneA, AV.back, AVs.back, execW_seq_eq, seqK_normal, seqK_ret, seqK_exit, execW_cond_eq, condK_true, condK_false, execW_block_eq, blockK_exit, blockK_normal, blockK_ret, execW_region_eq, regK_eq, execW_skip, execW_exit, execW_ret, regionA_plain, regionA_quiet0, tailK_eq, nilCheckA, guardOk, isConst, lookupA, keyFits, mapUpdateA, beqI, bneI, AS.get_push_at, AS.get_push_old, AS.push_len, AS.set_st_len, AS.next_st', AS.set_push_at, AS.get_set_self, AS.get_set_other, cr, Try.f21, hlen, hcx, f0, f2, f4, g4, hA, hc2] at hr
  subst hr
  refine ⟨_, rfl, by simp [hlen], by simp [Env.get_set, hlen, f0, f2, f4, g4, hA, hc2], fun i hi => ?_⟩
  simp only [List.mem_cons, List.not_mem_nil, or_false, not_or] at hi
  obtain ⟨x0, x1, x2, x3, x4, x5, x6, x7⟩ := hi
  simp [Env.get_set, Ne.symm x0, Ne.symm x1, Ne.symm x2, Ne.symm x3, Ne.symm x4, Ne.symm x5, Ne.symm x6, Ne.symm x7]

theorem rOk (cx : Cx) (env : Env) (σ : AS) (a b : Nat) (r n m pr pn : Int) (X : AV) (hlen : env.length = 28) (hcx : cx.esc = []) (f0 : Env.get env 0 = .ptr (.hp a) 0) (f2 : Env.get env 2 = .int .i64 m) (f4 : Env.get env 4 = .ptr (.st b) 0) (g4 : σ.get (.st b) = some (.cells [.int .u64 r, .int .i64 n])) (hA : σ.get (.hp a) = some (.cells [.int .u64 pr, .int .i64 pn, X])) (hc2 : callW Try.prog how 14 [.agg [.int .u64 r, .int .i64 n], .agg [.int .u64 pr, .int .i64 pn]] σ (some σ.st.length) = some (.bool false, σ)) :
    ∃ env', execW Try.prog cx [] (callW Try.prog how) (cr [.r, .r, .l]) (env, σ) = some (.normal, (env', σ)) ∧ env'.length = 28 ∧ (True) ∧ ∀ i, i ∉ [15, 16, 17, 18, 19, 20] → Env.get env' i = Env.get env i := by
  suffices h : ∀ res, execW Try.prog cx [] (callW Try.prog how) (cr [.r, .r, .l]) (env, σ) = res → ∃ env', res = some (.normal, (env', σ)) ∧ env'.length = 28 ∧ (True) ∧ ∀ i, i ∉ [15, 16, 17, 18, 19, 20] → Env.get env' i = Env.get env i from h _ rfl
  intro res hr
  simp -implicitDefEqProofs [ofV, ofCell, ofCells, seqA_nil, seqA_cons, seqVK_eq, seqEK_eq, wantedA, yieldedA, isVal, effA, ev, evs, evps, putE, optsA, optsOk, valA, fieldAddrA, fieldA, loadA, partA, aggA, isAggD, buildA, placesA, fillA, lay, storeA, AV.withCells, buildSliceA, elemsA, rowParts, fzL, promL, okE, isSrc, bytesOk, pushA, cxOf, lenA, binA, intBinA, strBinA, unA, indexAddrA, eqA, AVs.inb, AV.inb, Loc.inb, calleeA, opsOf, sub, bodyOf, Env.get_set, quietA_nil, quietA_cons, quietK_none, quietK_some, qstep, newA, isNew, escNew, boxOk, newLoc, flat, rowPartsQ, quietN, quietOp, isBS, List.takeWhile, finishA_eq, finK_ret, finK_normal, retK, backK, resA, oneA, AV.back, AVs.back, execW_seq_eq, seqK_normal, seqK_ret, seqK_exit, execW_cond_eq, condK_true, condK_false, execW_block_eq, blockK_exit, blockK_normal, blockK_ret, execW_region_eq, regK_eq, execW_skip, execW_exit, execW_ret, regionA_plain, regionA_quiet0, tailK_eq, nilCheckA, guardOk, isConst, lookupA, keyFits, mapUpdateA, beqI, bneI, AS.get_push_at, AS.get_push_old, AS.push_len, AS.set_st_len, AS.next_st', AS.set_push_at, AS.get_set_self, AS.get_set_other, cr, Try.f21, hlen, hcx, f0, f2, f4, g4, hA, hc2] at hr
  subst hr
  refine ⟨_, rfl, by simp [hlen], by simp [Env.get_set, hlen, f0, f2, f4, g4, hA, hc2], fun i hi => ?_⟩
  simp only [List.mem_cons, List.not_mem_nil, or_false, not_or] at hi
  obtain ⟨x0, x1, x2, x3, x4, x5⟩ := hi
  simp [Env.get_set, Ne.symm x0, Ne.symm x1, Ne.symm x2, Ne.symm x3, Ne.symm x4, Ne.symm x5]

theorem rS (cx : Cx) (env : Env) (σ : AS) (a b : Nat) (r n pr pn : Int) (X : AV) (hlen : env.length = 28) (hcx : cx.esc = []) (f0 : Env.get env 0 = .ptr (.hp a) 0) (f4 : Env.get env 4 = .ptr (.st b) 0) (g4 : σ.get (.st b) = some (.cells [.int .u64 r, .int .i64 n])) (hA : σ.get (.hp a) = some (.cells [.int .u64 pr, .int .i64 pn, X])) (hro0 : cx.ro = none) :
    ∃ env', execW Try.prog cx [] (callW Try.prog how) (cr [.r, .r, .r, .l]) (env, σ) = some (.normal, (env', σ.set (.hp a) (.cells [.int .u64 r, .int .i64 n, X]))) ∧ env'.length = 28 ∧ (True) ∧ ∀ i, i ∉ [21, 22, 23, 24] → Env.get env' i = Env.get env i := by
  suffices h : ∀ res, execW Try.prog cx [] (callW Try.prog how) (cr [.r, .r, .r, .l]) (env, σ) = res → ∃ env', res = some (.normal, (env', σ.set (.hp a) (.cells [.int .u64 r, .int .i64 n, X]))) ∧ env'.length = 28 ∧ (True) ∧ ∀ i, i ∉ [21, 22, 23, 24] → Env.get env' i = Env.get env i from h _ rfl
  intro res hr
  simp -implicitDefEqProofs [ofV, ofCell, ofCells, seqA_nil, seqA_cons, seqVK_eq, seqEK_eq, wantedA, yieldedA, isVal, effA, ev, evs, evps, putE, optsA, optsOk, valA, fieldAddrA, fieldA, loadA, partA, aggA, isAggD, buildA, placesA, fillA, lay, storeA, AV.withCells, buildSliceA, elemsA, rowParts, fzL, promL, okE, isSrc, bytesOk, pushA, cxOf, lenA, binA, intBinA, strBinA, unA, indexAddrA, eqA, AVs.inb, AV.inb, Loc.inb, calleeA, opsOf, sub, bodyOf, Env.get_set, quietA_nil, quietA_cons, quietK_none, quietK_some, qstep, newA, isNew, escNew, boxOk, newLoc, flat, rowPartsQ, quietN, quietOp, isBS, List.takeWhile, finishA_eq, finK_ret, finK_normal, retK, backK, resA, oneA, AV.back, AVs.back, execW_seq_eq, seqK_normal, seqK_ret, seqK_exit, execW_cond_eq, condK_true, condK_false, execW_block_eq, blockK_exit, blockK_normal, blockK_ret, execW_region_eq, regK_eq, execW_skip, execW_exit, execW_ret, regionA_plain, regionA_quiet0, tailK_eq, nilCheckA, guardOk, isConst, lookupA, keyFits, mapUpdateA, beqI, bneI, AS.get_push_at, AS.get_push_old, AS.push_len, AS.set_st_len, AS.next_st', AS.set_push_at, AS.get_set_self, AS.get_set_other, cr, Try.f21, hlen, hcx, f0, f4, g4, hA, hro0] at hr
  subst hr
  refine ⟨_, rfl, by simp [hlen], by simp [Env.get_set, hlen, f0, f4, g4, hA, hro0], fun i hi => ?_⟩
  simp only [List.mem_cons, List.not_mem_nil, or_false, not_or] at hi
  obtain ⟨x0, x1, x2, x3⟩ := hi
  simp [Env.get_set, Ne.symm x0, Ne.symm x1, Ne.symm x2, Ne.symm x3]

theorem rV (cx : Cx) (env : Env) (σ : AS) (a : Nat) (m : Int) (x : AV) (σ' : AS) (hlen : env.length = 28) (hcx : cx.esc = []) (f0 : Env.get env 0 = .ptr (.hp a) 0) (f2 : Env.get env 2 = .int .i64 m) (hc : callW Try.prog how 20 [.ptr (.hp a) 0, .int .i64 m] σ cx.ro = some (x, σ')) :
    ∃ env', execW Try.prog cx [] (callW Try.prog how) (cr [.r, .r, .r, .r, .l]) (env, σ) = some (.normal, (env', σ')) ∧ env'.length = 28 ∧ (Env.get env' 6 = x ∧ Env.get env' 7 = .int .i64 0) ∧ ∀ i, i ∉ [6, 7, 25, 26, 27] → Env.get env' i = Env.get env i := by
  suffices h : ∀ res, execW Try.prog cx [] (callW Try.prog how) (cr [.r, .r, .r, .r, .l]) (env, σ) = res → ∃ env', res = some (.normal, (env', σ')) ∧ env'.length = 28 ∧ (Env.get env' 6 = x ∧ Env.get env' 7 = .int .i64 0) ∧ ∀ i, i ∉ [6, 7, 25, 26, 27] → Env.get env' i = Env.get env i from h _ rfl
  intro res hr
  simp -implicitDefEqProofs [ofV, ofCell, ofCells, seqA_nil, seqA_cons, seqVK_eq, seqEK_eq, wantedA, yieldedA, isVal, effA, ev, evs, evps, putE, optsA, optsOk, valA, fieldAddrA, fieldA, loadA, partA, aggA, isAggD, buildA, placesA, fillA, lay, storeA, AV.withCells, buildSliceA, elemsA, rowParts, fzL, promL, okE, isSrc, bytesOk, pushA, cxOf, lenA, binA, intBinA, strBinA, unA, indexAddrA, eqA, AVs.inb, AV.inb, Loc.inb, calleeA, opsOf, sub, bodyOf, Env.get_set, quietA_nil, quietA_cons, quietK_none, quietK_some, qstep, newA, isNew, escNew, boxOk, newLoc, flat, rowPartsQ, quietN, quietOp, isBS, List.takeWhile, finishA_eq, finK_ret, finK_normal, retK, backK, resA, oneA, AV.back, AVs.back, execW_seq_eq, seqK_normal, seqK_ret, seqK_exit, execW_cond_eq, condK_true, condK_false, execW_block_eq, blockK_exit, blockK_normal, blockK_ret, execW_region_eq, regK_eq, execW_skip, execW_exit, execW_ret, regionA_plain, regionA_quiet0, tailK_eq, nilCheckA, guardOk, isConst, lookupA, keyFits, mapUpdateA, beqI, bneI, AS.get_push_at, AS.get_push_old, AS.push_len, AS.set_st_len, AS.next_st', AS.set_push_at, AS.get_set_self, AS.get_set_other, cr, Try.f21, hlen, hcx, f0, f2, hc] at hr
  subst hr
  refine ⟨_, rfl, by simp [hlen], by simp [Env.get_set, hlen, f0, f2, hc], fun i hi => ?_⟩
  simp only [List.mem_cons, List.not_mem_nil, or_false, not_or] at hi
  obtain ⟨x0, x1, x2, x3, x4⟩ := hi
  simp [Env.get_set, Ne.symm x0, Ne.symm x1, Ne.symm x2, Ne.symm x3, Ne.symm x4]

theorem body : Try.f21.body = some ((cr [.l]).seq ((cr [.r, .l]).seq ((cr [.r, .r, .l]).seq ((cr [.r, .r, .r, .l]).seq ((cr [.r, .r, .r, .r, .l]).seq .ret))))) := by kernel_rfl
theorem fin_code (s hp' st' : List AObj) (e : Env) (l : List AV) (k : Int) (h6 : Env.get e 6 = slV 4 l) (h7 : Env.get e 7 = .int .i64 k) (hs : List.take s.length st' = s) : finishA Try.prog {} Try.f21 s.length (some (.ret, (e, ⟨hp', st'⟩))) = some (.tup [slV 4 l, .int .i64 k], ⟨hp', s⟩) := by
  simp -implicitDefEqProofs [finishA, resA, Try.f21, h6, h7, oneA, AV.back, AVs.back, slV_back, slV_row, AV.inb, AVs.inb, hs]
theorem ok (hp s : List AObj) (a : Nat) (r n m pr pn : Int) (X : AV) (L : List Vt) (hX : SlH hp X (L.map encV)) (hL : L.length ≤ 1000) (hA : hp[a]? = some (.cells [.int .u64 pr, .int .i64 pn, X])) (hr : 0 ≤ r) :
    ((askedB r n && decide (0 ≤ m)) = false ∧ callW Try.prog how 21 [.ptr (.hp a) 0, .agg [.int .u64 r, .int .i64 n], .int .i64 m] ⟨hp, s⟩ none = some (.tup [.nils, .int .i64 1], ⟨hp, s⟩)) ∨
    ((askedB r n && decide (0 ≤ m)) = true ∧ lessB r n pr pn = true ∧ callW Try.prog how 21 [.ptr (.hp a) 0, .agg [.int .u64 r, .int .i64 n], .int .i64 m] ⟨hp, s⟩ none = some (.tup [.nils, .int .i64 13], ⟨hp, s⟩)) ∨
    ((askedB r n && decide (0 ≤ m)) = true ∧ lessB r n pr pn = false ∧ callW Try.prog how 21 [.ptr (.hp a) 0, .agg [.int .u64 r, .int .i64 n], .int .i64 m] ⟨hp, s⟩ none = some (.tup [slV 4 ((fromV L m).map encV), .int .i64 0], ⟨hp.set a (.cells [.int .u64 r, .int .i64 n, X]), s⟩)) := by
  let cx : Cx := { h := s.length, ro := none, esc := [] }
  have hcx : cx.esc = [] := rfl
  have henv : ∃ e, e = frameA Try.f21 [.ptr (.hp a) 0, .agg [.int .u64 r, .int .i64 n], .int .i64 m] := ⟨_, rfl⟩
  obtain ⟨env, henv⟩ := henv
  have hl : env.length = 28 := by rw [henv]; rfl
  have h0 : Env.get env 0 = .ptr (.hp a) 0 := by rw [henv]; rfl
  have h1 : Env.get env 1 = .agg [.int .u64 r, .int .i64 n] := by rw [henv]; rfl
  have h2 : Env.get env 2 = .int .i64 m := by rw [henv]; rfl
  have call : ∀ (e : Env) (hp' st' : List AObj) (l : List AV) (k : Int), execW Try.prog cx [] (callW Try.prog how) ((cr [.l]).seq ((cr [.r, .l]).seq ((cr [.r, .r, .l]).seq ((cr [.r, .r, .r, .l]).seq ((cr [.r, .r, .r, .r, .l]).seq .ret))))) (env, ⟨hp, s⟩) = some (.ret, (e, ⟨hp', st'⟩)) → Env.get e 6 = slV 4 l → Env.get e 7 = .int .i64 k → List.take s.length st' = s → callW Try.prog how 21 [.ptr (.hp a) 0, .agg [.int .u64 r, .int .i64 n], .int .i64 m] ⟨hp, s⟩ none = some (.tup [slV 4 l, .int .i64 k], ⟨hp', s⟩) := by
    intro e hp' st' l k hx h6 h7 ht
    refine callW_body (fl := {}) (fn := Try.f21) rfl Try.func21 body ?_
    rw [← henv]
    exact (congrArg (finishA Try.prog {} Try.f21 s.length) hx).trans (fin_code s hp' st' e l k h6 h7 ht)
  clear henv
  obtain ⟨env1, a1, a2, a3, a4⟩ := rA cx env ⟨hp, s⟩ r n hl hcx h1 rfl (Nat.le_refl _)
  have hσ : (AS.mk hp s).push false (.cells [.int .u64 r, .int .i64 n]) = ⟨hp, s ++ [.cells [.int .u64 r, .int .i64 n]]⟩ := by simp [AS.push]
  rw [hσ] at a1
  have g4 : (AS.mk hp (s ++ [.cells [.int .u64 r, .int .i64 n]])).get (.st s.length) = some (.cells [.int .u64 r, .int .i64 n]) := by simp [AS.get]
  have hAσ : (AS.mk hp (s ++ [.cells [.int .u64 r, .int .i64 n]])).get (.hp a) = some (.cells [.int .u64 pr, .int .i64 pn, X]) := hA
  have f4 : Env.get env1 4 = .ptr (.st s.length) 0 := a3.1
  have f0 := (a4 0 (by decide)).trans h0
  have f2 := (a4 2 (by decide)).trans h2
  have htk : List.take s.length (s ++ [AObj.cells [.int .u64 r, .int .i64 n]]) = s := by simp
  have hc1 := f24_ok hp (s ++ [.cells [.int .u64 r, .int .i64 n]]) none r n hr (fun k hk => by cases hk)
  have hc2 := f14_ok hp (s ++ [.cells [.int .u64 r, .int .i64 n]]) (some (s ++ [AObj.cells [.int .u64 r, .int .i64 n]]).length) r n pr pn (fun k hk => by cases hk; exact Nat.le_refl _)
  cases hk : askedB r n with
  | false =>
    rw [hk] at hc1
    obtain ⟨e, b1, _, b3, _⟩ := rEa cx env1 _ a s.length r n m a2 hcx f0 f2 f4 g4 hc1
    exact .inl ⟨by simp, call e _ _ [] 1 (execW_seq_of a1 (execW_seq_ret b1)) b3.1 b3.2 htk⟩
  | true =>
    rw [hk] at hc1
    by_cases q : m < 0
    · obtain ⟨e, b1, _, b3, _⟩ := rEb cx env1 _ a s.length r n m a2 hcx f0 f2 f4 g4 hc1 q
      exact .inl ⟨by simp; omega, call e _ _ [] 1 (execW_seq_of a1 (execW_seq_ret b1)) b3.1 b3.2 htk⟩
    · have hd : (true && decide (0 ≤ m)) = true := by simp; omega
      cases hle : lessB r n pr pn with
      | true =>
        rw [hle] at hc2
        obtain ⟨env2, b1, b2, _, b4⟩ := rOk1 cx env1 _ a s.length r n m a2 hcx f0 f2 f4 g4 hc1 q
        obtain ⟨e, c1, _, c3, _⟩ := rOld cx env2 _ a s.length r n m pr pn _ b2 hcx ((b4 0 (by decide)).trans f0) ((b4 2 (by decide)).trans f2) ((b4 4 (by decide)).trans f4) g4 hAσ hc2
        exact .inr (.inl ⟨hd, rfl, call e _ _ [] 13 (execW_seq_of a1 (execW_seq_of b1 (execW_seq_ret c1))) c3.1 c3.2 htk⟩)
      | false =>
        rw [hle] at hc2
        obtain ⟨env2, b1, b2, _, b4⟩ := rOk1 cx env1 _ a s.length r n m a2 hcx f0 f2 f4 g4 hc1 q
        have f0 := (b4 0 (by decide)).trans f0
        have f2 := (b4 2 (by decide)).trans f2
        have f4 := (b4 4 (by decide)).trans f4
        obtain ⟨env3, c1, c2, _, c4⟩ := rOk cx env2 _ a s.length r n m pr pn _ b2 hcx f0 f2 f4 g4 hAσ hc2
        have f0 := (c4 0 (by decide)).trans f0
        have f2 := (c4 2 (by decide)).trans f2
        have f4 := (c4 4 (by decide)).trans f4
        obtain ⟨env4, d1, d2, _, d4⟩ := rS cx env3 _ a s.length r n pr pn _ c2 hcx f0 f4 g4 hAσ rfl
        have hlt : a < hp.length := (List.getElem?_eq_some_iff.1 hA).1
        have hA' : (hp.set a (.cells [.int .u64 r, .int .i64 n, X]))[a]? = some (.cells [.int .u64 r, .int .i64 n, X]) := List.getElem?_set_self hlt
        have hX' : SlH (hp.set a (.cells [.int .u64 r, .int .i64 n, X])) X (L.map encV) := by
          rcases hX with h | ⟨j, w, fr, rfl, hj⟩
          · exact .inl h
          · refine .inr ⟨j, w, fr, rfl, ?_⟩
            rw [List.getElem?_set_ne (by rintro rfl; rw [hA] at hj; cases hj)]
            exact hj
        have hv := F20.ok (hp.set a (.cells [.int .u64 r, .int .i64 n, X])) (s ++ [.cells [.int .u64 r, .int .i64 n]]) none a r n m X L (fun k hk => by cases hk) hA' hX' hL
        obtain ⟨env5, e1, e2, e3, e4⟩ := rV cx env4 _ a m _ _ d2 hcx ((d4 0 (by decide)).trans f0) ((d4 2 (by decide)).trans f2) hv
        exact .inr (.inr ⟨hd, rfl, call env5 _ _ _ 0 (execW_seq_of a1 (execW_seq_of b1 (execW_seq_of c1 (execW_seq_of d1 (execW_seq_of (b := .ret) e1 rfl))))) e3.1 e3.2 htk⟩)

end F21