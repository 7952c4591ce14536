/- Whether two rows of votes are the same. -/
import Derived.Test.YtmldaajjeeidjaaCd
open Go Go.Abs Go.Proofs
set_option maxRecDepth 100000
set_option maxHeartbeats 4000000
set_option linter.unusedSimpArgs false
set_option linter.unusedVariables false
theorem beqS_iff (x y : ByteArray) : beqS x y = decide (x = y) := by
  unfold beqS
  by_cases h : x = y
  · subst h; simp
  · rw [decide_eq_false h]
    simp only [beq_eq_false_iff_ne]
    intro e
    apply h
    cases x with | mk a => cases y with | mk b => cases a; cases b; simp at e; simp [e]
theorem gd27 : Try.prog.eqGuardType Try.prog.depth 27 = false := by kernel_rfl
theorem gd25 : Try.prog.eqGuardType Try.prog.depth 25 = false := by kernel_rfl
theorem st27 : Try.prog.stoodInHeld 27 = false := by kernel_rfl
theorem st25 : Try.prog.stoodInHeld 25 = false := by kernel_rfl
theorem eq25 (r n r' n' : Int) : eqA Try.prog 39 25 (.agg [.int .u64 r, .int .i64 n]) (.agg [.int .u64 r', .int .i64 n']) = some (decide (r = r') && decide (n = n')) := by
  by_cases h1 : r = r' <;> by_cases h2 : n = n' <;> simp [eqA, st25, eqFieldsA, partA, aggA, isAggD, h1, h2, beqI]
theorem eq25' (r n r' n' : Int) : eqA Try.prog 40 25 (.agg [.int .u64 r, .int .i64 n]) (.agg [.int .u64 r', .int .i64 n']) = some (decide (r = r') && decide (n = n')) := by
  by_cases h1 : r = r' <;> by_cases h2 : n = n' <;> simp [eqA, st25, eqFieldsA, partA, aggA, isAggD, h1, h2, beqI]
theorem eq27 (u v : Vt) : eqA Try.prog 40 27 (.agg [.int .i64 u.s, .int .u64 u.r, .int .i64 u.n, .str u.v]) (.agg [.int .i64 v.s, .int .u64 v.r, .int .i64 v.n, .str v.v]) = some (decide (u = v)) := by
  have hd : decide (u = v) = (decide (u.s = v.s) && (decide (u.r = v.r) && decide (u.n = v.n) && decide (u.v = v.v))) := by
    cases u; cases v
    simp [Vt.mk.injEq, Bool.decide_and, Bool.and_assoc]
  rw [hd]
  by_cases h1 : u.s = v.s <;> by_cases h2 : u.r = v.r <;> by_cases h3 : u.n = v.n <;> by_cases h4 : u.v = v.v <;>
    simp [eqA, st27, st25, eqFieldsA, partA, aggA, isAggD, h1, h2, h3, h4, beqI, beqS_iff]

theorem len_slV (P : Program) (σ : AS) (t e : TypeId) (h : P.underlying t = some (.slice e)) (sz : Nat) (l : List AV) : lenA P σ t (slV sz l) = some l.length := by
  unfold slV
  cases l with
  | nil => simp [lenA, h]
  | cons a l => simp [lenA, h]
theorem len45 (σ : AS) (l : List AV) : lenA Try.prog σ 45 (slV 4 l) = some l.length := len_slV _ _ _ _ Try.underlying45 _ _
theorem len31 (σ : AS) (l : List AV) : lenA Try.prog σ 31 (slV 4 l) = some l.length := len_slV _ _ _ _ Try.underlying31 _ _
theorem idx_slV (P : Program) (σ : AS) (t e : TypeId) (h : P.underlying t = some (.slice e)) (l : List AV) (k : Nat) (c : AV) (hs : sizeA P e = some 4) (hk : l[k]? = some c) : indexAddrA P σ t (slV 4 l) (.int .i64 (k : Int)) = some (.rptr c.cells 0) := by
  unfold slV
  cases l with
  | nil => simp at hk
  | cons a l => simp [indexAddrA, h, hs, hk]

namespace F18
noncomputable def cr (p : List Dir) : Code := sub p (bodyOf Try.f18)

theorem rA (cx : Cx) (env : Env) (σ : AS)  (hlen : env.length = 27) (hcx : cx.esc = [])  :
    ∃ env', execW Try.prog cx [] (callW Try.prog how) (cr [.l]) (env, σ) = some (.normal, (env', σ)) ∧ env'.length = 27 ∧ (Env.get env' 4 = .bool false) ∧ ∀ i, i ∉ [4] → Env.get env' i = Env.get env i := by
  suffices h : ∀ res, execW Try.prog cx [] (callW Try.prog how) (cr [.l]) (env, σ) = res → ∃ env', res = some (.normal, (env', σ)) ∧ env'.length = 27 ∧ (Env.get env' 4 = .bool false) ∧ ∀ i, i ∉ [4] → Env.get env' i = Env.get env i from h _ rfl
  intro res hr
  simp -implicitDefEqProofs [ofV, ofCell, ofCells, seqA_nil, seqA_cons, seqVK_eq, seqEK_eq, wantedA, yieldedA, isVal, effA, ev, evs, evps, putE, optsA, optsOk, valA, fieldAddrA, fieldA, loadA, partA, aggA, isAggD, buildA, placesA, fillA, lay, storeA, AV.withCells, buildSliceA, elemsA, rowParts, fzL, promL, okE, isSrc, bytesOk, pushA, cxOf, lenA, binA, intBinA, strBinA, unA, indexAddrA, eqA, AVs.inb, AV.inb, Loc.inb, calleeA, opsOf, sub, bodyOf, Env.get_set, quietA_nil, quietA_cons, quietK_none, quietK_some, qstep, newA, isNew, escNew, boxOk, newLoc, flat, rowPartsQ, quietN, quietOp, isBS, List.takeWhile, finishA_eq, finK_ret, finK_normal, retK, backK, resA, oneA, AV.back, AVs.back, execW_seq_eq, seqK_normal, seqK_ret, seqK_exit, execW_cond_eq, condK_true, condK_false, execW_block_eq, blockK_exit, blockK_normal, blockK_ret, execW_region_eq, regK_eq, execW_skip, execW_exit, execW_ret, regionA_plain, regionA_quiet0, tailK_eq, nilCheckA, guardOk, isConst, lookupA, keyFits, mapUpdateA, beqI, bneI, AS.get_push_at, AS.get_push_old, AS.push_len, AS.set_st_len, AS.next_st', AS.set_push_at, AS.get_set_self, AS.get_set_other, cr, Try.f18, hlen, hcx] at hr
  subst hr
  refine ⟨_, rfl, by simp [hlen], by simp [Env.get_set, hlen], fun i hi => ?_⟩
  simp only [List.mem_cons, List.not_mem_nil, or_false, not_or] at hi
  have x0 := hi
  simp [Env.get_set, Ne.symm x0]

theorem rN (cx : Cx) (env : Env) (σ : AS) (LA LB : List AV) (hlen : env.length = 27) (hcx : cx.esc = []) (f0 : Env.get env 0 = slV 4 LA) (f1 : Env.get env 1 = slV 4 LB) (hn : LA.length = LB.length) :
    ∃ env', execW Try.prog cx [] (callW Try.prog how) (cr [.r, .l]) (env, σ) = some (.normal, (env', σ)) ∧ env'.length = 27 ∧ (True) ∧ ∀ i, i ∉ [6, 7, 8, 9, 10] → Env.get env' i = Env.get env i := by
  suffices h : ∀ res, execW Try.prog cx [] (callW Try.prog how) (cr [.r, .l]) (env, σ) = res → ∃ env', res = some (.normal, (env', σ)) ∧ env'.length = 27 ∧ (True) ∧ ∀ i, i ∉ [6, 7, 8, 9, 10] → Env.get env' i = Env.get env i from h _ rfl
  intro res hr
  simp -implicitDefEqProofs [ofV, ofCell, ofCells, seqA_nil, seqA_cons, seqVK_eq, seqEK_eq, wantedA, yieldedA, isVal, effA, ev, evs, evps, putE, optsA, optsOk, valA, fieldAddrA, fieldA, loadA, partA, aggA, isAggD, buildA, placesA, fillA, lay, storeA, AV.withCells, buildSliceA, elemsA, rowParts, fzL, promL, okE, isSrc, bytesOk, pushA, cxOf, binA, intBinA, strBinA, unA, indexAddrA, eqA, AVs.inb, AV.inb, Loc.inb, calleeA, opsOf, sub, bodyOf, Env.get_set, quietA_nil, quietA_cons, quietK_none, quietK_some, qstep, newA, isNew, escNew, boxOk, newLoc, flat, rowPartsQ, quietN, quietOp, isBS, List.takeWhile, finishA_eq, finK_ret, finK_normal, retK, backK, resA, oneA, AV.back, AVs.back, execW_seq_eq, seqK_normal, seqK_ret, seqK_exit, execW_cond_eq, condK_true, condK_false, execW_block_eq, blockK_exit, blockK_normal, blockK_ret, execW_region_eq, regK_eq, execW_skip, execW_exit, execW_ret, regionA_plain, regionA_quiet0, tailK_eq, nilCheckA, guardOk, isConst, lookupA, keyFits, mapUpdateA, beqI, bneI, AS.get_push_at, AS.get_push_old, AS.push_len, AS.set_st_len, AS.next_st', AS.set_push_at, AS.get_set_self, AS.get_set_other, cr, Try.f18, hlen, hcx, f0, f1, hn, len45, len31] at hr
  subst hr
  refine ⟨_, rfl, by simp [hlen], by simp [Env.get_set, hlen, f0, f1, hn, len45, len31], fun i hi => ?_⟩
  simp only [List.mem_cons, List.not_mem_nil, or_false, not_or] at hi
  obtain ⟨x0, x1, x2, x3, x4⟩ := hi
  simp [Env.get_set, Ne.symm x0, Ne.symm x1, Ne.symm x2, Ne.symm x3, Ne.symm x4]

theorem rX (cx : Cx) (env : Env) (σ : AS) (LA LB : List AV) (hlen : env.length = 27) (hcx : cx.esc = []) (f0 : Env.get env 0 = slV 4 LA) (f1 : Env.get env 1 = slV 4 LB) (hn : ¬ LA.length = LB.length) (hn' : ¬ (LA.length : Int) = (LB.length : Int)) :
    ∃ env', execW Try.prog cx [] (callW Try.prog how) (cr [.r, .l]) (env, σ) = some (.ret, (env', σ)) ∧ env'.length = 27 ∧ (Env.get env' 4 = .bool false) ∧ ∀ i, i ∉ [4, 6, 7, 8, 9, 10] → Env.get env' i = Env.get env i := by
  suffices h : ∀ res, execW Try.prog cx [] (callW Try.prog how) (cr [.r, .l]) (env, σ) = res → ∃ env', res = some (.ret, (env', σ)) ∧ env'.length = 27 ∧ (Env.get env' 4 = .bool false) ∧ ∀ i, i ∉ [4, 6, 7, 8, 9, 10] → Env.get env' i = Env.get env i from h _ rfl
  intro res hr
  simp -implicitDefEqProofs [ofV, ofCell, ofCells, seqA_nil, seqA_cons, seqVK_eq, seqEK_eq, wantedA, yieldedA, isVal, effA, ev, evs, evps, putE, optsA, optsOk, valA, fieldAddrA, fieldA, loadA, partA, aggA, isAggD, buildA, placesA, fillA, lay, storeA, AV.withCells, buildSliceA, elemsA, rowParts, fzL, promL, okE, isSrc, bytesOk, pushA, cxOf, binA, intBinA, strBinA, unA, indexAddrA, eqA, AVs.inb, AV.inb, Loc.inb, calleeA, opsOf, sub, bodyOf, Env.get_set, quietA_nil, quietA_cons, quietK_none, quietK_some, qstep, newA, isNew, escNew, boxOk, newLoc, flat, rowPartsQ, quietN, quietOp, isBS, List.takeWhile, finishA_eq, finK_ret, finK_normal, retK, backK, resA, oneA, AV.back, AVs.back, execW_seq_eq, seqK_normal, seqK_ret, seqK_exit, execW_cond_eq, condK_true, condK_false, execW_block_eq, blockK_exit, blockK_normal, blockK_ret, execW_region_eq, regK_eq, execW_skip, execW_exit, execW_ret, regionA_plain, regionA_quiet0, tailK_eq, nilCheckA, guardOk, isConst, lookupA, keyFits, mapUpdateA, beqI, bneI, AS.get_push_at, AS.get_push_old, AS.push_len, AS.set_st_len, AS.next_st', AS.set_push_at, AS.get_set_self, AS.get_set_other, cr, Try.f18, hlen, hcx, f0, f1, hn, hn', len45, len31] at hr
  subst hr
  refine ⟨_, rfl, by simp [hlen], by simp [Env.get_set, hlen, f0, f1, hn, hn', len45, len31], fun i hi => ?_⟩
  simp only [List.mem_cons, List.not_mem_nil, or_false, not_or] at hi
  obtain ⟨x0, x1, x2, x3, x4, x5⟩ := hi
  simp [Env.get_set, Ne.symm x0, Ne.symm x1, Ne.symm x2, Ne.symm x3, Ne.symm x4, Ne.symm x5]

theorem rL (cx : Cx) (env : Env) (σ : AS) (LB : List AV) (hlen : env.length = 27) (hcx : cx.esc = []) (f1 : Env.get env 1 = slV 4 LB) :
    ∃ env', execW Try.prog cx [] (callW Try.prog how) (cr [.r, .r, .l, .l]) (env, σ) = some (.normal, (env', σ)) ∧ env'.length = 27 ∧ (Env.get env' 12 = .int .i64 (LB.length : Int) ∧ Env.get env' 13 = .int .i64 0) ∧ ∀ i, i ∉ [11, 12, 13] → Env.get env' i = Env.get env i := by
  suffices h : ∀ res, execW Try.prog cx [] (callW Try.prog how) (cr [.r, .r, .l, .l]) (env, σ) = res → ∃ env', res = some (.normal, (env', σ)) ∧ env'.length = 27 ∧ (Env.get env' 12 = .int .i64 (LB.length : Int) ∧ Env.get env' 13 = .int .i64 0) ∧ ∀ i, i ∉ [11, 12, 13] → Env.get env' i = Env.get env i from h _ rfl
  intro res hr
  simp -implicitDefEqProofs [ofV, ofCell, ofCells, seqA_nil, seqA_cons, seqVK_eq, seqEK_eq, wantedA, yieldedA, isVal, effA, ev, evs, evps, putE, optsA, optsOk, valA, fieldAddrA, fieldA, loadA, partA, aggA, isAggD, buildA, placesA, fillA, lay, storeA, AV.withCells, buildSliceA, elemsA, rowParts, fzL, promL, okE, isSrc, bytesOk, pushA, cxOf, binA, intBinA, strBinA, unA, indexAddrA, eqA, AVs.inb, AV.inb, Loc.inb, calleeA, opsOf, sub, bodyOf, Env.get_set, quietA_nil, quietA_cons, quietK_none, quietK_some, qstep, newA, isNew, escNew, boxOk, newLoc, flat, rowPartsQ, quietN, quietOp, isBS, List.takeWhile, finishA_eq, finK_ret, finK_normal, retK, backK, resA, oneA, AV.back, AVs.back, execW_seq_eq, seqK_normal, seqK_ret, seqK_exit, execW_cond_eq, condK_true, condK_false, execW_block_eq, blockK_exit, blockK_normal, blockK_ret, execW_region_eq, regK_eq, execW_skip, execW_exit, execW_ret, regionA_plain, regionA_quiet0, tailK_eq, nilCheckA, guardOk, isConst, lookupA, keyFits, mapUpdateA, beqI, bneI, AS.get_push_at, AS.get_push_old, AS.push_len, AS.set_st_len, AS.next_st', AS.set_push_at, AS.get_set_self, AS.get_set_other, cr, Try.f18, hlen, hcx, f1, len31] at hr
  subst hr
  refine ⟨_, rfl, by simp [hlen], by simp [Env.get_set, hlen, f1, len31], fun i hi => ?_⟩
  simp only [List.mem_cons, List.not_mem_nil, or_false, not_or] at hi
  obtain ⟨x0, x1, x2⟩ := hi
  simp [Env.get_set, Ne.symm x0, Ne.symm x1, Ne.symm x2]

theorem rB0 (cx : Cx) (env : Env) (σ : AS) (LA LB : List AV) (k : Nat) (u : Vt) (hlen : env.length = 27) (hcx : cx.esc = []) (f0 : Env.get env 0 = slV 4 LA) (f1 : Env.get env 1 = slV 4 LB) (f13 : Env.get env 13 = .int .i64 (k : Int)) (hia : indexAddrA Try.prog σ 45 (slV 4 LA) (.int .i64 (k : Int)) = some (.rptr (encV u).cells 0)) (hib : indexAddrA Try.prog σ 31 (slV 4 LB) (.int .i64 (k : Int)) = some (.rptr (encV u).cells 0)) (hc : callW Try.prog how 15 [.agg [.int .i64 u.s, .int .u64 u.r, .int .i64 u.n, .str u.v]] σ (some σ.st.length) = some (.agg [.int .i64 u.s, .int .u64 u.r, .int .i64 u.n, .str u.v], σ)) :
    ∃ env', execW Try.prog cx [] (callW Try.prog how) (cr [.r, .r, .l, .r, .i, .i, .r, .r, .l]) (env, σ) = some (.normal, (env', σ)) ∧ env'.length = 27 ∧ (True) ∧ ∀ i, i ∉ [5, 15, 16, 17, 18, 19, 20, 21, 22, 23, 24, 25] → Env.get env' i = Env.get env i := by
  suffices h : ∀ res, execW Try.prog cx [] (callW Try.prog how) (cr [.r, .r, .l, .r, .i, .i, .r, .r, .l]) (env, σ) = res → ∃ env', res = some (.normal, (env', σ)) ∧ env'.length = 27 ∧ (True) ∧ ∀ i, i ∉ [5, 15, 16, 17, 18, 19, 20, 21, 22, 23, 24, 25] → Env.get env' i = Env.get env i from h _ rfl
  intro res hr
  simp -implicitDefEqProofs [ofV, ofCell, ofCells, seqA_nil, seqA_cons, seqVK_eq, seqEK_eq, wantedA, yieldedA, isVal, effA, ev, evs, evps, putE, optsA, optsOk, valA, fieldAddrA, fieldA, loadA, partA, aggA, isAggD, buildA, placesA, fillA, lay, storeA, AV.withCells, buildSliceA, elemsA, rowParts, fzL, promL, okE, isSrc, bytesOk, pushA, cxOf, lenA, binA, intBinA, strBinA, unA, AVs.inb, AV.inb, Loc.inb, calleeA, opsOf, sub, bodyOf, Env.get_set, quietA_nil, quietA_cons, quietK_none, quietK_some, qstep, newA, isNew, escNew, boxOk, newLoc, flat, rowPartsQ, quietN, quietOp, isBS, List.takeWhile, finishA_eq, finK_ret, finK_normal, retK, backK, resA, oneA, AV.back, AVs.back, execW_seq_eq, seqK_normal, seqK_ret, seqK_exit, execW_cond_eq, condK_true, condK_false, execW_block_eq, blockK_exit, blockK_normal, blockK_ret, execW_region_eq, regK_eq, execW_skip, execW_exit, execW_ret, regionA_plain, regionA_quiet0, tailK_eq, nilCheckA, guardOk, isConst, lookupA, keyFits, mapUpdateA, beqI, bneI, AS.get_push_at, AS.get_push_old, AS.push_len, AS.set_st_len, AS.next_st', AS.set_push_at, AS.get_set_self, AS.get_set_other, cr, Try.f18, hlen, hcx, f0, f1, f13, hia, hib, hc, gd27, eq27] at hr
  subst hr
  refine ⟨_, rfl, by simp [hlen], by simp [Env.get_set, hlen, f0, f1, f13, hia, hib, hc, gd27, eq27], fun i hi => ?_⟩
  simp only [List.mem_cons, List.not_mem_nil, or_false, not_or] at hi
  obtain ⟨x0, x1, x2, x3, x4, x5, x6, x7, x8, x9, x10, x11⟩ := hi
  simp [Env.get_set, Ne.symm x0, Ne.symm x1, Ne.symm x2, Ne.symm x3, Ne.symm x4, Ne.symm x5, Ne.symm x6, Ne.symm x7, Ne.symm x8, Ne.symm x9, Ne.symm x10, Ne.symm x11]

theorem rB1 (cx : Cx) (env : Env) (σ : AS) (LA LB : List AV) (k : Nat) (u v : Vt) (hlen : env.length = 27) (hcx : cx.esc = []) (f0 : Env.get env 0 = slV 4 LA) (f1 : Env.get env 1 = slV 4 LB) (f13 : Env.get env 13 = .int .i64 (k : Int)) (hia : indexAddrA Try.prog σ 45 (slV 4 LA) (.int .i64 (k : Int)) = some (.rptr (encV u).cells 0)) (hib : indexAddrA Try.prog σ 31 (slV 4 LB) (.int .i64 (k : Int)) = some (.rptr (encV v).cells 0)) (hc : callW Try.prog how 15 [.agg [.int .i64 u.s, .int .u64 u.r, .int .i64 u.n, .str u.v]] σ (some σ.st.length) = some (.agg [.int .i64 u.s, .int .u64 u.r, .int .i64 u.n, .str u.v], σ)) (hv : ¬ u = v) :
    ∃ env', execW Try.prog cx [] (callW Try.prog how) (cr [.r, .r, .l, .r, .i, .i, .r, .r, .l]) (env, σ) = some (.ret, (env', σ)) ∧ env'.length = 27 ∧ (Env.get env' 4 = .bool false) ∧ ∀ i, i ∉ [4, 5, 15, 16, 17, 18, 19, 20, 21, 22, 23, 24, 25] → Env.get env' i = Env.get env i := by
  suffices h : ∀ res, execW Try.prog cx [] (callW Try.prog how) (cr [.r, .r, .l, .r, .i, .i, .r, .r, .l]) (env, σ) = res → ∃ env', res = some (.ret, (env', σ)) ∧ env'.length = 27 ∧ (Env.get env' 4 = .bool false) ∧ ∀ i, i ∉ [4, 5, 15, 16, 17, 18, 19, 20, 21, 22, 23, 24, 25] → Env.get env' i = Env.get env i from h _ rfl
  intro res hr
  simp -implicitDefEqProofs [ofV, ofCell, ofCells, seqA_nil, seqA_cons, seqVK_eq, seqEK_eq, wantedA, yieldedA, isVal, effA, ev, evs, evps, putE, optsA, optsOk, valA, fieldAddrA, fieldA, loadA, partA, aggA, isAggD, buildA, placesA, fillA, lay, storeA, AV.withCells, buildSliceA, elemsA, rowParts, fzL, promL, okE, isSrc, bytesOk, pushA, cxOf, lenA, binA, intBinA, strBinA, unA, AVs.inb, AV.inb, Loc.inb, calleeA, opsOf, sub, bodyOf, Env.get_set, quietA_nil, quietA_cons, quietK_none, quietK_some, qstep, newA, isNew, escNew, boxOk, newLoc, flat, rowPartsQ, quietN, quietOp, isBS, List.takeWhile, finishA_eq, finK_ret, finK_normal, retK, backK, resA, oneA, AV.back, AVs.back, execW_seq_eq, seqK_normal, seqK_ret, seqK_exit, execW_cond_eq, condK_true, condK_false, execW_block_eq, blockK_exit, blockK_normal, blockK_ret, execW_region_eq, regK_eq, execW_skip, execW_exit, execW_ret, regionA_plain, regionA_quiet0, tailK_eq, nilCheckA, guardOk, isConst, lookupA, keyFits, mapUpdateA, beqI, bneI, AS.get_push_at, AS.get_push_old, AS.push_len, AS.set_st_len, AS.next_st', AS.set_push_at, AS.get_set_self, AS.get_set_other, cr, Try.f18, hlen, hcx, f0, f1, f13, hia, hib, hc, hv, gd27, eq27] at hr
  subst hr
  refine ⟨_, rfl, by simp [hlen], by simp [Env.get_set, hlen, f0, f1, f13, hia, hib, hc, hv, gd27, eq27], fun i hi => ?_⟩
  simp only [List.mem_cons, List.not_mem_nil, or_false, not_or] at hi
  obtain ⟨x0, x1, x2, x3, x4, x5, x6, x7, x8, x9, x10, x11, x12⟩ := hi
  simp [Env.get_set, Ne.symm x0, Ne.symm x1, Ne.symm x2, Ne.symm x3, Ne.symm x4, Ne.symm x5, Ne.symm x6, Ne.symm x7, Ne.symm x8, Ne.symm x9, Ne.symm x10, Ne.symm x11, Ne.symm x12]

theorem rD (cx : Cx) (env : Env) (σ : AS)  (hlen : env.length = 27) (hcx : cx.esc = [])  :
    ∃ env', execW Try.prog cx [] (callW Try.prog how) (cr [.r, .r, .r, .l]) (env, σ) = some (.normal, (env', σ)) ∧ env'.length = 27 ∧ (Env.get env' 4 = .bool true) ∧ ∀ i, i ∉ [4] → Env.get env' i = Env.get env i := by
  suffices h : ∀ res, execW Try.prog cx [] (callW Try.prog how) (cr [.r, .r, .r, .l]) (env, σ) = res → ∃ env', res = some (.normal, (env', σ)) ∧ env'.length = 27 ∧ (Env.get env' 4 = .bool true) ∧ ∀ i, i ∉ [4] → Env.get env' i = Env.get env i from h _ rfl
  intro res hr
  simp -implicitDefEqProofs [ofV, ofCell, ofCells, seqA_nil, seqA_cons, seqVK_eq, seqEK_eq, wantedA, yieldedA, isVal, effA, ev, evs, evps, putE, optsA, optsOk, valA, fieldAddrA, fieldA, loadA, partA, aggA, isAggD, buildA, placesA, fillA, lay, storeA, AV.withCells, buildSliceA, elemsA, rowParts, fzL, promL, okE, isSrc, bytesOk, pushA, cxOf, lenA, binA, intBinA, strBinA, unA, indexAddrA, eqA, AVs.inb, AV.inb, Loc.inb, calleeA, opsOf, sub, bodyOf, Env.get_set, quietA_nil, quietA_cons, quietK_none, quietK_some, qstep, newA, isNew, escNew, boxOk, newLoc, flat, rowPartsQ, quietN, quietOp, isBS, List.takeWhile, finishA_eq, finK_ret, finK_normal, retK, backK, resA, oneA, AV.back, AVs.back, execW_seq_eq, seqK_normal, seqK_ret, seqK_exit, execW_cond_eq, condK_true, condK_false, execW_block_eq, blockK_exit, blockK_normal, blockK_ret, execW_region_eq, regK_eq, execW_skip, execW_exit, execW_ret, regionA_plain, regionA_quiet0, tailK_eq, nilCheckA, guardOk, isConst, lookupA, keyFits, mapUpdateA, beqI, bneI, AS.get_push_at, AS.get_push_old, AS.push_len, AS.set_st_len, AS.next_st', AS.set_push_at, AS.get_set_self, AS.get_set_other, cr, Try.f18, hlen, hcx] at hr
  subst hr
  refine ⟨_, rfl, by simp [hlen], by simp [Env.get_set, hlen], fun i hi => ?_⟩
  simp only [List.mem_cons, List.not_mem_nil, or_false, not_or] at hi
  have x0 := hi
  simp [Env.get_set, Ne.symm x0]

theorem body : Try.f18.body = some ((cr [.l]).seq ((cr [.r, .l]).seq (((cr [.r, .r, .l, .l]).seq (cr [.r, .r, .l, .r])).seq ((cr [.r, .r, .r, .l]).seq .ret)))) := by kernel_rfl
noncomputable def oT : Oper := (opsOf (cr [.r, .r, .l, .r, .i, .i, .l])).headD default
noncomputable def oI : List Oper := opsOf (cr [.r, .r, .l, .r, .i, .i, .r, .r, .r])
theorem loop_eq : cr [.r, .r, .l, .r] = .block 0 (.loop (.seq (.region 4 #[oT] false) (.seq (.cond (.tmp 14) .skip (.exit 0)) (.seq (cr [.r, .r, .l, .r, .i, .i, .r, .r, .l]) (.region 8 #[oI.headD default, (oI.drop 1).headD default] false))))) := by kernel_rfl
def J (σ0 : AS) (LA LB : List Vt) (k : Nat) (env : Env) (σ : AS) : Prop :=
  Env.get env 0 = slV 4 (LA.map encV) ∧ Env.get env 1 = slV 4 (LB.map encV) ∧ LA.take k = LB.take k ∧ σ = σ0
theorem J_stable {σ0 : AS} {LA LB : List Vt} : ∀ k env env' σ, env.length = 27 → env'.length = 27 → (∀ i, i ≠ 14 → i ≠ 26 → i ≠ 13 → Env.get env' i = Env.get env i) → J σ0 LA LB k env σ → J σ0 LA LB k env' σ := by
  rintro k env env' σ _ _ hf ⟨j1, j2, j3, j4⟩
  exact ⟨(hf 0 (by decide) (by decide) (by decide)).trans j1, (hf 1 (by decide) (by decide) (by decide)).trans j2, j3, j4⟩
def Ex (σ0 : AS) (LA LB : List Vt) (e : AExit) (env : Env) (σ : AS) : Prop := e = .ret ∧ Env.get env 4 = .bool false ∧ σ = σ0 ∧ LA ≠ LB ∧ env.length = 27
theorem step (cx : Cx) (hcx : cx.esc = []) (σ0 : AS) (LA LB : List Vt) (hn : LA.length = LB.length) :
    ∀ k env σ, k < LB.length → env.length = 27 → Env.get env 13 = .int .i64 (k : Int) → Env.get env 12 = .int .i64 (LB.length : Int) → J σ0 LA LB k env σ → ∃ e env' σ', execW Try.prog cx [] (callW Try.prog how) (cr [.r, .r, .l, .r, .i, .i, .r, .r, .l]) (env, σ) = some (e, (env', σ')) ∧
      ((e = .normal ∧ env'.length = 27 ∧ Env.get env' 13 = .int .i64 (k : Int) ∧ Env.get env' 12 = .int .i64 (LB.length : Int) ∧ J σ0 LA LB (k + 1) env' σ') ∨ (e ≠ .normal ∧ Ex σ0 LA LB e env' σ')) := by
  rintro k env σ hk hlen f13 f12 ⟨f0, f1, ht, rfl⟩
  have hka : k < LA.length := by omega
  have hia := idx_slV Try.prog σ 45 41 Try.underlying45 (LA.map encV) k (encV LA[k]) s41 (by rw [List.getElem?_map, List.getElem?_eq_getElem hka]; rfl)
  have hib := idx_slV Try.prog σ 31 27 Try.underlying31 (LB.map encV) k (encV LB[k]) s27 (by rw [List.getElem?_map, List.getElem?_eq_getElem hk]; rfl)
  have hc := f15_ok σ.hp σ.st (some σ.st.length) LA[k].s LA[k].r LA[k].n LA[k].v (fun k hk => by cases hk; exact Nat.le_refl _)
  by_cases hv : LA[k] = LB[k]
  · rw [← hv] at hib
    obtain ⟨env', c1, c2, _, c4⟩ := rB0 cx env σ _ _ k LA[k] hlen hcx f0 f1 f13 hia hib hc
    refine ⟨.normal, env', σ, c1, .inl ⟨rfl, c2, ?_, ?_, ?_, ?_, ?_, rfl⟩⟩
    · exact (c4 13 (by decide)).trans f13
    · exact (c4 12 (by decide)).trans f12
    · exact (c4 0 (by decide)).trans f0
    · exact (c4 1 (by decide)).trans f1
    · rw [List.take_succ_eq_append_getElem hka, List.take_succ_eq_append_getElem hk, ht, hv]
  · obtain ⟨env', c1, c2, c3, c4⟩ := rB1 cx env σ _ _ k LA[k] LB[k] hlen hcx f0 f1 f13 hia hib hc hv
    refine ⟨.ret, env', σ, c1, .inr ⟨by simp, rfl, c3, rfl, ?_, c2⟩⟩
    rintro rfl
    exact hv rfl
theorem ok (hp s : List AObj) (ro : Option Nat) (LA LB : List Vt) (hro : ∀ k, ro = some k → k ≤ s.length) (hL : LB.length ≤ 1000) :
    callW Try.prog how 18 [slV 4 (LA.map encV), slV 4 (LB.map encV)] ⟨hp, s⟩ ro = some (.bool (decide (LA = LB)), ⟨hp, s⟩) := by
  let cx : Cx := { h := s.length, ro := ro, esc := [] }
  have hcx : cx.esc = [] := rfl
  have henv : ∃ e, e = frameA Try.f18 [slV 4 (LA.map encV), slV 4 (LB.map encV)] := ⟨_, rfl⟩
  obtain ⟨env, henv⟩ := henv
  have hl : env.length = 27 := by rw [henv]; rfl
  have h0 : Env.get env 0 = slV 4 (LA.map encV) := by rw [henv]; rfl
  have h1 : Env.get env 1 = slV 4 (LB.map encV) := by rw [henv]; rfl
  refine callW_body (fl := {}) (fn := Try.f18) rfl Try.func18 body ?_
  rw [← henv]
  clear henv
  obtain ⟨env1, a1, a2, a3, a4⟩ := rA cx env ⟨hp, s⟩ hl hcx
  have f0 := (a4 0 (by decide)).trans h0
  have f1 := (a4 1 (by decide)).trans h1
  have fin : ∀ (e : Env) (b : Bool), Env.get e 4 = .bool b → finishA Try.prog {} Try.f18 s.length (some (.ret, (e, ⟨hp, s⟩))) = some (.bool b, ⟨hp, s⟩) := by
    intro e b hb
    simp -implicitDefEqProofs [finishA, resA, Try.f18, hb, oneA, AV.back, AV.inb]
  by_cases hn : LA.length = LB.length
  · obtain ⟨env2, b1, b2, _, b4⟩ := rN cx env1 ⟨hp, s⟩ (LA.map encV) (LB.map encV) a2 hcx f0 f1 (by simpa using hn)
    have f0 := (b4 0 (by decide)).trans f0
    have f1 := (b4 1 (by decide)).trans f1
    obtain ⟨env3, c1, c2, c3, c4⟩ := rL cx env2 ⟨hp, s⟩ (LB.map encV) b2 hcx f1
    rw [List.length_map] at c3
    have hJ0 : J ⟨hp, s⟩ LA LB 0 env3 ⟨hp, s⟩ := ⟨(c4 0 (by decide)).trans f0, (c4 1 (by decide)).trans f1, rfl, rfl⟩
    have hloop : ∃ e env' σ', execW Try.prog cx [] (callW Try.prog how) (cr [.r, .r, .l, .r]) (env3, ⟨hp, s⟩) = some (e, (env', σ')) ∧ ((e = .normal ∧ ((env'.length = 27 ∧ J ⟨hp, s⟩ LA LB LB.length env' σ') ∨ Ex ⟨hp, s⟩ LA LB (.exit 0) env' σ')) ∨ (e ≠ .normal ∧ e ≠ .exit 0 ∧ Ex ⟨hp, s⟩ LA LB e env' σ')) := by
      rw [loop_eq]
      exact range_std (N := 27) (tc := 14) (ti := 13) (tl := 12) (tx := 26) (ty1 := 3) (ty2 := 3) (ty3 := 3) (ty4 := 3) ⟨by kernel_rfl, by kernel_rfl, by kernel_rfl⟩ ⟨by kernel_rfl, by kernel_rfl, by kernel_rfl⟩ ⟨by kernel_rfl, by kernel_rfl, by kernel_rfl⟩ (by decide) (by omega) J_stable (step cx hcx ⟨hp, s⟩ LA LB hn) c2 c3.2 c3.1 hJ0
    obtain ⟨e, env5, σ5, d1, d2⟩ := hloop
    rcases d2 with ⟨rfl, ⟨d2, _, _, d3, rfl⟩ | ⟨d2, _⟩⟩ | ⟨_, _, rfl, d3, rfl, d4, d5⟩
    · obtain ⟨env6, g1, g2, g3, g4⟩ := rD cx env5 ⟨hp, s⟩ d2 hcx
      have run := execW_seq_of a1 (execW_seq_of b1 (execW_seq_of (execW_seq_of c1 d1) (execW_seq_of (b := .ret) (r := some (.ret, (env6, AS.mk hp s))) g1 rfl)))
      rw [List.take_length, ← hn, List.take_length] at d3
      rw [decide_eq_true d3]
      exact (congrArg (finishA Try.prog {} Try.f18 s.length) run).trans (fin _ _ g3)
    · cases d2
    · have hl : execW Try.prog cx [] (callW Try.prog how) ((cr [.r, .r, .l, .l]).seq (cr [.r, .r, .l, .r])) (env2, ⟨hp, s⟩) = some (.ret, (env5, ⟨hp, s⟩)) := execW_seq_of c1 d1
      have run : execW Try.prog cx [] (callW Try.prog how) ((cr [.l]).seq ((cr [.r, .l]).seq (((cr [.r, .r, .l, .l]).seq (cr [.r, .r, .l, .r])).seq ((cr [.r, .r, .r, .l]).seq .ret)))) (env, ⟨hp, s⟩) = some (.ret, (env5, ⟨hp, s⟩)) := execW_seq_of a1 (execW_seq_of b1 (execW_seq_ret hl))
      rw [decide_eq_false d4]
      exact (congrArg (finishA Try.prog {} Try.f18 s.length) run).trans (fin _ _ d3)
  · obtain ⟨env2, b1, b2, b3, b4⟩ := rX cx env1 ⟨hp, s⟩ (LA.map encV) (LB.map encV) a2 hcx f0 f1 (by simpa using hn) (by simp only [List.length_map]; omega)
    have run : execW Try.prog cx [] (callW Try.prog how) ((cr [.l]).seq ((cr [.r, .l]).seq (((cr [.r, .r, .l, .l]).seq (cr [.r, .r, .l, .r])).seq ((cr [.r, .r, .r, .l]).seq .ret)))) (env, ⟨hp, s⟩) = some (.ret, (env2, ⟨hp, s⟩)) := execW_seq_of a1 (execW_seq_ret b1)
    have hne : LA ≠ LB := by rintro rfl; exact hn rfl
    rw [decide_eq_false hne]
    exact (congrArg (finishA Try.prog {} Try.f18 s.length) run).trans (fin _ _ b3)

end F18