/- What the document's Accept does. -/
import Derived.Test.YtmldaajjeeidjaaCe
open Go Go.Abs Go.Proofs
set_option maxRecDepth 100000
set_option maxHeartbeats 4000000
set_option linter.unusedSimpArgs false
set_option linter.unusedVariables false
attribute [simp] Try.underlying37
@[simp] theorem s37 : sizeA Try.prog 37 = some 1 := by kernel_rfl
/-- One vote of the row, as a vote is put among them. -/
def stepV (v : Vt) (a : List Vt × Bool × Bool) (x : Vt) : List Vt × Bool × Bool :=
  ((if a.2.1 = false ∧ v.s ≤ x.s then a.1 ++ [v] else a.1) ++ (if x.s ≠ v.s then [x] else []), a.2.1 || decide (v.s ≤ x.s), a.2.2 || decide (x.s = v.s))
def accV (v : Vt) (L : List Vt) : List Vt × Bool × Bool := L.foldl (stepV v) ([], false, false)
theorem accV_succ (v : Vt) (L : List Vt) (k : Nat) (hk : k < L.length) : accV v (L.take (k + 1)) = stepV v (accV v (L.take k)) L[k] := by
  unfold accV
  rw [List.take_succ_eq_append_getElem hk, List.foldl_append]
  rfl
theorem accV_len (v : Vt) (L : List Vt) : ∀ k, (accV v (L.take k)).1.length ≤ 2 * k
  | 0 => by simp [accV]
  | k + 1 => by
    by_cases hk : k < L.length
    · rw [accV_succ v L k hk]
      have := accV_len v L k
      unfold stepV
      simp only [List.length_append]
      split <;> split <;> simp <;> omega
    · have e : L.take (k + 1) = L.take k := by rw [List.take_of_length_le (by omega), List.take_of_length_le (by omega)]
      rw [e]
      have := accV_len v L k
      omega
/-- May it be accepted at all? -/
def voteOk (v : Vt) : Bool := askedB v.r v.n && (decide (0 ≤ v.s) && (decide (v.s ≤ 1048576) && decide (v.v.size ≤ 64)))

namespace F10
noncomputable def cr (p : List Dir) : Code := sub p (bodyOf Try.f10)

theorem rA (cx : Cx) (env : Env) (σ : AS) (v : Vt) (hlen : env.length = 102) (hcx : cx.esc = []) (f1 : Env.get env 1 = .agg [.int .i64 v.s, .int .u64 v.r, .int .i64 v.n, .str v.v]) (hw : wok cx.ro (.st σ.st.length) = true) (hh : cx.h ≤ σ.st.length) :
    ∃ env', execW Try.prog cx [] (callW Try.prog how) (cr [.l]) (env, σ) = some (.normal, (env', σ.push false (.cells (encV v).cells))) ∧ env'.length = 102 ∧ (Env.get env' 3 = .ptr (.st σ.st.length) 0 ∧ Env.get env' 4 = .int .i64 0) ∧ ∀ i, i ∉ [3, 4] → Env.get env' i = Env.get env i := by
  suffices h : ∀ res, execW Try.prog cx [] (callW Try.prog how) (cr [.l]) (env, σ) = res → ∃ env', res = some (.normal, (env', σ.push false (.cells (encV v).cells))) ∧ env'.length = 102 ∧ (Env.get env' 3 = .ptr (.st σ.st.length) 0 ∧ Env.get env' 4 = .int .i64 0) ∧ ∀ i, i ∉ [3, 4] → Env.get env' i = Env.get env i from h _ rfl
  intro res hr
  simp -implicitDefEqProofs [ofV, ofCell, ofCells, seqA_nil, seqA_cons, seqVK_eq, seqEK_eq, wantedA, yieldedA, isVal, effA, ev, evs, evps, putE, optsA, optsOk, valA, fieldAddrA, fieldA, loadA, partA, aggA, isAggD, buildA, placesA, fillA, lay, storeA, AV.withCells, buildSliceA, elemsA, rowParts, fzL, promL, okE, isSrc, bytesOk, pushA, cxOf, lenA, binA, intBinA, strBinA, unA, indexAddrA, eqA, AVs.inb, AV.inb, Loc.inb, calleeA, opsOf, sub, bodyOf, Env.get_set, quietA_nil, quietA_cons, quietK_none, quietK_some, qstep, newA, isNew, escNew, boxOk, newLoc, flat, rowPartsQ, quietN, quietOp, isBS, List.takeWhile, finishA_eq, finK_ret, finK_normal, retK, backK, resA, oneA, AV.back, AVs.back, execW_seq_eq, seqK_normal, seqK_ret, seqK_exit, execW_cond_eq, condK_true, condK_false, execW_block_eq, blockK_exit, blockK_normal, blockK_ret, execW_region_eq, regK_eq, execW_skip, execW_exit, execW_ret, regionA_plain, regionA_quiet0, tailK_eq, nilCheckA, guardOk, isConst, lookupA, keyFits, mapUpdateA, beqI, bneI, AS.get_push_at, AS.get_push_old, AS.push_len, AS.set_st_len, AS.next_st', AS.set_push_at, AS.get_set_self, AS.get_set_other, cr, Try.f10, hlen, hcx, f1, hw, hh] at hr
  subst hr
  refine ⟨_, rfl, by simp [hlen], by simp [Env.get_set, hlen, f1, hw, hh], fun i hi => ?_⟩
  simp only [List.mem_cons, List.not_mem_nil, or_false, not_or] at hi
  obtain ⟨x0, x1⟩ := hi
  simp [Env.get_set, Ne.symm x0, Ne.symm x1]

theorem rOk (cx : Cx) (env : Env) (σ : AS) (b : Nat) (v : Vt) (hlen : env.length = 102) (hcx : cx.esc = []) (f3 : Env.get env 3 = .ptr (.st b) 0) (g3 : σ.get (.st b) = some (.cells (encV v).cells)) (hc : callW Try.prog how 24 [.agg [.int .u64 v.r, .int .i64 v.n]] σ cx.ro = some (.bool true, σ)) (q1 : ¬ v.s < 0) (q2 : ¬ 1048576 < v.s) (q3 : ¬ (64 : Int) < (v.v.size : Int)) :
    ∃ env', execW Try.prog cx [] (callW Try.prog how) (cr [.r, .l]) (env, σ) = some (.normal, (env', σ)) ∧ env'.length = 102 ∧ (True) ∧ ∀ i, i ∉ [10, 11, 12, 13, 14, 15, 16, 17, 18, 19, 20, 21, 22, 23, 24, 25, 26, 27, 28, 29] → Env.get env' i = Env.get env i := by
  suffices h : ∀ res, execW Try.prog cx [] (callW Try.prog how) (cr [.r, .l]) (env, σ) = res → ∃ env', res = some (.normal, (env', σ)) ∧ env'.length = 102 ∧ (True) ∧ ∀ i, i ∉ [10, 11, 12, 13, 14, 15, 16, 17, 18, 19, 20, 21, 22, 23, 24, 25, 26, 27, 28, 29] → Env.get env' i = Env.get env i from h _ rfl
  intro res hr
  simp -implicitDefEqProofs [ofV, ofCell, ofCells, seqA_nil, seqA_cons, seqVK_eq, seqEK_eq, wantedA, yieldedA, isVal, effA, ev, evs, evps, putE, optsA, optsOk, valA, fieldAddrA, fieldA, loadA, partA, aggA, isAggD, buildA, placesA, fillA, lay, storeA, AV.withCells, buildSliceA, elemsA, rowParts, fzL, promL, okE, isSrc, bytesOk, pushA, cxOf, lenA, binA, intBinA, strBinA, unA, indexAddrA, eqA, AVs.inb, AV.inb, Loc.inb, calleeA, opsOf, sub, bodyOf, Env.get_set, quietA_nil, quietA_cons, quietK_none, quietK_some, qstep, newA, isNew, escNew, boxOk, newLoc, flat, rowPartsQ, quietN, quietOp, isBS, List.takeWhile, finishA_eq, finK_ret, finK_normal, retK, backK, resA, oneA, AV.back, AVs.back, execW_seq_eq, seqK_normal, seqK_ret, seqK_exit, execW_cond_eq, condK_true, condK_false, execW_block_eq, blockK_exit, blockK_normal, blockK_ret, execW_region_eq, regK_eq, execW_skip, execW_exit, execW_ret, regionA_plain, regionA_quiet0, tailK_eq, nilCheckA, guardOk, isConst, lookupA, keyFits, mapUpdateA, beqI, bneI, AS.get_push_at, AS.get_push_old, AS.push_len, AS.set_st_len, AS.next_st', AS.set_push_at, AS.get_set_self, AS.get_set_other, cr, Try.f10, hlen, hcx, f3, g3, hc, q1, q2, q3] at hr
  subst hr
  refine ⟨_, rfl, by simp [hlen], by simp [Env.get_set, hlen, f3, g3, hc, q1, q2, q3], fun i hi => ?_⟩
  simp only [List.mem_cons, List.not_mem_nil, or_false, not_or] at hi
  obtain ⟨x0, x1, x2, x3, x4, x5, x6, x7, x8, x9, x10, x11, x12, x13, x14, x15, x16, x17, x18, x19⟩ := hi
  simp [Env.get_set, Ne.symm x0, Ne.symm x1, Ne.symm x2, Ne.symm x3, Ne.symm x4, Ne.symm x5, Ne.symm x6, Ne.symm x7, Ne.symm x8, Ne.symm x9, Ne.symm x10, Ne.symm x11, Ne.symm x12, Ne.symm x13, Ne.symm x14, Ne.symm x15, Ne.symm x16, Ne.symm x17, Ne.symm x18, Ne.symm x19]

theorem rEa (cx : Cx) (env : Env) (σ : AS) (b : Nat) (v : Vt) (hlen : env.length = 102) (hcx : cx.esc = []) (f3 : Env.get env 3 = .ptr (.st b) 0) (g3 : σ.get (.st b) = some (.cells (encV v).cells)) (hc : callW Try.prog how 24 [.agg [.int .u64 v.r, .int .i64 v.n]] σ cx.ro = some (.bool false, σ)) :
    ∃ env', execW Try.prog cx [] (callW Try.prog how) (cr [.r, .l]) (env, σ) = some (.ret, (env', σ)) ∧ env'.length = 102 ∧ (Env.get env' 4 = .int .i64 1) ∧ ∀ i, i ∉ [4, 10, 11, 12, 13, 14, 15, 16, 17, 18, 19, 20, 21, 22, 23, 24, 25, 26, 27, 28, 29] → Env.get env' i = Env.get env i := by
  suffices h : ∀ res, execW Try.prog cx [] (callW Try.prog how) (cr [.r, .l]) (env, σ) = res → ∃ env', res = some (.ret, (env', σ)) ∧ env'.length = 102 ∧ (Env.get env' 4 = .int .i64 1) ∧ ∀ i, i ∉ [4, 10, 11, 12, 13, 14, 15, 16, 17, 18, 19, 20, 21, 22, 23, 24, 25, 26, 27, 28, 29] → Env.get env' i = Env.get env i from h _ rfl
  intro res hr
  simp -implicitDefEqProofs [ofV, ofCell, ofCells, seqA_nil, seqA_cons, seqVK_eq, seqEK_eq, wantedA, yieldedA, isVal, effA, ev, evs, evps, putE, optsA, optsOk, valA, fieldAddrA, fieldA, loadA, partA, aggA, isAggD, buildA, placesA, fillA, lay, storeA, AV.withCells, buildSliceA, elemsA, rowParts, fzL, promL, okE, isSrc, bytesOk, pushA, cxOf, lenA, binA, intBinA, strBinA, unA, indexAddrA, eqA, AVs.inb, AV.inb, Loc.inb, calleeA, opsOf, sub, bodyOf, Env.get_set, quietA_nil, quietA_cons, quietK_none, quietK_some, qstep, newA, isNew, escNew, boxOk, newLoc, flat, rowPartsQ, quietN, quietOp, isBS, List.takeWhile, finishA_eq, finK_ret, finK_normal, retK, backK, resA, oneA, AV.back, AVs.back, execW_seq_eq, seqK_normal, seqK_ret, seqK_exit, execW_cond_eq, condK_true, condK_false, execW_block_eq, blockK_exit, blockK_normal, blockK_ret, execW_region_eq, regK_eq, execW_skip, execW_exit, execW_ret, regionA_plain, regionA_quiet0, tailK_eq, nilCheckA, guardOk, isConst, lookupA, keyFits, mapUpdateA, beqI, bneI, AS.get_push_at, AS.get_push_old, AS.push_len, AS.set_st_len, AS.next_st', AS.set_push_at, AS.get_set_self, AS.get_set_other, cr, Try.f10, hlen, hcx, f3, g3, hc] at hr
  subst hr
  refine ⟨_, rfl, by simp [hlen], by simp [Env.get_set, hlen, f3, g3, hc], fun i hi => ?_⟩
  simp only [List.mem_cons, List.not_mem_nil, or_false, not_or] at hi
  obtain ⟨x0, x1, x2, x3, x4, x5, x6, x7, x8, x9, x10, x11, x12, x13, x14, x15, x16, x17, x18, x19, x20⟩ := hi
  simp [Env.get_set, Ne.symm x0, Ne.symm x1, Ne.symm x2, Ne.symm x3, Ne.symm x4, Ne.symm x5, Ne.symm x6, Ne.symm x7, Ne.symm x8, Ne.symm x9, Ne.symm x10, Ne.symm x11, Ne.symm x12, Ne.symm x13, Ne.symm x14, Ne.symm x15, Ne.symm x16, Ne.symm x17, Ne.symm x18, Ne.symm x19, Ne.symm x20]

theorem rEb (cx : Cx) (env : Env) (σ : AS) (b : Nat) (v : Vt) (hlen : env.length = 102) (hcx : cx.esc = []) (f3 : Env.get env 3 = .ptr (.st b) 0) (g3 : σ.get (.st b) = some (.cells (encV v).cells)) (hc : callW Try.prog how 24 [.agg [.int .u64 v.r, .int .i64 v.n]] σ cx.ro = some (.bool true, σ)) (q1 : v.s < 0) :
    ∃ env', execW Try.prog cx [] (callW Try.prog how) (cr [.r, .l]) (env, σ) = some (.ret, (env', σ)) ∧ env'.length = 102 ∧ (Env.get env' 4 = .int .i64 1) ∧ ∀ i, i ∉ [4, 10, 11, 12, 13, 14, 15, 16, 17, 18, 19, 20, 21, 22, 23, 24, 25, 26, 27, 28, 29] → Env.get env' i = Env.get env i := by
  suffices h : ∀ res, execW Try.prog cx [] (callW Try.prog how) (cr [.r, .l]) (env, σ) = res → ∃ env', res = some (.ret, (env', σ)) ∧ env'.length = 102 ∧ (Env.get env' 4 = .int .i64 1) ∧ ∀ i, i ∉ [4, 10, 11, 12, 13, 14, 15, 16, 17, 18, 19, 20, 21, 22, 23, 24, 25, 26, 27, 28, 29] → Env.get env' i = Env.get env i from h _ rfl
  intro res hr
  simp -implicitDefEqProofs [ofV, ofCell, ofCells, seqA_nil, seqA_cons, seqVK_eq, seqEK_eq, wantedA, yieldedA, isVal, effA, ev, evs, evps, putE, optsA, optsOk, valA, fieldAddrA, fieldA, loadA, partA, aggA, isAggD, buildA, placesA, fillA, lay, storeA, AV.withCells, buildSliceA, elemsA, rowParts, fzL, promL, okE, isSrc, bytesOk, pushA, cxOf, lenA, binA, intBinA, strBinA, unA, indexAddrA, eqA, AVs.inb, AV.inb, Loc.inb, calleeA, opsOf, sub, bodyOf, Env.get_set, quietA_nil, quietA_cons, quietK_none, quietK_some, qstep, newA, isNew, escNew, boxOk, newLoc, flat, rowPartsQ, quietN, quietOp, isBS, List.takeWhile, finishA_eq, finK_ret, finK_normal, retK, backK, resA, oneA, AV.back, AVs.back, execW_seq_eq, seqK_normal, seqK_ret, seqK_exit, execW_cond_eq, condK_true, condK_false, execW_block_eq, blockK_exit, blockK_normal, blockK_ret, execW_region_eq, regK_eq, execW_skip, execW_exit, execW_ret, regionA_plain, regionA_quiet0, tailK_eq, nilCheckA, guardOk, isConst, lookupA, keyFits, mapUpdateA, beqI, bneI, AS.get_push_at, AS.get_push_old, AS.push_len, AS.set_st_len, AS.next_st', AS.set_push_at, AS.get_set_self, AS.get_set_other, cr, Try.f10, hlen, hcx, f3, g3, hc, q1] at hr
  subst hr
  refine ⟨_, rfl, by simp [hlen], by simp [Env.get_set, hlen, f3, g3, hc, q1], fun i hi => ?_⟩
  simp only [List.mem_cons, List.not_mem_nil, or_false, not_or] at hi
  obtain ⟨x0, x1, x2, x3, x4, x5, x6, x7, x8, x9, x10, x11, x12, x13, x14, x15, x16, x17, x18, x19, x20⟩ := hi
  simp [Env.get_set, Ne.symm x0, Ne.symm x1, Ne.symm x2, Ne.symm x3, Ne.symm x4, Ne.symm x5, Ne.symm x6, Ne.symm x7, Ne.symm x8, Ne.symm x9, Ne.symm x10, Ne.symm x11, Ne.symm x12, Ne.symm x13, Ne.symm x14, Ne.symm x15, Ne.symm x16, Ne.symm x17, Ne.symm x18, Ne.symm x19, Ne.symm x20]

theorem rEc (cx : Cx) (env : Env) (σ : AS) (b : Nat) (v : Vt) (hlen : env.length = 102) (hcx : cx.esc = []) (f3 : Env.get env 3 = .ptr (.st b) 0) (g3 : σ.get (.st b) = some (.cells (encV v).cells)) (hc : callW Try.prog how 24 [.agg [.int .u64 v.r, .int .i64 v.n]] σ cx.ro = some (.bool true, σ)) (q1 : ¬ v.s < 0) (q2 : 1048576 < v.s) :
    ∃ env', execW Try.prog cx [] (callW Try.prog how) (cr [.r, .l]) (env, σ) = some (.ret, (env', σ)) ∧ env'.length = 102 ∧ (Env.get env' 4 = .int .i64 1) ∧ ∀ i, i ∉ [4, 10, 11, 12, 13, 14, 15, 16, 17, 18, 19, 20, 21, 22, 23, 24, 25, 26, 27, 28, 29] → Env.get env' i = Env.get env i := by
  suffices h : ∀ res, execW Try.prog cx [] (callW Try.prog how) (cr [.r, .l]) (env, σ) = res → ∃ env', res = some (.ret, (env', σ)) ∧ env'.length = 102 ∧ (Env.get env' 4 = .int .i64 1) ∧ ∀ i, i ∉ [4, 10, 11, 12, 13, 14, 15, 16, 17, 18, 19, 20, 21, 22, 23, 24, 25, 26, 27, 28, 29] → Env.get env' i = Env.get env i from h _ rfl
  intro res hr
  simp -implicitDefEqProofs [ofV, ofCell, ofCells, seqA_nil, seqA_cons, seqVK_eq, seqEK_eq, wantedA, yieldedA, isVal, effA, ev, evs, evps, putE, optsA, optsOk, valA, fieldAddrA, fieldA, loadA, partA, aggA, isAggD, buildA, placesA, fillA, lay, storeA, AV.withCells, buildSliceA, elemsA, rowParts, fzL, promL, okE, isSrc, bytesOk, pushA, cxOf, lenA, binA, intBinA, strBinA, unA, indexAddrA, eqA, AVs.inb, AV.inb, Loc.inb, calleeA, opsOf, sub, bodyOf, Env.get_set, quietA_nil, quietA_cons, quietK_none, quietK_some, qstep, newA, isNew, escNew, boxOk, newLoc, flat, rowPartsQ, quietN, quietOp, isBS, List.takeWhile, finishA_eq, finK_ret, finK_normal, retK, backK, resA, oneA, AV.back, AVs.back, execW_seq_eq, seqK_normal, seqK_ret, seqK_exit, execW_cond_eq, condK_true, condK_false, execW_block_eq, blockK_exit, blockK_normal, blockK_ret, execW_region_eq, regK_eq, execW_skip, execW_exit, execW_ret, regionA_plain, regionA_quiet0, tailK_eq, nilCheckA, guardOk, isConst, lookupA, keyFits, mapUpdateA, beqI, bneI, AS.get_push_at, AS.get_push_old, AS.push_len, AS.set_st_len, AS.next_st', AS.set_push_at, AS.get_set_self, AS.get_set_other, cr, Try.f10, hlen, hcx, f3, g3, hc, q1, q2] at hr
  subst hr
  refine ⟨_, rfl, by simp [hlen], by simp [Env.get_set, hlen, f3, g3, hc, q1, q2], fun i hi => ?_⟩
  simp only [List.mem_cons, List.not_mem_nil, or_false, not_or] at hi
  obtain ⟨x0, x1, x2, x3, x4, x5, x6, x7, x8, x9, x10, x11, x12, x13, x14, x15, x16, x17, x18, x19, x20⟩ := hi
  simp [Env.get_set, Ne.symm x0, Ne.symm x1, Ne.symm x2, Ne.symm x3, Ne.symm x4, Ne.symm x5, Ne.symm x6, Ne.symm x7, Ne.symm x8, Ne.symm x9, Ne.symm x10, Ne.symm x11, Ne.symm x12, Ne.symm x13, Ne.symm x14, Ne.symm x15, Ne.symm x16, Ne.symm x17, Ne.symm x18, Ne.symm x19, Ne.symm x20]

theorem rEd (cx : Cx) (env : Env) (σ : AS) (b : Nat) (v : Vt) (hlen : env.length = 102) (hcx : cx.esc = []) (f3 : Env.get env 3 = .ptr (.st b) 0) (g3 : σ.get (.st b) = some (.cells (encV v).cells)) (hc : callW Try.prog how 24 [.agg [.int .u64 v.r, .int .i64 v.n]] σ cx.ro = some (.bool true, σ)) (q1 : ¬ v.s < 0) (q2 : ¬ 1048576 < v.s) (q3 : (64 : Int) < (v.v.size : Int)) :
    ∃ env', execW Try.prog cx [] (callW Try.prog how) (cr [.r, .l]) (env, σ) = some (.ret, (env', σ)) ∧ env'.length = 102 ∧ (Env.get env' 4 = .int .i64 1) ∧ ∀ i, i ∉ [4, 10, 11, 12, 13, 14, 15, 16, 17, 18, 19, 20, 21, 22, 23, 24, 25, 26, 27, 28, 29] → Env.get env' i = Env.get env i := by
  suffices h : ∀ res, execW Try.prog cx [] (callW Try.prog how) (cr [.r, .l]) (env, σ) = res → ∃ env', res = some (.ret, (env', σ)) ∧ env'.length = 102 ∧ (Env.get env' 4 = .int .i64 1) ∧ ∀ i, i ∉ [4, 10, 11, 12, 13, 14, 15, 16, 17, 18, 19, 20, 21, 22, 23, 24, 25, 26, 27, 28, 29] → Env.get env' i = Env.get env i from h _ rfl
  intro res hr
  simp -implicitDefEqProofs [ofV, ofCell, ofCells, seqA_nil, seqA_cons, seqVK_eq, seqEK_eq, wantedA, yieldedA, isVal, effA, ev, evs, evps, putE, optsA, optsOk, valA, fieldAddrA, fieldA, loadA, partA, aggA, isAggD, buildA, placesA, fillA, lay, storeA, AV.withCells, buildSliceA, elemsA, rowParts, fzL, promL, okE, isSrc, bytesOk, pushA, cxOf, lenA, binA, intBinA, strBinA, unA, indexAddrA, eqA, AVs.inb, AV.inb, Loc.inb, calleeA, opsOf, sub, bodyOf, Env.get_set, quietA_nil, quietA_cons, quietK_none, quietK_some, qstep, newA, isNew, escNew, boxOk, newLoc, flat, rowPartsQ, quietN, quietOp, isBS, List.takeWhile, finishA_eq, finK_ret, finK_normal, retK, backK, resA, oneA, AV.back, AVs.back, execW_seq_eq, seqK_normal, seqK_ret, seqK_exit, execW_cond_eq, condK_true, condK_false, execW_block_eq, blockK_exit, blockK_normal, blockK_ret, execW_region_eq, regK_eq, execW_skip, execW_exit, execW_ret, regionA_plain, regionA_quiet0, tailK_eq, nilCheckA, guardOk, isConst, lookupA, keyFits, mapUpdateA, beqI, bneI, AS.get_push_at, AS.get_push_old, AS.push_len, AS.set_st_len, AS.next_st', AS.set_push_at, AS.get_set_self, AS.get_set_other, cr, Try.f10, hlen, hcx, f3, g3, hc, q1, q2, q3] at hr
  subst hr
  refine ⟨_, rfl, by simp [hlen], by simp [Env.get_set, hlen, f3, g3, hc, q1, q2, q3], fun i hi => ?_⟩
  simp only [List.mem_cons, List.not_mem_nil, or_false, not_or] at hi
  obtain ⟨x0, x1, x2, x3, x4, x5, x6, x7, x8, x9, x10, x11, x12, x13, x14, x15, x16, x17, x18, x19, x20⟩ := hi
  simp [Env.get_set, Ne.symm x0, Ne.symm x1, Ne.symm x2, Ne.symm x3, Ne.symm x4, Ne.symm x5, Ne.symm x6, Ne.symm x7, Ne.symm x8, Ne.symm x9, Ne.symm x10, Ne.symm x11, Ne.symm x12, Ne.symm x13, Ne.symm x14, Ne.symm x15, Ne.symm x16, Ne.symm x17, Ne.symm x18, Ne.symm x19, Ne.symm x20]

theorem rLe0 (cx : Cx) (env : Env) (σ : AS) (a b : Nat) (v : Vt) (pr pn : Int) (X : AV) (hlen : env.length = 102) (hcx : cx.esc = []) (f0 : Env.get env 0 = .ptr (.hp a) 0) (f3 : Env.get env 3 = .ptr (.st b) 0) (g3 : σ.get (.st b) = some (.cells (encV v).cells)) (hA : σ.get (.hp a) = some (.cells [.int .u64 pr, .int .i64 pn, X])) (hc : callW Try.prog how 14 [.agg [.int .u64 v.r, .int .i64 v.n], .agg [.int .u64 pr, .int .i64 pn]] σ (some σ.st.length) = some (.bool false, σ)) :
    ∃ env', execW Try.prog cx [] (callW Try.prog how) (cr [.r, .r, .l]) (env, σ) = some (.normal, (env', σ)) ∧ env'.length = 102 ∧ (True) ∧ ∀ i, i ∉ [30, 31, 32, 33, 34, 35, 36] → Env.get env' i = Env.get env i := by
  suffices h : ∀ res, execW Try.prog cx [] (callW Try.prog how) (cr [.r, .r, .l]) (env, σ) = res → ∃ env', res = some (.normal, (env', σ)) ∧ env'.length = 102 ∧ (True) ∧ ∀ i, i ∉ [30, 31, 32, 33, 34, 35, 36] → Env.get env' i = Env.get env i from h _ rfl
  intro res hr
  simp -implicitDefEqProofs [ofV, ofCell, ofCells, seqA_nil, seqA_cons, seqVK_eq, seqEK_eq, wantedA, yieldedA, isVal, effA, ev, evs, evps, putE, optsA, optsOk, valA, fieldAddrA, fieldA, loadA, partA, aggA, isAggD, buildA, placesA, fillA, lay, storeA, AV.withCells, buildSliceA, elemsA, rowParts, fzL, promL, okE, isSrc, bytesOk, pushA, cxOf, lenA, binA, intBinA, strBinA, unA, indexAddrA, eqA, AVs.inb, AV.inb, Loc.inb, calleeA, opsOf, sub, bodyOf, Env.get_set, quietA_nil, quietA_cons, quietK_none, quietK_some, qstep, newA, isNew, escNew, boxOk, newLoc, flat, rowPartsQ, quietN, quietOp, isBS, List.takeWhile, finishA_eq, finK_ret, finK_normal, retK, backK, resA, oneA, AV.back, AVs.back, execW_seq_eq, seqK_normal, seqK_ret, seqK_exit, execW_cond_eq, condK_true, condK_false, execW_block_eq, blockK_exit, blockK_normal, blockK_ret, execW_region_eq, regK_eq, execW_skip, execW_exit, execW_ret, regionA_plain, regionA_quiet0, tailK_eq, nilCheckA, guardOk, isConst, lookupA, keyFits, mapUpdateA, beqI, bneI, AS.get_push_at, AS.get_push_old, AS.push_len, AS.set_st_len, AS.next_st', AS.set_push_at, AS.get_set_self, AS.get_set_other, cr, Try.f10, hlen, hcx, f0, f3, g3, hA, hc] at hr
  subst hr
  refine ⟨_, rfl, by simp [hlen], by simp [Env.get_set, hlen, f0, f3, g3, hA, hc], fun i hi => ?_⟩
  simp only [List.mem_cons, List.not_mem_nil, or_false, not_or] at hi
  obtain ⟨x0, x1, x2, x3, x4, x5, x6⟩ := hi
  simp [Env.get_set, Ne.symm x0, Ne.symm x1, Ne.symm x2, Ne.symm x3, Ne.symm x4, Ne.symm x5, Ne.symm x6]

theorem rLe1 (cx : Cx) (env : Env) (σ : AS) (a b : Nat) (v : Vt) (pr pn : Int) (X : AV) (hlen : env.length = 102) (hcx : cx.esc = []) (f0 : Env.get env 0 = .ptr (.hp a) 0) (f3 : Env.get env 3 = .ptr (.st b) 0) (g3 : σ.get (.st b) = some (.cells (encV v).cells)) (hA : σ.get (.hp a) = some (.cells [.int .u64 pr, .int .i64 pn, X])) (hc : callW Try.prog how 14 [.agg [.int .u64 v.r, .int .i64 v.n], .agg [.int .u64 pr, .int .i64 pn]] σ (some σ.st.length) = some (.bool true, σ)) :
    ∃ env', execW Try.prog cx [] (callW Try.prog how) (cr [.r, .r, .l]) (env, σ) = some (.ret, (env', σ)) ∧ env'.length = 102 ∧ (Env.get env' 4 = .int .i64 13) ∧ ∀ i, i ∉ [4, 30, 31, 32, 33, 34, 35, 36] → Env.get env' i = Env.get env i := by
  suffices h : ∀ res, execW Try.prog cx [] (callW Try.prog how) (cr [.r, .r, .l]) (env, σ) = res → ∃ env', res = some (.ret, (env', σ)) ∧ env'.length = 102 ∧ (Env.get env' 4 = .int .i64 13) ∧ ∀ i, i ∉ [4, 30, 31, 32, 33, 34, 35, 36] → Env.get env' i = Env.get env i from h _ rfl
  intro res hr
  simp -implicitDefEqProofs [ofV, ofCell, ofCells, seqA_nil, seqA_cons, seqVK_eq, seqEK_eq, wantedA, yieldedA, isVal, effA, ev, evs, evps, putE, optsA, optsOk, valA, fieldAddrA, fieldA, loadA, partA, aggA, isAggD, buildA, placesA, fillA, lay, storeA, AV.withCells, buildSliceA, elemsA, rowParts, fzL, promL, okE, isSrc, bytesOk, pushA, cxOf, lenA, binA, intBinA, strBinA, unA, indexAddrA, eqA, AVs.inb, AV.inb, Loc.inb, calleeA, opsOf, sub, bodyOf, Env.get_set, quietA_nil, quietA_cons, quietK_none, quietK_some, qstep, newA, isNew, escNew, boxOk, newLoc, flat, rowPartsQ, quietN, quietOp, isBS, List.takeWhile, finishA_eq, finK_ret, finK_normal, retK, backK, resA, oneA, AV.back, AVs.back, execW_seq_eq, seqK_normal, seqK_ret, seqK_exit, execW_cond_eq, condK_true, condK_false, execW_block_eq, blockK_exit, blockK_normal, blockK_ret, execW_region_eq, regK_eq, execW_skip, execW_exit, execW_ret, regionA_plain, regionA_quiet0, tailK_eq, nilCheckA, guardOk, isConst, lookupA, keyFits, mapUpdateA, beqI, bneI, AS.get_push_at, AS.get_push_old, AS.push_len, AS.set_st_len, AS.next_st', AS.set_push_at, AS.get_set_self, AS.get_set_other, cr, Try.f10, hlen, hcx, f0, f3, g3, hA, hc] at hr
  subst hr
  refine ⟨_, rfl, by simp [hlen], by simp [Env.get_set, hlen, f0, f3, g3, hA, hc], fun i hi => ?_⟩
  simp only [List.mem_cons, List.not_mem_nil, or_false, not_or] at hi
  obtain ⟨x0, x1, x2, x3, x4, x5, x6, x7⟩ := hi
  simp [Env.get_set, Ne.symm x0, Ne.symm x1, Ne.symm x2, Ne.symm x3, Ne.symm x4, Ne.symm x5, Ne.symm x6, Ne.symm x7]

theorem r5 (cx : Cx) (env : Env) (σ : AS)  (hlen : env.length = 102) (hcx : cx.esc = [])  :
    ∃ env', execW Try.prog cx [] (callW Try.prog how) (cr [.r, .r, .r, .l]) (env, σ) = some (.normal, (env', σ)) ∧ env'.length = 102 ∧ (Env.get env' 5 = .nils) ∧ ∀ i, i ∉ [5] → Env.get env' i = Env.get env i := by
  suffices h : ∀ res, execW Try.prog cx [] (callW Try.prog how) (cr [.r, .r, .r, .l]) (env, σ) = res → ∃ env', res = some (.normal, (env', σ)) ∧ env'.length = 102 ∧ (Env.get env' 5 = .nils) ∧ ∀ i, i ∉ [5] → Env.get env' i = Env.get env i from h _ rfl
  intro res hr
  simp -implicitDefEqProofs [ofV, ofCell, ofCells, seqA_nil, seqA_cons, seqVK_eq, seqEK_eq, wantedA, yieldedA, isVal, effA, ev, evs, evps, putE, optsA, optsOk, valA, fieldAddrA, fieldA, loadA, partA, aggA, isAggD, buildA, placesA, fillA, lay, storeA, AV.withCells, buildSliceA, elemsA, rowParts, fzL, promL, okE, isSrc, bytesOk, pushA, cxOf, lenA, binA, intBinA, strBinA, unA, indexAddrA, eqA, AVs.inb, AV.inb, Loc.inb, calleeA, opsOf, sub, bodyOf, Env.get_set, quietA_nil, quietA_cons, quietK_none, quietK_some, qstep, newA, isNew, escNew, boxOk, newLoc, flat, rowPartsQ, quietN, quietOp, isBS, List.takeWhile, finishA_eq, finK_ret, finK_normal, retK, backK, resA, oneA, AV.back, AVs.back, execW_seq_eq, seqK_normal, seqK_ret, seqK_exit, execW_cond_eq, condK_true, condK_false, execW_block_eq, blockK_exit, blockK_normal, blockK_ret, execW_region_eq, regK_eq, execW_skip, execW_exit, execW_ret, regionA_plain, regionA_quiet0, tailK_eq, nilCheckA, guardOk, isConst, lookupA, keyFits, mapUpdateA, beqI, bneI, AS.get_push_at, AS.get_push_old, AS.push_len, AS.set_st_len, AS.next_st', AS.set_push_at, AS.get_set_self, AS.get_set_other, cr, Try.f10, hlen, hcx] at hr
  subst hr
  refine ⟨_, rfl, by simp [hlen], by simp [Env.get_set, hlen], fun i hi => ?_⟩
  simp only [List.mem_cons, List.not_mem_nil, or_false, not_or] at hi
  have x0 := hi
  simp [Env.get_set, Ne.symm x0]

theorem r6 (cx : Cx) (env : Env) (σ : AS)  (hlen : env.length = 102) (hcx : cx.esc = [])  :
    ∃ env', execW Try.prog cx [] (callW Try.prog how) (cr [.r, .r, .r, .r, .l]) (env, σ) = some (.normal, (env', σ)) ∧ env'.length = 102 ∧ (Env.get env' 6 = .bool false) ∧ ∀ i, i ∉ [6] → Env.get env' i = Env.get env i := by
  suffices h : ∀ res, execW Try.prog cx [] (callW Try.prog how) (cr [.r, .r, .r, .r, .l]) (env, σ) = res → ∃ env', res = some (.normal, (env', σ)) ∧ env'.length = 102 ∧ (Env.get env' 6 = .bool false) ∧ ∀ i, i ∉ [6] → Env.get env' i = Env.get env i from h _ rfl
  intro res hr
  simp -implicitDefEqProofs [ofV, ofCell, ofCells, seqA_nil, seqA_cons, seqVK_eq, seqEK_eq, wantedA, yieldedA, isVal, effA, ev, evs, evps, putE, optsA, optsOk, valA, fieldAddrA, fieldA, loadA, partA, aggA, isAggD, buildA, placesA, fillA, lay, storeA, AV.withCells, buildSliceA, elemsA, rowParts, fzL, promL, okE, isSrc, bytesOk, pushA, cxOf, lenA, binA, intBinA, strBinA, unA, indexAddrA, eqA, AVs.inb, AV.inb, Loc.inb, calleeA, opsOf, sub, bodyOf, Env.get_set, quietA_nil, quietA_cons, quietK_none, quietK_some, qstep, newA, isNew, escNew, boxOk, newLoc, flat, rowPartsQ, quietN, quietOp, isBS, List.takeWhile, finishA_eq, finK_ret, finK_normal, retK, backK, resA, oneA, AV.back, AVs.back, execW_seq_eq, seqK_normal, seqK_ret, seqK_exit, execW_cond_eq, condK_true, condK_false, execW_block_eq, blockK_exit, blockK_normal, blockK_ret, execW_region_eq, regK_eq, execW_skip, execW_exit, execW_ret, regionA_plain, regionA_quiet0, tailK_eq, nilCheckA, guardOk, isConst, lookupA, keyFits, mapUpdateA, beqI, bneI, AS.get_push_at, AS.get_push_old, AS.push_len, AS.set_st_len, AS.next_st', AS.set_push_at, AS.get_set_self, AS.get_set_other, cr, Try.f10, hlen, hcx] at hr
  subst hr
  refine ⟨_, rfl, by simp [hlen], by simp [Env.get_set, hlen], fun i hi => ?_⟩
  simp only [List.mem_cons, List.not_mem_nil, or_false, not_or] at hi
  have x0 := hi
  simp [Env.get_set, Ne.symm x0]

theorem r7 (cx : Cx) (env : Env) (σ : AS)  (hlen : env.length = 102) (hcx : cx.esc = [])  :
    ∃ env', execW Try.prog cx [] (callW Try.prog how) (cr [.r, .r, .r, .r, .r, .l]) (env, σ) = some (.normal, (env', σ)) ∧ env'.length = 102 ∧ (Env.get env' 7 = .bool false) ∧ ∀ i, i ∉ [7] → Env.get env' i = Env.get env i := by
  suffices h : ∀ res, execW Try.prog cx [] (callW Try.prog how) (cr [.r, .r, .r, .r, .r, .l]) (env, σ) = res → ∃ env', res = some (.normal, (env', σ)) ∧ env'.length = 102 ∧ (Env.get env' 7 = .bool false) ∧ ∀ i, i ∉ [7] → Env.get env' i = Env.get env i from h _ rfl
  intro res hr
  simp -implicitDefEqProofs [ofV, ofCell, ofCells, seqA_nil, seqA_cons, seqVK_eq, seqEK_eq, wantedA, yieldedA, isVal, effA, ev, evs, evps, putE, optsA, optsOk, valA, fieldAddrA, fieldA, loadA, partA, aggA, isAggD, buildA, placesA, fillA, lay, storeA, AV.withCells, buildSliceA, elemsA, rowParts, fzL, promL, okE, isSrc, bytesOk, pushA, cxOf, lenA, binA, intBinA, strBinA, unA, indexAddrA, eqA, AVs.inb, AV.inb, Loc.inb, calleeA, opsOf, sub, bodyOf, Env.get_set, quietA_nil, quietA_cons, quietK_none, quietK_some, qstep, newA, isNew, escNew, boxOk, newLoc, flat, rowPartsQ, quietN, quietOp, isBS, List.takeWhile, finishA_eq, finK_ret, finK_normal, retK, backK, resA, oneA, AV.back, AVs.back, execW_seq_eq, seqK_normal, seqK_ret, seqK_exit, execW_cond_eq, condK_true, condK_false, execW_block_eq, blockK_exit, blockK_normal, blockK_ret, execW_region_eq, regK_eq, execW_skip, execW_exit, execW_ret, regionA_plain, regionA_quiet0, tailK_eq, nilCheckA, guardOk, isConst, lookupA, keyFits, mapUpdateA, beqI, bneI, AS.get_push_at, AS.get_push_old, AS.push_len, AS.set_st_len, AS.next_st', AS.set_push_at, AS.get_set_self, AS.get_set_other, cr, Try.f10, hlen, hcx] at hr
  subst hr
  refine ⟨_, rfl, by simp [hlen], by simp [Env.get_set, hlen], fun i hi => ?_⟩
  simp only [List.mem_cons, List.not_mem_nil, or_false, not_or] at hi
  have x0 := hi
  simp [Env.get_set, Ne.symm x0]

theorem rCn (cx : Cx) (env : Env) (σ : AS) (a : Nat) (pr pn : Int) (hlen : env.length = 102) (hcx : cx.esc = []) (f0 : Env.get env 0 = .ptr (.hp a) 0) (hA : σ.get (.hp a) = some (.cells [.int .u64 pr, .int .i64 pn, .nils])) :
    ∃ env', execW Try.prog cx [] (callW Try.prog how) (cr [.r, .r, .r, .r, .r, .r, .l, .l]) (env, σ) = some (.normal, (env', σ)) ∧ env'.length = 102 ∧ (Env.get env' 40 = .nils ∧ Env.get env' 41 = .int .i64 0 ∧ Env.get env' 42 = .int .i64 0) ∧ ∀ i, i ∉ [37, 38, 39, 40, 41, 42] → Env.get env' i = Env.get env i := by
  suffices h : ∀ res, execW Try.prog cx [] (callW Try.prog how) (cr [.r, .r, .r, .r, .r, .r, .l, .l]) (env, σ) = res → ∃ env', res = some (.normal, (env', σ)) ∧ env'.length = 102 ∧ (Env.get env' 40 = .nils ∧ Env.get env' 41 = .int .i64 0 ∧ Env.get env' 42 = .int .i64 0) ∧ ∀ i, i ∉ [37, 38, 39, 40, 41, 42] → Env.get env' i = Env.get env i from h _ rfl
  intro res hr
  simp -implicitDefEqProofs [ofV, ofCell, ofCells, seqA_nil, seqA_cons, seqVK_eq, seqEK_eq, wantedA, yieldedA, isVal, effA, ev, evs, evps, putE, optsA, optsOk, valA, fieldAddrA, fieldA, loadA, partA, aggA, isAggD, buildA, placesA, fillA, lay, storeA, AV.withCells, buildSliceA, elemsA, rowParts, fzL, promL, okE, isSrc, bytesOk, pushA, cxOf, lenA, binA, intBinA, strBinA, unA, indexAddrA, eqA, AVs.inb, AV.inb, Loc.inb, calleeA, opsOf, sub, bodyOf, Env.get_set, quietA_nil, quietA_cons, quietK_none, quietK_some, qstep, newA, isNew, escNew, boxOk, newLoc, flat, rowPartsQ, quietN, quietOp, isBS, List.takeWhile, finishA_eq, finK_ret, finK_normal, retK, backK, resA, oneA, AV.back, AVs.back, execW_seq_eq, seqK_normal, seqK_ret, seqK_exit, execW_cond_eq, condK_true, condK_false, execW_block_eq, blockK_exit, blockK_normal, blockK_ret, execW_region_eq, regK_eq, execW_skip, execW_exit, execW_ret, regionA_plain, regionA_quiet0, tailK_eq, nilCheckA, guardOk, isConst, lookupA, keyFits, mapUpdateA, beqI, bneI, AS.get_push_at, AS.get_push_old, AS.push_len, AS.set_st_len, AS.next_st', AS.set_push_at, AS.get_set_self, AS.get_set_other, cr, Try.f10, hlen, hcx, f0, hA] at hr
  subst hr
  refine ⟨_, rfl, by simp [hlen], by simp [Env.get_set, hlen, f0, hA], fun i hi => ?_⟩
  simp only [List.mem_cons, List.not_mem_nil, or_false, not_or] at hi
  obtain ⟨x0, x1, x2, x3, x4, x5⟩ := hi
  simp [Env.get_set, Ne.symm x0, Ne.symm x1, Ne.symm x2, Ne.symm x3, Ne.symm x4, Ne.symm x5]

theorem rCr (cx : Cx) (env : Env) (σ : AS) (a j w n : Nat) (pr pn : Int) (hlen : env.length = 102) (hcx : cx.esc = []) (f0 : Env.get env 0 = .ptr (.hp a) 0) (hA : σ.get (.hp a) = some (.cells [.int .u64 pr, .int .i64 pn, .row (.hp j) w 0 n])) :
    ∃ env', execW Try.prog cx [] (callW Try.prog how) (cr [.r, .r, .r, .r, .r, .r, .l, .l]) (env, σ) = some (.normal, (env', σ)) ∧ env'.length = 102 ∧ (Env.get env' 40 = .row (.hp j) w 0 n ∧ Env.get env' 41 = .int .i64 (n : Int) ∧ Env.get env' 42 = .int .i64 0) ∧ ∀ i, i ∉ [37, 38, 39, 40, 41, 42] → Env.get env' i = Env.get env i := by
  suffices h : ∀ res, execW Try.prog cx [] (callW Try.prog how) (cr [.r, .r, .r, .r, .r, .r, .l, .l]) (env, σ) = res → ∃ env', res = some (.normal, (env', σ)) ∧ env'.length = 102 ∧ (Env.get env' 40 = .row (.hp j) w 0 n ∧ Env.get env' 41 = .int .i64 (n : Int) ∧ Env.get env' 42 = .int .i64 0) ∧ ∀ i, i ∉ [37, 38, 39, 40, 41, 42] → Env.get env' i = Env.get env i from h _ rfl
  intro res hr
  simp -implicitDefEqProofs [ofV, ofCell, ofCells, seqA_nil, seqA_cons, seqVK_eq, seqEK_eq, wantedA, yieldedA, isVal, effA, ev, evs, evps, putE, optsA, optsOk, valA, fieldAddrA, fieldA, loadA, partA, aggA, isAggD, buildA, placesA, fillA, lay, storeA, AV.withCells, buildSliceA, elemsA, rowParts, fzL, promL, okE, isSrc, bytesOk, pushA, cxOf, lenA, binA, intBinA, strBinA, unA, indexAddrA, eqA, AVs.inb, AV.inb, Loc.inb, calleeA, opsOf, sub, bodyOf, Env.get_set, quietA_nil, quietA_cons, quietK_none, quietK_some, qstep, newA, isNew, escNew, boxOk, newLoc, flat, rowPartsQ, quietN, quietOp, isBS, List.takeWhile, finishA_eq, finK_ret, finK_normal, retK, backK, resA, oneA, AV.back, AVs.back, execW_seq_eq, seqK_normal, seqK_ret, seqK_exit, execW_cond_eq, condK_true, condK_false, execW_block_eq, blockK_exit, blockK_normal, blockK_ret, execW_region_eq, regK_eq, execW_skip, execW_exit, execW_ret, regionA_plain, regionA_quiet0, tailK_eq, nilCheckA, guardOk, isConst, lookupA, keyFits, mapUpdateA, beqI, bneI, AS.get_push_at, AS.get_push_old, AS.push_len, AS.set_st_len, AS.next_st', AS.set_push_at, AS.get_set_self, AS.get_set_other, cr, Try.f10, hlen, hcx, f0, hA] at hr
  subst hr
  refine ⟨_, rfl, by simp [hlen], by simp [Env.get_set, hlen, f0, hA], fun i hi => ?_⟩
  simp only [List.mem_cons, List.not_mem_nil, or_false, not_or] at hi
  obtain ⟨x0, x1, x2, x3, x4, x5⟩ := hi
  simp [Env.get_set, Ne.symm x0, Ne.symm x1, Ne.symm x2, Ne.symm x3, Ne.symm x4, Ne.symm x5]

theorem rE (cx : Cx) (env : Env) (σ : AS) (j w k : Nat) (fr : Bool) (L : List Vt) (x : Vt) (hlen : env.length = 102) (hcx : cx.esc = []) (f40 : Env.get env 40 = .row (.hp j) w 0 L.length) (f42 : Env.get env 42 = .int .i64 (k : Int)) (hk : k < L.length) (hv : L[k] = x) (hj : σ.get (.hp j) = some (.row (L.map encV) 4 w fr)) (hw : wok cx.ro (.st σ.st.length) = true) (hh : cx.h ≤ σ.st.length) :
    ∃ env', execW Try.prog cx [] (callW Try.prog how) (cr [.r, .r, .r, .r, .r, .r, .l, .r, .i, .i, .r, .r, .l, .i, .l]) (env, σ) = some (.normal, (env', σ.push false (.cells (encV x).cells))) ∧ env'.length = 102 ∧ (Env.get env' 9 = .ptr (.st σ.st.length) 0) ∧ ∀ i, i ∉ [9, 44, 45] → Env.get env' i = Env.get env i := by
  suffices h : ∀ res, execW Try.prog cx [] (callW Try.prog how) (cr [.r, .r, .r, .r, .r, .r, .l, .r, .i, .i, .r, .r, .l, .i, .l]) (env, σ) = res → ∃ env', res = some (.normal, (env', σ.push false (.cells (encV x).cells))) ∧ env'.length = 102 ∧ (Env.get env' 9 = .ptr (.st σ.st.length) 0) ∧ ∀ i, i ∉ [9, 44, 45] → Env.get env' i = Env.get env i from h _ rfl
  intro res hr
  simp -implicitDefEqProofs [ofV, ofCell, ofCells, seqA_nil, seqA_cons, seqVK_eq, seqEK_eq, wantedA, yieldedA, isVal, effA, ev, evs, evps, putE, optsA, optsOk, valA, fieldAddrA, fieldA, loadA, partA, aggA, isAggD, buildA, placesA, fillA, lay, storeA, AV.withCells, buildSliceA, elemsA, rowParts, fzL, promL, okE, isSrc, bytesOk, pushA, cxOf, lenA, binA, intBinA, strBinA, unA, indexAddrA, eqA, AVs.inb, AV.inb, Loc.inb, calleeA, opsOf, sub, bodyOf, Env.get_set, quietA_nil, quietA_cons, quietK_none, quietK_some, qstep, newA, isNew, escNew, boxOk, newLoc, flat, rowPartsQ, quietN, quietOp, isBS, List.takeWhile, finishA_eq, finK_ret, finK_normal, retK, backK, resA, oneA, AV.back, AVs.back, execW_seq_eq, seqK_normal, seqK_ret, seqK_exit, execW_cond_eq, condK_true, condK_false, execW_block_eq, blockK_exit, blockK_normal, blockK_ret, execW_region_eq, regK_eq, execW_skip, execW_exit, execW_ret, regionA_plain, regionA_quiet0, tailK_eq, nilCheckA, guardOk, isConst, lookupA, keyFits, mapUpdateA, beqI, bneI, AS.get_push_at, AS.get_push_old, AS.push_len, AS.set_st_len, AS.next_st', AS.set_push_at, AS.get_set_self, AS.get_set_other, cr, Try.f10, hlen, hcx, f40, f42, hk, hv, hj, hw, hh] at hr
  subst hr
  refine ⟨_, rfl, by simp [hlen], by simp [Env.get_set, hlen, f40, f42, hk, hv, hj, hw, hh], fun i hi => ?_⟩
  simp only [List.mem_cons, List.not_mem_nil, or_false, not_or] at hi
  obtain ⟨x0, x1, x2⟩ := hi
  simp [Env.get_set, Ne.symm x0, Ne.symm x1, Ne.symm x2]

theorem rGa (cx : Cx) (env : Env) (σ : AS) (b c : Nat) (v x : Vt) (hlen : env.length = 102) (hcx : cx.esc = []) (f3 : Env.get env 3 = .ptr (.st b) 0) (f9 : Env.get env 9 = .ptr (.st c) 0) (f6 : Env.get env 6 = .bool true) (g3 : σ.get (.st b) = some (.cells (encV v).cells)) (g9 : σ.get (.st c) = some (.cells (encV x).cells)) :
    ∃ env', execW Try.prog cx [] (callW Try.prog how) (cr [.r, .r, .r, .r, .r, .r, .l, .r, .i, .i, .r, .r, .l, .i, .r, .l]) (env, σ) = some (.normal, (env', σ)) ∧ env'.length = 102 ∧ (True) ∧ ∀ i, i ∉ [46, 47, 48, 49, 50, 51, 52, 53, 54] → Env.get env' i = Env.get env i := by
  suffices h : ∀ res, execW Try.prog cx [] (callW Try.prog how) (cr [.r, .r, .r, .r, .r, .r, .l, .r, .i, .i, .r, .r, .l, .i, .r, .l]) (env, σ) = res → ∃ env', res = some (.normal, (env', σ)) ∧ env'.length = 102 ∧ (True) ∧ ∀ i, i ∉ [46, 47, 48, 49, 50, 51, 52, 53, 54] → Env.get env' i = Env.get env i from h _ rfl
  intro res hr
  simp -implicitDefEqProofs [ofV, ofCell, ofCells, seqA_nil, seqA_cons, seqVK_eq, seqEK_eq, wantedA, yieldedA, isVal, effA, ev, evs, evps, putE, optsA, optsOk, valA, fieldAddrA, fieldA, loadA, partA, aggA, isAggD, buildA, placesA, fillA, lay, storeA, AV.withCells, buildSliceA, elemsA, rowParts, fzL, promL, okE, isSrc, bytesOk, pushA, cxOf, lenA, binA, intBinA, strBinA, unA, indexAddrA, eqA, AVs.inb, AV.inb, Loc.inb, calleeA, opsOf, sub, bodyOf, Env.get_set, quietA_nil, quietA_cons, quietK_none, quietK_some, qstep, newA, isNew, escNew, boxOk, newLoc, flat, rowPartsQ, quietN, quietOp, isBS, List.takeWhile, finishA_eq, finK_ret, finK_normal, retK, backK, resA, oneA, AV.back, AVs.back, execW_seq_eq, seqK_normal, seqK_ret, seqK_exit, execW_cond_eq, condK_true, condK_false, execW_block_eq, blockK_exit, blockK_normal, blockK_ret, execW_region_eq, regK_eq, execW_skip, execW_exit, execW_ret, regionA_plain, regionA_quiet0, tailK_eq, nilCheckA, guardOk, isConst, lookupA, keyFits, mapUpdateA, beqI, bneI, AS.get_push_at, AS.get_push_old, AS.push_len, AS.set_st_len, AS.next_st', AS.set_push_at, AS.get_set_self, AS.get_set_other, cr, Try.f10, hlen, hcx, f3, f9, f6, g3, g9] at hr
  subst hr
  refine ⟨_, rfl, by simp [hlen], by simp [Env.get_set, hlen, f3, f9, f6, g3, g9], fun i hi => ?_⟩
  simp only [List.mem_cons, List.not_mem_nil, or_false, not_or] at hi
  obtain ⟨x0, x1, x2, x3, x4, x5, x6, x7, x8⟩ := hi
  simp [Env.get_set, Ne.symm x0, Ne.symm x1, Ne.symm x2, Ne.symm x3, Ne.symm x4, Ne.symm x5, Ne.symm x6, Ne.symm x7, Ne.symm x8]

theorem rGb (cx : Cx) (env : Env) (σ : AS) (b c : Nat) (v x : Vt) (hlen : env.length = 102) (hcx : cx.esc = []) (f3 : Env.get env 3 = .ptr (.st b) 0) (f9 : Env.get env 9 = .ptr (.st c) 0) (f6 : Env.get env 6 = .bool false) (g3 : σ.get (.st b) = some (.cells (encV v).cells)) (g9 : σ.get (.st c) = some (.cells (encV x).cells)) (q : ¬ v.s ≤ x.s) :
    ∃ env', execW Try.prog cx [] (callW Try.prog how) (cr [.r, .r, .r, .r, .r, .r, .l, .r, .i, .i, .r, .r, .l, .i, .r, .l]) (env, σ) = some (.normal, (env', σ)) ∧ env'.length = 102 ∧ (True) ∧ ∀ i, i ∉ [46, 47, 48, 49, 50, 51, 52, 53, 54] → Env.get env' i = Env.get env i := by
  suffices h : ∀ res, execW Try.prog cx [] (callW Try.prog how) (cr [.r, .r, .r, .r, .r, .r, .l, .r, .i, .i, .r, .r, .l, .i, .r, .l]) (env, σ) = res → ∃ env', res = some (.normal, (env', σ)) ∧ env'.length = 102 ∧ (True) ∧ ∀ i, i ∉ [46, 47, 48, 49, 50, 51, 52, 53, 54] → Env.get env' i = Env.get env i from h _ rfl
  intro res hr
  simp -implicitDefEqProofs [ofV, ofCell, ofCells, seqA_nil, seqA_cons, seqVK_eq, seqEK_eq, wantedA, yieldedA, isVal, effA, ev, evs, evps, putE, optsA, optsOk, valA, fieldAddrA, fieldA, loadA, partA, aggA, isAggD, buildA, placesA, fillA, lay, storeA, AV.withCells, buildSliceA, elemsA, rowParts, fzL, promL, okE, isSrc, bytesOk, pushA, cxOf, lenA, binA, intBinA, strBinA, unA, indexAddrA, eqA, AVs.inb, AV.inb, Loc.inb, calleeA, opsOf, sub, bodyOf, Env.get_set, quietA_nil, quietA_cons, quietK_none, quietK_some, qstep, newA, isNew, escNew, boxOk, newLoc, flat, rowPartsQ, quietN, quietOp, isBS, List.takeWhile, finishA_eq, finK_ret, finK_normal, retK, backK, resA, oneA, AV.back, AVs.back, execW_seq_eq, seqK_normal, seqK_ret, seqK_exit, execW_cond_eq, condK_true, condK_false, execW_block_eq, blockK_exit, blockK_normal, blockK_ret, execW_region_eq, regK_eq, execW_skip, execW_exit, execW_ret, regionA_plain, regionA_quiet0, tailK_eq, nilCheckA, guardOk, isConst, lookupA, keyFits, mapUpdateA, beqI, bneI, AS.get_push_at, AS.get_push_old, AS.push_len, AS.set_st_len, AS.next_st', AS.set_push_at, AS.get_set_self, AS.get_set_other, cr, Try.f10, hlen, hcx, f3, f9, f6, g3, g9, q] at hr
  subst hr
  refine ⟨_, rfl, by simp [hlen], by simp [Env.get_set, hlen, f3, f9, f6, g3, g9, q], fun i hi => ?_⟩
  simp only [List.mem_cons, List.not_mem_nil, or_false, not_or] at hi
  obtain ⟨x0, x1, x2, x3, x4, x5, x6, x7, x8⟩ := hi
  simp [Env.get_set, Ne.symm x0, Ne.symm x1, Ne.symm x2, Ne.symm x3, Ne.symm x4, Ne.symm x5, Ne.symm x6, Ne.symm x7, Ne.symm x8]

theorem rGc (cx : Cx) (env : Env) (σ : AS) (b c : Nat) (v x : Vt) (R R' : AV) (σ' : AS) (hlen : env.length = 102) (hcx : cx.esc = []) (f3 : Env.get env 3 = .ptr (.st b) 0) (f9 : Env.get env 9 = .ptr (.st c) 0) (f5 : Env.get env 5 = R) (f6 : Env.get env 6 = .bool false) (g3 : σ.get (.st b) = some (.cells (encV v).cells)) (g9 : σ.get (.st c) = some (.cells (encV x).cells)) (q : v.s ≤ x.s) (hap : appendA Try.prog cx (σ.push false (.row [.agg [.int .i64 v.s, .int .u64 v.r, .int .i64 v.n, .str v.v]] 4 0 false)) [31, 31] R (.row (.st σ.st.length) 0 0 1) = some (R', σ')) :
    ∃ env', execW Try.prog cx [] (callW Try.prog how) (cr [.r, .r, .r, .r, .r, .r, .l, .r, .i, .i, .r, .r, .l, .i, .r, .l]) (env, σ) = some (.normal, (env', σ')) ∧ env'.length = 102 ∧ (Env.get env' 5 = R' ∧ Env.get env' 6 = .bool true) ∧ ∀ i, i ∉ [5, 6, 46, 47, 48, 49, 50, 51, 52, 53, 54, 55, 56, 57, 58] → Env.get env' i = Env.get env i := by
  suffices h : ∀ res, execW Try.prog cx [] (callW Try.prog how) (cr [.r, .r, .r, .r, .r, .r, .l, .r, .i, .i, .r, .r, .l, .i, .r, .l]) (env, σ) = res → ∃ env', res = some (.normal, (env', σ')) ∧ env'.length = 102 ∧ (Env.get env' 5 = R' ∧ Env.get env' 6 = .bool true) ∧ ∀ i, i ∉ [5, 6, 46, 47, 48, 49, 50, 51, 52, 53, 54, 55, 56, 57, 58] → Env.get env' i = Env.get env i from h _ rfl
  intro res hr
  simp -implicitDefEqProofs [ofV, ofCell, ofCells, seqA_nil, seqA_cons, seqVK_eq, seqEK_eq, wantedA, yieldedA, isVal, effA, ev, evs, evps, putE, optsA, optsOk, valA, fieldAddrA, fieldA, loadA, partA, aggA, isAggD, buildA, placesA, fillA, lay, storeA, AV.withCells, buildSliceA, elemsA, rowParts, fzL, promL, okE, isSrc, bytesOk, pushA, cxOf, lenA, binA, intBinA, strBinA, unA, indexAddrA, eqA, AVs.inb, AV.inb, Loc.inb, calleeA, opsOf, sub, bodyOf, Env.get_set, quietA_nil, quietA_cons, quietK_none, quietK_some, qstep, newA, isNew, escNew, boxOk, newLoc, flat, rowPartsQ, quietN, quietOp, isBS, List.takeWhile, finishA_eq, finK_ret, finK_normal, retK, backK, resA, oneA, AV.back, AVs.back, execW_seq_eq, seqK_normal, seqK_ret, seqK_exit, execW_cond_eq, condK_true, condK_false, execW_block_eq, blockK_exit, blockK_normal, blockK_ret, execW_region_eq, regK_eq, execW_skip, execW_exit, execW_ret, regionA_plain, regionA_quiet0, tailK_eq, nilCheckA, guardOk, isConst, lookupA, keyFits, mapUpdateA, beqI, bneI, AS.get_push_at, AS.get_push_old, AS.push_len, AS.set_st_len, AS.next_st', AS.set_push_at, AS.get_set_self, AS.get_set_other, cr, Try.f10, hlen, hcx, f3, f9, f5, f6, g3, g9, q, hap] at hr
  subst hr
  refine ⟨_, rfl, by simp [hlen], by simp [Env.get_set, hlen, f3, f9, f5, f6, g3, g9, q, hap], fun i hi => ?_⟩
  simp only [List.mem_cons, List.not_mem_nil, or_false, not_or] at hi
  obtain ⟨x0, x1, x2, x3, x4, x5, x6, x7, x8, x9, x10, x11, x12, x13, x14⟩ := hi
  simp [Env.get_set, Ne.symm x0, Ne.symm x1, Ne.symm x2, Ne.symm x3, Ne.symm x4, Ne.symm x5, Ne.symm x6, Ne.symm x7, Ne.symm x8, Ne.symm x9, Ne.symm x10, Ne.symm x11, Ne.symm x12, Ne.symm x13, Ne.symm x14]

theorem rHa (cx : Cx) (env : Env) (σ : AS) (b c : Nat) (v x : Vt) (hlen : env.length = 102) (hcx : cx.esc = []) (f3 : Env.get env 3 = .ptr (.st b) 0) (f9 : Env.get env 9 = .ptr (.st c) 0) (f7 : Env.get env 7 = .bool true) (g3 : σ.get (.st b) = some (.cells (encV v).cells)) (g9 : σ.get (.st c) = some (.cells (encV x).cells)) :
    ∃ env', execW Try.prog cx [] (callW Try.prog how) (cr [.r, .r, .r, .r, .r, .r, .l, .r, .i, .i, .r, .r, .l, .i, .r, .r, .l]) (env, σ) = some (.normal, (env', σ)) ∧ env'.length = 102 ∧ (Env.get env' 7 = .bool true) ∧ ∀ i, i ∉ [7, 59, 60, 61, 62, 63, 64, 65, 66] → Env.get env' i = Env.get env i := by
  suffices h : ∀ res, execW Try.prog cx [] (callW Try.prog how) (cr [.r, .r, .r, .r, .r, .r, .l, .r, .i, .i, .r, .r, .l, .i, .r, .r, .l]) (env, σ) = res → ∃ env', res = some (.normal, (env', σ)) ∧ env'.length = 102 ∧ (Env.get env' 7 = .bool true) ∧ ∀ i, i ∉ [7, 59, 60, 61, 62, 63, 64, 65, 66] → Env.get env' i = Env.get env i from h _ rfl
  intro res hr
  simp -implicitDefEqProofs [ofV, ofCell, ofCells, seqA_nil, seqA_cons, seqVK_eq, seqEK_eq, wantedA, yieldedA, isVal, effA, ev, evs, evps, putE, optsA, optsOk, valA, fieldAddrA, fieldA, loadA, partA, aggA, isAggD, buildA, placesA, fillA, lay, storeA, AV.withCells, buildSliceA, elemsA, rowParts, fzL, promL, okE, isSrc, bytesOk, pushA, cxOf, lenA, binA, intBinA, strBinA, unA, indexAddrA, eqA, AVs.inb, AV.inb, Loc.inb, calleeA, opsOf, sub, bodyOf, Env.get_set, quietA_nil, quietA_cons, quietK_none, quietK_some, qstep, newA, isNew, escNew, boxOk, newLoc, flat, rowPartsQ, quietN, quietOp, isBS, List.takeWhile, finishA_eq, finK_ret, finK_normal, retK, backK, resA, oneA, AV.back, AVs.back, execW_seq_eq, seqK_normal, seqK_ret, seqK_exit, execW_cond_eq, condK_true, condK_false, execW_block_eq, blockK_exit, blockK_normal, blockK_ret, execW_region_eq, regK_eq, execW_skip, execW_exit, execW_ret, regionA_plain, regionA_quiet0, tailK_eq, nilCheckA, guardOk, isConst, lookupA, keyFits, mapUpdateA, beqI, bneI, AS.get_push_at, AS.get_push_old, AS.push_len, AS.set_st_len, AS.next_st', AS.set_push_at, AS.get_set_self, AS.get_set_other, cr, Try.f10, hlen, hcx, f3, f9, f7, g3, g9] at hr
  subst hr
  refine ⟨_, rfl, by simp [hlen], by simp [Env.get_set, hlen, f3, f9, f7, g3, g9], fun i hi => ?_⟩
  simp only [List.mem_cons, List.not_mem_nil, or_false, not_or] at hi
  obtain ⟨x0, x1, x2, x3, x4, x5, x6, x7, x8⟩ := hi
  simp [Env.get_set, Ne.symm x0, Ne.symm x1, Ne.symm x2, Ne.symm x3, Ne.symm x4, Ne.symm x5, Ne.symm x6, Ne.symm x7, Ne.symm x8]

theorem rHb (cx : Cx) (env : Env) (σ : AS) (b c : Nat) (v x : Vt) (hlen : env.length = 102) (hcx : cx.esc = []) (f3 : Env.get env 3 = .ptr (.st b) 0) (f9 : Env.get env 9 = .ptr (.st c) 0) (f7 : Env.get env 7 = .bool false) (g3 : σ.get (.st b) = some (.cells (encV v).cells)) (g9 : σ.get (.st c) = some (.cells (encV x).cells)) :
    ∃ env', execW Try.prog cx [] (callW Try.prog how) (cr [.r, .r, .r, .r, .r, .r, .l, .r, .i, .i, .r, .r, .l, .i, .r, .r, .l]) (env, σ) = some (.normal, (env', σ)) ∧ env'.length = 102 ∧ (Env.get env' 7 = .bool (decide (x.s = v.s))) ∧ ∀ i, i ∉ [7, 59, 60, 61, 62, 63, 64, 65, 66] → Env.get env' i = Env.get env i := by
  suffices h : ∀ res, execW Try.prog cx [] (callW Try.prog how) (cr [.r, .r, .r, .r, .r, .r, .l, .r, .i, .i, .r, .r, .l, .i, .r, .r, .l]) (env, σ) = res → ∃ env', res = some (.normal, (env', σ)) ∧ env'.length = 102 ∧ (Env.get env' 7 = .bool (decide (x.s = v.s))) ∧ ∀ i, i ∉ [7, 59, 60, 61, 62, 63, 64, 65, 66] → Env.get env' i = Env.get env i from h _ rfl
  intro res hr
  simp -implicitDefEqProofs [ofV, ofCell, ofCells, seqA_nil, seqA_cons, seqVK_eq, seqEK_eq, wantedA, yieldedA, isVal, effA, ev, evs, evps, putE, optsA, optsOk, valA, fieldAddrA, fieldA, loadA, partA, aggA, isAggD, buildA, placesA, fillA, lay, storeA, AV.withCells, buildSliceA, elemsA, rowParts, fzL, promL, okE, isSrc, bytesOk, pushA, cxOf, lenA, binA, intBinA, strBinA, unA, indexAddrA, eqA, AVs.inb, AV.inb, Loc.inb, calleeA, opsOf, sub, bodyOf, Env.get_set, quietA_nil, quietA_cons, quietK_none, quietK_some, qstep, newA, isNew, escNew, boxOk, newLoc, flat, rowPartsQ, quietN, quietOp, isBS, List.takeWhile, finishA_eq, finK_ret, finK_normal, retK, backK, resA, oneA, AV.back, AVs.back, execW_seq_eq, seqK_normal, seqK_ret, seqK_exit, execW_cond_eq, condK_true, condK_false, execW_block_eq, blockK_exit, blockK_normal, blockK_ret, execW_region_eq, regK_eq, execW_skip, execW_exit, execW_ret, regionA_plain, regionA_quiet0, tailK_eq, nilCheckA, guardOk, isConst, lookupA, keyFits, mapUpdateA, beqI, bneI, AS.get_push_at, AS.get_push_old, AS.push_len, AS.set_st_len, AS.next_st', AS.set_push_at, AS.get_set_self, AS.get_set_other, cr, Try.f10, hlen, hcx, f3, f9, f7, g3, g9] at hr
  subst hr
  refine ⟨_, rfl, by simp [hlen], by simp [Env.get_set, hlen, f3, f9, f7, g3, g9], fun i hi => ?_⟩
  simp only [List.mem_cons, List.not_mem_nil, or_false, not_or] at hi
  obtain ⟨x0, x1, x2, x3, x4, x5, x6, x7, x8⟩ := hi
  simp [Env.get_set, Ne.symm x0, Ne.symm x1, Ne.symm x2, Ne.symm x3, Ne.symm x4, Ne.symm x5, Ne.symm x6, Ne.symm x7, Ne.symm x8]

theorem rK0 (cx : Cx) (env : Env) (σ : AS) (b c : Nat) (v x : Vt) (hlen : env.length = 102) (hcx : cx.esc = []) (f3 : Env.get env 3 = .ptr (.st b) 0) (f9 : Env.get env 9 = .ptr (.st c) 0) (g3 : σ.get (.st b) = some (.cells (encV v).cells)) (g9 : σ.get (.st c) = some (.cells (encV x).cells)) (q : x.s = v.s) :
    ∃ env', execW Try.prog cx [] (callW Try.prog how) (cr [.r, .r, .r, .r, .r, .r, .l, .r, .i, .i, .r, .r, .l, .i, .r, .r, .r]) (env, σ) = some (.normal, (env', σ)) ∧ env'.length = 102 ∧ (True) ∧ ∀ i, i ∉ [67, 68, 69, 70, 71] → Env.get env' i = Env.get env i := by
  suffices h : ∀ res, execW Try.prog cx [] (callW Try.prog how) (cr [.r, .r, .r, .r, .r, .r, .l, .r, .i, .i, .r, .r, .l, .i, .r, .r, .r]) (env, σ) = res → ∃ env', res = some (.normal, (env', σ)) ∧ env'.length = 102 ∧ (True) ∧ ∀ i, i ∉ [67, 68, 69, 70, 71] → Env.get env' i = Env.get env i from h _ rfl
  intro res hr
  simp -implicitDefEqProofs [ofV, ofCell, ofCells, seqA_nil, seqA_cons, seqVK_eq, seqEK_eq, wantedA, yieldedA, isVal, effA, ev, evs, evps, putE, optsA, optsOk, valA, fieldAddrA, fieldA, loadA, partA, aggA, isAggD, buildA, placesA, fillA, lay, storeA, AV.withCells, buildSliceA, elemsA, rowParts, fzL, promL, okE, isSrc, bytesOk, pushA, cxOf, lenA, binA, intBinA, strBinA, unA, indexAddrA, eqA, AVs.inb, AV.inb, Loc.inb, calleeA, opsOf, sub, bodyOf, Env.get_set, quietA_nil, quietA_cons, quietK_none, quietK_some, qstep, newA, isNew, escNew, boxOk, newLoc, flat, rowPartsQ, quietN, quietOp, isBS, List.takeWhile, finishA_eq, finK_ret, finK_normal, retK, backK, resA, oneA, AV.back, AVs.back, execW_seq_eq, seqK_normal, seqK_ret, seqK_exit, execW_cond_eq, condK_true, condK_false, execW_block_eq, blockK_exit, blockK_normal, blockK_ret, execW_region_eq, regK_eq, execW_skip, execW_exit, execW_ret, regionA_plain, regionA_quiet0, tailK_eq, nilCheckA, guardOk, isConst, lookupA, keyFits, mapUpdateA, beqI, bneI, AS.get_push_at, AS.get_push_old, AS.push_len, AS.set_st_len, AS.next_st', AS.set_push_at, AS.get_set_self, AS.get_set_other, cr, Try.f10, hlen, hcx, f3, f9, g3, g9, q] at hr
  subst hr
  refine ⟨_, rfl, by simp [hlen], by simp [Env.get_set, hlen, f3, f9, g3, g9, q], fun i hi => ?_⟩
  simp only [List.mem_cons, List.not_mem_nil, or_false, not_or] at hi
  obtain ⟨x0, x1, x2, x3, x4⟩ := hi
  simp [Env.get_set, Ne.symm x0, Ne.symm x1, Ne.symm x2, Ne.symm x3, Ne.symm x4]

theorem rK1 (cx : Cx) (env : Env) (σ : AS) (b c : Nat) (v x : Vt) (R R' : AV) (σ' : AS) (hlen : env.length = 102) (hcx : cx.esc = []) (f3 : Env.get env 3 = .ptr (.st b) 0) (f9 : Env.get env 9 = .ptr (.st c) 0) (f5 : Env.get env 5 = R) (g3 : σ.get (.st b) = some (.cells (encV v).cells)) (g9 : σ.get (.st c) = some (.cells (encV x).cells)) (q : ¬ x.s = v.s) (hap : appendA Try.prog cx (σ.push false (.row [.agg [.int .i64 x.s, .int .u64 x.r, .int .i64 x.n, .str x.v]] 4 0 false)) [31, 31] R (.row (.st σ.st.length) 0 0 1) = some (R', σ')) :
    ∃ env', execW Try.prog cx [] (callW Try.prog how) (cr [.r, .r, .r, .r, .r, .r, .l, .r, .i, .i, .r, .r, .l, .i, .r, .r, .r]) (env, σ) = some (.normal, (env', σ')) ∧ env'.length = 102 ∧ (Env.get env' 5 = R') ∧ ∀ i, i ∉ [5, 67, 68, 69, 70, 71, 72, 73, 74, 75] → Env.get env' i = Env.get env i := by
  suffices h : ∀ res, execW Try.prog cx [] (callW Try.prog how) (cr [.r, .r, .r, .r, .r, .r, .l, .r, .i, .i, .r, .r, .l, .i, .r, .r, .r]) (env, σ) = res → ∃ env', res = some (.normal, (env', σ')) ∧ env'.length = 102 ∧ (Env.get env' 5 = R') ∧ ∀ i, i ∉ [5, 67, 68, 69, 70, 71, 72, 73, 74, 75] → Env.get env' i = Env.get env i from h _ rfl
  intro res hr
  simp -implicitDefEqProofs [ofV, ofCell, ofCells, seqA_nil, seqA_cons, seqVK_eq, seqEK_eq, wantedA, yieldedA, isVal, effA, ev, evs, evps, putE, optsA, optsOk, valA, fieldAddrA, fieldA, loadA, partA, aggA, isAggD, buildA, placesA, fillA, lay, storeA, AV.withCells, buildSliceA, elemsA, rowParts, fzL, promL, okE, isSrc, bytesOk, pushA, cxOf, lenA, binA, intBinA, strBinA, unA, indexAddrA, eqA, AVs.inb, AV.inb, Loc.inb, calleeA, opsOf, sub, bodyOf, Env.get_set, quietA_nil, quietA_cons, quietK_none, quietK_some, qstep, newA, isNew, escNew, boxOk, newLoc, flat, rowPartsQ, quietN, quietOp, isBS, List.takeWhile, finishA_eq, finK_ret, finK_normal, retK, backK, resA, oneA, AV.back, AVs.back, execW_seq_eq, seqK_normal, seqK_ret, seqK_exit, execW_cond_eq, condK_true, condK_false, execW_block_eq, blockK_exit, blockK_normal, blockK_ret, execW_region_eq, regK_eq, execW_skip, execW_exit, execW_ret, regionA_plain, regionA_quiet0, tailK_eq, nilCheckA, guardOk, isConst, lookupA, keyFits, mapUpdateA, beqI, bneI, AS.get_push_at, AS.get_push_old, AS.push_len, AS.set_st_len, AS.next_st', AS.set_push_at, AS.get_set_self, AS.get_set_other, cr, Try.f10, hlen, hcx, f3, f9, f5, g3, g9, q, hap] at hr
  subst hr
  refine ⟨_, rfl, by simp [hlen], by simp [Env.get_set, hlen, f3, f9, f5, g3, g9, q, hap], fun i hi => ?_⟩
  simp only [List.mem_cons, List.not_mem_nil, or_false, not_or] at hi
  obtain ⟨x0, x1, x2, x3, x4, x5, x6, x7, x8, x9⟩ := hi
  simp [Env.get_set, Ne.symm x0, Ne.symm x1, Ne.symm x2, Ne.symm x3, Ne.symm x4, Ne.symm x5, Ne.symm x6, Ne.symm x7, Ne.symm x8, Ne.symm x9]

theorem rM0 (cx : Cx) (env : Env) (σ : AS)  (hlen : env.length = 102) (hcx : cx.esc = []) (f6 : Env.get env 6 = .bool true) :
    ∃ env', execW Try.prog cx [] (callW Try.prog how) (cr [.r, .r, .r, .r, .r, .r, .r, .l]) (env, σ) = some (.normal, (env', σ)) ∧ env'.length = 102 ∧ (True) ∧ ∀ i, i ∉ [77, 78] → Env.get env' i = Env.get env i := by
  suffices h : ∀ res, execW Try.prog cx [] (callW Try.prog how) (cr [.r, .r, .r, .r, .r, .r, .r, .l]) (env, σ) = res → ∃ env', res = some (.normal, (env', σ)) ∧ env'.length = 102 ∧ (True) ∧ ∀ i, i ∉ [77, 78] → Env.get env' i = Env.get env i from h _ rfl
  intro res hr
  simp -implicitDefEqProofs [ofV, ofCell, ofCells, seqA_nil, seqA_cons, seqVK_eq, seqEK_eq, wantedA, yieldedA, isVal, effA, ev, evs, evps, putE, optsA, optsOk, valA, fieldAddrA, fieldA, loadA, partA, aggA, isAggD, buildA, placesA, fillA, lay, storeA, AV.withCells, buildSliceA, elemsA, rowParts, fzL, promL, okE, isSrc, bytesOk, pushA, cxOf, lenA, binA, intBinA, strBinA, unA, indexAddrA, eqA, AVs.inb, AV.inb, Loc.inb, calleeA, opsOf, sub, bodyOf, Env.get_set, quietA_nil, quietA_cons, quietK_none, quietK_some, qstep, newA, isNew, escNew, boxOk, newLoc, flat, rowPartsQ, quietN, quietOp, isBS, List.takeWhile, finishA_eq, finK_ret, finK_normal, retK, backK, resA, oneA, AV.back, AVs.back, execW_seq_eq, seqK_normal, seqK_ret, seqK_exit, execW_cond_eq, condK_true, condK_false, execW_block_eq, blockK_exit, blockK_normal, blockK_ret, execW_region_eq, regK_eq, execW_skip, execW_exit, execW_ret, regionA_plain, regionA_quiet0, tailK_eq, nilCheckA, guardOk, isConst, lookupA, keyFits, mapUpdateA, beqI, bneI, AS.get_push_at, AS.get_push_old, AS.push_len, AS.set_st_len, AS.next_st', AS.set_push_at, AS.get_set_self, AS.get_set_other, cr, Try.f10, hlen, hcx, f6] at hr
  subst hr
  refine ⟨_, rfl, by simp [hlen], by simp [Env.get_set, hlen, f6], fun i hi => ?_⟩
  simp only [List.mem_cons, List.not_mem_nil, or_false, not_or] at hi
  obtain ⟨x0, x1⟩ := hi
  simp [Env.get_set, Ne.symm x0, Ne.symm x1]

theorem rM1 (cx : Cx) (env : Env) (σ : AS) (b : Nat) (v : Vt) (R R' : AV) (σ' : AS) (hlen : env.length = 102) (hcx : cx.esc = []) (f3 : Env.get env 3 = .ptr (.st b) 0) (f5 : Env.get env 5 = R) (f6 : Env.get env 6 = .bool false) (g3 : σ.get (.st b) = some (.cells (encV v).cells)) (hap : appendA Try.prog cx (σ.push false (.row [.agg [.int .i64 v.s, .int .u64 v.r, .int .i64 v.n, .str v.v]] 4 0 false)) [31, 31] R (.row (.st σ.st.length) 0 0 1) = some (R', σ')) :
    ∃ env', execW Try.prog cx [] (callW Try.prog how) (cr [.r, .r, .r, .r, .r, .r, .r, .l]) (env, σ) = some (.normal, (env', σ')) ∧ env'.length = 102 ∧ (Env.get env' 5 = R') ∧ ∀ i, i ∉ [5, 77, 78, 79, 80, 81, 82] → Env.get env' i = Env.get env i := by
  suffices h : ∀ res, execW Try.prog cx [] (callW Try.prog how) (cr [.r, .r, .r, .r, .r, .r, .r, .l]) (env, σ) = res → ∃ env', res = some (.normal, (env', σ')) ∧ env'.length = 102 ∧ (Env.get env' 5 = R') ∧ ∀ i, i ∉ [5, 77, 78, 79, 80, 81, 82] → Env.get env' i = Env.get env i from h _ rfl
  intro res hr
  simp -implicitDefEqProofs [ofV, ofCell, ofCells, seqA_nil, seqA_cons, seqVK_eq, seqEK_eq, wantedA, yieldedA, isVal, effA, ev, evs, evps, putE, optsA, optsOk, valA, fieldAddrA, fieldA, loadA, partA, aggA, isAggD, buildA, placesA, fillA, lay, storeA, AV.withCells, buildSliceA, elemsA, rowParts, fzL, promL, okE, isSrc, bytesOk, pushA, cxOf, lenA, binA, intBinA, strBinA, unA, indexAddrA, eqA, AVs.inb, AV.inb, Loc.inb, calleeA, opsOf, sub, bodyOf, Env.get_set, quietA_nil, quietA_cons, quietK_none, quietK_some, qstep, newA, isNew, escNew, boxOk, newLoc, flat, rowPartsQ, quietN, quietOp, isBS, List.takeWhile, finishA_eq, finK_ret, finK_normal, retK, backK, resA, oneA, AV.back, AVs.back, execW_seq_eq, seqK_normal, seqK_ret, seqK_exit, execW_cond_eq, condK_true, condK_false, execW_block_eq, blockK_exit, blockK_normal, blockK_ret, execW_region_eq, regK_eq, execW_skip, execW_exit, execW_ret, regionA_plain, regionA_quiet0, tailK_eq, nilCheckA, guardOk, isConst, lookupA, keyFits, mapUpdateA, beqI, bneI, AS.get_push_at, AS.get_push_old, AS.push_len, AS.set_st_len, AS.next_st', AS.set_push_at, AS.get_set_self, AS.get_set_other, cr, Try.f10, hlen, hcx, f3, f5, f6, g3, hap] at hr
  subst hr
  refine ⟨_, rfl, by simp [hlen], by simp [Env.get_set, hlen, f3, f5, f6, g3, hap], fun i hi => ?_⟩
  simp only [List.mem_cons, List.not_mem_nil, or_false, not_or] at hi
  obtain ⟨x0, x1, x2, x3, x4, x5, x6⟩ := hi
  simp [Env.get_set, Ne.symm x0, Ne.symm x1, Ne.symm x2, Ne.symm x3, Ne.symm x4, Ne.symm x5, Ne.symm x6]

theorem rNt (cx : Cx) (env : Env) (σ : AS)  (hlen : env.length = 102) (hcx : cx.esc = []) (f7 : Env.get env 7 = .bool true) :
    ∃ env', execW Try.prog cx [] (callW Try.prog how) (cr [.r, .r, .r, .r, .r, .r, .r, .r, .l]) (env, σ) = some (.normal, (env', σ)) ∧ env'.length = 102 ∧ (True) ∧ ∀ i, i ∉ [83, 84, 85, 86, 87, 88, 89, 90, 91, 92] → Env.get env' i = Env.get env i := by
  suffices h : ∀ res, execW Try.prog cx [] (callW Try.prog how) (cr [.r, .r, .r, .r, .r, .r, .r, .r, .l]) (env, σ) = res → ∃ env', res = some (.normal, (env', σ)) ∧ env'.length = 102 ∧ (True) ∧ ∀ i, i ∉ [83, 84, 85, 86, 87, 88, 89, 90, 91, 92] → Env.get env' i = Env.get env i from h _ rfl
  intro res hr
  simp -implicitDefEqProofs [ofV, ofCell, ofCells, seqA_nil, seqA_cons, seqVK_eq, seqEK_eq, wantedA, yieldedA, isVal, effA, ev, evs, evps, putE, optsA, optsOk, valA, fieldAddrA, fieldA, loadA, partA, aggA, isAggD, buildA, placesA, fillA, lay, storeA, AV.withCells, buildSliceA, elemsA, rowParts, fzL, promL, okE, isSrc, bytesOk, pushA, cxOf, lenA, binA, intBinA, strBinA, unA, indexAddrA, eqA, AVs.inb, AV.inb, Loc.inb, calleeA, opsOf, sub, bodyOf, Env.get_set, quietA_nil, quietA_cons, quietK_none, quietK_some, qstep, newA, isNew, escNew, boxOk, newLoc, flat, rowPartsQ, quietN, quietOp, isBS, List.takeWhile, finishA_eq, finK_ret, finK_normal, retK, backK, resA, oneA, AV.back, AVs.back, execW_seq_eq, seqK_normal, seqK_ret, seqK_exit, execW_cond_eq, condK_true, condK_false, execW_block_eq, blockK_exit, blockK_normal, blockK_ret, execW_region_eq, regK_eq, execW_skip, execW_exit, execW_ret, regionA_plain, regionA_quiet0, tailK_eq, nilCheckA, guardOk, isConst, lookupA, keyFits, mapUpdateA, beqI, bneI, AS.get_push_at, AS.get_push_old, AS.push_len, AS.set_st_len, AS.next_st', AS.set_push_at, AS.get_set_self, AS.get_set_other, cr, Try.f10, hlen, hcx, f7] at hr
  subst hr
  refine ⟨_, rfl, by simp [hlen], by simp [Env.get_set, hlen, f7], fun i hi => ?_⟩
  simp only [List.mem_cons, List.not_mem_nil, or_false, not_or] at hi
  obtain ⟨x0, x1, x2, x3, x4, x5, x6, x7, x8, x9⟩ := hi
  simp [Env.get_set, Ne.symm x0, Ne.symm x1, Ne.symm x2, Ne.symm x3, Ne.symm x4, Ne.symm x5, Ne.symm x6, Ne.symm x7, Ne.symm x8, Ne.symm x9]

theorem rNf (cx : Cx) (env : Env) (σ : AS) (a n : Nat) (pr pn : Int) (X : AV) (hlen : env.length = 102) (hcx : cx.esc = []) (f0 : Env.get env 0 = .ptr (.hp a) 0) (f7 : Env.get env 7 = .bool false) (hA : σ.get (.hp a) = some (.cells [.int .u64 pr, .int .i64 pn, X])) (hn : lenA Try.prog σ 31 X = some n) (q : ¬ (400 : Int) ≤ (n : Int)) :
    ∃ env', execW Try.prog cx [] (callW Try.prog how) (cr [.r, .r, .r, .r, .r, .r, .r, .r, .l]) (env, σ) = some (.normal, (env', σ)) ∧ env'.length = 102 ∧ (True) ∧ ∀ i, i ∉ [83, 84, 85, 86, 87, 88, 89, 90, 91, 92] → Env.get env' i = Env.get env i := by
  suffices h : ∀ res, execW Try.prog cx [] (callW Try.prog how) (cr [.r, .r, .r, .r, .r, .r, .r, .r, .l]) (env, σ) = res → ∃ env', res = some (.normal, (env', σ)) ∧ env'.length = 102 ∧ (True) ∧ ∀ i, i ∉ [83, 84, 85, 86, 87, 88, 89, 90, 91, 92] → Env.get env' i = Env.get env i from h _ rfl
  intro res hr
  simp -implicitDefEqProofs [ofV, ofCell, ofCells, seqA_nil, seqA_cons, seqVK_eq, seqEK_eq, wantedA, yieldedA, isVal, effA, ev, evs, evps, putE, optsA, optsOk, valA, fieldAddrA, fieldA, loadA, partA, aggA, isAggD, buildA, placesA, fillA, lay, storeA, AV.withCells, buildSliceA, elemsA, rowParts, fzL, promL, okE, isSrc, bytesOk, pushA, cxOf, binA, intBinA, strBinA, unA, indexAddrA, eqA, AVs.inb, AV.inb, Loc.inb, calleeA, opsOf, sub, bodyOf, Env.get_set, quietA_nil, quietA_cons, quietK_none, quietK_some, qstep, newA, isNew, escNew, boxOk, newLoc, flat, rowPartsQ, quietN, quietOp, isBS, List.takeWhile, finishA_eq, finK_ret, finK_normal, retK, backK, resA, oneA, AV.back, AVs.back, execW_seq_eq, seqK_normal, seqK_ret, seqK_exit, execW_cond_eq, condK_true, condK_false, execW_block_eq, blockK_exit, blockK_normal, blockK_ret, execW_region_eq, regK_eq, execW_skip, execW_exit, execW_ret, regionA_plain, regionA_quiet0, tailK_eq, nilCheckA, guardOk, isConst, lookupA, keyFits, mapUpdateA, beqI, bneI, AS.get_push_at, AS.get_push_old, AS.push_len, AS.set_st_len, AS.next_st', AS.set_push_at, AS.get_set_self, AS.get_set_other, cr, Try.f10, hlen, hcx, f0, f7, hA, hn, q] at hr
  subst hr
  refine ⟨_, rfl, by simp [hlen], by simp [Env.get_set, hlen, f0, f7, hA, hn, q], fun i hi => ?_⟩
  simp only [List.mem_cons, List.not_mem_nil, or_false, not_or] at hi
  obtain ⟨x0, x1, x2, x3, x4, x5, x6, x7, x8, x9⟩ := hi
  simp [Env.get_set, Ne.symm x0, Ne.symm x1, Ne.symm x2, Ne.symm x3, Ne.symm x4, Ne.symm x5, Ne.symm x6, Ne.symm x7, Ne.symm x8, Ne.symm x9]

theorem rNx (cx : Cx) (env : Env) (σ : AS) (a n : Nat) (pr pn : Int) (X : AV) (hlen : env.length = 102) (hcx : cx.esc = []) (f0 : Env.get env 0 = .ptr (.hp a) 0) (f7 : Env.get env 7 = .bool false) (hA : σ.get (.hp a) = some (.cells [.int .u64 pr, .int .i64 pn, X])) (hn : lenA Try.prog σ 31 X = some n) (q : (400 : Int) ≤ (n : Int)) :
    ∃ env', execW Try.prog cx [] (callW Try.prog how) (cr [.r, .r, .r, .r, .r, .r, .r, .r, .l]) (env, σ) = some (.ret, (env', σ)) ∧ env'.length = 102 ∧ (Env.get env' 4 = .int .i64 9) ∧ ∀ i, i ∉ [4, 83, 84, 85, 86, 87, 88, 89, 90, 91, 92] → Env.get env' i = Env.get env i := by
  suffices h : ∀ res, execW Try.prog cx [] (callW Try.prog how) (cr [.r, .r, .r, .r, .r, .r, .r, .r, .l]) (env, σ) = res → ∃ env', res = some (.ret, (env', σ)) ∧ env'.length = 102 ∧ (Env.get env' 4 = .int .i64 9) ∧ ∀ i, i ∉ [4, 83, 84, 85, 86, 87, 88, 89, 90, 91, 92] → Env.get env' i = Env.get env i from h _ rfl
  intro res hr
  simp -implicitDefEqProofs [ofV, ofCell, ofCells, seqA_nil, seqA_cons, seqVK_eq, seqEK_eq, wantedA, yieldedA, isVal, effA, ev, evs, evps, putE, optsA, optsOk, valA, fieldAddrA, fieldA, loadA, partA, aggA, isAggD, buildA, placesA, fillA, lay, storeA, AV.withCells, buildSliceA, elemsA, rowParts, fzL, promL, okE, isSrc, bytesOk, pushA, cxOf, binA, intBinA, strBinA, unA, indexAddrA, eqA, AVs.inb, AV.inb, Loc.inb, calleeA, opsOf, sub, bodyOf, Env.get_set, quietA_nil, quietA_cons, quietK_none, quietK_some, qstep, newA, isNew, escNew, boxOk, newLoc, flat, rowPartsQ, quietN, quietOp, isBS, List.takeWhile, finishA_eq, finK_ret, finK_normal, retK, backK, resA, oneA, AV.back, AVs.back, execW_seq_eq, seqK_normal, seqK_ret, seqK_exit, execW_cond_eq, condK_true, condK_false, execW_block_eq, blockK_exit, blockK_normal, blockK_ret, execW_region_eq, regK_eq, execW_skip, execW_exit, execW_ret, regionA_plain, regionA_quiet0, tailK_eq, nilCheckA, guardOk, isConst, lookupA, keyFits, mapUpdateA, beqI, bneI, AS.get_push_at, AS.get_push_old, AS.push_len, AS.set_st_len, AS.next_st', AS.set_push_at, AS.get_set_self, AS.get_set_other, cr, Try.f10, hlen, hcx, f0, f7, hA, hn, q] at hr
  subst hr
  refine ⟨_, rfl, by simp [hlen], by simp [Env.get_set, hlen, f0, f7, hA, hn, q], fun i hi => ?_⟩
  simp only [List.mem_cons, List.not_mem_nil, or_false, not_or] at hi
  obtain ⟨x0, x1, x2, x3, x4, x5, x6, x7, x8, x9, x10⟩ := hi
  simp [Env.get_set, Ne.symm x0, Ne.symm x1, Ne.symm x2, Ne.symm x3, Ne.symm x4, Ne.symm x5, Ne.symm x6, Ne.symm x7, Ne.symm x8, Ne.symm x9, Ne.symm x10]

theorem rS1 (cx : Cx) (env : Env) (σ : AS) (a b : Nat) (v : Vt) (pr pn : Int) (X : AV) (hlen : env.length = 102) (hcx : cx.esc = []) (f0 : Env.get env 0 = .ptr (.hp a) 0) (f3 : Env.get env 3 = .ptr (.st b) 0) (g3 : σ.get (.st b) = some (.cells (encV v).cells)) (hA : σ.get (.hp a) = some (.cells [.int .u64 pr, .int .i64 pn, X])) (hro0 : cx.ro = none) :
    ∃ env', execW Try.prog cx [] (callW Try.prog how) (cr [.r, .r, .r, .r, .r, .r, .r, .r, .r, .l]) (env, σ) = some (.normal, (env', σ.set (.hp a) (.cells [.int .u64 v.r, .int .i64 v.n, X]))) ∧ env'.length = 102 ∧ (True) ∧ ∀ i, i ∉ [93, 94, 95, 96, 97] → Env.get env' i = Env.get env i := by
  suffices h : ∀ res, execW Try.prog cx [] (callW Try.prog how) (cr [.r, .r, .r, .r, .r, .r, .r, .r, .r, .l]) (env, σ) = res → ∃ env', res = some (.normal, (env', σ.set (.hp a) (.cells [.int .u64 v.r, .int .i64 v.n, X]))) ∧ env'.length = 102 ∧ (True) ∧ ∀ i, i ∉ [93, 94, 95, 96, 97] → Env.get env' i = Env.get env i from h _ rfl
  intro res hr
  simp -implicitDefEqProofs [ofV, ofCell, ofCells, seqA_nil, seqA_cons, seqVK_eq, seqEK_eq, wantedA, yieldedA, isVal, effA, ev, evs, evps, putE, optsA, optsOk, valA, fieldAddrA, fieldA, loadA, partA, aggA, isAggD, buildA, placesA, fillA, lay, storeA, AV.withCells, buildSliceA, elemsA, rowParts, fzL, promL, okE, isSrc, bytesOk, pushA, cxOf, lenA, binA, intBinA, strBinA, unA, indexAddrA, eqA, AVs.inb, AV.inb, Loc.inb, calleeA, opsOf, sub, bodyOf, Env.get_set, quietA_nil, quietA_cons, quietK_none, quietK_some, qstep, newA, isNew, escNew, boxOk, newLoc, flat, rowPartsQ, quietN, quietOp, isBS, List.takeWhile, finishA_eq, finK_ret, finK_normal, retK, backK, resA, oneA, AV.back, AVs.back, execW_seq_eq, seqK_normal, seqK_ret, seqK_exit, execW_cond_eq, condK_true, condK_false, execW_block_eq, blockK_exit, blockK_normal, blockK_ret, execW_region_eq, regK_eq, execW_skip, execW_exit, execW_ret, regionA_plain, regionA_quiet0, tailK_eq, nilCheckA, guardOk, isConst, lookupA, keyFits, mapUpdateA, beqI, bneI, AS.get_push_at, AS.get_push_old, AS.push_len, AS.set_st_len, AS.next_st', AS.set_push_at, AS.get_set_self, AS.get_set_other, cr, Try.f10, hlen, hcx, f0, f3, g3, hA, hro0] at hr
  subst hr
  refine ⟨_, rfl, by simp [hlen], by simp [Env.get_set, hlen, f0, f3, g3, hA, hro0], fun i hi => ?_⟩
  simp only [List.mem_cons, List.not_mem_nil, or_false, not_or] at hi
  obtain ⟨x0, x1, x2, x3, x4⟩ := hi
  simp [Env.get_set, Ne.symm x0, Ne.symm x1, Ne.symm x2, Ne.symm x3, Ne.symm x4]

theorem rS2 (cx : Cx) (env : Env) (σ : AS) (a i w n : Nat) (es : List AV) (pr pn : Int) (X : AV) (hlen : env.length = 102) (hcx : cx.esc = []) (f0 : Env.get env 0 = .ptr (.hp a) 0) (f5 : Env.get env 5 = .row (.st i) w 0 n) (hA : σ.get (.hp a) = some (.cells [.int .u64 pr, .int .i64 pn, X])) (hro0 : cx.ro = none) (hi : σ.st[i]? = some (.row es 4 w false)) :
    ∃ env', execW Try.prog cx [] (callW Try.prog how) (cr [.r, .r, .r, .r, .r, .r, .r, .r, .r, .r, .l]) (env, σ) = some (.normal, (env', AS.set (AS.mk (σ.hp ++ [.row es 4 w false]) (σ.st.set i .dead)) (.hp a) (.cells [.int .u64 pr, .int .i64 pn, .row (.hp σ.hp.length) w 0 n]))) ∧ env'.length = 102 ∧ (True) ∧ ∀ i, i ∉ [98, 99, 100, 101] → Env.get env' i = Env.get env i := by
  suffices h : ∀ res, execW Try.prog cx [] (callW Try.prog how) (cr [.r, .r, .r, .r, .r, .r, .r, .r, .r, .r, .l]) (env, σ) = res → ∃ env', res = some (.normal, (env', AS.set (AS.mk (σ.hp ++ [.row es 4 w false]) (σ.st.set i .dead)) (.hp a) (.cells [.int .u64 pr, .int .i64 pn, .row (.hp σ.hp.length) w 0 n]))) ∧ env'.length = 102 ∧ (True) ∧ ∀ i, i ∉ [98, 99, 100, 101] → Env.get env' i = Env.get env i from h _ rfl
  intro res hr
  simp -implicitDefEqProofs [ofV, ofCell, ofCells, seqA_nil, seqA_cons, seqVK_eq, seqEK_eq, wantedA, yieldedA, isVal, effA, ev, evs, evps, putE, optsA, optsOk, valA, fieldAddrA, fieldA, loadA, partA, aggA, isAggD, buildA, placesA, fillA, lay, storeA, AV.withCells, buildSliceA, elemsA, rowParts, fzL, promL, okE, isSrc, bytesOk, pushA, cxOf, lenA, binA, intBinA, strBinA, unA, indexAddrA, eqA, AVs.inb, AV.inb, Loc.inb, calleeA, opsOf, sub, bodyOf, Env.get_set, quietA_nil, quietA_cons, quietK_none, quietK_some, qstep, newA, isNew, escNew, boxOk, newLoc, flat, rowPartsQ, quietN, quietOp, isBS, List.takeWhile, finishA_eq, finK_ret, finK_normal, retK, backK, resA, oneA, AV.back, AVs.back, execW_seq_eq, seqK_normal, seqK_ret, seqK_exit, execW_cond_eq, condK_true, condK_false, execW_block_eq, blockK_exit, blockK_normal, blockK_ret, execW_region_eq, regK_eq, execW_skip, execW_exit, execW_ret, regionA_plain, regionA_quiet0, tailK_eq, nilCheckA, guardOk, isConst, lookupA, keyFits, mapUpdateA, beqI, bneI, AS.get_push_at, AS.get_push_old, AS.push_len, AS.set_st_len, AS.next_st', AS.set_push_at, AS.get_set_self, AS.get_set_other, cr, Try.f10, hlen, hcx, f0, f5, hA, hro0, hi] at hr
  subst hr
  refine ⟨_, rfl, by simp [hlen], by simp [Env.get_set, hlen, f0, f5, hA, hro0, hi], fun i hi => ?_⟩
  simp only [List.mem_cons, List.not_mem_nil, or_false, not_or] at hi
  obtain ⟨x0, x1, x2, x3⟩ := hi
  simp [Env.get_set, Ne.symm x0, Ne.symm x1, Ne.symm x2, Ne.symm x3]

theorem rZ (cx : Cx) (env : Env) (σ : AS)  (hlen : env.length = 102) (hcx : cx.esc = [])  :
    ∃ env', execW Try.prog cx [] (callW Try.prog how) (cr [.r, .r, .r, .r, .r, .r, .r, .r, .r, .r, .r, .l]) (env, σ) = some (.normal, (env', σ)) ∧ env'.length = 102 ∧ (Env.get env' 4 = .int .i64 0) ∧ ∀ i, i ∉ [4] → Env.get env' i = Env.get env i := by
  suffices h : ∀ res, execW Try.prog cx [] (callW Try.prog how) (cr [.r, .r, .r, .r, .r, .r, .r, .r, .r, .r, .r, .l]) (env, σ) = res → ∃ env', res = some (.normal, (env', σ)) ∧ env'.length = 102 ∧ (Env.get env' 4 = .int .i64 0) ∧ ∀ i, i ∉ [4] → Env.get env' i = Env.get env i from h _ rfl
  intro res hr
  simp -implicitDefEqProofs [ofV, ofCell, ofCells, seqA_nil, seqA_cons, seqVK_eq, seqEK_eq, wantedA, yieldedA, isVal, effA, ev, evs, evps, putE, optsA, optsOk, valA, fieldAddrA, fieldA, loadA, partA, aggA, isAggD, buildA, placesA, fillA, lay, storeA, AV.withCells, buildSliceA, elemsA, rowParts, fzL, promL, okE, isSrc, bytesOk, pushA, cxOf, lenA, binA, intBinA, strBinA, unA, indexAddrA, eqA, AVs.inb, AV.inb, Loc.inb, calleeA, opsOf, sub, bodyOf, Env.get_set, quietA_nil, quietA_cons, quietK_none, quietK_some, qstep, newA, isNew, escNew, boxOk, newLoc, flat, rowPartsQ, quietN, quietOp, isBS, List.takeWhile, finishA_eq, finK_ret, finK_normal, retK, backK, resA, oneA, AV.back, AVs.back, execW_seq_eq, seqK_normal, seqK_ret, seqK_exit, execW_cond_eq, condK_true, condK_false, execW_block_eq, blockK_exit, blockK_normal, blockK_ret, execW_region_eq, regK_eq, execW_skip, execW_exit, execW_ret, regionA_plain, regionA_quiet0, tailK_eq, nilCheckA, guardOk, isConst, lookupA, keyFits, mapUpdateA, beqI, bneI, AS.get_push_at, AS.get_push_old, AS.push_len, AS.set_st_len, AS.next_st', AS.set_push_at, AS.get_set_self, AS.get_set_other, cr, Try.f10, hlen, hcx] at hr
  subst hr
  refine ⟨_, rfl, by simp [hlen], by simp [Env.get_set, hlen], fun i hi => ?_⟩
  simp only [List.mem_cons, List.not_mem_nil, or_false, not_or] at hi
  have x0 := hi
  simp [Env.get_set, Ne.symm x0]

theorem body : Try.f10.body = some ((cr [.l]).seq ((cr [.r, .l]).seq ((cr [.r, .r, .l]).seq ((cr [.r, .r, .r, .l]).seq ((cr [.r, .r, .r, .r, .l]).seq ((cr [.r, .r, .r, .r, .r, .l]).seq (((cr [.r, .r, .r, .r, .r, .r, .l, .l]).seq (cr [.r, .r, .r, .r, .r, .r, .l, .r])).seq ((cr [.r, .r, .r, .r, .r, .r, .r, .l]).seq ((cr [.r, .r, .r, .r, .r, .r, .r, .r, .l]).seq ((cr [.r, .r, .r, .r, .r, .r, .r, .r, .r, .l]).seq ((cr [.r, .r, .r, .r, .r, .r, .r, .r, .r, .r, .l]).seq ((cr [.r, .r, .r, .r, .r, .r, .r, .r, .r, .r, .r, .l]).seq .ret)))))))))))) := by kernel_rfl
noncomputable def oT : Oper := (opsOf (cr [.r, .r, .r, .r, .r, .r, .l, .r, .i, .i, .l])).headD default
noncomputable def oI : List Oper := opsOf (cr [.r, .r, .r, .r, .r, .r, .l, .r, .i, .i, .r, .r, .r])
noncomputable def E : Code := cr [.r, .r, .r, .r, .r, .r, .l, .r, .i, .i, .r, .r, .l, .i, .l]
noncomputable def G : Code := cr [.r, .r, .r, .r, .r, .r, .l, .r, .i, .i, .r, .r, .l, .i, .r, .l]
noncomputable def H : Code := cr [.r, .r, .r, .r, .r, .r, .l, .r, .i, .i, .r, .r, .l, .i, .r, .r, .l]
noncomputable def K : Code := cr [.r, .r, .r, .r, .r, .r, .l, .r, .i, .i, .r, .r, .l, .i, .r, .r, .r]
theorem loop_eq : cr [.r, .r, .r, .r, .r, .r, .l, .r] = .block 0 (.loop (.seq (.region 9 #[oT] false) (.seq (.cond (.tmp 43) .skip (.exit 0)) (.seq (.block 1 (E.seq (G.seq (H.seq K)))) (.region 17 #[oI.headD default, (oI.drop 1).headD default] false))))) := by kernel_rfl
/-- What holds ahead of round k. -/
def J (h : Nat) (σ0 : AS) (b : Nat) (v : Vt) (X : AV) (L : List Vt) (k : Nat) (env : Env) (σ : AS) : Prop :=
  (Env.get env 3 = .ptr (.st b) 0 ∧ Env.get env 40 = X ∧ Env.get env 0 = Env.get env 0) ∧ (∃ R, Env.get env 5 = R ∧ Rows h σ [(4, R, (accV v (L.take k)).1.map encV)]) ∧ Env.get env 6 = .bool (accV v (L.take k)).2.1 ∧ Env.get env 7 = .bool (accV v (L.take k)).2.2 ∧ σ.get (.st b) = some (.cells (encV v).cells) ∧ Outside h σ0 σ
def J' (h : Nat) (σ0 : AS) (a b : Nat) (v : Vt) (X : AV) (L : List Vt) (k : Nat) (env : Env) (σ : AS) : Prop := J h σ0 b v X L k env σ ∧ Env.get env 0 = .ptr (.hp a) 0
theorem J_stable {h : Nat} {σ0 : AS} {a b : Nat} {v : Vt} {X : AV} {L : List Vt} : ∀ k env env' σ, env.length = 102 → env'.length = 102 → (∀ i, i ≠ 43 → i ≠ 76 → i ≠ 42 → Env.get env' i = Env.get env i) → J' h σ0 a b v X L k env σ → J' h σ0 a b v X L k env' σ := by
  rintro k env env' σ _ _ hf ⟨⟨⟨j1, j2, _⟩, ⟨R, j3, j4⟩, j5, j6, j7, j8⟩, j9⟩
  have g := fun i h1 h2 h3 => hf i h1 h2 h3
  exact ⟨⟨⟨(g 3 (by decide) (by decide) (by decide)).trans j1, (g 40 (by decide) (by decide) (by decide)).trans j2, rfl⟩, ⟨R, (g 5 (by decide) (by decide) (by decide)).trans j3, j4⟩, (g 6 (by decide) (by decide) (by decide)).trans j5, (g 7 (by decide) (by decide) (by decide)).trans j6, j7, j8⟩, (g 0 (by decide) (by decide) (by decide)).trans j9⟩
/-- The first half of a round. -/
theorem stepG (cx : Cx) (hcx : cx.esc = []) (hro : ∀ k, cx.ro = some k → k ≤ cx.h) (σ0 : AS) (b c : Nat) (v x : Vt) (l : List Vt) (d : Bool) (R : AV) (env : Env) (σ : AS) (hlen : env.length = 102) (f3 : Env.get env 3 = .ptr (.st b) 0) (f9 : Env.get env 9 = .ptr (.st c) 0) (f5 : Env.get env 5 = R) (f6 : Env.get env 6 = .bool d)
    (g3 : σ.get (.st b) = some (.cells (encV v).cells)) (g9 : σ.get (.st c) = some (.cells (encV x).cells)) (hR : Rows cx.h σ [(4, R, l.map encV)]) (ho : Outside cx.h σ0 σ) (hl : l.length ≤ 900) :
    ∃ env' σ' R', execW Try.prog cx [] (callW Try.prog how) G (env, σ) = some (.normal, (env', σ')) ∧ env'.length = 102 ∧ Env.get env' 5 = R' ∧ Env.get env' 6 = .bool (d || decide (v.s ≤ x.s)) ∧ Rows cx.h σ' [(4, R', (if d = false ∧ v.s ≤ x.s then l ++ [v] else l).map encV)] ∧
      σ'.get (.st b) = some (.cells (encV v).cells) ∧ σ'.get (.st c) = some (.cells (encV x).cells) ∧ Outside cx.h σ0 σ' ∧ ∀ i, i ∉ [5, 6, 46, 47, 48, 49, 50, 51, 52, 53, 54, 55, 56, 57, 58] → Env.get env' i = Env.get env i := by
  cases d with
  | true =>
    obtain ⟨env', a1, a2, _, a4⟩ := rGa cx env σ b c v x hlen hcx f3 f9 f6 g3 g9
    exact ⟨env', σ, R, a1, a2, (a4 5 (by decide)).trans f5, (a4 6 (by decide)).trans f6, by simpa using hR, g3, g9, ho, fun i hi => a4 i fun h => hi (by revert h; simp only [List.mem_cons, List.not_mem_nil, or_false]; omega)⟩
  | false =>
    by_cases q : v.s ≤ x.s
    · obtain ⟨R', σ', b1, b2, b3, b4, b5⟩ := append_one (cx := cx) (x := encV v) (j := 0) app31 hR rfl (by simp; omega) (by decide) hro ho.2.2
      obtain ⟨env', a1, a2, a3, a4⟩ := rGc cx env σ b c v x R R' σ' hlen hcx f3 f9 f5 f6 g3 g9 q b1
      refine ⟨env', σ', R', a1, a2, a3.1, ?_, ?_, b4 _ _ g3, b4 _ _ g9, b5 _ ho, fun i hi => a4 i fun h => hi (by revert h; simp only [List.mem_cons, List.not_mem_nil, or_false]; omega)⟩
      · rw [a3.2, decide_eq_true q]; rfl
      · simpa [q] using b3
    · obtain ⟨env', a1, a2, _, a4⟩ := rGb cx env σ b c v x hlen hcx f3 f9 f6 g3 g9 q
      refine ⟨env', σ, R, a1, a2, (a4 5 (by decide)).trans f5, ?_, by simpa [q] using hR, g3, g9, ho, fun i hi => a4 i fun h => hi (by revert h; simp only [List.mem_cons, List.not_mem_nil, or_false]; omega)⟩
      rw [a4 6 (by decide), f6, decide_eq_false q]; rfl
theorem stepH (cx : Cx) (hcx : cx.esc = []) (b c : Nat) (v x : Vt) (t : Bool) (env : Env) (σ : AS) (hlen : env.length = 102) (f3 : Env.get env 3 = .ptr (.st b) 0) (f9 : Env.get env 9 = .ptr (.st c) 0) (f7 : Env.get env 7 = .bool t)
    (g3 : σ.get (.st b) = some (.cells (encV v).cells)) (g9 : σ.get (.st c) = some (.cells (encV x).cells)) :
    ∃ env', execW Try.prog cx [] (callW Try.prog how) H (env, σ) = some (.normal, (env', σ)) ∧ env'.length = 102 ∧ Env.get env' 7 = .bool (t || decide (x.s = v.s)) ∧ ∀ i, i ∉ [7, 59, 60, 61, 62, 63, 64, 65, 66] → Env.get env' i = Env.get env i := by
  cases t with
  | true =>
    obtain ⟨env', a1, a2, a3, a4⟩ := rHa cx env σ b c v x hlen hcx f3 f9 f7 g3 g9
    exact ⟨env', a1, a2, a3, a4⟩
  | false =>
    obtain ⟨env', a1, a2, a3, a4⟩ := rHb cx env σ b c v x hlen hcx f3 f9 f7 g3 g9
    exact ⟨env', a1, a2, a3, a4⟩
theorem stepK (cx : Cx) (hcx : cx.esc = []) (hro : ∀ k, cx.ro = some k → k ≤ cx.h) (σ0 : AS) (b c : Nat) (v x : Vt) (l : List Vt) (R : AV) (env : Env) (σ : AS) (hlen : env.length = 102) (f3 : Env.get env 3 = .ptr (.st b) 0) (f9 : Env.get env 9 = .ptr (.st c) 0) (f5 : Env.get env 5 = R)
    (g3 : σ.get (.st b) = some (.cells (encV v).cells)) (g9 : σ.get (.st c) = some (.cells (encV x).cells)) (hR : Rows cx.h σ [(4, R, l.map encV)]) (ho : Outside cx.h σ0 σ) (hl : l.length ≤ 1000) :
    ∃ env' σ' R', execW Try.prog cx [] (callW Try.prog how) K (env, σ) = some (.normal, (env', σ')) ∧ env'.length = 102 ∧ Env.get env' 5 = R' ∧ Rows cx.h σ' [(4, R', (l ++ (if x.s ≠ v.s then [x] else [])).map encV)] ∧
      σ'.get (.st b) = some (.cells (encV v).cells) ∧ Outside cx.h σ0 σ' ∧ ∀ i, i ∉ [5, 67, 68, 69, 70, 71, 72, 73, 74, 75] → Env.get env' i = Env.get env i := by
  by_cases q : x.s = v.s
  · obtain ⟨env', a1, a2, _, a4⟩ := rK0 cx env σ b c v x hlen hcx f3 f9 g3 g9 q
    exact ⟨env', σ, R, a1, a2, (a4 5 (by decide)).trans f5, by simpa [q] using hR, g3, ho, fun i hi => a4 i fun h => hi (by revert h; simp only [List.mem_cons, List.not_mem_nil, or_false]; omega)⟩
  · obtain ⟨R', σ', b1, b2, b3, b4, b5⟩ := append_one (cx := cx) (x := encV x) (j := 0) app31 hR rfl (by simpa using hl) (by decide) hro ho.2.2
    obtain ⟨env', a1, a2, a3, a4⟩ := rK1 cx env σ b c v x R R' σ' hlen hcx f3 f9 f5 g3 g9 q b1
    exact ⟨env', σ', R', a1, a2, a3, by simpa [q] using b3, b4 _ _ g3, b5 _ ho, fun i hi => a4 i fun h => hi (by revert h; simp only [List.mem_cons, List.not_mem_nil, or_false]; omega)⟩
theorem step (cx : Cx) (hcx : cx.esc = []) (hro : ∀ k, cx.ro = some k → k ≤ cx.h) (σ0 : AS) (a b j w : Nat) (fr : Bool) (v : Vt) (L : List Vt) (hL : L.length ≤ 400) (hj : σ0.hp[j]? = some (.row (L.map encV) 4 w fr)) :
    ∀ k env σ, k < L.length → env.length = 102 → Env.get env 42 = .int .i64 (k : Int) → Env.get env 41 = .int .i64 (L.length : Int) → J' cx.h σ0 a b v (.row (.hp j) w 0 L.length) L k env σ → ∃ e env' σ', execW Try.prog cx [] (callW Try.prog how) (.block 1 (E.seq (G.seq (H.seq K)))) (env, σ) = some (e, (env', σ')) ∧
      ((e = .normal ∧ env'.length = 102 ∧ Env.get env' 42 = .int .i64 (k : Int) ∧ Env.get env' 41 = .int .i64 (L.length : Int) ∧ J' cx.h σ0 a b v (.row (.hp j) w 0 L.length) L (k + 1) env' σ') ∨ (e ≠ .normal ∧ False)) := by
  rintro k env σ hk hlen f42 f41 ⟨⟨⟨f3, f40, _⟩, ⟨R, f5, hR⟩, f6, f7, g3, ho⟩, f0⟩
  have hjσ : σ.get (.hp j) = some (.row (L.map encV) 4 w fr) := by simp only [AS.get, ho.1]; exact hj
  obtain ⟨env1, a1, a2, a3, a4⟩ := rE cx env σ j w k fr L L[k] hlen hcx f40 f42 hk rfl hjσ (wokst hro ho.2.2) ho.2.2
  have g9 : (σ.push false (.cells (encV L[k]).cells)).get (.st σ.st.length) = some (.cells (encV L[k]).cells) := AS.get_push_at rfl
  have hR1 := hR.push (ob := .cells (encV L[k]).cells)
  have ho1 := ho.push (ob := .cells (encV L[k]).cells)
  have g3 := get_push' (ob' := .cells (encV L[k]).cells) g3
  generalize hib : σ.st.length = c at a3 g9
  generalize σ.push false (.cells (encV L[k]).cells) = σ1 at a1 g9 hR1 ho1 g3
  have hla := accV_len v L k
  obtain ⟨env2, σ2, R2, b1, b2, b3, b4, b5, b6, b7, b8, b9⟩ := stepG cx hcx hro σ0 b c v L[k] _ _ R env1 σ1 a2 ((a4 3 (by decide)).trans f3) a3 ((a4 5 (by decide)).trans f5) ((a4 6 (by decide)).trans f6) g3 g9 hR1 ho1 (by omega)
  obtain ⟨env3, c1, c2, c3, c4⟩ := stepH cx hcx b c v L[k] _ env2 σ2 b2 ((b9 3 (by decide)).trans ((a4 3 (by decide)).trans f3)) ((b9 9 (by decide)).trans a3) ((b9 7 (by decide)).trans ((a4 7 (by decide)).trans f7)) b6 b7
  obtain ⟨env4, σ4, R4, d1, d2, d3, d4, d5, d6, d7⟩ := stepK cx hcx hro σ0 b c v L[k] _ R2 env3 σ2 c2 ((c4 3 (by decide)).trans ((b9 3 (by decide)).trans ((a4 3 (by decide)).trans f3))) ((c4 9 (by decide)).trans ((b9 9 (by decide)).trans a3)) ((c4 5 (by decide)).trans b3) b6 b7 b5 b8 (by
    split
    · rw [List.length_append, List.length_singleton]; omega
    · omega)
  have fr : ∀ i, i ∉ [5, 6, 7, 9] → i ≤ 42 → i ≠ 44 → i ≠ 45 → Env.get env4 i = Env.get env i := by
    intro i h1 h2 h3 h4
    simp only [List.mem_cons, List.not_mem_nil, or_false, not_or] at h1
    refine (d7 i ?_).trans ((c4 i ?_).trans ((b9 i ?_).trans (a4 i ?_))) <;> simp only [List.mem_cons, List.not_mem_nil, or_false, not_or] <;> omega
  refine ⟨.normal, env4, σ4, execW_block_of (execW_seq_of a1 (execW_seq_of b1 (execW_seq_of c1 d1))), .inl ⟨rfl, d2, (fr 42 (by decide) (by decide) (by decide) (by decide)).trans f42, (fr 41 (by decide) (by decide) (by decide) (by decide)).trans f41, ⟨⟨(fr 3 (by decide) (by decide) (by decide) (by decide)).trans f3, (fr 40 (by decide) (by decide) (by decide) (by decide)).trans f40, rfl⟩, ⟨R4, d3, ?_⟩, ?_, ?_, d5, d6⟩, (fr 0 (by decide) (by decide) (by decide) (by decide)).trans f0⟩⟩
  · rw [accV_succ v L k hk]
    exact d4
  · rw [accV_succ v L k hk]
    exact (d7 6 (by decide)).trans ((c4 6 (by decide)).trans b4)
  · rw [accV_succ v L k hk]
    exact (d7 7 (by decide)).trans c3
/-- What the row has when its vote is put. -/
def putV (v : Vt) (L : List Vt) : List Vt := if (accV v L).2.1 = true then (accV v L).1 else (accV v L).1 ++ [v]
/-- A document's acceptor in the heap. -/
def RefP (hp : List AObj) (a : Nat) (pr pn : Int) (L : List Vt) : Prop := ∃ X, hp[a]? = some (.cells [.int .u64 pr, .int .i64 pn, X]) ∧ SlH hp X (L.map encV)
/-- What was there stays, but for one place. -/
def KeepH (hp hp' : List AObj) (l : List Nat) : Prop := hp.length ≤ hp'.length ∧ ∀ i, i ∉ l → i < hp.length → hp'[i]? = hp[i]?
theorem lenX {hp : List AObj} {X : AV} {L : List Vt} (h : SlH hp X (L.map encV)) (σ : AS) : lenA Try.prog σ 31 X = some L.length := by
  rcases h with ⟨rfl, hn⟩ | ⟨j, w, f, rfl, _⟩
  · have : L = [] := by simpa using hn
    subst this
    simp [lenA]
  · simp [lenA]
/-- The run up to the end of the loop, where the vote may be and is not too old. -/
theorem upto (hp s : List AObj) (a : Nat) (pr pn : Int) (v : Vt) (L : List Vt) (hR : RefP hp a pr pn L) (hL : L.length ≤ 400) (hr : 0 ≤ v.r) (hok : voteOk v = true) (hle : lessB v.r v.n pr pn = false) {env : Env} (hl : env.length = 102) (h0 : Env.get env 0 = .ptr (.hp a) 0) (h1 : Env.get env 1 = .agg [.int .i64 v.s, .int .u64 v.r, .int .i64 v.n, .str v.v]) :
    ∃ env' σ' R b X, (∀ c r, execW Try.prog { h := s.length, ro := none, esc := [] } [] (callW Try.prog how) c (env', σ') = r → execW Try.prog { h := s.length, ro := none, esc := [] } [] (callW Try.prog how) ((cr [.l]).seq ((cr [.r, .l]).seq ((cr [.r, .r, .l]).seq ((cr [.r, .r, .r, .l]).seq ((cr [.r, .r, .r, .r, .l]).seq ((cr [.r, .r, .r, .r, .r, .l]).seq (((cr [.r, .r, .r, .r, .r, .r, .l, .l]).seq (cr [.r, .r, .r, .r, .r, .r, .l, .r])).seq ((cr [.r, .r, .r, .r, .r, .r, .r, .l]).seq c)))))))) (env, ⟨hp, s⟩) = r) ∧
      env'.length = 102 ∧ Env.get env' 0 = .ptr (.hp a) 0 ∧ Env.get env' 3 = .ptr (.st b) 0 ∧ Env.get env' 5 = R ∧ Env.get env' 7 = .bool (accV v L).2.2 ∧ σ'.get (.st b) = some (.cells (encV v).cells) ∧ Rows s.length σ' [(4, R, (putV v L).map encV)] ∧ Outside s.length ⟨hp, s⟩ σ' ∧ hp[a]? = some (.cells [.int .u64 pr, .int .i64 pn, X]) ∧ SlH hp X (L.map encV) := by
  let cx : Cx := { h := s.length, ro := none, esc := [] }
  have hcx : cx.esc = [] := rfl
  have hro : ∀ k, cx.ro = some k → k ≤ cx.h := fun k hk => by cases hk
  obtain ⟨X, hA, hX⟩ := hR
  obtain ⟨env1, a1, a2, a3, a4⟩ := rA cx env ⟨hp, s⟩ v hl hcx h1 rfl (Nat.le_refl _)
  have g3 : ((AS.mk hp s).push false (.cells (encV v).cells)).get (.st s.length) = some (.cells (encV v).cells) := AS.get_push_at rfl
  have ho := (Outside.refl (σ := AS.mk hp s) (h := s.length) (Nat.le_refl _)).push (ob := .cells (encV v).cells)
  have hAσ : ((AS.mk hp s).push false (.cells (encV v).cells)).get (.hp a) = some (.cells [.int .u64 pr, .int .i64 pn, X]) := by simpa [AS.push, AS.get] using hA
  have f3 : Env.get env1 3 = .ptr (.st s.length) 0 := a3.1
  have f0 := (a4 0 (by decide)).trans h0
  generalize (AS.mk hp s).push false (.cells (encV v).cells) = σ1 at a1 g3 ho hAσ
  have hcx : cx.esc = [] := rfl
  simp only [voteOk, Bool.and_eq_true, decide_eq_true_eq] at hok
  obtain ⟨k1, k2, k3, k4⟩ := hok
  have hc1 := f24_ok σ1.hp σ1.st none v.r v.n hr (fun k hk => by cases hk)
  rw [k1] at hc1
  obtain ⟨env2, b1, b2, _, b4⟩ := rOk cx env1 σ1 s.length v a2 hcx f3 g3 hc1 (by omega) (by omega) (by omega)
  have f3 := (b4 3 (by decide)).trans f3
  have f0 := (b4 0 (by decide)).trans f0
  have hc2 := f14_ok σ1.hp σ1.st (some σ1.st.length) v.r v.n pr pn (fun k hk => by cases hk; exact Nat.le_refl _)
  rw [hle] at hc2
  obtain ⟨env3, c1, c2, _, c4⟩ := rLe0 cx env2 σ1 a s.length v pr pn X b2 hcx f0 f3 g3 hAσ hc2
  have f3 := (c4 3 (by decide)).trans f3
  have f0 := (c4 0 (by decide)).trans f0
  obtain ⟨env4, d1, d2, d3, d4⟩ := r5 cx env3 σ1 c2 hcx
  obtain ⟨env5, e1, e2, e3, e4⟩ := r6 cx env4 σ1 d2 hcx
  obtain ⟨env6, i1, i2, i3, i4⟩ := r7 cx env5 σ1 e2 hcx
  have f0 := (i4 0 (by decide)).trans ((e4 0 (by decide)).trans ((d4 0 (by decide)).trans f0))
  have f3 := (i4 3 (by decide)).trans ((e4 3 (by decide)).trans ((d4 3 (by decide)).trans f3))
  have f5 := (i4 5 (by decide)).trans ((e4 5 (by decide)).trans d3)
  have f6 := (i4 6 (by decide)).trans e3
  have key : ∃ env7, execW Try.prog cx [] (callW Try.prog how) (cr [.r, .r, .r, .r, .r, .r, .l, .l]) (env6, σ1) = some (.normal, (env7, σ1)) ∧ env7.length = 102 ∧ (Env.get env7 40 = X ∧ Env.get env7 41 = .int .i64 (L.length : Int) ∧ Env.get env7 42 = .int .i64 0) ∧ ∀ i, i ∉ [37, 38, 39, 40, 41, 42] → Env.get env7 i = Env.get env6 i := by
    rcases hX with ⟨rfl, hn⟩ | ⟨j, w, fr, rfl, hj⟩
    · have : L = [] := by simpa using hn
      subst this
      exact rCn cx env6 σ1 a pr pn i2 hcx f0 hAσ
    · have := rCr cx env6 σ1 a j w (L.map encV).length pr pn i2 hcx f0 hAσ
      rw [List.length_map] at this
      rw [List.length_map]
      exact this
  obtain ⟨env7, j1, j2, j3, j4⟩ := key
  have hJ0 : J' s.length ⟨hp, s⟩ a s.length v X L 0 env7 σ1 := ⟨⟨⟨(j4 3 (by decide)).trans f3, j3.1, rfl⟩, ⟨.nils, (j4 5 (by decide)).trans f5, ⟨fun e he => by
    simp only [List.mem_cons, List.not_mem_nil, or_false] at he
    subst he
    exact .inl ⟨rfl, rfl⟩, by simp⟩⟩, (j4 6 (by decide)).trans f6, (j4 7 (by decide)).trans i3, g3, ho⟩, (j4 0 (by decide)).trans f0⟩
  have hloop : ∃ e env' σ', execW Try.prog cx [] (callW Try.prog how) (cr [.r, .r, .r, .r, .r, .r, .l, .r]) (env7, σ1) = some (e, (env', σ')) ∧ ((e = .normal ∧ ((env'.length = 102 ∧ J' s.length ⟨hp, s⟩ a s.length v X L L.length env' σ') ∨ False)) ∨ (e ≠ .normal ∧ e ≠ .exit 0 ∧ False)) := by
    rw [loop_eq]
    refine range_std (Ex := fun _ _ _ => False) (N := 102) (tc := 43) (ti := 42) (tl := 41) (tx := 76) (ty1 := 3) (ty2 := 3) (ty3 := 3) (ty4 := 3) ⟨by kernel_rfl, by kernel_rfl, by kernel_rfl⟩ ⟨by kernel_rfl, by kernel_rfl, by kernel_rfl⟩ ⟨by kernel_rfl, by kernel_rfl, by kernel_rfl⟩ (by decide) (by omega) J_stable ?_ j2 j3.2.2 j3.2.1 hJ0
    rcases hX with ⟨rfl, hn⟩ | ⟨j, w, fr, rfl, hj⟩
    · have : L = [] := by simpa using hn
      subst this
      intro k env σ hk
      cases hk
    · rw [List.length_map]
      exact step cx hcx hro ⟨hp, s⟩ a s.length j w fr v L hL hj
  obtain ⟨e, env8, σ8, l1, l2⟩ := hloop
  rcases l2 with ⟨rfl, ⟨l2, ⟨⟨f3, f40, _⟩, ⟨R, f5, hR⟩, f6, f7, g3, ho⟩, f0⟩ | l2⟩ | ⟨_, _, l2⟩
  · rw [List.take_length] at hR f6 f7
    have run : ∀ c st1, execW Try.prog cx [] (callW Try.prog how) (cr [.r, .r, .r, .r, .r, .r, .r, .l]) (env8, σ8) = some (.normal, st1) → ∀ r, execW Try.prog cx [] (callW Try.prog how) c st1 = r → execW Try.prog cx [] (callW Try.prog how) ((cr [.l]).seq ((cr [.r, .l]).seq ((cr [.r, .r, .l]).seq ((cr [.r, .r, .r, .l]).seq ((cr [.r, .r, .r, .r, .l]).seq ((cr [.r, .r, .r, .r, .r, .l]).seq (((cr [.r, .r, .r, .r, .r, .r, .l, .l]).seq (cr [.r, .r, .r, .r, .r, .r, .l, .r])).seq ((cr [.r, .r, .r, .r, .r, .r, .r, .l]).seq c)))))))) (env, ⟨hp, s⟩) = r :=
      fun c st1 h r h' => execW_seq_of a1 (execW_seq_of b1 (execW_seq_of c1 (execW_seq_of d1 (execW_seq_of e1 (execW_seq_of i1 (execW_seq_of (execW_seq_of j1 l1) (execW_seq_of h h')))))))
    cases hd : (accV v L).2.1 with
    | true =>
      rw [hd] at f6
      obtain ⟨env9, m1, m2, _, m4⟩ := rM0 cx env8 σ8 l2 hcx f6
      exact ⟨env9, σ8, R, s.length, X, fun c r h => run c _ m1 r h, m2, (m4 0 (by decide)).trans f0, (m4 3 (by decide)).trans f3, (m4 5 (by decide)).trans f5, (m4 7 (by decide)).trans f7, g3, by unfold putV; rw [if_pos hd]; exact hR, ho, hA, hX⟩
    | false =>
      rw [hd] at f6
      have hla := accV_len v L L.length
      rw [List.take_length] at hla
      obtain ⟨R', σ', n1, n2, n3, n4, n5⟩ := append_one (cx := cx) (x := encV v) (j := 0) app31 hR rfl (by rw [List.length_map]; omega) (by decide) hro ho.2.2
      obtain ⟨env9, m1, m2, m3, m4⟩ := rM1 cx env8 σ8 s.length v R R' σ' l2 hcx f3 f5 f6 g3 n1
      exact ⟨env9, σ', R', s.length, X, fun c r h => run c _ m1 r h, m2, (m4 0 (by decide)).trans f0, (m4 3 (by decide)).trans f3, m3, (m4 7 (by decide)).trans f7, n4 _ _ g3, by unfold putV; rw [if_neg (by rw [hd]; simp), List.map_append]; exact n3, n5 _ ho, hA, hX⟩
  · exact l2.elim
  · exact l2.elim
theorem fin_code (hp s : List AObj) (hp' st' : List AObj) (e : Env) (n : Int) (h4 : Env.get e 4 = .int .i64 n) (hs : List.take s.length st' = s) : finishA Try.prog {} Try.f10 s.length (some (.ret, (e, ⟨hp', st'⟩))) = some (.int .i64 n, ⟨hp', s⟩) := by
  simp -implicitDefEqProofs [finishA, resA, Try.f10, h4, oneA, AV.back, AV.inb, hs]
/-- What the document's Accept does. -/
theorem ok (hp s : List AObj) (a : Nat) (pr pn : Int) (v : Vt) (L : List Vt) (hR : RefP hp a pr pn L) (hL : L.length ≤ 400) (hr : 0 ≤ v.r) :
    ∃ hp', KeepH hp hp' [a] ∧
      ((voteOk v = false ∧ callW Try.prog how 10 [.ptr (.hp a) 0, .agg [.int .i64 v.s, .int .u64 v.r, .int .i64 v.n, .str v.v]] ⟨hp, s⟩ none = some (.int .i64 1, ⟨hp', s⟩) ∧ RefP hp' a pr pn L) ∨
       (voteOk v = true ∧ lessB v.r v.n pr pn = true ∧ callW Try.prog how 10 [.ptr (.hp a) 0, .agg [.int .i64 v.s, .int .u64 v.r, .int .i64 v.n, .str v.v]] ⟨hp, s⟩ none = some (.int .i64 13, ⟨hp', s⟩) ∧ RefP hp' a pr pn L) ∨
       (voteOk v = true ∧ lessB v.r v.n pr pn = false ∧ (accV v L).2.2 = false ∧ 400 ≤ L.length ∧ callW Try.prog how 10 [.ptr (.hp a) 0, .agg [.int .i64 v.s, .int .u64 v.r, .int .i64 v.n, .str v.v]] ⟨hp, s⟩ none = some (.int .i64 9, ⟨hp', s⟩) ∧ RefP hp' a pr pn L) ∨
       (voteOk v = true ∧ lessB v.r v.n pr pn = false ∧ ¬ ((accV v L).2.2 = false ∧ 400 ≤ L.length) ∧ callW Try.prog how 10 [.ptr (.hp a) 0, .agg [.int .i64 v.s, .int .u64 v.r, .int .i64 v.n, .str v.v]] ⟨hp, s⟩ none = some (.int .i64 0, ⟨hp', s⟩) ∧ RefP hp' a v.r v.n (putV v L))) := by
  let cx : Cx := { h := s.length, ro := none, esc := [] }
  have hcx : cx.esc = [] := rfl
  have hro : ∀ k, cx.ro = some k → k ≤ cx.h := fun k hk => by cases hk
  have henv : ∃ e, e = frameA Try.f10 [.ptr (.hp a) 0, .agg [.int .i64 v.s, .int .u64 v.r, .int .i64 v.n, .str v.v]] := ⟨_, rfl⟩
  obtain ⟨env, henv⟩ := henv
  have hl : env.length = 102 := by rw [henv]; rfl
  have h0 : Env.get env 0 = .ptr (.hp a) 0 := by rw [henv]; rfl
  have h1 : Env.get env 1 = .agg [.int .i64 v.s, .int .u64 v.r, .int .i64 v.n, .str v.v] := by rw [henv]; rfl
  have call : ∀ (e : Env) (hp' st' : List AObj) (n : Int), execW Try.prog cx [] (callW Try.prog how) ((cr [.l]).seq ((cr [.r, .l]).seq ((cr [.r, .r, .l]).seq ((cr [.r, .r, .r, .l]).seq ((cr [.r, .r, .r, .r, .l]).seq ((cr [.r, .r, .r, .r, .r, .l]).seq (((cr [.r, .r, .r, .r, .r, .r, .l, .l]).seq (cr [.r, .r, .r, .r, .r, .r, .l, .r])).seq ((cr [.r, .r, .r, .r, .r, .r, .r, .l]).seq ((cr [.r, .r, .r, .r, .r, .r, .r, .r, .l]).seq ((cr [.r, .r, .r, .r, .r, .r, .r, .r, .r, .l]).seq ((cr [.r, .r, .r, .r, .r, .r, .r, .r, .r, .r, .l]).seq ((cr [.r, .r, .r, .r, .r, .r, .r, .r, .r, .r, .r, .l]).seq .ret)))))))))))) (env, ⟨hp, s⟩) = some (.ret, (e, ⟨hp', st'⟩)) → Env.get e 4 = .int .i64 n → List.take s.length st' = s → callW Try.prog how 10 [.ptr (.hp a) 0, .agg [.int .i64 v.s, .int .u64 v.r, .int .i64 v.n, .str v.v]] ⟨hp, s⟩ none = some (.int .i64 n, ⟨hp', s⟩) := by
    intro e hp' st' n hx h4 ht
    refine callW_body (fl := {}) (fn := Try.f10) rfl Try.func10 body ?_
    rw [← henv]
    exact (congrArg (finishA Try.prog {} Try.f10 s.length) hx).trans (fin_code hp s hp' st' e n h4 ht)
  clear henv
  obtain ⟨X, hA, hX⟩ := hR
  have hK : KeepH hp hp [a] := ⟨Nat.le_refl _, fun _ _ _ => rfl⟩
  obtain ⟨env1, a1, a2, a3, a4⟩ := rA cx env ⟨hp, s⟩ v hl hcx h1 rfl (Nat.le_refl _)
  have g3 : ((AS.mk hp s).push false (.cells (encV v).cells)).get (.st s.length) = some (.cells (encV v).cells) := AS.get_push_at rfl
  have hAσ : ((AS.mk hp s).push false (.cells (encV v).cells)).get (.hp a) = some (.cells [.int .u64 pr, .int .i64 pn, X]) := by simpa [AS.push, AS.get] using hA
  have hσ : (AS.mk hp s).push false (.cells (encV v).cells) = ⟨hp, s ++ [.cells (encV v).cells]⟩ := by simp [AS.push]
  rw [hσ] at a1 g3 hAσ
  have f3 : Env.get env1 3 = .ptr (.st s.length) 0 := a3.1
  have f0 := (a4 0 (by decide)).trans h0
  have htk : List.take s.length (s ++ [AObj.cells (encV v).cells]) = s := by simp
  have hc1 := f24_ok hp (s ++ [.cells (encV v).cells]) none v.r v.n hr (fun k hk => by cases hk)
  cases hv : voteOk v with
  | false =>
    refine ⟨hp, hK, .inl ⟨rfl, ?_, X, hA, hX⟩⟩
    have key : ∃ e, execW Try.prog cx [] (callW Try.prog how) (cr [.r, .l]) (env1, ⟨hp, s ++ [.cells (encV v).cells]⟩) = some (.ret, (e, ⟨hp, s ++ [.cells (encV v).cells]⟩)) ∧ Env.get e 4 = .int .i64 1 := by
      cases hk : askedB v.r v.n with
      | false =>
        rw [hk] at hc1
        obtain ⟨e, b1, _, b3, _⟩ := rEa cx env1 _ s.length v a2 hcx f3 g3 hc1
        exact ⟨e, b1, b3⟩
      | true =>
        rw [hk] at hc1
        by_cases q1 : v.s < 0
        · obtain ⟨e, b1, _, b3, _⟩ := rEb cx env1 _ s.length v a2 hcx f3 g3 hc1 q1
          exact ⟨e, b1, b3⟩
        · by_cases q2 : 1048576 < v.s
          · obtain ⟨e, b1, _, b3, _⟩ := rEc cx env1 _ s.length v a2 hcx f3 g3 hc1 q1 q2
            exact ⟨e, b1, b3⟩
          · by_cases q3 : (64 : Int) < (v.v.size : Int)
            · obtain ⟨e, b1, _, b3, _⟩ := rEd cx env1 _ s.length v a2 hcx f3 g3 hc1 q1 q2 q3
              exact ⟨e, b1, b3⟩
            · exfalso
              have : voteOk v = true := by
                simp only [voteOk, hk, Bool.true_and, Bool.and_eq_true, decide_eq_true_eq]
                exact ⟨by omega, by omega, by omega⟩
              rw [this] at hv
              cases hv
    obtain ⟨e, b1, b3⟩ := key
    exact call e _ _ 1 (execW_seq_of a1 (execW_seq_ret b1)) b3 htk
  | true =>
    have hv' := hv
    simp only [voteOk, Bool.and_eq_true, decide_eq_true_eq] at hv'
    obtain ⟨k1, k2, k3, k4⟩ := hv'
    rw [k1] at hc1
    cases hle : lessB v.r v.n pr pn with
    | true =>
      refine ⟨hp, hK, .inr (.inl ⟨rfl, rfl, ?_, X, hA, hX⟩)⟩
      obtain ⟨env2, b1, b2, _, b4⟩ := rOk cx env1 _ s.length v a2 hcx f3 g3 hc1 (by omega) (by omega) (by omega)
      have hc2 := f14_ok hp (s ++ [.cells (encV v).cells]) (some (s ++ [AObj.cells (encV v).cells]).length) v.r v.n pr pn (fun k hk => by cases hk; exact Nat.le_refl _)
      rw [hle] at hc2
      obtain ⟨env3, c1, c2, c3, c4⟩ := rLe1 cx env2 _ a s.length v pr pn X b2 hcx ((b4 0 (by decide)).trans f0) ((b4 3 (by decide)).trans f3) g3 hAσ hc2
      exact call env3 _ _ 13 (execW_seq_of a1 (execW_seq_of b1 (execW_seq_ret c1))) c3 htk
    | false =>
      obtain ⟨env2, σ', R, b, X', run, b2, f0, f3, f5, f7, g3, hRow, ho, hA', hX'⟩ := upto hp s a pr pn v L ⟨X, hA, hX⟩ hL hr hv hle hl h0 h1
      obtain ⟨o1, o2, o3⟩ := ho
      have hAσ : σ'.get (.hp a) = some (.cells [.int .u64 pr, .int .i64 pn, X']) := by simp only [AS.get, o1]; exact hA'
      have o2' : List.take s.length σ'.st = s := by rw [o2]; exact List.take_length
      have o1' : σ'.hp = hp := o1
      by_cases hful : (accV v L).2.2 = false ∧ 400 ≤ L.length
      · refine ⟨hp, hK, .inr (.inr (.inl ⟨rfl, rfl, hful.1, hful.2, ?_, X, hA, hX⟩))⟩
        rw [hful.1] at f7
        obtain ⟨env3, c1, c2, c3, c4⟩ := rNx cx env2 σ' a L.length pr pn X' b2 hcx f0 f7 hAσ (lenX hX' σ') (by omega)
        have hx := run _ _ (execW_seq_ret (b := (cr [.r, .r, .r, .r, .r, .r, .r, .r, .r, .l]).seq ((cr [.r, .r, .r, .r, .r, .r, .r, .r, .r, .r, .l]).seq ((cr [.r, .r, .r, .r, .r, .r, .r, .r, .r, .r, .r, .l]).seq .ret))) c1)
        have hσ' : σ' = ⟨hp, σ'.st⟩ := by rw [← o1']
        rw [hσ'] at hx
        exact call env3 _ _ 9 hx c3 o2'
      · have key : ∃ env3, execW Try.prog cx [] (callW Try.prog how) (cr [.r, .r, .r, .r, .r, .r, .r, .r, .l]) (env2, σ') = some (.normal, (env3, σ')) ∧ env3.length = 102 ∧ ∀ i, i ∉ [83, 84, 85, 86, 87, 88, 89, 90, 91, 92] → Env.get env3 i = Env.get env2 i := by
          cases ht : (accV v L).2.2 with
          | true =>
            rw [ht] at f7
            obtain ⟨env3, c1, c2, _, c4⟩ := rNt cx env2 σ' b2 hcx f7
            exact ⟨env3, c1, c2, c4⟩
          | false =>
            rw [ht] at f7
            obtain ⟨env3, c1, c2, _, c4⟩ := rNf cx env2 σ' a L.length pr pn X' b2 hcx f0 f7 hAσ (lenX hX' σ') (by
              have : ¬ 400 ≤ L.length := fun h => hful ⟨ht, h⟩
              omega)
            exact ⟨env3, c1, c2, c4⟩
        obtain ⟨env3, c1, c2, c4⟩ := key
        have f0 := (c4 0 (by decide)).trans f0
        have f3 := (c4 3 (by decide)).trans f3
        have f5 := (c4 5 (by decide)).trans f5
        obtain ⟨env4, d1, d2, _, d4⟩ := rS1 cx env3 σ' a b v pr pn X' c2 hcx f0 f3 g3 hAσ rfl
        have hne : putV v L ≠ [] := by
          unfold putV
          cases hd : (accV v L).2.1 with
          | false => simp
          | true =>
            intro he
            rw [if_pos rfl] at he
            have : ∀ k, (accV v (L.take k)).2.1 = true → (accV v (L.take k)).1 ≠ [] := by
              intro k
              induction k with
              | zero => intro h; simp [accV] at h
              | succ k ih =>
                by_cases hk : k < L.length
                · rw [accV_succ v L k hk]
                  intro h
                  unfold stepV at h ⊢
                  simp only at h ⊢
                  cases hq : (accV v (L.take k)).2.1 with
                  | true => have := ih hq; simp [this]
                  | false =>
                    rw [hq] at h
                    simp only [Bool.false_or, decide_eq_true_eq] at h
                    simp [h]
                · have e : L.take (k + 1) = L.take k := by rw [List.take_of_length_le (by omega), List.take_of_length_le (by omega)]
                  rw [e]
                  exact ih
            have h2 := this L.length
            rw [List.take_length] at h2
            exact h2 hd he
        rcases hRow.1 (4, R, (putV v L).map encV) (by simp) with ⟨_, hz⟩ | ⟨_, im, w, hRe, hg, hi⟩
        · exact absurd (by simpa using hz) hne
        · simp only at hRe hg
          subst hRe
          have hst : (σ'.set (.hp a) (.cells [.int .u64 v.r, .int .i64 v.n, X'])).st[im]? = some (.row ((putV v L).map encV) 4 w false) := by simpa [AS.set, AS.get] using hg
          have hA2 : (σ'.set (.hp a) (.cells [.int .u64 v.r, .int .i64 v.n, X'])).get (.hp a) = some (.cells [.int .u64 v.r, .int .i64 v.n, X']) := AS.get_set_self (by rw [hAσ]; rfl)
          obtain ⟨env5, e1, e2, _, e4⟩ := rS2 cx env4 _ a im w _ _ v.r v.n X' d2 hcx ((d4 0 (by decide)).trans f0) ((d4 5 (by decide)).trans f5) hA2 rfl hst
          obtain ⟨env6, m1, m2, m3, _⟩ := rZ cx env5 _ e2 hcx
          have hx := run _ _ (execW_seq_of c1 (execW_seq_of d1 (execW_seq_of e1 (execW_seq_of (b := .ret) m1 rfl))))
          refine ⟨(σ'.hp.set a (AObj.cells [.int .u64 v.r, .int .i64 v.n, X']) ++ [AObj.row ((putV v L).map encV) 4 w false]).set a (.cells [.int .u64 v.r, .int .i64 v.n, .row (.hp σ'.hp.length) w 0 ((putV v L).map encV).length]), ⟨by simp [o1'], fun i hi hlt => ?_⟩, .inr (.inr (.inr ⟨rfl, rfl, hful, ?_, .row (.hp σ'.hp.length) w 0 ((putV v L).map encV).length, ?_, .inr ⟨σ'.hp.length, w, false, rfl, ?_⟩⟩))⟩
          · have hia : a ≠ i := fun e => hi (by simp [e])
            rw [o1', List.getElem?_set_ne hia, List.getElem?_append_left (by simpa using hlt), List.getElem?_set_ne hia]
          · refine call env6 _ (σ'.st.set im .dead) 0 ?_ m3 ?_
            · have hlen : (σ'.set (.hp a) (.cells [.int .u64 v.r, .int .i64 v.n, X'])).hp.length = σ'.hp.length := by simp [AS.set]
              rw [hlen] at hx
              exact hx
            · rw [List.take_set_of_le hi]
              exact o2'
          · have : a < hp.length := (List.getElem?_eq_some_iff.1 hA).1
            rw [List.getElem?_set_self (by simp [o1']; omega)]
          · have : a < hp.length := (List.getElem?_eq_some_iff.1 hA).1
            have h2 : a < σ'.hp.length := by rw [o1']; exact this
            rw [List.getElem?_set_ne (by omega), List.getElem?_append_right (by simp)]
            simp

end F10