/- What the program's Accept does. -/
import Derived.Test.YtmldaajjeeidjaaCf
open Go Go.Abs Go.Proofs
set_option maxRecDepth 100000
set_option maxHeartbeats 4000000
set_option linter.unusedSimpArgs false
set_option linter.unusedVariables false
/-- A program's acceptor in the heap. -/
def AccP (hp : List AObj) (a : Nat) (pr pn : Int) (M : List Vt) : Prop := ∃ m, hp[a]? = some (.cells [.int .u64 pr, .int .i64 pn, .map (.hp m)]) ∧ hp[m]? = some (.map (M.map entV))
def updV (v : Vt) : List Vt → List Vt
  | [] => [v]
  | x :: M => if v.s = x.s then v :: M else x :: updV v M
theorem put_of (v : Vt) : ∀ M : List Vt, putA (.int .i64 v.s) (encV v) (M.map entV) = some ((updV v M).map entV)
  | [] => rfl
  | x :: M => by
    have ih := put_of v M
    rw [List.map_cons, putA]
    show (match keyEq (.int .i64 v.s) (.int .i64 x.s) with
      | some true => some ((AV.int .i64 v.s, encV v) :: M.map entV)
      | some false => match putA (.int .i64 v.s) (encV v) (M.map entV) with
        | some es' => some (entV x :: es')
        | none => none
      | none => none) = _
    by_cases h : v.s = x.s
    · rw [show keyEq (.int .i64 v.s) (.int .i64 x.s) = some true by simp [keyEq, h]]
      simp [updV, h, entV]
    · rw [show keyEq (.int .i64 v.s) (.int .i64 x.s) = some false by simp [keyEq, h], ih]
      simp [updV, h]
theorem find_any (k : Int) : ∀ M : List Vt, findA (.int .i64 k) (M.map entV) = some ((M.find? fun x => decide (k = x.s)).map encV)
  | [] => rfl
  | x :: M => by
    simp only [List.map_cons, findA, entV, keyEq, if_true, List.find?_cons]
    by_cases h : k = x.s
    · simp [h]
    · simp only [show (k == x.s) = false by simp [h], h, decide_false]
      exact find_any k M

namespace F8
noncomputable def cr (p : List Dir) : Code := sub p (bodyOf Try.f8)

theorem rA (cx : Cx) (env : Env) (σ : AS) (v : Vt) (hlen : env.length = 71) (hcx : cx.esc = []) (f1 : Env.get env 1 = .agg [.int .i64 v.s, .int .u64 v.r, .int .i64 v.n, .str v.v]) (hw : wok cx.ro (.st σ.st.length) = true) (hh : cx.h ≤ σ.st.length) :
    ∃ env', execW Try.prog cx [2000007] (callW Try.prog how) (cr [.l]) (env, σ) = some (.normal, (env', σ.push false (.cells (encV v).cells))) ∧ env'.length = 71 ∧ (Env.get env' 3 = .ptr (.st σ.st.length) 0 ∧ Env.get env' 4 = .int .i64 0) ∧ ∀ i, i ∉ [3, 4] → Env.get env' i = Env.get env i := by
  suffices h : ∀ res, execW Try.prog cx [2000007] (callW Try.prog how) (cr [.l]) (env, σ) = res → ∃ env', res = some (.normal, (env', σ.push false (.cells (encV v).cells))) ∧ env'.length = 71 ∧ (Env.get env' 3 = .ptr (.st σ.st.length) 0 ∧ Env.get env' 4 = .int .i64 0) ∧ ∀ i, i ∉ [3, 4] → Env.get env' i = Env.get env i from h _ rfl
  intro res hr
  simp -implicitDefEqProofs [ofV, ofCell, ofCells, seqA_nil, seqA_cons, seqVK_eq, seqEK_eq, wantedA, yieldedA, isVal, effA, ev, evs, evps, putE, optsA, optsOk, valA, fieldAddrA, fieldA, loadA, partA, aggA, isAggD, buildA, placesA, fillA, lay, storeA, AV.withCells, buildSliceA, elemsA, rowParts, fzL, promL, okE, isSrc, bytesOk, pushA, cxOf, lenA, binA, intBinA, strBinA, unA, indexAddrA, eqA, AVs.inb, AV.inb, Loc.inb, calleeA, opsOf, sub, bodyOf, Env.get_set, quietA_nil, quietA_cons, quietK_none, quietK_some, qstep, newA, isNew, escNew, boxOk, newLoc, flat, rowPartsQ, quietN, quietOp, isBS, List.takeWhile, finishA_eq, finK_ret, finK_normal, retK, backK, resA, oneA, AV.back, AVs.back, execW_seq_eq, seqK_normal, seqK_ret, seqK_exit, execW_cond_eq, condK_true, condK_false, execW_block_eq, blockK_exit, blockK_normal, blockK_ret, execW_region_eq, regK_eq, execW_skip, execW_exit, execW_ret, regionA_plain, regionA_quiet0, tailK_eq, nilCheckA, guardOk, isConst, lookupA, keyFits, mapUpdateA, beqI, bneI, AS.get_push_at, AS.get_push_old, AS.push_len, AS.set_st_len, AS.next_st', AS.set_push_at, AS.get_set_self, AS.get_set_other, cr, Try.f8, hlen, hcx, f1, hw, hh] at hr
  subst hr
  refine ⟨_, rfl, by simp [hlen], by simp [Env.get_set, hlen, f1, hw, hh], fun i hi => ?_⟩
  simp only [List.mem_cons, List.not_mem_nil, or_false, not_or] at hi
  obtain ⟨x0, x1⟩ := hi
  simp [Env.get_set, Ne.symm x0, Ne.symm x1]

theorem rEa (cx : Cx) (env : Env) (σ : AS) (a b : Nat) (v : Vt) (hlen : env.length = 71) (hcx : cx.esc = []) (f0 : Env.get env 0 = .ptr (.hp a) 0) (f3 : Env.get env 3 = .ptr (.st b) 0) (g3 : σ.get (.st b) = some (.cells (encV v).cells)) (hc : callW Try.prog how 22 [.agg [.int .u64 v.r, .int .i64 v.n]] σ cx.ro = some (.bool false, σ)) :
    ∃ env', execW Try.prog cx [2000007] (callW Try.prog how) (cr [.r, .l]) (env, σ) = some (.ret, (env', σ)) ∧ env'.length = 71 ∧ (Env.get env' 4 = .int .i64 1) ∧ ∀ i, i ∉ [4, 7, 8, 9, 10, 11, 12, 13, 14, 15, 16, 17, 18, 19, 20, 21, 22, 23, 24, 25, 26, 27, 28, 29, 30, 31, 32, 33, 34, 35, 36, 37, 38] → Env.get env' i = Env.get env i := by
  suffices h : ∀ res, execW Try.prog cx [2000007] (callW Try.prog how) (cr [.r, .l]) (env, σ) = res → ∃ env', res = some (.ret, (env', σ)) ∧ env'.length = 71 ∧ (Env.get env' 4 = .int .i64 1) ∧ ∀ i, i ∉ [4, 7, 8, 9, 10, 11, 12, 13, 14, 15, 16, 17, 18, 19, 20, 21, 22, 23, 24, 25, 26, 27, 28, 29, 30, 31, 32, 33, 34, 35, 36, 37, 38] → Env.get env' i = Env.get env i from h _ rfl
  intro res hr
  simp -implicitDefEqProofs [ofV, ofCell, ofCells, seqA_nil, seqA_cons, seqVK_eq, seqEK_eq, wantedA, yieldedA, isVal, effA, ev, evs, evps, putE, optsA, optsOk, valA, fieldAddrA, fieldA, loadA, partA, aggA, isAggD, buildA, placesA, fillA, lay, storeA, AV.withCells, buildSliceA, elemsA, rowParts, fzL, promL, okE, isSrc, bytesOk, pushA, cxOf, lenA, binA, intBinA, strBinA, unA, indexAddrA, eqA, AVs.inb, AV.inb, Loc.inb, calleeA, opsOf, sub, bodyOf, Env.get_set, quietA_nil, quietA_cons, quietK_none, quietK_some, qstep, newA, isNew, escNew, boxOk, newLoc, flat, rowPartsQ, quietN, quietOp, isBS, List.takeWhile, finishA_eq, finK_ret, finK_normal, retK, backK, resA, oneA, AV.back, AVs.back, execW_seq_eq, seqK_normal, seqK_ret, seqK_exit, execW_cond_eq, condK_true, condK_false, execW_block_eq, blockK_exit, blockK_normal, blockK_ret, execW_region_eq, regK_eq, execW_skip, execW_exit, execW_ret, regionA_plain, regionA_quiet0, tailK_eq, nilCheckA, guardOk, isConst, lookupA, keyFits, mapUpdateA, beqI, bneI, AS.get_push_at, AS.get_push_old, AS.push_len, AS.set_st_len, AS.next_st', AS.set_push_at, AS.get_set_self, AS.get_set_other, cr, Try.f8, hlen, hcx, f0, f3, g3, hc, regionA_quiet] at hr
  subst hr
  refine ⟨_, rfl, by simp [hlen], by simp [Env.get_set, hlen, f0, f3, g3, hc, regionA_quiet], fun i hi => ?_⟩
  simp only [List.mem_cons, List.not_mem_nil, or_false, not_or] at hi
  obtain ⟨x0, x1, x2, x3, x4, x5, x6, x7, x8, x9, x10, x11, x12, x13, x14, x15, x16, x17, x18, x19, x20, x21, x22, x23, x24, x25, x26, x27, x28, x29, x30, x31, x32⟩ := hi
  simp [Env.get_set, Ne.symm x0, Ne.symm x1, Ne.symm x2, Ne.symm x3, Ne.symm x4, Ne.symm x5, Ne.symm x6, Ne.symm x7, Ne.symm x8, Ne.symm x9, Ne.symm x10, Ne.symm x11, Ne.symm x12, Ne.symm x13, Ne.symm x14, Ne.symm x15, Ne.symm x16, Ne.symm x17, Ne.symm x18, Ne.symm x19, Ne.symm x20, Ne.symm x21, Ne.symm x22, Ne.symm x23, Ne.symm x24, Ne.symm x25, Ne.symm x26, Ne.symm x27, Ne.symm x28, Ne.symm x29, Ne.symm x30, Ne.symm x31, Ne.symm x32]

theorem rEb (cx : Cx) (env : Env) (σ : AS) (a b : Nat) (v : Vt) (hlen : env.length = 71) (hcx : cx.esc = []) (f0 : Env.get env 0 = .ptr (.hp a) 0) (f3 : Env.get env 3 = .ptr (.st b) 0) (g3 : σ.get (.st b) = some (.cells (encV v).cells)) (hc : callW Try.prog how 22 [.agg [.int .u64 v.r, .int .i64 v.n]] σ cx.ro = some (.bool true, σ)) (q1 : v.s < 0) :
    ∃ env', execW Try.prog cx [2000007] (callW Try.prog how) (cr [.r, .l]) (env, σ) = some (.ret, (env', σ)) ∧ env'.length = 71 ∧ (Env.get env' 4 = .int .i64 1) ∧ ∀ i, i ∉ [4, 7, 8, 9, 10, 11, 12, 13, 14, 15, 16, 17, 18, 19, 20, 21, 22, 23, 24, 25, 26, 27, 28, 29, 30, 31, 32, 33, 34, 35, 36, 37, 38] → Env.get env' i = Env.get env i := by
  suffices h : ∀ res, execW Try.prog cx [2000007] (callW Try.prog how) (cr [.r, .l]) (env, σ) = res → ∃ env', res = some (.ret, (env', σ)) ∧ env'.length = 71 ∧ (Env.get env' 4 = .int .i64 1) ∧ ∀ i, i ∉ [4, 7, 8, 9, 10, 11, 12, 13, 14, 15, 16, 17, 18, 19, 20, 21, 22, 23, 24, 25, 26, 27, 28, 29, 30, 31, 32, 33, 34, 35, 36, 37, 38] → Env.get env' i = Env.get env i from h _ rfl
  intro res hr
  simp -implicitDefEqProofs [ofV, ofCell, ofCells, seqA_nil, seqA_cons, seqVK_eq, seqEK_eq, wantedA, yieldedA, isVal, effA, ev, evs, evps, putE, optsA, optsOk, valA, fieldAddrA, fieldA, loadA, partA, aggA, isAggD, buildA, placesA, fillA, lay, storeA, AV.withCells, buildSliceA, elemsA, rowParts, fzL, promL, okE, isSrc, bytesOk, pushA, cxOf, lenA, binA, intBinA, strBinA, unA, indexAddrA, eqA, AVs.inb, AV.inb, Loc.inb, calleeA, opsOf, sub, bodyOf, Env.get_set, quietA_nil, quietA_cons, quietK_none, quietK_some, qstep, newA, isNew, escNew, boxOk, newLoc, flat, rowPartsQ, quietN, quietOp, isBS, List.takeWhile, finishA_eq, finK_ret, finK_normal, retK, backK, resA, oneA, AV.back, AVs.back, execW_seq_eq, seqK_normal, seqK_ret, seqK_exit, execW_cond_eq, condK_true, condK_false, execW_block_eq, blockK_exit, blockK_normal, blockK_ret, execW_region_eq, regK_eq, execW_skip, execW_exit, execW_ret, regionA_plain, regionA_quiet0, tailK_eq, nilCheckA, guardOk, isConst, lookupA, keyFits, mapUpdateA, beqI, bneI, AS.get_push_at, AS.get_push_old, AS.push_len, AS.set_st_len, AS.next_st', AS.set_push_at, AS.get_set_self, AS.get_set_other, cr, Try.f8, hlen, hcx, f0, f3, g3, hc, q1, regionA_quiet] at hr
  subst hr
  refine ⟨_, rfl, by simp [hlen], by simp [Env.get_set, hlen, f0, f3, g3, hc, q1, regionA_quiet], fun i hi => ?_⟩
  simp only [List.mem_cons, List.not_mem_nil, or_false, not_or] at hi
  obtain ⟨x0, x1, x2, x3, x4, x5, x6, x7, x8, x9, x10, x11, x12, x13, x14, x15, x16, x17, x18, x19, x20, x21, x22, x23, x24, x25, x26, x27, x28, x29, x30, x31, x32⟩ := hi
  simp [Env.get_set, Ne.symm x0, Ne.symm x1, Ne.symm x2, Ne.symm x3, Ne.symm x4, Ne.symm x5, Ne.symm x6, Ne.symm x7, Ne.symm x8, Ne.symm x9, Ne.symm x10, Ne.symm x11, Ne.symm x12, Ne.symm x13, Ne.symm x14, Ne.symm x15, Ne.symm x16, Ne.symm x17, Ne.symm x18, Ne.symm x19, Ne.symm x20, Ne.symm x21, Ne.symm x22, Ne.symm x23, Ne.symm x24, Ne.symm x25, Ne.symm x26, Ne.symm x27, Ne.symm x28, Ne.symm x29, Ne.symm x30, Ne.symm x31, Ne.symm x32]

theorem rEc (cx : Cx) (env : Env) (σ : AS) (a b : Nat) (v : Vt) (hlen : env.length = 71) (hcx : cx.esc = []) (f0 : Env.get env 0 = .ptr (.hp a) 0) (f3 : Env.get env 3 = .ptr (.st b) 0) (g3 : σ.get (.st b) = some (.cells (encV v).cells)) (hc : callW Try.prog how 22 [.agg [.int .u64 v.r, .int .i64 v.n]] σ cx.ro = some (.bool true, σ)) (q1 : ¬ v.s < 0) (q2 : 1048576 < v.s) :
    ∃ env', execW Try.prog cx [2000007] (callW Try.prog how) (cr [.r, .l]) (env, σ) = some (.ret, (env', σ)) ∧ env'.length = 71 ∧ (Env.get env' 4 = .int .i64 1) ∧ ∀ i, i ∉ [4, 7, 8, 9, 10, 11, 12, 13, 14, 15, 16, 17, 18, 19, 20, 21, 22, 23, 24, 25, 26, 27, 28, 29, 30, 31, 32, 33, 34, 35, 36, 37, 38] → Env.get env' i = Env.get env i := by
  suffices h : ∀ res, execW Try.prog cx [2000007] (callW Try.prog how) (cr [.r, .l]) (env, σ) = res → ∃ env', res = some (.ret, (env', σ)) ∧ env'.length = 71 ∧ (Env.get env' 4 = .int .i64 1) ∧ ∀ i, i ∉ [4, 7, 8, 9, 10, 11, 12, 13, 14, 15, 16, 17, 18, 19, 20, 21, 22, 23, 24, 25, 26, 27, 28, 29, 30, 31, 32, 33, 34, 35, 36, 37, 38] → Env.get env' i = Env.get env i from h _ rfl
  intro res hr
  simp -implicitDefEqProofs [ofV, ofCell, ofCells, seqA_nil, seqA_cons, seqVK_eq, seqEK_eq, wantedA, yieldedA, isVal, effA, ev, evs, evps, putE, optsA, optsOk, valA, fieldAddrA, fieldA, loadA, partA, aggA, isAggD, buildA, placesA, fillA, lay, storeA, AV.withCells, buildSliceA, elemsA, rowParts, fzL, promL, okE, isSrc, bytesOk, pushA, cxOf, lenA, binA, intBinA, strBinA, unA, indexAddrA, eqA, AVs.inb, AV.inb, Loc.inb, calleeA, opsOf, sub, bodyOf, Env.get_set, quietA_nil, quietA_cons, quietK_none, quietK_some, qstep, newA, isNew, escNew, boxOk, newLoc, flat, rowPartsQ, quietN, quietOp, isBS, List.takeWhile, finishA_eq, finK_ret, finK_normal, retK, backK, resA, oneA, AV.back, AVs.back, execW_seq_eq, seqK_normal, seqK_ret, seqK_exit, execW_cond_eq, condK_true, condK_false, execW_block_eq, blockK_exit, blockK_normal, blockK_ret, execW_region_eq, regK_eq, execW_skip, execW_exit, execW_ret, regionA_plain, regionA_quiet0, tailK_eq, nilCheckA, guardOk, isConst, lookupA, keyFits, mapUpdateA, beqI, bneI, AS.get_push_at, AS.get_push_old, AS.push_len, AS.set_st_len, AS.next_st', AS.set_push_at, AS.get_set_self, AS.get_set_other, cr, Try.f8, hlen, hcx, f0, f3, g3, hc, q1, q2, regionA_quiet] at hr
  subst hr
  refine ⟨_, rfl, by simp [hlen], by simp [Env.get_set, hlen, f0, f3, g3, hc, q1, q2, regionA_quiet], fun i hi => ?_⟩
  simp only [List.mem_cons, List.not_mem_nil, or_false, not_or] at hi
  obtain ⟨x0, x1, x2, x3, x4, x5, x6, x7, x8, x9, x10, x11, x12, x13, x14, x15, x16, x17, x18, x19, x20, x21, x22, x23, x24, x25, x26, x27, x28, x29, x30, x31, x32⟩ := hi
  simp [Env.get_set, Ne.symm x0, Ne.symm x1, Ne.symm x2, Ne.symm x3, Ne.symm x4, Ne.symm x5, Ne.symm x6, Ne.symm x7, Ne.symm x8, Ne.symm x9, Ne.symm x10, Ne.symm x11, Ne.symm x12, Ne.symm x13, Ne.symm x14, Ne.symm x15, Ne.symm x16, Ne.symm x17, Ne.symm x18, Ne.symm x19, Ne.symm x20, Ne.symm x21, Ne.symm x22, Ne.symm x23, Ne.symm x24, Ne.symm x25, Ne.symm x26, Ne.symm x27, Ne.symm x28, Ne.symm x29, Ne.symm x30, Ne.symm x31, Ne.symm x32]

theorem rEd (cx : Cx) (env : Env) (σ : AS) (a b : Nat) (v : Vt) (hlen : env.length = 71) (hcx : cx.esc = []) (f0 : Env.get env 0 = .ptr (.hp a) 0) (f3 : Env.get env 3 = .ptr (.st b) 0) (g3 : σ.get (.st b) = some (.cells (encV v).cells)) (hc : callW Try.prog how 22 [.agg [.int .u64 v.r, .int .i64 v.n]] σ cx.ro = some (.bool true, σ)) (q1 : ¬ v.s < 0) (q2 : ¬ 1048576 < v.s) (q3 : (64 : Int) < (v.v.size : Int)) :
    ∃ env', execW Try.prog cx [2000007] (callW Try.prog how) (cr [.r, .l]) (env, σ) = some (.ret, (env', σ)) ∧ env'.length = 71 ∧ (Env.get env' 4 = .int .i64 1) ∧ ∀ i, i ∉ [4, 7, 8, 9, 10, 11, 12, 13, 14, 15, 16, 17, 18, 19, 20, 21, 22, 23, 24, 25, 26, 27, 28, 29, 30, 31, 32, 33, 34, 35, 36, 37, 38] → Env.get env' i = Env.get env i := by
  suffices h : ∀ res, execW Try.prog cx [2000007] (callW Try.prog how) (cr [.r, .l]) (env, σ) = res → ∃ env', res = some (.ret, (env', σ)) ∧ env'.length = 71 ∧ (Env.get env' 4 = .int .i64 1) ∧ ∀ i, i ∉ [4, 7, 8, 9, 10, 11, 12, 13, 14, 15, 16, 17, 18, 19, 20, 21, 22, 23, 24, 25, 26, 27, 28, 29, 30, 31, 32, 33, 34, 35, 36, 37, 38] → Env.get env' i = Env.get env i from h _ rfl
  intro res hr
  simp -implicitDefEqProofs [ofV, ofCell, ofCells, seqA_nil, seqA_cons, seqVK_eq, seqEK_eq, wantedA, yieldedA, isVal, effA, ev, evs, evps, putE, optsA, optsOk, valA, fieldAddrA, fieldA, loadA, partA, aggA, isAggD, buildA, placesA, fillA, lay, storeA, AV.withCells, buildSliceA, elemsA, rowParts, fzL, promL, okE, isSrc, bytesOk, pushA, cxOf, lenA, binA, intBinA, strBinA, unA, indexAddrA, eqA, AVs.inb, AV.inb, Loc.inb, calleeA, opsOf, sub, bodyOf, Env.get_set, quietA_nil, quietA_cons, quietK_none, quietK_some, qstep, newA, isNew, escNew, boxOk, newLoc, flat, rowPartsQ, quietN, quietOp, isBS, List.takeWhile, finishA_eq, finK_ret, finK_normal, retK, backK, resA, oneA, AV.back, AVs.back, execW_seq_eq, seqK_normal, seqK_ret, seqK_exit, execW_cond_eq, condK_true, condK_false, execW_block_eq, blockK_exit, blockK_normal, blockK_ret, execW_region_eq, regK_eq, execW_skip, execW_exit, execW_ret, regionA_plain, regionA_quiet0, tailK_eq, nilCheckA, guardOk, isConst, lookupA, keyFits, mapUpdateA, beqI, bneI, AS.get_push_at, AS.get_push_old, AS.push_len, AS.set_st_len, AS.next_st', AS.set_push_at, AS.get_set_self, AS.get_set_other, cr, Try.f8, hlen, hcx, f0, f3, g3, hc, q1, q2, q3, regionA_quiet] at hr
  subst hr
  refine ⟨_, rfl, by simp [hlen], by simp [Env.get_set, hlen, f0, f3, g3, hc, q1, q2, q3, regionA_quiet], fun i hi => ?_⟩
  simp only [List.mem_cons, List.not_mem_nil, or_false, not_or] at hi
  obtain ⟨x0, x1, x2, x3, x4, x5, x6, x7, x8, x9, x10, x11, x12, x13, x14, x15, x16, x17, x18, x19, x20, x21, x22, x23, x24, x25, x26, x27, x28, x29, x30, x31, x32⟩ := hi
  simp [Env.get_set, Ne.symm x0, Ne.symm x1, Ne.symm x2, Ne.symm x3, Ne.symm x4, Ne.symm x5, Ne.symm x6, Ne.symm x7, Ne.symm x8, Ne.symm x9, Ne.symm x10, Ne.symm x11, Ne.symm x12, Ne.symm x13, Ne.symm x14, Ne.symm x15, Ne.symm x16, Ne.symm x17, Ne.symm x18, Ne.symm x19, Ne.symm x20, Ne.symm x21, Ne.symm x22, Ne.symm x23, Ne.symm x24, Ne.symm x25, Ne.symm x26, Ne.symm x27, Ne.symm x28, Ne.symm x29, Ne.symm x30, Ne.symm x31, Ne.symm x32]

theorem rOld (cx : Cx) (env : Env) (σ : AS) (a b : Nat) (v : Vt) (pr pn : Int) (X : AV) (hlen : env.length = 71) (hcx : cx.esc = []) (f0 : Env.get env 0 = .ptr (.hp a) 0) (f3 : Env.get env 3 = .ptr (.st b) 0) (g3 : σ.get (.st b) = some (.cells (encV v).cells)) (hc : callW Try.prog how 22 [.agg [.int .u64 v.r, .int .i64 v.n]] σ cx.ro = some (.bool true, σ)) (q1 : ¬ v.s < 0) (q2 : ¬ 1048576 < v.s) (q3 : ¬ (64 : Int) < (v.v.size : Int)) (hA : σ.get (.hp a) = some (.cells [.int .u64 pr, .int .i64 pn, X])) (hc2 : callW Try.prog how 23 [.agg [.int .u64 v.r, .int .i64 v.n], .agg [.int .u64 pr, .int .i64 pn]] σ (some σ.st.length) = some (.bool true, σ)) :
    ∃ env', execW Try.prog cx [2000007] (callW Try.prog how) (cr [.r, .l]) (env, σ) = some (.ret, (env', σ)) ∧ env'.length = 71 ∧ (Env.get env' 4 = .int .i64 13) ∧ ∀ i, i ∉ [4, 7, 8, 9, 10, 11, 12, 13, 14, 15, 16, 17, 18, 19, 20, 21, 22, 23, 24, 25, 26, 27, 28, 29, 30, 31, 32, 33, 34, 35, 36, 37, 38] → Env.get env' i = Env.get env i := by
  suffices h : ∀ res, execW Try.prog cx [2000007] (callW Try.prog how) (cr [.r, .l]) (env, σ) = res → ∃ env', res = some (.ret, (env', σ)) ∧ env'.length = 71 ∧ (Env.get env' 4 = .int .i64 13) ∧ ∀ i, i ∉ [4, 7, 8, 9, 10, 11, 12, 13, 14, 15, 16, 17, 18, 19, 20, 21, 22, 23, 24, 25, 26, 27, 28, 29, 30, 31, 32, 33, 34, 35, 36, 37, 38] → Env.get env' i = Env.get env i from h _ rfl
  intro res hr
  simp -implicitDefEqProofs [ofV, ofCell, ofCells, seqA_nil, seqA_cons, seqVK_eq, seqEK_eq, wantedA, yieldedA, isVal, effA, ev, evs, evps, putE, optsA, optsOk, valA, fieldAddrA, fieldA, loadA, partA, aggA, isAggD, buildA, placesA, fillA, lay, storeA, AV.withCells, buildSliceA, elemsA, rowParts, fzL, promL, okE, isSrc, bytesOk, pushA, cxOf, lenA, binA, intBinA, strBinA, unA, indexAddrA, eqA, AVs.inb, AV.inb, Loc.inb, calleeA, opsOf, sub, bodyOf, Env.get_set, quietA_nil, quietA_cons, quietK_none, quietK_some, qstep, newA, isNew, escNew, boxOk, newLoc, flat, rowPartsQ, quietN, quietOp, isBS, List.takeWhile, finishA_eq, finK_ret, finK_normal, retK, backK, resA, oneA, AV.back, AVs.back, execW_seq_eq, seqK_normal, seqK_ret, seqK_exit, execW_cond_eq, condK_true, condK_false, execW_block_eq, blockK_exit, blockK_normal, blockK_ret, execW_region_eq, regK_eq, execW_skip, execW_exit, execW_ret, regionA_plain, regionA_quiet0, tailK_eq, nilCheckA, guardOk, isConst, lookupA, keyFits, mapUpdateA, beqI, bneI, AS.get_push_at, AS.get_push_old, AS.push_len, AS.set_st_len, AS.next_st', AS.set_push_at, AS.get_set_self, AS.get_set_other, cr, Try.f8, hlen, hcx, f0, f3, g3, hc, q1, q2, q3, hA, hc2, regionA_quiet] at hr
  subst hr
  refine ⟨_, rfl, by simp [hlen], by simp [Env.get_set, hlen, f0, f3, g3, hc, q1, q2, q3, hA, hc2, regionA_quiet], fun i hi => ?_⟩
  simp only [List.mem_cons, List.not_mem_nil, or_false, not_or] at hi
  obtain ⟨x0, x1, x2, x3, x4, x5, x6, x7, x8, x9, x10, x11, x12, x13, x14, x15, x16, x17, x18, x19, x20, x21, x22, x23, x24, x25, x26, x27, x28, x29, x30, x31, x32⟩ := hi
  simp [Env.get_set, Ne.symm x0, Ne.symm x1, Ne.symm x2, Ne.symm x3, Ne.symm x4, Ne.symm x5, Ne.symm x6, Ne.symm x7, Ne.symm x8, Ne.symm x9, Ne.symm x10, Ne.symm x11, Ne.symm x12, Ne.symm x13, Ne.symm x14, Ne.symm x15, Ne.symm x16, Ne.symm x17, Ne.symm x18, Ne.symm x19, Ne.symm x20, Ne.symm x21, Ne.symm x22, Ne.symm x23, Ne.symm x24, Ne.symm x25, Ne.symm x26, Ne.symm x27, Ne.symm x28, Ne.symm x29, Ne.symm x30, Ne.symm x31, Ne.symm x32]

theorem rOk (cx : Cx) (env : Env) (σ : AS) (a b : Nat) (v : Vt) (pr pn : Int) (X : AV) (hlen : env.length = 71) (hcx : cx.esc = []) (f0 : Env.get env 0 = .ptr (.hp a) 0) (f3 : Env.get env 3 = .ptr (.st b) 0) (g3 : σ.get (.st b) = some (.cells (encV v).cells)) (hc : callW Try.prog how 22 [.agg [.int .u64 v.r, .int .i64 v.n]] σ cx.ro = some (.bool true, σ)) (q1 : ¬ v.s < 0) (q2 : ¬ 1048576 < v.s) (q3 : ¬ (64 : Int) < (v.v.size : Int)) (hA : σ.get (.hp a) = some (.cells [.int .u64 pr, .int .i64 pn, X])) (hc2 : callW Try.prog how 23 [.agg [.int .u64 v.r, .int .i64 v.n], .agg [.int .u64 pr, .int .i64 pn]] σ (some σ.st.length) = some (.bool false, σ)) :
    ∃ env', execW Try.prog cx [2000007] (callW Try.prog how) (cr [.r, .l]) (env, σ) = some (.normal, (env', σ)) ∧ env'.length = 71 ∧ (True) ∧ ∀ i, i ∉ [7, 8, 9, 10, 11, 12, 13, 14, 15, 16, 17, 18, 19, 20, 21, 22, 23, 24, 25, 26, 27, 28, 29, 30, 31, 32, 33, 34, 35, 36, 37, 38] → Env.get env' i = Env.get env i := by
  suffices h : ∀ res, execW Try.prog cx [2000007] (callW Try.prog how) (cr [.r, .l]) (env, σ) = res → ∃ env', res = some (.normal, (env', σ)) ∧ env'.length = 71 ∧ (True) ∧ ∀ i, i ∉ [7, 8, 9, 10, 11, 12, 13, 14, 15, 16, 17, 18, 19, 20, 21, 22, 23, 24, 25, 26, 27, 28, 29, 30, 31, 32, 33, 34, 35, 36, 37, 38] → Env.get env' i = Env.get env i from h _ rfl
  intro res hr
  simp -implicitDefEqProofs [ofV, ofCell, ofCells, seqA_nil, seqA_cons, seqVK_eq, seqEK_eq, wantedA, yieldedA, isVal, effA, ev, evs, evps, putE, optsA, optsOk, valA, fieldAddrA, fieldA, loadA, partA, aggA, isAggD, buildA, placesA, fillA, lay, storeA, AV.withCells, buildSliceA, elemsA, rowParts, fzL, promL, okE, isSrc, bytesOk, pushA, cxOf, lenA, binA, intBinA, strBinA, unA, indexAddrA, eqA, AVs.inb, AV.inb, Loc.inb, calleeA, opsOf, sub, bodyOf, Env.get_set, quietA_nil, quietA_cons, quietK_none, quietK_some, qstep, newA, isNew, escNew, boxOk, newLoc, flat, rowPartsQ, quietN, quietOp, isBS, List.takeWhile, finishA_eq, finK_ret, finK_normal, retK, backK, resA, oneA, AV.back, AVs.back, execW_seq_eq, seqK_normal, seqK_ret, seqK_exit, execW_cond_eq, condK_true, condK_false, execW_block_eq, blockK_exit, blockK_normal, blockK_ret, execW_region_eq, regK_eq, execW_skip, execW_exit, execW_ret, regionA_plain, regionA_quiet0, tailK_eq, nilCheckA, guardOk, isConst, lookupA, keyFits, mapUpdateA, beqI, bneI, AS.get_push_at, AS.get_push_old, AS.push_len, AS.set_st_len, AS.next_st', AS.set_push_at, AS.get_set_self, AS.get_set_other, cr, Try.f8, hlen, hcx, f0, f3, g3, hc, q1, q2, q3, hA, hc2, regionA_quiet] at hr
  subst hr
  refine ⟨_, rfl, by simp [hlen], by simp [Env.get_set, hlen, f0, f3, g3, hc, q1, q2, q3, hA, hc2, regionA_quiet], fun i hi => ?_⟩
  simp only [List.mem_cons, List.not_mem_nil, or_false, not_or] at hi
  obtain ⟨x0, x1, x2, x3, x4, x5, x6, x7, x8, x9, x10, x11, x12, x13, x14, x15, x16, x17, x18, x19, x20, x21, x22, x23, x24, x25, x26, x27, x28, x29, x30, x31⟩ := hi
  simp [Env.get_set, Ne.symm x0, Ne.symm x1, Ne.symm x2, Ne.symm x3, Ne.symm x4, Ne.symm x5, Ne.symm x6, Ne.symm x7, Ne.symm x8, Ne.symm x9, Ne.symm x10, Ne.symm x11, Ne.symm x12, Ne.symm x13, Ne.symm x14, Ne.symm x15, Ne.symm x16, Ne.symm x17, Ne.symm x18, Ne.symm x19, Ne.symm x20, Ne.symm x21, Ne.symm x22, Ne.symm x23, Ne.symm x24, Ne.symm x25, Ne.symm x26, Ne.symm x27, Ne.symm x28, Ne.symm x29, Ne.symm x30, Ne.symm x31]

noncomputable def rM1_q : List Oper := opsOf (cr [.r, .r, .l, .l])
def rM1_plan : List (Nat × List Nat) := [(0, []), (0, []), (0, []), (1, []), (0, []), (1, []), (1, []), (0, []), (0, []), (0, []), (3, [0]), (4, []), (0, [])]
theorem rM1_reg : (cr [.r, .r, .l, .l]) = .region 7 rM1_q.toArray true := by kernel_rfl
theorem rM1_ok (h : Nat) (ro : Option Nat) : planOk Try.prog (Cx.mk h ro []) rM1_q rM1_plan = true := by kernel_rfl
theorem rM1_lt : anyLT Try.prog rM1_q = false := by kernel_rfl
theorem rM1_room (h : Nat) (ro : Option Nat) : roomL Try.prog (Cx.mk h ro []) rM1_q = 1 := by kernel_rfl
theorem rM1 (h : Nat) (ro : Option Nat) (hp s : List AObj) (env : Env) (a b m : Nat) (v x : Vt) (pr pn : Int) (es : List (AV × AV)) (hlen : env.length = 71) (f0 : Env.get env 0 = .ptr (.hp a) 0) (f3 : Env.get env 3 = .ptr (.st b) 0) (g3 : (AS.mk hp s).get (.st b) = some (.cells (encV v).cells)) (hA : hp[a]? = some (.cells [.int .u64 pr, .int .i64 pn, .map (.hp m)])) (hM : hp[m]? = some (.map es)) (hh : h ≤ s.length) (hw : wok ro (.st s.length) = true) (hf : findA (.int .i64 v.s) es = some (some (.agg [.int .i64 x.s, .int .u64 x.r, .int .i64 x.n, .str x.v]))) :
    ∃ env', execW Try.prog (Cx.mk h ro []) [2000007] (callW Try.prog how) (cr [.r, .r, .l, .l]) (env, ⟨hp, s⟩) = some (.normal, (env', AS.mk (hp) (s ++ [.cells (encV x).cells]))) ∧ env'.length = 71 ∧ (Env.get env' 6 = .bool true) ∧ ∀ i, i ∉ [5, 6, 39, 40, 41, 42, 43, 44, 45, 46, 47, 48] → Env.get env' i = Env.get env i := by
  suffices hh : ∀ res, execW Try.prog (Cx.mk h ro []) [2000007] (callW Try.prog how) (cr [.r, .r, .l, .l]) (env, ⟨hp, s⟩) = res → ∃ env', res = some (.normal, (env', AS.mk (hp) (s ++ [.cells (encV x).cells]))) ∧ env'.length = 71 ∧ (Env.get env' 6 = .bool true) ∧ ∀ i, i ∉ [5, 6, 39, 40, 41, 42, 43, 44, 45, 46, 47, 48] → Env.get env' i = Env.get env i from hh _ rfl
  intro res hr
  have hroom := rM1_room h ro
  rw [rM1_reg, execW_region_eq] at hr
  rw [show (rM1_q.toArray).toList = rM1_q from rfl, regionA_mix rfl rfl] at hr
  rw [mixA_plan1 (rM1_ok h ro) rM1_lt, layL1 hroom] at hr
  simp -implicitDefEqProofs [rM1_plan, ofV, ofCell, ofCells, seqA_nil, seqA_cons, seqVK_eq, seqEK_eq, wantedA, yieldedA, isVal, effA, ev, evs, evps, putE, optsA, optsOk, valA, fieldAddrA, fieldA, loadA, partA, aggA, isAggD, buildA, placesA, fillA, lay, storeA, AV.withCells, buildSliceA, elemsA, rowParts, fzL, promL, okE, isSrc, bytesOk, pushA, cxOf, lenA, binA, intBinA, strBinA, unA, indexAddrA, eqA, AVs.inb, AV.inb, Loc.inb, calleeA, opsOf, sub, bodyOf, Env.get_set, quietA_nil, quietA_cons, quietK_none, quietK_some, qstep, newA, isNew, escNew, boxOk, newLoc, flat, rowPartsQ, quietN, quietOp, isBS, List.takeWhile, finishA_eq, finK_ret, finK_normal, retK, backK, resA, oneA, AV.back, AVs.back, execW_seq_eq, seqK_normal, seqK_ret, seqK_exit, execW_cond_eq, condK_true, condK_false, execW_block_eq, blockK_exit, blockK_normal, blockK_ret, execW_region_eq, regK_eq, execW_skip, execW_exit, execW_ret, regionA_plain, regionA_quiet0, tailK_eq, nilCheckA, guardOk, isConst, lookupA, keyFits, mapUpdateA, beqI, bneI, mixL_nil, mixL_cons, mixK_eq, tK_pre, tK_eq, vK_eq, stepL_0, stepL_1n, stepL_1s, stepL_2, stepL_3, stepL_4, newL, tchkL, agreeB, Op.operands, sameO, truncM, beq_bool, beq_int, beq_str, beq_nilp, beq_ptr, beq_eptr, beq_nils, beq_row, beq_nilm, beq_map, beq_agg, beq_sl, beqs_nil, beqs_cons, rM1_q, cr, Try.f8, hlen, f0, f3, g3, hA, hM, hf, hh, hw] at hr
  subst hr
  refine ⟨_, rfl, by simp [hlen], by simp [Env.get_set, hlen, f0, f3, g3, hA, hM, hf, hh, hw], fun i hi => ?_⟩
  simp only [List.mem_cons, List.not_mem_nil, or_false, not_or] at hi
  obtain ⟨x0, x1, x2, x3, x4, x5, x6, x7, x8, x9, x10, x11⟩ := hi
  simp [Env.get_set, Ne.symm x0, Ne.symm x1, Ne.symm x2, Ne.symm x3, Ne.symm x4, Ne.symm x5, Ne.symm x6, Ne.symm x7, Ne.symm x8, Ne.symm x9, Ne.symm x10, Ne.symm x11]

noncomputable def rM0_q : List Oper := opsOf (cr [.r, .r, .l, .l])
def rM0_plan : List (Nat × List Nat) := [(0, []), (0, []), (0, []), (1, []), (0, []), (1, []), (1, []), (0, []), (0, []), (0, []), (3, [0]), (4, []), (0, [])]
theorem rM0_reg : (cr [.r, .r, .l, .l]) = .region 7 rM0_q.toArray true := by kernel_rfl
theorem rM0_ok (h : Nat) (ro : Option Nat) : planOk Try.prog (Cx.mk h ro []) rM0_q rM0_plan = true := by kernel_rfl
theorem rM0_lt : anyLT Try.prog rM0_q = false := by kernel_rfl
theorem rM0_room (h : Nat) (ro : Option Nat) : roomL Try.prog (Cx.mk h ro []) rM0_q = 1 := by kernel_rfl
theorem rM0 (h : Nat) (ro : Option Nat) (hp s : List AObj) (env : Env) (a b m : Nat) (v : Vt) (pr pn : Int) (es : List (AV × AV)) (hlen : env.length = 71) (f0 : Env.get env 0 = .ptr (.hp a) 0) (f3 : Env.get env 3 = .ptr (.st b) 0) (g3 : (AS.mk hp s).get (.st b) = some (.cells (encV v).cells)) (hA : hp[a]? = some (.cells [.int .u64 pr, .int .i64 pn, .map (.hp m)])) (hM : hp[m]? = some (.map es)) (hh : h ≤ s.length) (hw : wok ro (.st s.length) = true) (hf : findA (.int .i64 v.s) es = some none) :
    ∃ env', execW Try.prog (Cx.mk h ro []) [2000007] (callW Try.prog how) (cr [.r, .r, .l, .l]) (env, ⟨hp, s⟩) = some (.normal, (env', AS.mk (hp) (s ++ [.cells [.int .i64 0, .int .u64 0, .int .i64 0, .str ⟨#[]⟩]]))) ∧ env'.length = 71 ∧ (Env.get env' 6 = .bool false) ∧ ∀ i, i ∉ [5, 6, 39, 40, 41, 42, 43, 44, 45, 46, 47, 48] → Env.get env' i = Env.get env i := by
  suffices hh : ∀ res, execW Try.prog (Cx.mk h ro []) [2000007] (callW Try.prog how) (cr [.r, .r, .l, .l]) (env, ⟨hp, s⟩) = res → ∃ env', res = some (.normal, (env', AS.mk (hp) (s ++ [.cells [.int .i64 0, .int .u64 0, .int .i64 0, .str ⟨#[]⟩]]))) ∧ env'.length = 71 ∧ (Env.get env' 6 = .bool false) ∧ ∀ i, i ∉ [5, 6, 39, 40, 41, 42, 43, 44, 45, 46, 47, 48] → Env.get env' i = Env.get env i from hh _ rfl
  intro res hr
  have hroom := rM0_room h ro
  rw [rM0_reg, execW_region_eq] at hr
  rw [show (rM0_q.toArray).toList = rM0_q from rfl, regionA_mix rfl rfl] at hr
  rw [mixA_plan1 (rM0_ok h ro) rM0_lt, layL1 hroom] at hr
  simp -implicitDefEqProofs [rM0_plan, ofV, ofCell, ofCells, seqA_nil, seqA_cons, seqVK_eq, seqEK_eq, wantedA, yieldedA, isVal, effA, ev, evs, evps, putE, optsA, optsOk, valA, fieldAddrA, fieldA, loadA, partA, aggA, isAggD, buildA, placesA, fillA, lay, storeA, AV.withCells, buildSliceA, elemsA, rowParts, fzL, promL, okE, isSrc, bytesOk, pushA, cxOf, lenA, binA, intBinA, strBinA, unA, indexAddrA, eqA, AVs.inb, AV.inb, Loc.inb, calleeA, opsOf, sub, bodyOf, Env.get_set, quietA_nil, quietA_cons, quietK_none, quietK_some, qstep, newA, isNew, escNew, boxOk, newLoc, flat, rowPartsQ, quietN, quietOp, isBS, List.takeWhile, finishA_eq, finK_ret, finK_normal, retK, backK, resA, oneA, AV.back, AVs.back, execW_seq_eq, seqK_normal, seqK_ret, seqK_exit, execW_cond_eq, condK_true, condK_false, execW_block_eq, blockK_exit, blockK_normal, blockK_ret, execW_region_eq, regK_eq, execW_skip, execW_exit, execW_ret, regionA_plain, regionA_quiet0, tailK_eq, nilCheckA, guardOk, isConst, lookupA, keyFits, mapUpdateA, beqI, bneI, mixL_nil, mixL_cons, mixK_eq, tK_pre, tK_eq, vK_eq, stepL_0, stepL_1n, stepL_1s, stepL_2, stepL_3, stepL_4, newL, tchkL, agreeB, Op.operands, sameO, truncM, beq_bool, beq_int, beq_str, beq_nilp, beq_ptr, beq_eptr, beq_nils, beq_row, beq_nilm, beq_map, beq_agg, beq_sl, beqs_nil, beqs_cons, rM0_q, cr, Try.f8, hlen, f0, f3, g3, hA, hM, hf, hh, hw] at hr
  subst hr
  refine ⟨_, rfl, by simp [hlen], by simp [Env.get_set, hlen, f0, f3, g3, hA, hM, hf, hh, hw], fun i hi => ?_⟩
  simp only [List.mem_cons, List.not_mem_nil, or_false, not_or] at hi
  obtain ⟨x0, x1, x2, x3, x4, x5, x6, x7, x8, x9, x10, x11⟩ := hi
  simp [Env.get_set, Ne.symm x0, Ne.symm x1, Ne.symm x2, Ne.symm x3, Ne.symm x4, Ne.symm x5, Ne.symm x6, Ne.symm x7, Ne.symm x8, Ne.symm x9, Ne.symm x10, Ne.symm x11]

theorem rNt (cx : Cx) (env : Env) (σ : AS)  (hlen : env.length = 71) (hcx : cx.esc = []) (f6 : Env.get env 6 = .bool true) :
    ∃ env', execW Try.prog cx [2000007] (callW Try.prog how) (cr [.r, .r, .l, .r]) (env, σ) = some (.normal, (env', σ)) ∧ env'.length = 71 ∧ (True) ∧ ∀ i, i ∉ [49, 50, 51, 52, 53, 54, 55, 56, 57, 58] → Env.get env' i = Env.get env i := by
  suffices h : ∀ res, execW Try.prog cx [2000007] (callW Try.prog how) (cr [.r, .r, .l, .r]) (env, σ) = res → ∃ env', res = some (.normal, (env', σ)) ∧ env'.length = 71 ∧ (True) ∧ ∀ i, i ∉ [49, 50, 51, 52, 53, 54, 55, 56, 57, 58] → Env.get env' i = Env.get env i from h _ rfl
  intro res hr
  simp -implicitDefEqProofs [ofV, ofCell, ofCells, seqA_nil, seqA_cons, seqVK_eq, seqEK_eq, wantedA, yieldedA, isVal, effA, ev, evs, evps, putE, optsA, optsOk, valA, fieldAddrA, fieldA, loadA, partA, aggA, isAggD, buildA, placesA, fillA, lay, storeA, AV.withCells, buildSliceA, elemsA, rowParts, fzL, promL, okE, isSrc, bytesOk, pushA, cxOf, lenA, binA, intBinA, strBinA, unA, indexAddrA, eqA, AVs.inb, AV.inb, Loc.inb, calleeA, opsOf, sub, bodyOf, Env.get_set, quietA_nil, quietA_cons, quietK_none, quietK_some, qstep, newA, isNew, escNew, boxOk, newLoc, flat, rowPartsQ, quietN, quietOp, isBS, List.takeWhile, finishA_eq, finK_ret, finK_normal, retK, backK, resA, oneA, AV.back, AVs.back, execW_seq_eq, seqK_normal, seqK_ret, seqK_exit, execW_cond_eq, condK_true, condK_false, execW_block_eq, blockK_exit, blockK_normal, blockK_ret, execW_region_eq, regK_eq, execW_skip, execW_exit, execW_ret, regionA_plain, regionA_quiet0, tailK_eq, nilCheckA, guardOk, isConst, lookupA, keyFits, mapUpdateA, beqI, bneI, AS.get_push_at, AS.get_push_old, AS.push_len, AS.set_st_len, AS.next_st', AS.set_push_at, AS.get_set_self, AS.get_set_other, cr, Try.f8, hlen, hcx, f6] at hr
  subst hr
  refine ⟨_, rfl, by simp [hlen], by simp [Env.get_set, hlen, f6], fun i hi => ?_⟩
  simp only [List.mem_cons, List.not_mem_nil, or_false, not_or] at hi
  obtain ⟨x0, x1, x2, x3, x4, x5, x6, x7, x8, x9⟩ := hi
  simp [Env.get_set, Ne.symm x0, Ne.symm x1, Ne.symm x2, Ne.symm x3, Ne.symm x4, Ne.symm x5, Ne.symm x6, Ne.symm x7, Ne.symm x8, Ne.symm x9]

theorem rNf (cx : Cx) (env : Env) (σ : AS) (a m : Nat) (pr pn : Int) (es : List (AV × AV)) (hlen : env.length = 71) (hcx : cx.esc = []) (f0 : Env.get env 0 = .ptr (.hp a) 0) (f6 : Env.get env 6 = .bool false) (hA : σ.get (.hp a) = some (.cells [.int .u64 pr, .int .i64 pn, .map (.hp m)])) (hM : σ.get (.hp m) = some (.map es)) (q : ¬ (400 : Int) ≤ (es.length : Int)) :
    ∃ env', execW Try.prog cx [2000007] (callW Try.prog how) (cr [.r, .r, .l, .r]) (env, σ) = some (.normal, (env', σ)) ∧ env'.length = 71 ∧ (True) ∧ ∀ i, i ∉ [49, 50, 51, 52, 53, 54, 55, 56, 57, 58] → Env.get env' i = Env.get env i := by
  suffices h : ∀ res, execW Try.prog cx [2000007] (callW Try.prog how) (cr [.r, .r, .l, .r]) (env, σ) = res → ∃ env', res = some (.normal, (env', σ)) ∧ env'.length = 71 ∧ (True) ∧ ∀ i, i ∉ [49, 50, 51, 52, 53, 54, 55, 56, 57, 58] → Env.get env' i = Env.get env i from h _ rfl
  intro res hr
  simp -implicitDefEqProofs [ofV, ofCell, ofCells, seqA_nil, seqA_cons, seqVK_eq, seqEK_eq, wantedA, yieldedA, isVal, effA, ev, evs, evps, putE, optsA, optsOk, valA, fieldAddrA, fieldA, loadA, partA, aggA, isAggD, buildA, placesA, fillA, lay, storeA, AV.withCells, buildSliceA, elemsA, rowParts, fzL, promL, okE, isSrc, bytesOk, pushA, cxOf, lenA, binA, intBinA, strBinA, unA, indexAddrA, eqA, AVs.inb, AV.inb, Loc.inb, calleeA, opsOf, sub, bodyOf, Env.get_set, quietA_nil, quietA_cons, quietK_none, quietK_some, qstep, newA, isNew, escNew, boxOk, newLoc, flat, rowPartsQ, quietN, quietOp, isBS, List.takeWhile, finishA_eq, finK_ret, finK_normal, retK, backK, resA, oneA, AV.back, AVs.back, execW_seq_eq, seqK_normal, seqK_ret, seqK_exit, execW_cond_eq, condK_true, condK_false, execW_block_eq, blockK_exit, blockK_normal, blockK_ret, execW_region_eq, regK_eq, execW_skip, execW_exit, execW_ret, regionA_plain, regionA_quiet0, tailK_eq, nilCheckA, guardOk, isConst, lookupA, keyFits, mapUpdateA, beqI, bneI, AS.get_push_at, AS.get_push_old, AS.push_len, AS.set_st_len, AS.next_st', AS.set_push_at, AS.get_set_self, AS.get_set_other, cr, Try.f8, hlen, hcx, f0, f6, hA, hM, q] at hr
  subst hr
  refine ⟨_, rfl, by simp [hlen], by simp [Env.get_set, hlen, f0, f6, hA, hM, q], fun i hi => ?_⟩
  simp only [List.mem_cons, List.not_mem_nil, or_false, not_or] at hi
  obtain ⟨x0, x1, x2, x3, x4, x5, x6, x7, x8, x9⟩ := hi
  simp [Env.get_set, Ne.symm x0, Ne.symm x1, Ne.symm x2, Ne.symm x3, Ne.symm x4, Ne.symm x5, Ne.symm x6, Ne.symm x7, Ne.symm x8, Ne.symm x9]

theorem rNx (cx : Cx) (env : Env) (σ : AS) (a m : Nat) (pr pn : Int) (es : List (AV × AV)) (hlen : env.length = 71) (hcx : cx.esc = []) (f0 : Env.get env 0 = .ptr (.hp a) 0) (f6 : Env.get env 6 = .bool false) (hA : σ.get (.hp a) = some (.cells [.int .u64 pr, .int .i64 pn, .map (.hp m)])) (hM : σ.get (.hp m) = some (.map es)) (q : (400 : Int) ≤ (es.length : Int)) :
    ∃ env', execW Try.prog cx [2000007] (callW Try.prog how) (cr [.r, .r, .l, .r]) (env, σ) = some (.ret, (env', σ)) ∧ env'.length = 71 ∧ (Env.get env' 4 = .int .i64 9) ∧ ∀ i, i ∉ [4, 49, 50, 51, 52, 53, 54, 55, 56, 57, 58] → Env.get env' i = Env.get env i := by
  suffices h : ∀ res, execW Try.prog cx [2000007] (callW Try.prog how) (cr [.r, .r, .l, .r]) (env, σ) = res → ∃ env', res = some (.ret, (env', σ)) ∧ env'.length = 71 ∧ (Env.get env' 4 = .int .i64 9) ∧ ∀ i, i ∉ [4, 49, 50, 51, 52, 53, 54, 55, 56, 57, 58] → Env.get env' i = Env.get env i from h _ rfl
  intro res hr
  simp -implicitDefEqProofs [ofV, ofCell, ofCells, seqA_nil, seqA_cons, seqVK_eq, seqEK_eq, wantedA, yieldedA, isVal, effA, ev, evs, evps, putE, optsA, optsOk, valA, fieldAddrA, fieldA, loadA, partA, aggA, isAggD, buildA, placesA, fillA, lay, storeA, AV.withCells, buildSliceA, elemsA, rowParts, fzL, promL, okE, isSrc, bytesOk, pushA, cxOf, lenA, binA, intBinA, strBinA, unA, indexAddrA, eqA, AVs.inb, AV.inb, Loc.inb, calleeA, opsOf, sub, bodyOf, Env.get_set, quietA_nil, quietA_cons, quietK_none, quietK_some, qstep, newA, isNew, escNew, boxOk, newLoc, flat, rowPartsQ, quietN, quietOp, isBS, List.takeWhile, finishA_eq, finK_ret, finK_normal, retK, backK, resA, oneA, AV.back, AVs.back, execW_seq_eq, seqK_normal, seqK_ret, seqK_exit, execW_cond_eq, condK_true, condK_false, execW_block_eq, blockK_exit, blockK_normal, blockK_ret, execW_region_eq, regK_eq, execW_skip, execW_exit, execW_ret, regionA_plain, regionA_quiet0, tailK_eq, nilCheckA, guardOk, isConst, lookupA, keyFits, mapUpdateA, beqI, bneI, AS.get_push_at, AS.get_push_old, AS.push_len, AS.set_st_len, AS.next_st', AS.set_push_at, AS.get_set_self, AS.get_set_other, cr, Try.f8, hlen, hcx, f0, f6, hA, hM, q] at hr
  subst hr
  refine ⟨_, rfl, by simp [hlen], by simp [Env.get_set, hlen, f0, f6, hA, hM, q], fun i hi => ?_⟩
  simp only [List.mem_cons, List.not_mem_nil, or_false, not_or] at hi
  obtain ⟨x0, x1, x2, x3, x4, x5, x6, x7, x8, x9, x10⟩ := hi
  simp [Env.get_set, Ne.symm x0, Ne.symm x1, Ne.symm x2, Ne.symm x3, Ne.symm x4, Ne.symm x5, Ne.symm x6, Ne.symm x7, Ne.symm x8, Ne.symm x9, Ne.symm x10]

theorem rP (cx : Cx) (env : Env) (σ : AS) (a b : Nat) (v : Vt) (pr pn : Int) (X : AV) (hlen : env.length = 71) (hcx : cx.esc = []) (f0 : Env.get env 0 = .ptr (.hp a) 0) (f3 : Env.get env 3 = .ptr (.st b) 0) (g3 : σ.get (.st b) = some (.cells (encV v).cells)) (hA : σ.get (.hp a) = some (.cells [.int .u64 pr, .int .i64 pn, X])) (hro0 : cx.ro = none) :
    ∃ env', execW Try.prog cx [2000007] (callW Try.prog how) (cr [.r, .r, .r, .l]) (env, σ) = some (.normal, (env', σ.set (.hp a) (.cells [.int .u64 v.r, .int .i64 v.n, X]))) ∧ env'.length = 71 ∧ (True) ∧ ∀ i, i ∉ [59, 60, 61, 62, 63] → Env.get env' i = Env.get env i := by
  suffices h : ∀ res, execW Try.prog cx [2000007] (callW Try.prog how) (cr [.r, .r, .r, .l]) (env, σ) = res → ∃ env', res = some (.normal, (env', σ.set (.hp a) (.cells [.int .u64 v.r, .int .i64 v.n, X]))) ∧ env'.length = 71 ∧ (True) ∧ ∀ i, i ∉ [59, 60, 61, 62, 63] → Env.get env' i = Env.get env i from h _ rfl
  intro res hr
  simp -implicitDefEqProofs [ofV, ofCell, ofCells, seqA_nil, seqA_cons, seqVK_eq, seqEK_eq, wantedA, yieldedA, isVal, effA, ev, evs, evps, putE, optsA, optsOk, valA, fieldAddrA, fieldA, loadA, partA, aggA, isAggD, buildA, placesA, fillA, lay, storeA, AV.withCells, buildSliceA, elemsA, rowParts, fzL, promL, okE, isSrc, bytesOk, pushA, cxOf, lenA, binA, intBinA, strBinA, unA, indexAddrA, eqA, AVs.inb, AV.inb, Loc.inb, calleeA, opsOf, sub, bodyOf, Env.get_set, quietA_nil, quietA_cons, quietK_none, quietK_some, qstep, newA, isNew, escNew, boxOk, newLoc, flat, rowPartsQ, quietN, quietOp, isBS, List.takeWhile, finishA_eq, finK_ret, finK_normal, retK, backK, resA, oneA, AV.back, AVs.back, execW_seq_eq, seqK_normal, seqK_ret, seqK_exit, execW_cond_eq, condK_true, condK_false, execW_block_eq, blockK_exit, blockK_normal, blockK_ret, execW_region_eq, regK_eq, execW_skip, execW_exit, execW_ret, regionA_plain, regionA_quiet0, tailK_eq, nilCheckA, guardOk, isConst, lookupA, keyFits, mapUpdateA, beqI, bneI, AS.get_push_at, AS.get_push_old, AS.push_len, AS.set_st_len, AS.next_st', AS.set_push_at, AS.get_set_self, AS.get_set_other, cr, Try.f8, hlen, hcx, f0, f3, g3, hA, hro0] at hr
  subst hr
  refine ⟨_, rfl, by simp [hlen], by simp [Env.get_set, hlen, f0, f3, g3, hA, hro0], fun i hi => ?_⟩
  simp only [List.mem_cons, List.not_mem_nil, or_false, not_or] at hi
  obtain ⟨x0, x1, x2, x3, x4⟩ := hi
  simp [Env.get_set, Ne.symm x0, Ne.symm x1, Ne.symm x2, Ne.symm x3, Ne.symm x4]

theorem rU (cx : Cx) (env : Env) (σ : AS) (a b m : Nat) (v : Vt) (pr pn : Int) (es es' : List (AV × AV)) (hlen : env.length = 71) (hcx : cx.esc = []) (f0 : Env.get env 0 = .ptr (.hp a) 0) (f3 : Env.get env 3 = .ptr (.st b) 0) (g3 : σ.get (.st b) = some (.cells (encV v).cells)) (hA : σ.get (.hp a) = some (.cells [.int .u64 pr, .int .i64 pn, .map (.hp m)])) (hM : σ.get (.hp m) = some (.map es)) (hro0 : cx.ro = none) (hput : putA (.int .i64 v.s) (.agg [.int .i64 v.s, .int .u64 v.r, .int .i64 v.n, .str v.v]) es = some es') :
    ∃ env', execW Try.prog cx [2000007] (callW Try.prog how) (cr [.r, .r, .r, .r, .l]) (env, σ) = some (.normal, (env', σ.set (.hp m) (.map es'))) ∧ env'.length = 71 ∧ (True) ∧ ∀ i, i ∉ [64, 65, 66, 67, 68, 69, 70] → Env.get env' i = Env.get env i := by
  suffices h : ∀ res, execW Try.prog cx [2000007] (callW Try.prog how) (cr [.r, .r, .r, .r, .l]) (env, σ) = res → ∃ env', res = some (.normal, (env', σ.set (.hp m) (.map es'))) ∧ env'.length = 71 ∧ (True) ∧ ∀ i, i ∉ [64, 65, 66, 67, 68, 69, 70] → Env.get env' i = Env.get env i from h _ rfl
  intro res hr
  simp -implicitDefEqProofs [ofV, ofCell, ofCells, seqA_nil, seqA_cons, seqVK_eq, seqEK_eq, wantedA, yieldedA, isVal, effA, ev, evs, evps, putE, optsA, optsOk, valA, fieldAddrA, fieldA, loadA, partA, aggA, isAggD, buildA, placesA, fillA, lay, storeA, AV.withCells, buildSliceA, elemsA, rowParts, fzL, promL, okE, isSrc, bytesOk, pushA, cxOf, lenA, binA, intBinA, strBinA, unA, indexAddrA, eqA, AVs.inb, AV.inb, Loc.inb, calleeA, opsOf, sub, bodyOf, Env.get_set, quietA_nil, quietA_cons, quietK_none, quietK_some, qstep, newA, isNew, escNew, boxOk, newLoc, flat, rowPartsQ, quietN, quietOp, isBS, List.takeWhile, finishA_eq, finK_ret, finK_normal, retK, backK, resA, oneA, AV.back, AVs.back, execW_seq_eq, seqK_normal, seqK_ret, seqK_exit, execW_cond_eq, condK_true, condK_false, execW_block_eq, blockK_exit, blockK_normal, blockK_ret, execW_region_eq, regK_eq, execW_skip, execW_exit, execW_ret, regionA_plain, regionA_quiet0, tailK_eq, nilCheckA, guardOk, isConst, lookupA, keyFits, mapUpdateA, beqI, bneI, AS.get_push_at, AS.get_push_old, AS.push_len, AS.set_st_len, AS.next_st', AS.set_push_at, AS.get_set_self, AS.get_set_other, cr, Try.f8, hlen, hcx, f0, f3, g3, hA, hM, hro0, hput, regionA_quiet] at hr
  subst hr
  refine ⟨_, rfl, by simp [hlen], by simp [Env.get_set, hlen, f0, f3, g3, hA, hM, hro0, hput, regionA_quiet], fun i hi => ?_⟩
  simp only [List.mem_cons, List.not_mem_nil, or_false, not_or] at hi
  obtain ⟨x0, x1, x2, x3, x4, x5, x6⟩ := hi
  simp [Env.get_set, Ne.symm x0, Ne.symm x1, Ne.symm x2, Ne.symm x3, Ne.symm x4, Ne.symm x5, Ne.symm x6]

theorem rZ (cx : Cx) (env : Env) (σ : AS)  (hlen : env.length = 71) (hcx : cx.esc = [])  :
    ∃ env', execW Try.prog cx [2000007] (callW Try.prog how) (cr [.r, .r, .r, .r, .r, .l]) (env, σ) = some (.normal, (env', σ)) ∧ env'.length = 71 ∧ (Env.get env' 4 = .int .i64 0) ∧ ∀ i, i ∉ [4] → Env.get env' i = Env.get env i := by
  suffices h : ∀ res, execW Try.prog cx [2000007] (callW Try.prog how) (cr [.r, .r, .r, .r, .r, .l]) (env, σ) = res → ∃ env', res = some (.normal, (env', σ)) ∧ env'.length = 71 ∧ (Env.get env' 4 = .int .i64 0) ∧ ∀ i, i ∉ [4] → Env.get env' i = Env.get env i from h _ rfl
  intro res hr
  simp -implicitDefEqProofs [ofV, ofCell, ofCells, seqA_nil, seqA_cons, seqVK_eq, seqEK_eq, wantedA, yieldedA, isVal, effA, ev, evs, evps, putE, optsA, optsOk, valA, fieldAddrA, fieldA, loadA, partA, aggA, isAggD, buildA, placesA, fillA, lay, storeA, AV.withCells, buildSliceA, elemsA, rowParts, fzL, promL, okE, isSrc, bytesOk, pushA, cxOf, lenA, binA, intBinA, strBinA, unA, indexAddrA, eqA, AVs.inb, AV.inb, Loc.inb, calleeA, opsOf, sub, bodyOf, Env.get_set, quietA_nil, quietA_cons, quietK_none, quietK_some, qstep, newA, isNew, escNew, boxOk, newLoc, flat, rowPartsQ, quietN, quietOp, isBS, List.takeWhile, finishA_eq, finK_ret, finK_normal, retK, backK, resA, oneA, AV.back, AVs.back, execW_seq_eq, seqK_normal, seqK_ret, seqK_exit, execW_cond_eq, condK_true, condK_false, execW_block_eq, blockK_exit, blockK_normal, blockK_ret, execW_region_eq, regK_eq, execW_skip, execW_exit, execW_ret, regionA_plain, regionA_quiet0, tailK_eq, nilCheckA, guardOk, isConst, lookupA, keyFits, mapUpdateA, beqI, bneI, AS.get_push_at, AS.get_push_old, AS.push_len, AS.set_st_len, AS.next_st', AS.set_push_at, AS.get_set_self, AS.get_set_other, cr, Try.f8, hlen, hcx] at hr
  subst hr
  refine ⟨_, rfl, by simp [hlen], by simp [Env.get_set, hlen], fun i hi => ?_⟩
  simp only [List.mem_cons, List.not_mem_nil, or_false, not_or] at hi
  have x0 := hi
  simp [Env.get_set, Ne.symm x0]

theorem body : Try.f8.body = some ((cr [.l]).seq ((cr [.r, .l]).seq (((cr [.r, .r, .l, .l]).seq (cr [.r, .r, .l, .r])).seq ((cr [.r, .r, .r, .l]).seq ((cr [.r, .r, .r, .r, .l]).seq ((cr [.r, .r, .r, .r, .r, .l]).seq .ret)))))) := by kernel_rfl
theorem fin_code (s : List AObj) (hp' st' : List AObj) (e : Env) (n : Int) (h4 : Env.get e 4 = .int .i64 n) (hs : List.take s.length st' = s) : finishA Try.prog { tails := [2000007] } Try.f8 s.length (some (.ret, (e, ⟨hp', st'⟩))) = some (.int .i64 n, ⟨hp', s⟩) := by
  simp -implicitDefEqProofs [finishA, resA, Try.f8, h4, oneA, AV.back, AV.inb, hs]
/-- What the program's Accept does. -/
theorem ok (hp s : List AObj) (a : Nat) (pr pn : Int) (v : Vt) (M : List Vt) (hR : AccP hp a pr pn M) (hr : 0 ≤ v.r) :
    ∃ hp', hp.length ≤ hp'.length ∧
      ((voteOk v = false ∧ callW Try.prog how 8 [.ptr (.hp a) 0, .agg [.int .i64 v.s, .int .u64 v.r, .int .i64 v.n, .str v.v]] ⟨hp, s⟩ none = some (.int .i64 1, ⟨hp, s⟩)) ∨
       (voteOk v = true ∧ lessB v.r v.n pr pn = true ∧ callW Try.prog how 8 [.ptr (.hp a) 0, .agg [.int .i64 v.s, .int .u64 v.r, .int .i64 v.n, .str v.v]] ⟨hp, s⟩ none = some (.int .i64 13, ⟨hp, s⟩)) ∨
       (voteOk v = true ∧ lessB v.r v.n pr pn = false ∧ (M.find? fun x => decide (v.s = x.s)) = none ∧ 400 ≤ M.length ∧ callW Try.prog how 8 [.ptr (.hp a) 0, .agg [.int .i64 v.s, .int .u64 v.r, .int .i64 v.n, .str v.v]] ⟨hp, s⟩ none = some (.int .i64 9, ⟨hp, s⟩)) ∨
       (voteOk v = true ∧ lessB v.r v.n pr pn = false ∧ ¬ ((M.find? fun x => decide (v.s = x.s)) = none ∧ 400 ≤ M.length) ∧ callW Try.prog how 8 [.ptr (.hp a) 0, .agg [.int .i64 v.s, .int .u64 v.r, .int .i64 v.n, .str v.v]] ⟨hp, s⟩ none = some (.int .i64 0, ⟨hp', s⟩) ∧
          ∃ m, hp[a]? = some (.cells [.int .u64 pr, .int .i64 pn, .map (.hp m)]) ∧ hp' = (hp.set a (.cells [.int .u64 v.r, .int .i64 v.n, .map (.hp m)])).set m (.map ((updV v M).map entV)) ∧ hp[m]? = some (.map (M.map entV)))) := by
  let cx : Cx := { h := s.length, ro := none, esc := [] }
  have hcx : cx.esc = [] := rfl
  have henv : ∃ e, e = frameA Try.f8 [.ptr (.hp a) 0, .agg [.int .i64 v.s, .int .u64 v.r, .int .i64 v.n, .str v.v]] := ⟨_, rfl⟩
  obtain ⟨env, henv⟩ := henv
  have hl : env.length = 71 := by rw [henv]; rfl
  have h0 : Env.get env 0 = .ptr (.hp a) 0 := by rw [henv]; rfl
  have h1 : Env.get env 1 = .agg [.int .i64 v.s, .int .u64 v.r, .int .i64 v.n, .str v.v] := by rw [henv]; rfl
  have call : ∀ (e : Env) (hp' st' : List AObj) (n : Int), execW Try.prog cx [2000007] (callW Try.prog how) ((cr [.l]).seq ((cr [.r, .l]).seq (((cr [.r, .r, .l, .l]).seq (cr [.r, .r, .l, .r])).seq ((cr [.r, .r, .r, .l]).seq ((cr [.r, .r, .r, .r, .l]).seq ((cr [.r, .r, .r, .r, .r, .l]).seq .ret)))))) (env, ⟨hp, s⟩) = some (.ret, (e, ⟨hp', st'⟩)) → Env.get e 4 = .int .i64 n → List.take s.length st' = s → callW Try.prog how 8 [.ptr (.hp a) 0, .agg [.int .i64 v.s, .int .u64 v.r, .int .i64 v.n, .str v.v]] ⟨hp, s⟩ none = some (.int .i64 n, ⟨hp', s⟩) := by
    intro e hp' st' n hx h4 ht
    refine callW_body (fl := { tails := [2000007] }) (fn := Try.f8) rfl Try.func8 body ?_
    rw [← henv]
    exact (congrArg (finishA Try.prog { tails := [2000007] } Try.f8 s.length) hx).trans (fin_code s hp' st' e n h4 ht)
  clear henv
  obtain ⟨m, hA, hM⟩ := hR
  obtain ⟨env1, a1, a2, a3, a4⟩ := rA cx env ⟨hp, s⟩ v hl hcx h1 rfl (Nat.le_refl _)
  have g3 : ((AS.mk hp s).push false (.cells (encV v).cells)).get (.st s.length) = some (.cells (encV v).cells) := AS.get_push_at rfl
  have hAσ : ((AS.mk hp s).push false (.cells (encV v).cells)).get (.hp a) = some (.cells [.int .u64 pr, .int .i64 pn, .map (.hp m)]) := by simpa [AS.push, AS.get] using hA
  have hσ : (AS.mk hp s).push false (.cells (encV v).cells) = ⟨hp, s ++ [.cells (encV v).cells]⟩ := by simp [AS.push]
  rw [hσ] at a1 g3 hAσ
  have f3 : Env.get env1 3 = .ptr (.st s.length) 0 := a3.1
  have f0 := (a4 0 (by decide)).trans h0
  have htk : List.take s.length (s ++ [AObj.cells (encV v).cells]) = s := by simp
  have hc1 := f22_ok hp (s ++ [.cells (encV v).cells]) none v.r v.n hr (fun k hk => by cases hk)
  cases hv : voteOk v with
  | false =>
    refine ⟨hp, Nat.le_refl _, .inl ⟨rfl, ?_⟩⟩
    have key : ∃ e, execW Try.prog cx [2000007] (callW Try.prog how) (cr [.r, .l]) (env1, ⟨hp, s ++ [.cells (encV v).cells]⟩) = some (.ret, (e, ⟨hp, s ++ [.cells (encV v).cells]⟩)) ∧ Env.get e 4 = .int .i64 1 := by
      cases hk : askedB v.r v.n with
      | false =>
        rw [hk] at hc1
        obtain ⟨e, b1, _, b3, _⟩ := rEa cx env1 _ a s.length v a2 hcx f0 f3 g3 hc1
        exact ⟨e, b1, b3⟩
      | true =>
        rw [hk] at hc1
        by_cases q1 : v.s < 0
        · obtain ⟨e, b1, _, b3, _⟩ := rEb cx env1 _ a s.length v a2 hcx f0 f3 g3 hc1 q1
          exact ⟨e, b1, b3⟩
        · by_cases q2 : 1048576 < v.s
          · obtain ⟨e, b1, _, b3, _⟩ := rEc cx env1 _ a s.length v a2 hcx f0 f3 g3 hc1 q1 q2
            exact ⟨e, b1, b3⟩
          · by_cases q3 : (64 : Int) < (v.v.size : Int)
            · obtain ⟨e, b1, _, b3, _⟩ := rEd cx env1 _ a s.length v a2 hcx f0 f3 g3 hc1 q1 q2 q3
              exact ⟨e, b1, b3⟩
            · exfalso
              have : voteOk v = true := by
                simp only [voteOk, hk, Bool.true_and, Bool.and_eq_true, decide_eq_true_eq]
                exact ⟨by omega, by omega, by omega⟩
              rw [this] at hv
              cases hv
    obtain ⟨e, b1, b3⟩ := key
    exact call e _ _ 1 (execW_seq_of a1 (execW_seq_ret b1)) b3 htk
  | true =>
    have hv' := hv
    simp only [voteOk, Bool.and_eq_true, decide_eq_true_eq] at hv'
    obtain ⟨k1, k2, k3, k4⟩ := hv'
    rw [k1] at hc1
    have hc2 := f23_ok hp (s ++ [.cells (encV v).cells]) (some (s ++ [AObj.cells (encV v).cells]).length) v.r v.n pr pn (fun k hk => by cases hk; exact Nat.le_refl _)
    cases hle : lessB v.r v.n pr pn with
    | true =>
      refine ⟨hp, Nat.le_refl _, .inr (.inl ⟨rfl, rfl, ?_⟩)⟩
      rw [hle] at hc2
      obtain ⟨env2, b1, b2, b3, b4⟩ := rOld cx env1 _ a s.length v pr pn _ a2 hcx f0 f3 g3 hc1 (by omega) (by omega) (by omega) hAσ hc2
      exact call env2 _ _ 13 (execW_seq_of a1 (execW_seq_ret b1)) b3 htk
    | false =>
      rw [hle] at hc2
      obtain ⟨env2, b1, b2, _, b4⟩ := rOk cx env1 _ a s.length v pr pn _ a2 hcx f0 f3 g3 hc1 (by omega) (by omega) (by omega) hAσ hc2
      have f3 := (b4 3 (by decide)).trans f3
      have f0 := (b4 0 (by decide)).trans f0
      have hMσ : hp[m]? = some (.map (M.map entV)) := hM
      have hfind := find_any v.s M
      -- the look-up
      have key : ∃ env3 c, execW Try.prog cx [2000007] (callW Try.prog how) (cr [.r, .r, .l, .l]) (env2, ⟨hp, s ++ [.cells (encV v).cells]⟩) = some (.normal, (env3, ⟨hp, (s ++ [.cells (encV v).cells]) ++ [.cells c]⟩)) ∧ env3.length = 71 ∧ Env.get env3 6 = .bool (M.find? fun x => decide (v.s = x.s)).isSome ∧ Env.get env3 0 = .ptr (.hp a) 0 ∧ Env.get env3 3 = .ptr (.st s.length) 0 := by
        cases hf : M.find? fun x => decide (v.s = x.s) with
        | none =>
          rw [hf] at hfind
          obtain ⟨env3, c1, c2, c3, c4⟩ := rM0 s.length none hp (s ++ [.cells (encV v).cells]) env2 a s.length m v pr pn _ b2 f0 f3 g3 hA hMσ (by simp) rfl hfind
          exact ⟨env3, _, c1, c2, c3, (c4 0 (by decide)).trans f0, (c4 3 (by decide)).trans f3⟩
        | some x =>
          rw [hf] at hfind
          obtain ⟨env3, c1, c2, c3, c4⟩ := rM1 s.length none hp (s ++ [.cells (encV v).cells]) env2 a s.length m v x pr pn _ b2 f0 f3 g3 hA hMσ (by simp) rfl hfind
          exact ⟨env3, _, c1, c2, c3, (c4 0 (by decide)).trans f0, (c4 3 (by decide)).trans f3⟩
      obtain ⟨env3, c, c1, c2, f6, f0, f3⟩ := key
      have htk2 : List.take s.length ((s ++ [AObj.cells (encV v).cells]) ++ [AObj.cells c]) = s := by rw [List.append_assoc, List.take_left']; rfl
      have g3' : (AS.mk hp ((s ++ [.cells (encV v).cells]) ++ [.cells c])).get (.st s.length) = some (.cells (encV v).cells) := by simp [AS.get]
      have hA' : (AS.mk hp ((s ++ [.cells (encV v).cells]) ++ [.cells c])).get (.hp a) = some (.cells [.int .u64 pr, .int .i64 pn, .map (.hp m)]) := hA
      have hM' : (AS.mk hp ((s ++ [.cells (encV v).cells]) ++ [.cells c])).get (.hp m) = some (.map (M.map entV)) := hM
      by_cases hful : (M.find? fun x => decide (v.s = x.s)) = none ∧ 400 ≤ M.length
      · refine ⟨hp, Nat.le_refl _, .inr (.inr (.inl ⟨rfl, rfl, hful.1, hful.2, ?_⟩))⟩
        rw [hful.1] at f6
        obtain ⟨env4, d1, d2, d3, d4⟩ := rNx cx env3 _ a m pr pn _ c2 hcx f0 f6 hA' hM' (by rw [List.length_map]; omega)
        exact call env4 _ _ 9 (execW_seq_of a1 (execW_seq_of b1 (execW_seq_ret (execW_seq_of c1 d1)))) d3 htk2
      · have key : ∃ env4, execW Try.prog cx [2000007] (callW Try.prog how) (cr [.r, .r, .l, .r]) (env3, ⟨hp, (s ++ [.cells (encV v).cells]) ++ [.cells c]⟩) = some (.normal, (env4, ⟨hp, (s ++ [.cells (encV v).cells]) ++ [.cells c]⟩)) ∧ env4.length = 71 ∧ ∀ i, i ∉ [49, 50, 51, 52, 53, 54, 55, 56, 57, 58] → Env.get env4 i = Env.get env3 i := by
          cases hf : M.find? fun x => decide (v.s = x.s) with
          | none =>
            rw [hf] at f6
            obtain ⟨env4, d1, d2, _, d4⟩ := rNf cx env3 _ a m pr pn _ c2 hcx f0 f6 hA' hM' (by
              rw [List.length_map]
              have : ¬ 400 ≤ M.length := fun h => hful ⟨hf, h⟩
              omega)
            exact ⟨env4, d1, d2, d4⟩
          | some x =>
            rw [hf] at f6
            obtain ⟨env4, d1, d2, _, d4⟩ := rNt cx env3 _ c2 hcx f6
            exact ⟨env4, d1, d2, d4⟩
        obtain ⟨env4, d1, d2, d4⟩ := key
        have f0 := (d4 0 (by decide)).trans f0
        have f3 := (d4 3 (by decide)).trans f3
        obtain ⟨env5, e1, e2, _, e4⟩ := rP cx env4 _ a s.length v pr pn _ d2 hcx f0 f3 g3' hA' rfl
        have hne : m ≠ a := by
          rintro rfl
          rw [hA] at hM
          cases hM
        obtain ⟨env6, i1, i2, _, i4⟩ := rU cx env5 ((AS.mk hp ((s ++ [.cells (encV v).cells]) ++ [.cells c])).set (.hp a) (.cells [.int .u64 v.r, .int .i64 v.n, .map (.hp m)])) a s.length m v v.r v.n (M.map entV) ((updV v M).map entV) e2 hcx ((e4 0 (by decide)).trans f0) ((e4 3 (by decide)).trans f3) (by rw [AS.get_set_other (by intro e; cases e)]; exact g3') (AS.get_set_self (by rw [hA']; rfl)) (by rw [AS.get_set_other (by intro e; cases e; exact hne rfl)]; exact hM') rfl (put_of v M)
        obtain ⟨env7, j1, j2, j3, _⟩ := rZ cx env6 _ i2 hcx
        refine ⟨(hp.set a (.cells [.int .u64 v.r, .int .i64 v.n, .map (.hp m)])).set m (.map ((updV v M).map entV)), (by simp), .inr (.inr (.inr ⟨rfl, rfl, hful, ?_, m, hA, rfl, hM⟩))⟩
        exact call env7 _ ((s ++ [.cells (encV v).cells]) ++ [.cells c]) 0 (execW_seq_of a1 (execW_seq_of b1 (execW_seq_of (execW_seq_of c1 d1) (execW_seq_of e1 (execW_seq_of i1 (execW_seq_of (b := .ret) j1 rfl)))))) j3 htk2

end F8