/- The document's row of votes from a slot on. -/
import Derived.Test.YtmldaajjeeidjaaCb
open Go Go.Abs Go.Proofs
set_option maxRecDepth 100000
set_option maxHeartbeats 4000000
set_option linter.unusedSimpArgs false
set_option linter.unusedVariables false
/-- A vote. -/
structure Vt where
  s : Int
  r : Int
  n : Int
  v : ByteArray
  deriving DecidableEq
def encV (v : Vt) : AV := .agg [.int .i64 v.s, .int .u64 v.r, .int .i64 v.n, .str v.v]
@[simp] theorem encV_cells (v : Vt) : (encV v).cells = [.int .i64 v.s, .int .u64 v.r, .int .i64 v.n, .str v.v] := rfl
@[simp] theorem e31 : elemA Try.prog 31 = some 27 := by kernel_rfl
@[simp] theorem e45 : elemA Try.prog 45 = some 41 := by kernel_rfl
@[simp] theorem b27 : bytesA Try.prog 27 = some 40 := by kernel_rfl
@[simp] theorem b41 : bytesA Try.prog 41 = some 40 := by kernel_rfl
attribute [simp] Try.underlying45
theorem app31 : AppOk Try.prog 31 4 40 := ⟨27, _, e31, Try.underlying31, s27, b27, rfl, by decide, by rw [z27]; rfl⟩
theorem app45 : AppOk Try.prog 45 4 40 := ⟨41, _, e45, Try.underlying45, s41, b41, rfl, by decide, by rw [z41]; rfl⟩
/-- A slice of the heap, or nil. -/
def SlH (hp : List AObj) (X : AV) (l : List AV) : Prop := (X = .nils ∧ l = []) ∨ (∃ j w f, X = .row (.hp j) w 0 l.length ∧ hp[j]? = some (.row l 4 w f))
/-- The votes from a slot on. -/
def fromV (l : List Vt) (m : Int) : List Vt := l.filter fun v => decide (m ≤ v.s)

namespace F20
noncomputable def cr (p : List Dir) : Code := sub p (bodyOf Try.f20)

theorem rA (cx : Cx) (env : Env) (σ : AS)  (hlen : env.length = 27) (hcx : cx.esc = [])  :
    ∃ env', execW Try.prog cx [] (callW Try.prog how) (cr [.l]) (env, σ) = some (.normal, (env', σ)) ∧ env'.length = 27 ∧ (Env.get env' 4 = .nils) ∧ ∀ i, i ∉ [4] → Env.get env' i = Env.get env i := by
  suffices h : ∀ res, execW Try.prog cx [] (callW Try.prog how) (cr [.l]) (env, σ) = res → ∃ env', res = some (.normal, (env', σ)) ∧ env'.length = 27 ∧ (Env.get env' 4 = .nils) ∧ ∀ i, i ∉ [4] → Env.get env' i = Env.get env i from h _ rfl
  intro res hr
  simp -implicitDefEqProofs [ofV, ofCell, ofCells, seqA_nil, seqA_cons, seqVK_eq, seqEK_eq, wantedA, yieldedA, isVal, effA, ev, evs, evps, putE, optsA, optsOk, valA, fieldAddrA, fieldA, loadA, partA, aggA, isAggD, buildA, placesA, fillA, lay, storeA, AV.withCells, buildSliceA, elemsA, rowParts, fzL, promL, okE, isSrc, bytesOk, pushA, cxOf, lenA, binA, intBinA, strBinA, unA, indexAddrA, eqA, AVs.inb, AV.inb, Loc.inb, calleeA, opsOf, sub, bodyOf, Env.get_set, quietA_nil, quietA_cons, quietK_none, quietK_some, qstep, newA, isNew, escNew, boxOk, newLoc, flat, rowPartsQ, quietN, quietOp, isBS, List.takeWhile, finishA_eq, finK_ret, finK_normal, retK, backK, resA, oneA, AV.back, AVs.back, execW_seq_eq, seqK_normal, seqK_ret, seqK_exit, execW_cond_eq, condK_true, condK_false, execW_block_eq, blockK_exit, blockK_normal, blockK_ret, execW_region_eq, regK_eq, execW_skip, execW_exit, execW_ret, regionA_plain, regionA_quiet0, tailK_eq, nilCheckA, guardOk, isConst, lookupA, keyFits, mapUpdateA, beqI, bneI, AS.get_push_at, AS.get_push_old, AS.push_len, AS.set_st_len, AS.next_st', AS.set_push_at, AS.get_set_self, AS.get_set_other, cr, Try.f20, hlen, hcx] at hr
  subst hr
  refine ⟨_, rfl, by simp [hlen], by simp [Env.get_set, hlen], fun i hi => ?_⟩
  simp only [List.mem_cons, List.not_mem_nil, or_false, not_or] at hi
  have x0 := hi
  simp [Env.get_set, Ne.symm x0]

theorem rB (cx : Cx) (env : Env) (σ : AS)  (hlen : env.length = 27) (hcx : cx.esc = [])  :
    ∃ env', execW Try.prog cx [] (callW Try.prog how) (cr [.r, .l]) (env, σ) = some (.normal, (env', σ)) ∧ env'.length = 27 ∧ (Env.get env' 5 = .nils) ∧ ∀ i, i ∉ [5] → Env.get env' i = Env.get env i := by
  suffices h : ∀ res, execW Try.prog cx [] (callW Try.prog how) (cr [.r, .l]) (env, σ) = res → ∃ env', res = some (.normal, (env', σ)) ∧ env'.length = 27 ∧ (Env.get env' 5 = .nils) ∧ ∀ i, i ∉ [5] → Env.get env' i = Env.get env i from h _ rfl
  intro res hr
  simp -implicitDefEqProofs [ofV, ofCell, ofCells, seqA_nil, seqA_cons, seqVK_eq, seqEK_eq, wantedA, yieldedA, isVal, effA, ev, evs, evps, putE, optsA, optsOk, valA, fieldAddrA, fieldA, loadA, partA, aggA, isAggD, buildA, placesA, fillA, lay, storeA, AV.withCells, buildSliceA, elemsA, rowParts, fzL, promL, okE, isSrc, bytesOk, pushA, cxOf, lenA, binA, intBinA, strBinA, unA, indexAddrA, eqA, AVs.inb, AV.inb, Loc.inb, calleeA, opsOf, sub, bodyOf, Env.get_set, quietA_nil, quietA_cons, quietK_none, quietK_some, qstep, newA, isNew, escNew, boxOk, newLoc, flat, rowPartsQ, quietN, quietOp, isBS, List.takeWhile, finishA_eq, finK_ret, finK_normal, retK, backK, resA, oneA, AV.back, AVs.back, execW_seq_eq, seqK_normal, seqK_ret, seqK_exit, execW_cond_eq, condK_true, condK_false, execW_block_eq, blockK_exit, blockK_normal, blockK_ret, execW_region_eq, regK_eq, execW_skip, execW_exit, execW_ret, regionA_plain, regionA_quiet0, tailK_eq, nilCheckA, guardOk, isConst, lookupA, keyFits, mapUpdateA, beqI, bneI, AS.get_push_at, AS.get_push_old, AS.push_len, AS.set_st_len, AS.next_st', AS.set_push_at, AS.get_set_self, AS.get_set_other, cr, Try.f20, hlen, hcx] at hr
  subst hr
  refine ⟨_, rfl, by simp [hlen], by simp [Env.get_set, hlen], fun i hi => ?_⟩
  simp only [List.mem_cons, List.not_mem_nil, or_false, not_or] at hi
  have x0 := hi
  simp [Env.get_set, Ne.symm x0]

theorem rCn (cx : Cx) (env : Env) (σ : AS) (a : Nat) (pr pn : Int) (hlen : env.length = 27) (hcx : cx.esc = []) (f0 : Env.get env 0 = .ptr (.hp a) 0) (hA : σ.get (.hp a) = some (.cells [.int .u64 pr, .int .i64 pn, .nils])) :
    ∃ env', execW Try.prog cx [] (callW Try.prog how) (cr [.r, .r, .l, .l]) (env, σ) = some (.normal, (env', σ)) ∧ env'.length = 27 ∧ (Env.get env' 11 = .nils ∧ Env.get env' 12 = .int .i64 0 ∧ Env.get env' 13 = .int .i64 0) ∧ ∀ i, i ∉ [8, 9, 10, 11, 12, 13] → Env.get env' i = Env.get env i := by
  suffices h : ∀ res, execW Try.prog cx [] (callW Try.prog how) (cr [.r, .r, .l, .l]) (env, σ) = res → ∃ env', res = some (.normal, (env', σ)) ∧ env'.length = 27 ∧ (Env.get env' 11 = .nils ∧ Env.get env' 12 = .int .i64 0 ∧ Env.get env' 13 = .int .i64 0) ∧ ∀ i, i ∉ [8, 9, 10, 11, 12, 13] → Env.get env' i = Env.get env i from h _ rfl
  intro res hr
  simp -implicitDefEqProofs [ofV, ofCell, ofCells, seqA_nil, seqA_cons, seqVK_eq, seqEK_eq, wantedA, yieldedA, isVal, effA, ev, evs, evps, putE, optsA, optsOk, valA, fieldAddrA, fieldA, loadA, partA, aggA, isAggD, buildA, placesA, fillA, lay, storeA, AV.withCells, buildSliceA, elemsA, rowParts, fzL, promL, okE, isSrc, bytesOk, pushA, cxOf, lenA, binA, intBinA, strBinA, unA, indexAddrA, eqA, AVs.inb, AV.inb, Loc.inb, calleeA, opsOf, sub, bodyOf, Env.get_set, quietA_nil, quietA_cons, quietK_none, quietK_some, qstep, newA, isNew, escNew, boxOk, newLoc, flat, rowPartsQ, quietN, quietOp, isBS, List.takeWhile, finishA_eq, finK_ret, finK_normal, retK, backK, resA, oneA, AV.back, AVs.back, execW_seq_eq, seqK_normal, seqK_ret, seqK_exit, execW_cond_eq, condK_true, condK_false, execW_block_eq, blockK_exit, blockK_normal, blockK_ret, execW_region_eq, regK_eq, execW_skip, execW_exit, execW_ret, regionA_plain, regionA_quiet0, tailK_eq, nilCheckA, guardOk, isConst, lookupA, keyFits, mapUpdateA, beqI, bneI, AS.get_push_at, AS.get_push_old, AS.push_len, AS.set_st_len, AS.next_st', AS.set_push_at, AS.get_set_self, AS.get_set_other, cr, Try.f20, hlen, hcx, f0, hA] at hr
  subst hr
  refine ⟨_, rfl, by simp [hlen], by simp [Env.get_set, hlen, f0, hA], fun i hi => ?_⟩
  simp only [List.mem_cons, List.not_mem_nil, or_false, not_or] at hi
  obtain ⟨x0, x1, x2, x3, x4, x5⟩ := hi
  simp [Env.get_set, Ne.symm x0, Ne.symm x1, Ne.symm x2, Ne.symm x3, Ne.symm x4, Ne.symm x5]

theorem rCr (cx : Cx) (env : Env) (σ : AS) (a j w n : Nat) (pr pn : Int) (hlen : env.length = 27) (hcx : cx.esc = []) (f0 : Env.get env 0 = .ptr (.hp a) 0) (hA : σ.get (.hp a) = some (.cells [.int .u64 pr, .int .i64 pn, .row (.hp j) w 0 n])) :
    ∃ env', execW Try.prog cx [] (callW Try.prog how) (cr [.r, .r, .l, .l]) (env, σ) = some (.normal, (env', σ)) ∧ env'.length = 27 ∧ (Env.get env' 11 = .row (.hp j) w 0 n ∧ Env.get env' 12 = .int .i64 (n : Int) ∧ Env.get env' 13 = .int .i64 0) ∧ ∀ i, i ∉ [8, 9, 10, 11, 12, 13] → Env.get env' i = Env.get env i := by
  suffices h : ∀ res, execW Try.prog cx [] (callW Try.prog how) (cr [.r, .r, .l, .l]) (env, σ) = res → ∃ env', res = some (.normal, (env', σ)) ∧ env'.length = 27 ∧ (Env.get env' 11 = .row (.hp j) w 0 n ∧ Env.get env' 12 = .int .i64 (n : Int) ∧ Env.get env' 13 = .int .i64 0) ∧ ∀ i, i ∉ [8, 9, 10, 11, 12, 13] → Env.get env' i = Env.get env i from h _ rfl
  intro res hr
  simp -implicitDefEqProofs [ofV, ofCell, ofCells, seqA_nil, seqA_cons, seqVK_eq, seqEK_eq, wantedA, yieldedA, isVal, effA, ev, evs, evps, putE, optsA, optsOk, valA, fieldAddrA, fieldA, loadA, partA, aggA, isAggD, buildA, placesA, fillA, lay, storeA, AV.withCells, buildSliceA, elemsA, rowParts, fzL, promL, okE, isSrc, bytesOk, pushA, cxOf, lenA, binA, intBinA, strBinA, unA, indexAddrA, eqA, AVs.inb, AV.inb, Loc.inb, calleeA, opsOf, sub, bodyOf, Env.get_set, quietA_nil, quietA_cons, quietK_none, quietK_some, qstep, newA, isNew, escNew, boxOk, newLoc, flat, rowPartsQ, quietN, quietOp, isBS, List.takeWhile, finishA_eq, finK_ret, finK_normal, retK, backK, resA, oneA, AV.back, AVs.back, execW_seq_eq, seqK_normal, seqK_ret, seqK_exit, execW_cond_eq, condK_true, condK_false, execW_block_eq, blockK_exit, blockK_normal, blockK_ret, execW_region_eq, regK_eq, execW_skip, execW_exit, execW_ret, regionA_plain, regionA_quiet0, tailK_eq, nilCheckA, guardOk, isConst, lookupA, keyFits, mapUpdateA, beqI, bneI, AS.get_push_at, AS.get_push_old, AS.push_len, AS.set_st_len, AS.next_st', AS.set_push_at, AS.get_set_self, AS.get_set_other, cr, Try.f20, hlen, hcx, f0, hA] at hr
  subst hr
  refine ⟨_, rfl, by simp [hlen], by simp [Env.get_set, hlen, f0, hA], fun i hi => ?_⟩
  simp only [List.mem_cons, List.not_mem_nil, or_false, not_or] at hi
  obtain ⟨x0, x1, x2, x3, x4, x5⟩ := hi
  simp [Env.get_set, Ne.symm x0, Ne.symm x1, Ne.symm x2, Ne.symm x3, Ne.symm x4, Ne.symm x5]

theorem rE (cx : Cx) (env : Env) (σ : AS) (j w k : Nat) (fr : Bool) (L : List Vt) (v : Vt) (hlen : env.length = 27) (hcx : cx.esc = []) (f11 : Env.get env 11 = .row (.hp j) w 0 L.length) (f13 : Env.get env 13 = .int .i64 (k : Int)) (hk : k < L.length) (hv : L[k] = v) (hj : σ.get (.hp j) = some (.row (L.map encV) 4 w fr)) (hw : wok cx.ro (.st σ.st.length) = true) (hh : cx.h ≤ σ.st.length) :
    ∃ env', execW Try.prog cx [] (callW Try.prog how) (cr [.r, .r, .l, .r, .i, .i, .r, .r, .l, .i, .l]) (env, σ) = some (.normal, (env', σ.push false (.cells (encV v).cells))) ∧ env'.length = 27 ∧ (Env.get env' 7 = .ptr (.st σ.st.length) 0) ∧ ∀ i, i ∉ [7, 15, 16] → Env.get env' i = Env.get env i := by
  suffices h : ∀ res, execW Try.prog cx [] (callW Try.prog how) (cr [.r, .r, .l, .r, .i, .i, .r, .r, .l, .i, .l]) (env, σ) = res → ∃ env', res = some (.normal, (env', σ.push false (.cells (encV v).cells))) ∧ env'.length = 27 ∧ (Env.get env' 7 = .ptr (.st σ.st.length) 0) ∧ ∀ i, i ∉ [7, 15, 16] → Env.get env' i = Env.get env i from h _ rfl
  intro res hr
  simp -implicitDefEqProofs [ofV, ofCell, ofCells, seqA_nil, seqA_cons, seqVK_eq, seqEK_eq, wantedA, yieldedA, isVal, effA, ev, evs, evps, putE, optsA, optsOk, valA, fieldAddrA, fieldA, loadA, partA, aggA, isAggD, buildA, placesA, fillA, lay, storeA, AV.withCells, buildSliceA, elemsA, rowParts, fzL, promL, okE, isSrc, bytesOk, pushA, cxOf, lenA, binA, intBinA, strBinA, unA, indexAddrA, eqA, AVs.inb, AV.inb, Loc.inb, calleeA, opsOf, sub, bodyOf, Env.get_set, quietA_nil, quietA_cons, quietK_none, quietK_some, qstep, newA, isNew, escNew, boxOk, newLoc, flat, rowPartsQ, quietN, quietOp, isBS, List.takeWhile, finishA_eq, finK_ret, finK_normal, retK, backK, resA, oneA, AV.back, AVs.back, execW_seq_eq, seqK_normal, seqK_ret, seqK_exit, execW_cond_eq, condK_true, condK_false, execW_block_eq, blockK_exit, blockK_normal, blockK_ret, execW_region_eq, regK_eq, execW_skip, execW_exit, execW_ret, regionA_plain, regionA_quiet0, tailK_eq, nilCheckA, guardOk, isConst, lookupA, keyFits, mapUpdateA, beqI, bneI, AS.get_push_at, AS.get_push_old, AS.push_len, AS.set_st_len, AS.next_st', AS.set_push_at, AS.get_set_self, AS.get_set_other, cr, Try.f20, hlen, hcx, f11, f13, hk, hv, hj, hw, hh] at hr
  subst hr
  refine ⟨_, rfl, by simp [hlen], by simp [Env.get_set, hlen, f11, f13, hk, hv, hj, hw, hh], fun i hi => ?_⟩
  simp only [List.mem_cons, List.not_mem_nil, or_false, not_or] at hi
  obtain ⟨x0, x1, x2⟩ := hi
  simp [Env.get_set, Ne.symm x0, Ne.symm x1, Ne.symm x2]

theorem rF0 (cx : Cx) (env : Env) (σ : AS) (i7 : Nat) (m : Int) (v : Vt) (hlen : env.length = 27) (hcx : cx.esc = []) (f1 : Env.get env 1 = .int .i64 m) (f7 : Env.get env 7 = .ptr (.st i7) 0) (g7 : σ.get (.st i7) = some (.cells (encV v).cells)) (hm : ¬ m ≤ v.s) :
    ∃ env', execW Try.prog cx [] (callW Try.prog how) (cr [.r, .r, .l, .r, .i, .i, .r, .r, .l, .i, .r]) (env, σ) = some (.normal, (env', σ)) ∧ env'.length = 27 ∧ (True) ∧ ∀ i, i ∉ [17, 18, 19, 20] → Env.get env' i = Env.get env i := by
  suffices h : ∀ res, execW Try.prog cx [] (callW Try.prog how) (cr [.r, .r, .l, .r, .i, .i, .r, .r, .l, .i, .r]) (env, σ) = res → ∃ env', res = some (.normal, (env', σ)) ∧ env'.length = 27 ∧ (True) ∧ ∀ i, i ∉ [17, 18, 19, 20] → Env.get env' i = Env.get env i from h _ rfl
  intro res hr
  simp -implicitDefEqProofs [ofV, ofCell, ofCells, seqA_nil, seqA_cons, seqVK_eq, seqEK_eq, wantedA, yieldedA, isVal, effA, ev, evs, evps, putE, optsA, optsOk, valA, fieldAddrA, fieldA, loadA, partA, aggA, isAggD, buildA, placesA, fillA, lay, storeA, AV.withCells, buildSliceA, elemsA, rowParts, fzL, promL, okE, isSrc, bytesOk, pushA, cxOf, lenA, binA, intBinA, strBinA, unA, indexAddrA, eqA, AVs.inb, AV.inb, Loc.inb, calleeA, opsOf, sub, bodyOf, Env.get_set, quietA_nil, quietA_cons, quietK_none, quietK_some, qstep, newA, isNew, escNew, boxOk, newLoc, flat, rowPartsQ, quietN, quietOp, isBS, List.takeWhile, finishA_eq, finK_ret, finK_normal, retK, backK, resA, oneA, AV.back, AVs.back, execW_seq_eq, seqK_normal, seqK_ret, seqK_exit, execW_cond_eq, condK_true, condK_false, execW_block_eq, blockK_exit, blockK_normal, blockK_ret, execW_region_eq, regK_eq, execW_skip, execW_exit, execW_ret, regionA_plain, regionA_quiet0, tailK_eq, nilCheckA, guardOk, isConst, lookupA, keyFits, mapUpdateA, beqI, bneI, AS.get_push_at, AS.get_push_old, AS.push_len, AS.set_st_len, AS.next_st', AS.set_push_at, AS.get_set_self, AS.get_set_other, cr, Try.f20, hlen, hcx, f1, f7, g7, hm] at hr
  subst hr
  refine ⟨_, rfl, by simp [hlen], by simp [Env.get_set, hlen, f1, f7, g7, hm], fun i hi => ?_⟩
  simp only [List.mem_cons, List.not_mem_nil, or_false, not_or] at hi
  obtain ⟨x0, x1, x2, x3⟩ := hi
  simp [Env.get_set, Ne.symm x0, Ne.symm x1, Ne.symm x2, Ne.symm x3]

theorem rF1 (cx : Cx) (env : Env) (σ : AS) (σ' : AS) (i7 : Nat) (m : Int) (v : Vt) (R R' : AV) (hlen : env.length = 27) (hcx : cx.esc = []) (f1 : Env.get env 1 = .int .i64 m) (f5 : Env.get env 5 = R) (f7 : Env.get env 7 = .ptr (.st i7) 0) (g7 : σ.get (.st i7) = some (.cells (encV v).cells)) (hm : m ≤ v.s) (hap : appendA Try.prog cx (σ.push false (.row [.agg [.int .i64 v.s, .int .u64 v.r, .int .i64 v.n, .str v.v]] 4 0 false)) [31, 31] R (.row (.st σ.st.length) 0 0 1) = some (R', σ')) :
    ∃ env', execW Try.prog cx [] (callW Try.prog how) (cr [.r, .r, .l, .r, .i, .i, .r, .r, .l, .i, .r]) (env, σ) = some (.normal, (env', σ')) ∧ env'.length = 27 ∧ (Env.get env' 5 = R') ∧ ∀ i, i ∉ [5, 17, 18, 19, 20, 21, 22, 23, 24] → Env.get env' i = Env.get env i := by
  suffices h : ∀ res, execW Try.prog cx [] (callW Try.prog how) (cr [.r, .r, .l, .r, .i, .i, .r, .r, .l, .i, .r]) (env, σ) = res → ∃ env', res = some (.normal, (env', σ')) ∧ env'.length = 27 ∧ (Env.get env' 5 = R') ∧ ∀ i, i ∉ [5, 17, 18, 19, 20, 21, 22, 23, 24] → Env.get env' i = Env.get env i from h _ rfl
  intro res hr
  simp -implicitDefEqProofs [ofV, ofCell, ofCells, seqA_nil, seqA_cons, seqVK_eq, seqEK_eq, wantedA, yieldedA, isVal, effA, ev, evs, evps, putE, optsA, optsOk, valA, fieldAddrA, fieldA, loadA, partA, aggA, isAggD, buildA, placesA, fillA, lay, storeA, AV.withCells, buildSliceA, elemsA, rowParts, fzL, promL, okE, isSrc, bytesOk, pushA, cxOf, lenA, binA, intBinA, strBinA, unA, indexAddrA, eqA, AVs.inb, AV.inb, Loc.inb, calleeA, opsOf, sub, bodyOf, Env.get_set, quietA_nil, quietA_cons, quietK_none, quietK_some, qstep, newA, isNew, escNew, boxOk, newLoc, flat, rowPartsQ, quietN, quietOp, isBS, List.takeWhile, finishA_eq, finK_ret, finK_normal, retK, backK, resA, oneA, AV.back, AVs.back, execW_seq_eq, seqK_normal, seqK_ret, seqK_exit, execW_cond_eq, condK_true, condK_false, execW_block_eq, blockK_exit, blockK_normal, blockK_ret, execW_region_eq, regK_eq, execW_skip, execW_exit, execW_ret, regionA_plain, regionA_quiet0, tailK_eq, nilCheckA, guardOk, isConst, lookupA, keyFits, mapUpdateA, beqI, bneI, AS.get_push_at, AS.get_push_old, AS.push_len, AS.set_st_len, AS.next_st', AS.set_push_at, AS.get_set_self, AS.get_set_other, cr, Try.f20, hlen, hcx, f1, f5, f7, g7, hm, hap] at hr
  subst hr
  refine ⟨_, rfl, by simp [hlen], by simp [Env.get_set, hlen, f1, f5, f7, g7, hm, hap], fun i hi => ?_⟩
  simp only [List.mem_cons, List.not_mem_nil, or_false, not_or] at hi
  obtain ⟨x0, x1, x2, x3, x4, x5, x6, x7, x8⟩ := hi
  simp [Env.get_set, Ne.symm x0, Ne.symm x1, Ne.symm x2, Ne.symm x3, Ne.symm x4, Ne.symm x5, Ne.symm x6, Ne.symm x7, Ne.symm x8]

theorem rD (cx : Cx) (env : Env) (σ : AS) (R : AV) (hlen : env.length = 27) (hcx : cx.esc = []) (f5 : Env.get env 5 = R) :
    ∃ env', execW Try.prog cx [] (callW Try.prog how) (cr [.r, .r, .r, .l]) (env, σ) = some (.normal, (env', σ)) ∧ env'.length = 27 ∧ (Env.get env' 4 = R) ∧ ∀ i, i ∉ [4, 26] → Env.get env' i = Env.get env i := by
  suffices h : ∀ res, execW Try.prog cx [] (callW Try.prog how) (cr [.r, .r, .r, .l]) (env, σ) = res → ∃ env', res = some (.normal, (env', σ)) ∧ env'.length = 27 ∧ (Env.get env' 4 = R) ∧ ∀ i, i ∉ [4, 26] → Env.get env' i = Env.get env i from h _ rfl
  intro res hr
  simp -implicitDefEqProofs [ofV, ofCell, ofCells, seqA_nil, seqA_cons, seqVK_eq, seqEK_eq, wantedA, yieldedA, isVal, effA, ev, evs, evps, putE, optsA, optsOk, valA, fieldAddrA, fieldA, loadA, partA, aggA, isAggD, buildA, placesA, fillA, lay, storeA, AV.withCells, buildSliceA, elemsA, rowParts, fzL, promL, okE, isSrc, bytesOk, pushA, cxOf, lenA, binA, intBinA, strBinA, unA, indexAddrA, eqA, AVs.inb, AV.inb, Loc.inb, calleeA, opsOf, sub, bodyOf, Env.get_set, quietA_nil, quietA_cons, quietK_none, quietK_some, qstep, newA, isNew, escNew, boxOk, newLoc, flat, rowPartsQ, quietN, quietOp, isBS, List.takeWhile, finishA_eq, finK_ret, finK_normal, retK, backK, resA, oneA, AV.back, AVs.back, execW_seq_eq, seqK_normal, seqK_ret, seqK_exit, execW_cond_eq, condK_true, condK_false, execW_block_eq, blockK_exit, blockK_normal, blockK_ret, execW_region_eq, regK_eq, execW_skip, execW_exit, execW_ret, regionA_plain, regionA_quiet0, tailK_eq, nilCheckA, guardOk, isConst, lookupA, keyFits, mapUpdateA, beqI, bneI, AS.get_push_at, AS.get_push_old, AS.push_len, AS.set_st_len, AS.next_st', AS.set_push_at, AS.get_set_self, AS.get_set_other, cr, Try.f20, hlen, hcx, f5] at hr
  subst hr
  refine ⟨_, rfl, by simp [hlen], by simp [Env.get_set, hlen, f5], fun i hi => ?_⟩
  simp only [List.mem_cons, List.not_mem_nil, or_false, not_or] at hi
  obtain ⟨x0, x1⟩ := hi
  simp [Env.get_set, Ne.symm x0, Ne.symm x1]


theorem body : Try.f20.body = some ((cr [.l]).seq ((cr [.r, .l]).seq (((cr [.r, .r, .l, .l]).seq (cr [.r, .r, .l, .r])).seq ((cr [.r, .r, .r, .l]).seq .ret)))) := by kernel_rfl
noncomputable def oT : Oper := (opsOf (cr [.r, .r, .l, .r, .i, .i, .l])).headD default
noncomputable def oI : List Oper := opsOf (cr [.r, .r, .l, .r, .i, .i, .r, .r, .r])
theorem loop_eq : cr [.r, .r, .l, .r] = .block 0 (.loop (.seq (.region 3 #[oT] false) (.seq (.cond (.tmp 14) .skip (.exit 0)) (.seq (.block 1 (.seq (cr [.r, .r, .l, .r, .i, .i, .r, .r, .l, .i, .l]) (cr [.r, .r, .l, .r, .i, .i, .r, .r, .l, .i, .r]))) (.region 7 #[oI.headD default, (oI.drop 1).headD default] false))))) := by kernel_rfl
/-- What holds ahead of round k. -/
def J (h : Nat) (σ0 : AS) (m : Int) (X : AV) (L : List Vt) (k : Nat) (env : Env) (σ : AS) : Prop :=
  Env.get env 1 = .int .i64 m ∧ Env.get env 11 = X ∧ (∃ R, Env.get env 5 = R ∧ Rows h σ [(4, R, (fromV (L.take k) m).map encV)]) ∧ Outside h σ0 σ
theorem J_stable {h : Nat} {σ0 : AS} {m : Int} {X : AV} {L : List Vt} : ∀ k env env' σ, env.length = 27 → env'.length = 27 → (∀ i, i ≠ 14 → i ≠ 25 → i ≠ 13 → Env.get env' i = Env.get env i) → J h σ0 m X L k env σ → J h σ0 m X L k env' σ := by
  rintro k env env' σ _ _ hf ⟨j1, j2, ⟨R, j3, j4⟩, j5⟩
  exact ⟨(hf 1 (by decide) (by decide) (by decide)).trans j1, (hf 11 (by decide) (by decide) (by decide)).trans j2, ⟨R, (hf 5 (by decide) (by decide) (by decide)).trans j3, j4⟩, j5⟩
theorem step (cx : Cx) (hcx : cx.esc = []) (hro : ∀ k, cx.ro = some k → k ≤ cx.h) (σ0 : AS) (m : Int) (j w : Nat) (fr : Bool) (L : List Vt) (hL : L.length ≤ 1000) (hj : σ0.hp[j]? = some (.row (L.map encV) 4 w fr)) :
    ∀ k env σ, k < L.length → env.length = 27 → Env.get env 13 = .int .i64 (k : Int) → Env.get env 12 = .int .i64 (L.length : Int) → J cx.h σ0 m (.row (.hp j) w 0 L.length) L k env σ → ∃ e env' σ', execW Try.prog cx [] (callW Try.prog how) (.block 1 (.seq (cr [.r, .r, .l, .r, .i, .i, .r, .r, .l, .i, .l]) (cr [.r, .r, .l, .r, .i, .i, .r, .r, .l, .i, .r]))) (env, σ) = some (e, (env', σ')) ∧
      ((e = .normal ∧ env'.length = 27 ∧ Env.get env' 13 = .int .i64 (k : Int) ∧ Env.get env' 12 = .int .i64 (L.length : Int) ∧ J cx.h σ0 m (.row (.hp j) w 0 L.length) L (k + 1) env' σ') ∨ (e ≠ .normal ∧ False)) := by
  rintro k env σ hk hlen f13 f12 ⟨f1, f11, ⟨R, f5, hR⟩, ho⟩
  have hhp : σ.hp = σ0.hp := ho.1
  have hjσ : σ.get (.hp j) = some (.row (L.map encV) 4 w fr) := by simp only [AS.get, hhp]; exact hj
  have hst : fromV (L.take (k + 1)) m = fromV (L.take k) m ++ (if m ≤ L[k].s then [L[k]] else []) := by
    unfold fromV
    rw [List.take_succ_eq_append_getElem hk, List.filter_append]
    congr 1
    by_cases h : m ≤ L[k].s <;> simp [h]
  obtain ⟨env1, a1, a2, a3, a4⟩ := rE cx env σ j w k fr L L[k] hlen hcx f11 f13 hk rfl hjσ (wokst hro ho.2.2) ho.2.2
  have g7 : (σ.push false (.cells (encV L[k]).cells)).get (.st σ.st.length) = some (.cells (encV L[k]).cells) := AS.get_push_at rfl
  have hR1 := hR.push (ob := .cells (encV L[k]).cells)
  have ho1 := ho.push (ob := .cells (encV L[k]).cells)
  have l7 : σ.st.length = σ.st.length := rfl
  generalize hib : σ.st.length = ib at a3 g7
  clear l7
  generalize σ.push false (.cells (encV L[k]).cells) = σ1 at a1 g7 hR1 ho1
  have f1' := (a4 1 (by decide)).trans f1
  have f5' := (a4 5 (by decide)).trans f5
  by_cases hm : m ≤ L[k].s
  · rw [if_pos hm] at hst
    have hlen1 : ((fromV (L.take k) m).map encV).length ≤ 1000 := by
      rw [List.length_map]
      refine Nat.le_trans (List.length_filter_le _ _) ?_
      rw [List.length_take]
      omega
    obtain ⟨R', σ', b1, b2, b3, b4, b5⟩ := append_one (cx := cx) (x := encV L[k]) (j := 0) app31 hR1 rfl hlen1 (by decide) hro ho1.2.2
    obtain ⟨env2, c1, c2, c3, c4⟩ := rF1 cx env1 σ1 σ' ib m L[k] R R' a2 hcx f1' f5' a3 g7 hm b1
    refine ⟨.normal, env2, σ', execW_block_of (execW_seq_of a1 c1), .inl ⟨rfl, c2, ?_, ?_, ?_, ?_, ⟨R', c3, ?_⟩, b5 _ ho1⟩⟩
    · exact (c4 13 (by decide)).trans ((a4 13 (by decide)).trans f13)
    · exact (c4 12 (by decide)).trans ((a4 12 (by decide)).trans f12)
    · exact (c4 1 (by decide)).trans f1'
    · exact (c4 11 (by decide)).trans ((a4 11 (by decide)).trans f11)
    · rw [hst, List.map_append]
      exact b3
  · rw [if_neg hm, List.append_nil] at hst
    obtain ⟨env2, c1, c2, _, c4⟩ := rF0 cx env1 σ1 ib m L[k] a2 hcx f1' a3 g7 hm
    refine ⟨.normal, env2, σ1, execW_block_of (execW_seq_of a1 c1), .inl ⟨rfl, c2, ?_, ?_, ?_, ?_, ⟨R, (c4 5 (by decide)).trans f5', ?_⟩, ho1⟩⟩
    · exact (c4 13 (by decide)).trans ((a4 13 (by decide)).trans f13)
    · exact (c4 12 (by decide)).trans ((a4 12 (by decide)).trans f12)
    · exact (c4 1 (by decide)).trans f1'
    · exact (c4 11 (by decide)).trans ((a4 11 (by decide)).trans f11)
    · rw [hst]
      exact hR1
theorem ok (hp s : List AObj) (ro : Option Nat) (a : Nat) (pr pn m : Int) (X : AV) (L : List Vt) (hro : ∀ k, ro = some k → k ≤ s.length) (hA : hp[a]? = some (.cells [.int .u64 pr, .int .i64 pn, X])) (hX : SlH hp X (L.map encV)) (hL : L.length ≤ 1000) :
    callW Try.prog how 20 [.ptr (.hp a) 0, .int .i64 m] ⟨hp, s⟩ ro = some (slV 4 ((fromV L m).map encV), ⟨hp, s⟩) := by
  let cx : Cx := { h := s.length, ro := ro, esc := [] }
  have hcx : cx.esc = [] := rfl
  have henv : ∃ e, e = frameA Try.f20 [.ptr (.hp a) 0, .int .i64 m] := ⟨_, rfl⟩
  obtain ⟨env, henv⟩ := henv
  have hl : env.length = 27 := by rw [henv]; rfl
  have h0 : Env.get env 0 = .ptr (.hp a) 0 := by rw [henv]; rfl
  have h1 : Env.get env 1 = .int .i64 m := by rw [henv]; rfl
  obtain ⟨env1, a1, a2, a3, a4⟩ := rA cx env ⟨hp, s⟩ hl hcx
  obtain ⟨env2, b1, b2, b3, b4⟩ := rB cx env1 ⟨hp, s⟩ a2 hcx
  have f0 := (b4 0 (by decide)).trans ((a4 0 (by decide)).trans h0)
  have f1 := (b4 1 (by decide)).trans ((a4 1 (by decide)).trans h1)
  have key : ∃ env3, execW Try.prog cx [] (callW Try.prog how) (cr [.r, .r, .l, .l]) (env2, ⟨hp, s⟩) = some (.normal, (env3, ⟨hp, s⟩)) ∧ env3.length = 27 ∧ (Env.get env3 11 = X ∧ Env.get env3 12 = .int .i64 (L.length : Int) ∧ Env.get env3 13 = .int .i64 0) ∧ ∀ i, i ∉ [8, 9, 10, 11, 12, 13] → Env.get env3 i = Env.get env2 i := by
    rcases hX with ⟨rfl, hn⟩ | ⟨j, w, fr, rfl, hj⟩
    · have : L = [] := by simpa using hn
      subst this
      exact rCn cx env2 ⟨hp, s⟩ a pr pn b2 hcx f0 hA
    · have := rCr cx env2 ⟨hp, s⟩ a j w (L.map encV).length pr pn b2 hcx f0 hA
      rw [List.length_map] at this
      rw [List.length_map]
      exact this
  obtain ⟨env3, c1, c2, c3, c4⟩ := key
  have hJ0 : J s.length ⟨hp, s⟩ m X L 0 env3 ⟨hp, s⟩ := ⟨(c4 1 (by decide)).trans f1, c3.1, ⟨.nils, (c4 5 (by decide)).trans b3, ⟨fun e he => by
    simp only [List.mem_cons, List.not_mem_nil, or_false] at he
    subst he
    exact .inl ⟨rfl, by simp [fromV]⟩, by simp⟩⟩, Outside.refl (Nat.le_refl _)⟩
  have hloop : ∃ e env' σ', execW Try.prog cx [] (callW Try.prog how) (cr [.r, .r, .l, .r]) (env3, ⟨hp, s⟩) = some (e, (env', σ')) ∧ ((e = .normal ∧ ((env'.length = 27 ∧ J s.length ⟨hp, s⟩ m X L L.length env' σ') ∨ False)) ∨ (e ≠ .normal ∧ e ≠ .exit 0 ∧ False)) := by
    rw [loop_eq]
    refine range_std (Ex := fun _ _ _ => False) (N := 27) (tc := 14) (ti := 13) (tl := 12) (tx := 25) (ty1 := 3) (ty2 := 3) (ty3 := 3) (ty4 := 3) ⟨by kernel_rfl, by kernel_rfl, by kernel_rfl⟩ ⟨by kernel_rfl, by kernel_rfl, by kernel_rfl⟩ ⟨by kernel_rfl, by kernel_rfl, by kernel_rfl⟩ (by decide) (by omega) J_stable ?_ c2 c3.2.2 c3.2.1 hJ0
    rcases hX with ⟨rfl, hn⟩ | ⟨j, w, fr, rfl, hj⟩
    · have : L = [] := by simpa using hn
      subst this
      intro k env σ hk
      cases hk
    · rw [List.length_map]
      exact step cx hcx hro ⟨hp, s⟩ m j w fr L hL hj
  obtain ⟨e, env4, σ4, d1, d2⟩ := hloop
  rcases d2 with ⟨rfl, ⟨d2, d3, d4, ⟨R, d5, d6⟩, d7⟩ | d2⟩ | ⟨_, _, d2⟩
  · obtain ⟨env5, g1, g2, g3, g4⟩ := rD cx env4 σ4 R d2 hcx d5
    refine callW_body (fl := {}) (fn := Try.f20) rfl Try.func20 body ?_
    have run : execW Try.prog cx [] (callW Try.prog how) ((cr [.l]).seq ((cr [.r, .l]).seq (((cr [.r, .r, .l, .l]).seq (cr [.r, .r, .l, .r])).seq ((cr [.r, .r, .r, .l]).seq .ret)))) (env, ⟨hp, s⟩) = some (.ret, (env5, σ4)) := execW_seq_of a1 (execW_seq_of b1 (execW_seq_of (execW_seq_of c1 d1) (execW_seq_of g1 rfl)))
    rw [List.take_length] at d6
    have hb := (d6.1 (4, R, (fromV L m).map encV) (by simp)).back
    simp only at hb
    have hpl : Plain (slV 4 ((fromV L m).map encV)) := slV_plain
    obtain ⟨q1, q2, _⟩ := d7
    have q2' : List.take s.length σ4.st = s := by rw [q2]; exact List.take_length
    have q1' : σ4.hp = hp := q1
    rw [← henv]
    refine (congrArg (finishA Try.prog {} Try.f20 s.length) run).trans ?_
    simp -implicitDefEqProofs [finishA, resA, Try.f20, g3, oneA, hb, hpl.inb, q1', q2']
  · exact d2.elim
  · exact d2.elim
end F20