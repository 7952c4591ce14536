/- What the small functions of ballots and votes give. -/
import Derived.Test.YtmldaajjeeidjaaCa
open Go Go.Abs Go.Proofs
set_option maxRecDepth 100000
set_option maxHeartbeats 4000000
set_option linter.unusedSimpArgs false
set_option linter.unusedVariables false
attribute [simp] Try.underlying28 Try.underlying30
/-- Is a ballot less than another one? -/
def lessB (r1 n1 r2 n2 : Int) : Bool := decide (r1 < r2) || (decide (r1 = r2) && decide (n1 < n2))
def askedB (r n : Int) : Bool := decide (0 < r) && (decide (0 ≤ n) && decide (n < 5))

theorem f16_ok (hp s : List AObj) (ro : Option Nat) (r n : Int) (hro : ∀ k, ro = some k → k ≤ s.length) :
    callW Try.prog how 16 [.agg [.int .u64 r, .int .i64 n]] ⟨hp, s⟩ ro = some (.agg [.int .u64 r, .int .i64 n], ⟨hp, s⟩) := by
  refine callW_body (fl := {}) (fn := Try.f16) (c := bodyOf Try.f16) rfl Try.func16 rfl ?_
  have henv : ∃ e, e = frameA Try.f16 [.agg [.int .u64 r, .int .i64 n]] := ⟨_, rfl⟩
  obtain ⟨env, henv⟩ := henv
  have hl : env.length = 8 := by rw [henv]; rfl
  have h0 : Env.get env 0 = .agg [.int .u64 r, .int .i64 n] := by rw [henv]; rfl
  rw [← henv]
  clear henv
  simp -implicitDefEqProofs [ofV, ofCell, ofCells, seqA_nil, seqA_cons, seqVK_eq, seqEK_eq, wantedA, yieldedA, isVal, effA, ev, evs, evps, putE, optsA, optsOk, valA, fieldAddrA, fieldA, loadA, partA, aggA, isAggD, buildA, placesA, fillA, lay, storeA, AV.withCells, buildSliceA, elemsA, rowParts, fzL, promL, okE, isSrc, bytesOk, pushA, cxOf, lenA, binA, intBinA, strBinA, unA, indexAddrA, eqA, AVs.inb, AV.inb, Loc.inb, calleeA, opsOf, sub, bodyOf, Env.get_set, quietA_nil, quietA_cons, quietK_none, quietK_some, qstep, newA, isNew, escNew, boxOk, newLoc, flat, rowPartsQ, quietN, quietOp, isBS, List.takeWhile, finishA_eq, finK_ret, finK_normal, retK, backK, resA, oneA, AV.back, AVs.back, execW_seq_eq, seqK_normal, seqK_ret, seqK_exit, execW_cond_eq, condK_true, condK_false, execW_block_eq, blockK_exit, blockK_normal, blockK_ret, execW_region_eq, regK_eq, execW_skip, execW_exit, execW_ret, regionA_plain, regionA_quiet0, tailK_eq, nilCheckA, guardOk, isConst, lookupA, keyFits, mapUpdateA, beqI, bneI, Try.f16, hl, h0, wok_le hro, wok_le' hro]

theorem f14_ok (hp s : List AObj) (ro : Option Nat) (r1 n1 r2 n2 : Int) (hro : ∀ k, ro = some k → k ≤ s.length) :
    callW Try.prog how 14 [.agg [.int .u64 r1, .int .i64 n1], .agg [.int .u64 r2, .int .i64 n2]] ⟨hp, s⟩ ro = some (.bool (lessB r1 n1 r2 n2), ⟨hp, s⟩) := by
  refine callW_body (fl := {}) (fn := Try.f14) (c := bodyOf Try.f14) rfl Try.func14 rfl ?_
  have henv : ∃ e, e = frameA Try.f14 [.agg [.int .u64 r1, .int .i64 n1], .agg [.int .u64 r2, .int .i64 n2]] := ⟨_, rfl⟩
  obtain ⟨env, henv⟩ := henv
  have hl : env.length = 20 := by rw [henv]; rfl
  have h0 : Env.get env 0 = .agg [.int .u64 r1, .int .i64 n1] := by rw [henv]; rfl
  have h1 : Env.get env 1 = .agg [.int .u64 r2, .int .i64 n2] := by rw [henv]; rfl
  rw [← henv]
  clear henv
  by_cases g1 : r1 < r2
  · have g2 : ¬ r1 = r2 := by omega
    simp -implicitDefEqProofs [ofV, ofCell, ofCells, seqA_nil, seqA_cons, seqVK_eq, seqEK_eq, wantedA, yieldedA, isVal, effA, ev, evs, evps, putE, optsA, optsOk, valA, fieldAddrA, fieldA, loadA, partA, aggA, isAggD, buildA, placesA, fillA, lay, storeA, AV.withCells, buildSliceA, elemsA, rowParts, fzL, promL, okE, isSrc, bytesOk, pushA, cxOf, lenA, binA, intBinA, strBinA, unA, indexAddrA, eqA, AVs.inb, AV.inb, Loc.inb, calleeA, opsOf, sub, bodyOf, Env.get_set, quietA_nil, quietA_cons, quietK_none, quietK_some, qstep, newA, isNew, escNew, boxOk, newLoc, flat, rowPartsQ, quietN, quietOp, isBS, List.takeWhile, finishA_eq, finK_ret, finK_normal, retK, backK, resA, oneA, AV.back, AVs.back, execW_seq_eq, seqK_normal, seqK_ret, seqK_exit, execW_cond_eq, condK_true, condK_false, execW_block_eq, blockK_exit, blockK_normal, blockK_ret, execW_region_eq, regK_eq, execW_skip, execW_exit, execW_ret, regionA_plain, regionA_quiet0, tailK_eq, nilCheckA, guardOk, isConst, lookupA, keyFits, mapUpdateA, beqI, bneI, Try.f14, hl, h0, h1, wok_le hro, wok_le' hro, lessB, g1, g2]
  by_cases g2 : r1 = r2
  · subst g2
    by_cases g3 : n1 < n2
    · simp -implicitDefEqProofs [ofV, ofCell, ofCells, seqA_nil, seqA_cons, seqVK_eq, seqEK_eq, wantedA, yieldedA, isVal, effA, ev, evs, evps, putE, optsA, optsOk, valA, fieldAddrA, fieldA, loadA, partA, aggA, isAggD, buildA, placesA, fillA, lay, storeA, AV.withCells, buildSliceA, elemsA, rowParts, fzL, promL, okE, isSrc, bytesOk, pushA, cxOf, lenA, binA, intBinA, strBinA, unA, indexAddrA, eqA, AVs.inb, AV.inb, Loc.inb, calleeA, opsOf, sub, bodyOf, Env.get_set, quietA_nil, quietA_cons, quietK_none, quietK_some, qstep, newA, isNew, escNew, boxOk, newLoc, flat, rowPartsQ, quietN, quietOp, isBS, List.takeWhile, finishA_eq, finK_ret, finK_normal, retK, backK, resA, oneA, AV.back, AVs.back, execW_seq_eq, seqK_normal, seqK_ret, seqK_exit, execW_cond_eq, condK_true, condK_false, execW_block_eq, blockK_exit, blockK_normal, blockK_ret, execW_region_eq, regK_eq, execW_skip, execW_exit, execW_ret, regionA_plain, regionA_quiet0, tailK_eq, nilCheckA, guardOk, isConst, lookupA, keyFits, mapUpdateA, beqI, bneI, Try.f14, hl, h0, h1, wok_le hro, wok_le' hro, lessB, g3]
    · simp -implicitDefEqProofs [ofV, ofCell, ofCells, seqA_nil, seqA_cons, seqVK_eq, seqEK_eq, wantedA, yieldedA, isVal, effA, ev, evs, evps, putE, optsA, optsOk, valA, fieldAddrA, fieldA, loadA, partA, aggA, isAggD, buildA, placesA, fillA, lay, storeA, AV.withCells, buildSliceA, elemsA, rowParts, fzL, promL, okE, isSrc, bytesOk, pushA, cxOf, lenA, binA, intBinA, strBinA, unA, indexAddrA, eqA, AVs.inb, AV.inb, Loc.inb, calleeA, opsOf, sub, bodyOf, Env.get_set, quietA_nil, quietA_cons, quietK_none, quietK_some, qstep, newA, isNew, escNew, boxOk, newLoc, flat, rowPartsQ, quietN, quietOp, isBS, List.takeWhile, finishA_eq, finK_ret, finK_normal, retK, backK, resA, oneA, AV.back, AVs.back, execW_seq_eq, seqK_normal, seqK_ret, seqK_exit, execW_cond_eq, condK_true, condK_false, execW_block_eq, blockK_exit, blockK_normal, blockK_ret, execW_region_eq, regK_eq, execW_skip, execW_exit, execW_ret, regionA_plain, regionA_quiet0, tailK_eq, nilCheckA, guardOk, isConst, lookupA, keyFits, mapUpdateA, beqI, bneI, Try.f14, hl, h0, h1, wok_le hro, wok_le' hro, lessB, g3]
  simp -implicitDefEqProofs [ofV, ofCell, ofCells, seqA_nil, seqA_cons, seqVK_eq, seqEK_eq, wantedA, yieldedA, isVal, effA, ev, evs, evps, putE, optsA, optsOk, valA, fieldAddrA, fieldA, loadA, partA, aggA, isAggD, buildA, placesA, fillA, lay, storeA, AV.withCells, buildSliceA, elemsA, rowParts, fzL, promL, okE, isSrc, bytesOk, pushA, cxOf, lenA, binA, intBinA, strBinA, unA, indexAddrA, eqA, AVs.inb, AV.inb, Loc.inb, calleeA, opsOf, sub, bodyOf, Env.get_set, quietA_nil, quietA_cons, quietK_none, quietK_some, qstep, newA, isNew, escNew, boxOk, newLoc, flat, rowPartsQ, quietN, quietOp, isBS, List.takeWhile, finishA_eq, finK_ret, finK_normal, retK, backK, resA, oneA, AV.back, AVs.back, execW_seq_eq, seqK_normal, seqK_ret, seqK_exit, execW_cond_eq, condK_true, condK_false, execW_block_eq, blockK_exit, blockK_normal, blockK_ret, execW_region_eq, regK_eq, execW_skip, execW_exit, execW_ret, regionA_plain, regionA_quiet0, tailK_eq, nilCheckA, guardOk, isConst, lookupA, keyFits, mapUpdateA, beqI, bneI, Try.f14, hl, h0, h1, wok_le hro, wok_le' hro, lessB, g1, g2]

theorem f23_ok (hp s : List AObj) (ro : Option Nat) (r1 n1 r2 n2 : Int) (hro : ∀ k, ro = some k → k ≤ s.length) :
    callW Try.prog how 23 [.agg [.int .u64 r1, .int .i64 n1], .agg [.int .u64 r2, .int .i64 n2]] ⟨hp, s⟩ ro = some (.bool (lessB r1 n1 r2 n2), ⟨hp, s⟩) := by
  refine callW_body (fl := {}) (fn := Try.f23) (c := bodyOf Try.f23) rfl Try.func23 rfl ?_
  have henv : ∃ e, e = frameA Try.f23 [.agg [.int .u64 r1, .int .i64 n1], .agg [.int .u64 r2, .int .i64 n2]] := ⟨_, rfl⟩
  obtain ⟨env, henv⟩ := henv
  have hl : env.length = 24 := by rw [henv]; rfl
  have h0 : Env.get env 0 = .agg [.int .u64 r1, .int .i64 n1] := by rw [henv]; rfl
  have h1 : Env.get env 1 = .agg [.int .u64 r2, .int .i64 n2] := by rw [henv]; rfl
  rw [← henv]
  clear henv
  by_cases g1 : r1 < r2
  · have g2 : ¬ r1 = r2 := by omega
    simp -implicitDefEqProofs [ofV, ofCell, ofCells, seqA_nil, seqA_cons, seqVK_eq, seqEK_eq, wantedA, yieldedA, isVal, effA, ev, evs, evps, putE, optsA, optsOk, valA, fieldAddrA, fieldA, loadA, partA, aggA, isAggD, buildA, placesA, fillA, lay, storeA, AV.withCells, buildSliceA, elemsA, rowParts, fzL, promL, okE, isSrc, bytesOk, pushA, cxOf, lenA, binA, intBinA, strBinA, unA, indexAddrA, eqA, AVs.inb, AV.inb, Loc.inb, calleeA, opsOf, sub, bodyOf, Env.get_set, quietA_nil, quietA_cons, quietK_none, quietK_some, qstep, newA, isNew, escNew, boxOk, newLoc, flat, rowPartsQ, quietN, quietOp, isBS, List.takeWhile, finishA_eq, finK_ret, finK_normal, retK, backK, resA, oneA, AV.back, AVs.back, execW_seq_eq, seqK_normal, seqK_ret, seqK_exit, execW_cond_eq, condK_true, condK_false, execW_block_eq, blockK_exit, blockK_normal, blockK_ret, execW_region_eq, regK_eq, execW_skip, execW_exit, execW_ret, regionA_plain, regionA_quiet0, tailK_eq, nilCheckA, guardOk, isConst, lookupA, keyFits, mapUpdateA, beqI, bneI, Try.f23, hl, h0, h1, wok_le hro, wok_le' hro, lessB, g1, g2]
  by_cases g2 : r1 = r2
  · subst g2
    by_cases g3 : n1 < n2
    · simp -implicitDefEqProofs [ofV, ofCell, ofCells, seqA_nil, seqA_cons, seqVK_eq, seqEK_eq, wantedA, yieldedA, isVal, effA, ev, evs, evps, putE, optsA, optsOk, valA, fieldAddrA, fieldA, loadA, partA, aggA, isAggD, buildA, placesA, fillA, lay, storeA, AV.withCells, buildSliceA, elemsA, rowParts, fzL, promL, okE, isSrc, bytesOk, pushA, cxOf, lenA, binA, intBinA, strBinA, unA, indexAddrA, eqA, AVs.inb, AV.inb, Loc.inb, calleeA, opsOf, sub, bodyOf, Env.get_set, quietA_nil, quietA_cons, quietK_none, quietK_some, qstep, newA, isNew, escNew, boxOk, newLoc, flat, rowPartsQ, quietN, quietOp, isBS, List.takeWhile, finishA_eq, finK_ret, finK_normal, retK, backK, resA, oneA, AV.back, AVs.back, execW_seq_eq, seqK_normal, seqK_ret, seqK_exit, execW_cond_eq, condK_true, condK_false, execW_block_eq, blockK_exit, blockK_normal, blockK_ret, execW_region_eq, regK_eq, execW_skip, execW_exit, execW_ret, regionA_plain, regionA_quiet0, tailK_eq, nilCheckA, guardOk, isConst, lookupA, keyFits, mapUpdateA, beqI, bneI, Try.f23, hl, h0, h1, wok_le hro, wok_le' hro, lessB, g3]
    · simp -implicitDefEqProofs [ofV, ofCell, ofCells, seqA_nil, seqA_cons, seqVK_eq, seqEK_eq, wantedA, yieldedA, isVal, effA, ev, evs, evps, putE, optsA, optsOk, valA, fieldAddrA, fieldA, loadA, partA, aggA, isAggD, buildA, placesA, fillA, lay, storeA, AV.withCells, buildSliceA, elemsA, rowParts, fzL, promL, okE, isSrc, bytesOk, pushA, cxOf, lenA, binA, intBinA, strBinA, unA, indexAddrA, eqA, AVs.inb, AV.inb, Loc.inb, calleeA, opsOf, sub, bodyOf, Env.get_set, quietA_nil, quietA_cons, quietK_none, quietK_some, qstep, newA, isNew, escNew, boxOk, newLoc, flat, rowPartsQ, quietN, quietOp, isBS, List.takeWhile, finishA_eq, finK_ret, finK_normal, retK, backK, resA, oneA, AV.back, AVs.back, execW_seq_eq, seqK_normal, seqK_ret, seqK_exit, execW_cond_eq, condK_true, condK_false, execW_block_eq, blockK_exit, blockK_normal, blockK_ret, execW_region_eq, regK_eq, execW_skip, execW_exit, execW_ret, regionA_plain, regionA_quiet0, tailK_eq, nilCheckA, guardOk, isConst, lookupA, keyFits, mapUpdateA, beqI, bneI, Try.f23, hl, h0, h1, wok_le hro, wok_le' hro, lessB, g3]
  simp -implicitDefEqProofs [ofV, ofCell, ofCells, seqA_nil, seqA_cons, seqVK_eq, seqEK_eq, wantedA, yieldedA, isVal, effA, ev, evs, evps, putE, optsA, optsOk, valA, fieldAddrA, fieldA, loadA, partA, aggA, isAggD, buildA, placesA, fillA, lay, storeA, AV.withCells, buildSliceA, elemsA, rowParts, fzL, promL, okE, isSrc, bytesOk, pushA, cxOf, lenA, binA, intBinA, strBinA, unA, indexAddrA, eqA, AVs.inb, AV.inb, Loc.inb, calleeA, opsOf, sub, bodyOf, Env.get_set, quietA_nil, quietA_cons, quietK_none, quietK_some, qstep, newA, isNew, escNew, boxOk, newLoc, flat, rowPartsQ, quietN, quietOp, isBS, List.takeWhile, finishA_eq, finK_ret, finK_normal, retK, backK, resA, oneA, AV.back, AVs.back, execW_seq_eq, seqK_normal, seqK_ret, seqK_exit, execW_cond_eq, condK_true, condK_false, execW_block_eq, blockK_exit, blockK_normal, blockK_ret, execW_region_eq, regK_eq, execW_skip, execW_exit, execW_ret, regionA_plain, regionA_quiet0, tailK_eq, nilCheckA, guardOk, isConst, lookupA, keyFits, mapUpdateA, beqI, bneI, Try.f23, hl, h0, h1, wok_le hro, wok_le' hro, lessB, g1, g2]

theorem f22_ok (hp s : List AObj) (ro : Option Nat) (r n : Int) (hr : 0 ≤ r) (hro : ∀ k, ro = some k → k ≤ s.length) :
    callW Try.prog how 22 [.agg [.int .u64 r, .int .i64 n]] ⟨hp, s⟩ ro = some (.bool (askedB r n), ⟨hp, s⟩) := by
  refine callW_body (fl := {}) (fn := Try.f22) (c := bodyOf Try.f22) rfl Try.func22 rfl ?_
  have henv : ∃ e, e = frameA Try.f22 [.agg [.int .u64 r, .int .i64 n]] := ⟨_, rfl⟩
  obtain ⟨env, henv⟩ := henv
  have hl : env.length = 16 := by rw [henv]; rfl
  have h0 : Env.get env 0 = .agg [.int .u64 r, .int .i64 n] := by rw [henv]; rfl
  rw [← henv]
  clear henv
  by_cases g1 : 0 < r
  · have g1' : ¬ r = 0 := by omega
    by_cases g2 : 0 ≤ n
    · by_cases g3 : n < 5
      · have g4 : n ≤ 4 := by omega
        simp -implicitDefEqProofs [ofV, ofCell, ofCells, seqA_nil, seqA_cons, seqVK_eq, seqEK_eq, wantedA, yieldedA, isVal, effA, ev, evs, evps, putE, optsA, optsOk, valA, fieldAddrA, fieldA, loadA, partA, aggA, isAggD, buildA, placesA, fillA, lay, storeA, AV.withCells, buildSliceA, elemsA, rowParts, fzL, promL, okE, isSrc, bytesOk, pushA, cxOf, lenA, binA, intBinA, strBinA, unA, indexAddrA, eqA, AVs.inb, AV.inb, Loc.inb, calleeA, opsOf, sub, bodyOf, Env.get_set, quietA_nil, quietA_cons, quietK_none, quietK_some, qstep, newA, isNew, escNew, boxOk, newLoc, flat, rowPartsQ, quietN, quietOp, isBS, List.takeWhile, finishA_eq, finK_ret, finK_normal, retK, backK, resA, oneA, AV.back, AVs.back, execW_seq_eq, seqK_normal, seqK_ret, seqK_exit, execW_cond_eq, condK_true, condK_false, execW_block_eq, blockK_exit, blockK_normal, blockK_ret, execW_region_eq, regK_eq, execW_skip, execW_exit, execW_ret, regionA_plain, regionA_quiet0, tailK_eq, nilCheckA, guardOk, isConst, lookupA, keyFits, mapUpdateA, beqI, bneI, Try.f22, hl, h0, wok_le hro, wok_le' hro, askedB, g1, g1', g2, g3, g4]
      · have g4 : ¬ n ≤ 4 := by omega
        simp -implicitDefEqProofs [ofV, ofCell, ofCells, seqA_nil, seqA_cons, seqVK_eq, seqEK_eq, wantedA, yieldedA, isVal, effA, ev, evs, evps, putE, optsA, optsOk, valA, fieldAddrA, fieldA, loadA, partA, aggA, isAggD, buildA, placesA, fillA, lay, storeA, AV.withCells, buildSliceA, elemsA, rowParts, fzL, promL, okE, isSrc, bytesOk, pushA, cxOf, lenA, binA, intBinA, strBinA, unA, indexAddrA, eqA, AVs.inb, AV.inb, Loc.inb, calleeA, opsOf, sub, bodyOf, Env.get_set, quietA_nil, quietA_cons, quietK_none, quietK_some, qstep, newA, isNew, escNew, boxOk, newLoc, flat, rowPartsQ, quietN, quietOp, isBS, List.takeWhile, finishA_eq, finK_ret, finK_normal, retK, backK, resA, oneA, AV.back, AVs.back, execW_seq_eq, seqK_normal, seqK_ret, seqK_exit, execW_cond_eq, condK_true, condK_false, execW_block_eq, blockK_exit, blockK_normal, blockK_ret, execW_region_eq, regK_eq, execW_skip, execW_exit, execW_ret, regionA_plain, regionA_quiet0, tailK_eq, nilCheckA, guardOk, isConst, lookupA, keyFits, mapUpdateA, beqI, bneI, Try.f22, hl, h0, wok_le hro, wok_le' hro, askedB, g1, g1', g2, g3, g4]
    · simp -implicitDefEqProofs [ofV, ofCell, ofCells, seqA_nil, seqA_cons, seqVK_eq, seqEK_eq, wantedA, yieldedA, isVal, effA, ev, evs, evps, putE, optsA, optsOk, valA, fieldAddrA, fieldA, loadA, partA, aggA, isAggD, buildA, placesA, fillA, lay, storeA, AV.withCells, buildSliceA, elemsA, rowParts, fzL, promL, okE, isSrc, bytesOk, pushA, cxOf, lenA, binA, intBinA, strBinA, unA, indexAddrA, eqA, AVs.inb, AV.inb, Loc.inb, calleeA, opsOf, sub, bodyOf, Env.get_set, quietA_nil, quietA_cons, quietK_none, quietK_some, qstep, newA, isNew, escNew, boxOk, newLoc, flat, rowPartsQ, quietN, quietOp, isBS, List.takeWhile, finishA_eq, finK_ret, finK_normal, retK, backK, resA, oneA, AV.back, AVs.back, execW_seq_eq, seqK_normal, seqK_ret, seqK_exit, execW_cond_eq, condK_true, condK_false, execW_block_eq, blockK_exit, blockK_normal, blockK_ret, execW_region_eq, regK_eq, execW_skip, execW_exit, execW_ret, regionA_plain, regionA_quiet0, tailK_eq, nilCheckA, guardOk, isConst, lookupA, keyFits, mapUpdateA, beqI, bneI, Try.f22, hl, h0, wok_le hro, wok_le' hro, askedB, g1, g1', g2]
  have g1' : r = 0 := by omega
  simp -implicitDefEqProofs [ofV, ofCell, ofCells, seqA_nil, seqA_cons, seqVK_eq, seqEK_eq, wantedA, yieldedA, isVal, effA, ev, evs, evps, putE, optsA, optsOk, valA, fieldAddrA, fieldA, loadA, partA, aggA, isAggD, buildA, placesA, fillA, lay, storeA, AV.withCells, buildSliceA, elemsA, rowParts, fzL, promL, okE, isSrc, bytesOk, pushA, cxOf, lenA, binA, intBinA, strBinA, unA, indexAddrA, eqA, AVs.inb, AV.inb, Loc.inb, calleeA, opsOf, sub, bodyOf, Env.get_set, quietA_nil, quietA_cons, quietK_none, quietK_some, qstep, newA, isNew, escNew, boxOk, newLoc, flat, rowPartsQ, quietN, quietOp, isBS, List.takeWhile, finishA_eq, finK_ret, finK_normal, retK, backK, resA, oneA, AV.back, AVs.back, execW_seq_eq, seqK_normal, seqK_ret, seqK_exit, execW_cond_eq, condK_true, condK_false, execW_block_eq, blockK_exit, blockK_normal, blockK_ret, execW_region_eq, regK_eq, execW_skip, execW_exit, execW_ret, regionA_plain, regionA_quiet0, tailK_eq, nilCheckA, guardOk, isConst, lookupA, keyFits, mapUpdateA, beqI, bneI, Try.f22, hl, h0, wok_le hro, wok_le' hro, askedB, g1, g1']

theorem f24_ok (hp s : List AObj) (ro : Option Nat) (r n : Int) (hr : 0 ≤ r) (hro : ∀ k, ro = some k → k ≤ s.length) :
    callW Try.prog how 24 [.agg [.int .u64 r, .int .i64 n]] ⟨hp, s⟩ ro = some (.bool (askedB r n), ⟨hp, s⟩) := by
  refine callW_body (fl := {}) (fn := Try.f24) (c := bodyOf Try.f24) rfl Try.func24 rfl ?_
  have henv : ∃ e, e = frameA Try.f24 [.agg [.int .u64 r, .int .i64 n]] := ⟨_, rfl⟩
  obtain ⟨env, henv⟩ := henv
  have hl : env.length = 16 := by rw [henv]; rfl
  have h0 : Env.get env 0 = .agg [.int .u64 r, .int .i64 n] := by rw [henv]; rfl
  rw [← henv]
  clear henv
  by_cases g1 : 0 < r
  · have g1' : ¬ r = 0 := by omega
    by_cases g2 : 0 ≤ n
    · by_cases g3 : n < 5
      · have g4 : n ≤ 4 := by omega
        simp -implicitDefEqProofs [ofV, ofCell, ofCells, seqA_nil, seqA_cons, seqVK_eq, seqEK_eq, wantedA, yieldedA, isVal, effA, ev, evs, evps, putE, optsA, optsOk, valA, fieldAddrA, fieldA, loadA, partA, aggA, isAggD, buildA, placesA, fillA, lay, storeA, AV.withCells, buildSliceA, elemsA, rowParts, fzL, promL, okE, isSrc, bytesOk, pushA, cxOf, lenA, binA, intBinA, strBinA, unA, indexAddrA, eqA, AVs.inb, AV.inb, Loc.inb, calleeA, opsOf, sub, bodyOf, Env.get_set, quietA_nil, quietA_cons, quietK_none, quietK_some, qstep, newA, isNew, escNew, boxOk, newLoc, flat, rowPartsQ, quietN, quietOp, isBS, List.takeWhile, finishA_eq, finK_ret, finK_normal, retK, backK, resA, oneA, AV.back, AVs.back, execW_seq_eq, seqK_normal, seqK_ret, seqK_exit, execW_cond_eq, condK_true, condK_false, execW_block_eq, blockK_exit, blockK_normal, blockK_ret, execW_region_eq, regK_eq, execW_skip, execW_exit, execW_ret, regionA_plain, regionA_quiet0, tailK_eq, nilCheckA, guardOk, isConst, lookupA, keyFits, mapUpdateA, beqI, bneI, Try.f24, hl, h0, wok_le hro, wok_le' hro, askedB, g1, g1', g2, g3, g4]
      · have g4 : ¬ n ≤ 4 := by omega
        simp -implicitDefEqProofs [ofV, ofCell, ofCells, seqA_nil, seqA_cons, seqVK_eq, seqEK_eq, wantedA, yieldedA, isVal, effA, ev, evs, evps, putE, optsA, optsOk, valA, fieldAddrA, fieldA, loadA, partA, aggA, isAggD, buildA, placesA, fillA, lay, storeA, AV.withCells, buildSliceA, elemsA, rowParts, fzL, promL, okE, isSrc, bytesOk, pushA, cxOf, lenA, binA, intBinA, strBinA, unA, indexAddrA, eqA, AVs.inb, AV.inb, Loc.inb, calleeA, opsOf, sub, bodyOf, Env.get_set, quietA_nil, quietA_cons, quietK_none, quietK_some, qstep, newA, isNew, escNew, boxOk, newLoc, flat, rowPartsQ, quietN, quietOp, isBS, List.takeWhile, finishA_eq, finK_ret, finK_normal, retK, backK, resA, oneA, AV.back, AVs.back, execW_seq_eq, seqK_normal, seqK_ret, seqK_exit, execW_cond_eq, condK_true, condK_false, execW_block_eq, blockK_exit, blockK_normal, blockK_ret, execW_region_eq, regK_eq, execW_skip, execW_exit, execW_ret, regionA_plain, regionA_quiet0, tailK_eq, nilCheckA, guardOk, isConst, lookupA, keyFits, mapUpdateA, beqI, bneI, Try.f24, hl, h0, wok_le hro, wok_le' hro, askedB, g1, g1', g2, g3, g4]
    · simp -implicitDefEqProofs [ofV, ofCell, ofCells, seqA_nil, seqA_cons, seqVK_eq, seqEK_eq, wantedA, yieldedA, isVal, effA, ev, evs, evps, putE, optsA, optsOk, valA, fieldAddrA, fieldA, loadA, partA, aggA, isAggD, buildA, placesA, fillA, lay, storeA, AV.withCells, buildSliceA, elemsA, rowParts, fzL, promL, okE, isSrc, bytesOk, pushA, cxOf, lenA, binA, intBinA, strBinA, unA, indexAddrA, eqA, AVs.inb, AV.inb, Loc.inb, calleeA, opsOf, sub, bodyOf, Env.get_set, quietA_nil, quietA_cons, quietK_none, quietK_some, qstep, newA, isNew, escNew, boxOk, newLoc, flat, rowPartsQ, quietN, quietOp, isBS, List.takeWhile, finishA_eq, finK_ret, finK_normal, retK, backK, resA, oneA, AV.back, AVs.back, execW_seq_eq, seqK_normal, seqK_ret, seqK_exit, execW_cond_eq, condK_true, condK_false, execW_block_eq, blockK_exit, blockK_normal, blockK_ret, execW_region_eq, regK_eq, execW_skip, execW_exit, execW_ret, regionA_plain, regionA_quiet0, tailK_eq, nilCheckA, guardOk, isConst, lookupA, keyFits, mapUpdateA, beqI, bneI, Try.f24, hl, h0, wok_le hro, wok_le' hro, askedB, g1, g1', g2]
  have g1' : r = 0 := by omega
  simp -implicitDefEqProofs [ofV, ofCell, ofCells, seqA_nil, seqA_cons, seqVK_eq, seqEK_eq, wantedA, yieldedA, isVal, effA, ev, evs, evps, putE, optsA, optsOk, valA, fieldAddrA, fieldA, loadA, partA, aggA, isAggD, buildA, placesA, fillA, lay, storeA, AV.withCells, buildSliceA, elemsA, rowParts, fzL, promL, okE, isSrc, bytesOk, pushA, cxOf, lenA, binA, intBinA, strBinA, unA, indexAddrA, eqA, AVs.inb, AV.inb, Loc.inb, calleeA, opsOf, sub, bodyOf, Env.get_set, quietA_nil, quietA_cons, quietK_none, quietK_some, qstep, newA, isNew, escNew, boxOk, newLoc, flat, rowPartsQ, quietN, quietOp, isBS, List.takeWhile, finishA_eq, finK_ret, finK_normal, retK, backK, resA, oneA, AV.back, AVs.back, execW_seq_eq, seqK_normal, seqK_ret, seqK_exit, execW_cond_eq, condK_true, condK_false, execW_block_eq, blockK_exit, blockK_normal, blockK_ret, execW_region_eq, regK_eq, execW_skip, execW_exit, execW_ret, regionA_plain, regionA_quiet0, tailK_eq, nilCheckA, guardOk, isConst, lookupA, keyFits, mapUpdateA, beqI, bneI, Try.f24, hl, h0, wok_le hro, wok_le' hro, askedB, g1, g1']

theorem f9_ok (hp s : List AObj) (ro : Option Nat) (xs xr xn : Int) (xv : ByteArray) (hro : ∀ k, ro = some k → k ≤ s.length) :
    callW Try.prog how 9 [.agg [.int .i64 xs, .int .u64 xr, .int .i64 xn, .str xv]] ⟨hp, s⟩ ro = some (.agg [.int .i64 xs, .int .u64 xr, .int .i64 xn, .str xv], ⟨hp, s⟩) := by
  refine callW_body (fl := {}) (fn := Try.f9) (c := bodyOf Try.f9) rfl Try.func9 rfl ?_
  have henv : ∃ e, e = frameA Try.f9 [.agg [.int .i64 xs, .int .u64 xr, .int .i64 xn, .str xv]] := ⟨_, rfl⟩
  obtain ⟨env, henv⟩ := henv
  have hl : env.length = 11 := by rw [henv]; rfl
  have h0 : Env.get env 0 = .agg [.int .i64 xs, .int .u64 xr, .int .i64 xn, .str xv] := by rw [henv]; rfl
  rw [← henv]
  clear henv
  simp -implicitDefEqProofs [ofV, ofCell, ofCells, seqA_nil, seqA_cons, seqVK_eq, seqEK_eq, wantedA, yieldedA, isVal, effA, ev, evs, evps, putE, optsA, optsOk, valA, fieldAddrA, fieldA, loadA, partA, aggA, isAggD, buildA, placesA, fillA, lay, storeA, AV.withCells, buildSliceA, elemsA, rowParts, fzL, promL, okE, isSrc, bytesOk, pushA, cxOf, lenA, binA, intBinA, strBinA, unA, indexAddrA, eqA, AVs.inb, AV.inb, Loc.inb, calleeA, opsOf, sub, bodyOf, Env.get_set, quietA_nil, quietA_cons, quietK_none, quietK_some, qstep, newA, isNew, escNew, boxOk, newLoc, flat, rowPartsQ, quietN, quietOp, isBS, List.takeWhile, finishA_eq, finK_ret, finK_normal, retK, backK, resA, oneA, AV.back, AVs.back, execW_seq_eq, seqK_normal, seqK_ret, seqK_exit, execW_cond_eq, condK_true, condK_false, execW_block_eq, blockK_exit, blockK_normal, blockK_ret, execW_region_eq, regK_eq, execW_skip, execW_exit, execW_ret, regionA_plain, regionA_quiet0, tailK_eq, nilCheckA, guardOk, isConst, lookupA, keyFits, mapUpdateA, beqI, bneI, Try.f9, hl, h0, wok_le hro, wok_le' hro, f13_ok]

theorem f15_ok (hp s : List AObj) (ro : Option Nat) (xs xr xn : Int) (xv : ByteArray) (hro : ∀ k, ro = some k → k ≤ s.length) :
    callW Try.prog how 15 [.agg [.int .i64 xs, .int .u64 xr, .int .i64 xn, .str xv]] ⟨hp, s⟩ ro = some (.agg [.int .i64 xs, .int .u64 xr, .int .i64 xn, .str xv], ⟨hp, s⟩) := by
  refine callW_body (fl := {}) (fn := Try.f15) (c := bodyOf Try.f15) rfl Try.func15 rfl ?_
  have henv : ∃ e, e = frameA Try.f15 [.agg [.int .i64 xs, .int .u64 xr, .int .i64 xn, .str xv]] := ⟨_, rfl⟩
  obtain ⟨env, henv⟩ := henv
  have hl : env.length = 11 := by rw [henv]; rfl
  have h0 : Env.get env 0 = .agg [.int .i64 xs, .int .u64 xr, .int .i64 xn, .str xv] := by rw [henv]; rfl
  rw [← henv]
  clear henv
  simp -implicitDefEqProofs [ofV, ofCell, ofCells, seqA_nil, seqA_cons, seqVK_eq, seqEK_eq, wantedA, yieldedA, isVal, effA, ev, evs, evps, putE, optsA, optsOk, valA, fieldAddrA, fieldA, loadA, partA, aggA, isAggD, buildA, placesA, fillA, lay, storeA, AV.withCells, buildSliceA, elemsA, rowParts, fzL, promL, okE, isSrc, bytesOk, pushA, cxOf, lenA, binA, intBinA, strBinA, unA, indexAddrA, eqA, AVs.inb, AV.inb, Loc.inb, calleeA, opsOf, sub, bodyOf, Env.get_set, quietA_nil, quietA_cons, quietK_none, quietK_some, qstep, newA, isNew, escNew, boxOk, newLoc, flat, rowPartsQ, quietN, quietOp, isBS, List.takeWhile, finishA_eq, finK_ret, finK_normal, retK, backK, resA, oneA, AV.back, AVs.back, execW_seq_eq, seqK_normal, seqK_ret, seqK_exit, execW_cond_eq, condK_true, condK_false, execW_block_eq, blockK_exit, blockK_normal, blockK_ret, execW_region_eq, regK_eq, execW_skip, execW_exit, execW_ret, regionA_plain, regionA_quiet0, tailK_eq, nilCheckA, guardOk, isConst, lookupA, keyFits, mapUpdateA, beqI, bneI, Try.f15, hl, h0, wok_le hro, wok_le' hro, f16_ok]

theorem f17_ok (hp s : List AObj) (ro : Option Nat) (a m : Nat) (pr pn : Int) (hro : ∀ k, ro = some k → k ≤ s.length) (hA : hp[a]? = some (.cells [.int .u64 pr, .int .i64 pn, .map (.hp m)])) :
    callW Try.prog how 17 [.ptr (.hp a) 0] ⟨hp, s⟩ ro = some (.agg [.int .u64 pr, .int .i64 pn], ⟨hp, s⟩) := by
  refine callW_body (fl := {}) (fn := Try.f17) (c := bodyOf Try.f17) rfl Try.func17 rfl ?_
  have henv : ∃ e, e = frameA Try.f17 [.ptr (.hp a) 0] := ⟨_, rfl⟩
  obtain ⟨env, henv⟩ := henv
  have hl : env.length = 10 := by rw [henv]; rfl
  have h0 : Env.get env 0 = .ptr (.hp a) 0 := by rw [henv]; rfl
  rw [← henv]
  clear henv
  simp -implicitDefEqProofs [ofV, ofCell, ofCells, seqA_nil, seqA_cons, seqVK_eq, seqEK_eq, wantedA, yieldedA, isVal, effA, ev, evs, evps, putE, optsA, optsOk, valA, fieldAddrA, fieldA, loadA, partA, aggA, isAggD, buildA, placesA, fillA, lay, storeA, AV.withCells, buildSliceA, elemsA, rowParts, fzL, promL, okE, isSrc, bytesOk, pushA, cxOf, lenA, binA, intBinA, strBinA, unA, indexAddrA, eqA, AVs.inb, AV.inb, Loc.inb, calleeA, opsOf, sub, bodyOf, Env.get_set, quietA_nil, quietA_cons, quietK_none, quietK_some, qstep, newA, isNew, escNew, boxOk, newLoc, flat, rowPartsQ, quietN, quietOp, isBS, List.takeWhile, finishA_eq, finK_ret, finK_normal, retK, backK, resA, oneA, AV.back, AVs.back, execW_seq_eq, seqK_normal, seqK_ret, seqK_exit, execW_cond_eq, condK_true, condK_false, execW_block_eq, blockK_exit, blockK_normal, blockK_ret, execW_region_eq, regK_eq, execW_skip, execW_exit, execW_ret, regionA_plain, regionA_quiet0, tailK_eq, nilCheckA, guardOk, isConst, lookupA, keyFits, mapUpdateA, beqI, bneI, Try.f17, hl, h0, wok_le hro, wok_le' hro, hA]

@[simp] theorem z61 : zeroA Try.prog 61 = some (.agg [.int .u64 0, .int .i64 0, .nilm]) := by kernel_rfl
@[simp] theorem z33 : zeroA Try.prog 33 = some (.agg [.int .u64 0, .int .i64 0, .nils]) := by kernel_rfl
theorem f6_ok (hp s : List AObj)  :
    callW Try.prog how 6 [] ⟨hp, s⟩ none = some (.ptr (.hp (hp.length + 1)) 0, ⟨hp ++ [.map [], .cells [.int .u64 0, .int .i64 0, .map (.hp hp.length)]], s⟩) := by
  refine callW_body (fl := { esc := [1, 3] }) (fn := Try.f6) (c := bodyOf Try.f6) rfl Try.func6 rfl ?_
  have henv : ∃ e, e = frameA Try.f6 [] := ⟨_, rfl⟩
  obtain ⟨env, henv⟩ := henv
  have hl : env.length = 4 := by rw [henv]; rfl
  rw [← henv]
  clear henv
  simp -implicitDefEqProofs [ofV, ofCell, ofCells, seqA_nil, seqA_cons, seqVK_eq, seqEK_eq, wantedA, yieldedA, isVal, effA, ev, evs, evps, putE, optsA, optsOk, valA, fieldAddrA, fieldA, loadA, partA, aggA, isAggD, buildA, placesA, fillA, lay, storeA, AV.withCells, buildSliceA, elemsA, rowParts, fzL, promL, okE, isSrc, bytesOk, pushA, cxOf, lenA, binA, intBinA, strBinA, unA, indexAddrA, eqA, AVs.inb, AV.inb, Loc.inb, calleeA, opsOf, sub, bodyOf, Env.get_set, quietA_nil, quietA_cons, quietK_none, quietK_some, qstep, newA, isNew, escNew, boxOk, newLoc, flat, rowPartsQ, quietN, quietOp, isBS, List.takeWhile, finishA_eq, finK_ret, finK_normal, retK, backK, resA, oneA, AV.back, AVs.back, execW_seq_eq, seqK_normal, seqK_ret, seqK_exit, execW_cond_eq, condK_true, condK_false, execW_block_eq, blockK_exit, blockK_normal, blockK_ret, execW_region_eq, regK_eq, execW_skip, execW_exit, execW_ret, regionA_plain, regionA_quiet0, tailK_eq, nilCheckA, guardOk, isConst, lookupA, keyFits, mapUpdateA, beqI, bneI, Try.f6, hl]
