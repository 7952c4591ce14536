/- How each function is run, and what some types are. -/
import Derived.Test.YtmldaajjeeidjaaAbs13
import Derived.Test.YtmldaajjeeidjaaChecked
open Go Go.Abs Go.Proofs
set_option maxRecDepth 100000
set_option maxHeartbeats 4000000
set_option linter.unusedSimpArgs false
set_option linter.unusedVariables false
def bodyTab : List (Nat × Flags) := [(3, {esc := [15], tails := [2000010, 2000013]}), (4, {esc := [11], tails := [2000006]}), (5, {tails := [2000008]}), (6, {esc := [1, 3]}), (7, {tails := [2000003, 2000008]}), (8, {tails := [2000007]}), (26, {esc := [1]})]
def how (f : FuncId) : Option How := if f = 25 then some (.prim (sortedA kindI 29)) else match bodyTab.find? (fun p => p.1 == f) with
  | some p => some (.body p.2)
  | none => if f < 25 then some (.body {}) else none
section
@[simp] theorem z25 : zeroA Try.prog 25 = some (.agg [.int .u64 0, .int .i64 0]) := by kernel_rfl
@[simp] theorem z39 : zeroA Try.prog 39 = some (.agg [.int .u64 0, .int .i64 0]) := by kernel_rfl
@[simp] theorem z27 : zeroA Try.prog 27 = some (.agg [.int .i64 0, .int .u64 0, .int .i64 0, .str ⟨#[]⟩]) := by kernel_rfl
@[simp] theorem z41 : zeroA Try.prog 41 = some (.agg [.int .i64 0, .int .u64 0, .int .i64 0, .str ⟨#[]⟩]) := by kernel_rfl
@[simp] theorem s3 : sizeA Try.prog 3 = some 1 := by kernel_rfl
@[simp] theorem s9 : sizeA Try.prog 9 = some 1 := by kernel_rfl
@[simp] theorem s23 : sizeA Try.prog 23 = some 1 := by kernel_rfl
@[simp] theorem s25 : sizeA Try.prog 25 = some 2 := by kernel_rfl
@[simp] theorem s39 : sizeA Try.prog 39 = some 2 := by kernel_rfl
@[simp] theorem s27 : sizeA Try.prog 27 = some 4 := by kernel_rfl
@[simp] theorem s41 : sizeA Try.prog 41 = some 4 := by kernel_rfl
@[simp] theorem s61 : sizeA Try.prog 61 = some 3 := by kernel_rfl
@[simp] theorem s59 : sizeA Try.prog 59 = some 1 := by kernel_rfl
@[simp] theorem s33 : sizeA Try.prog 33 = some 3 := by kernel_rfl
@[simp] theorem s31 : sizeA Try.prog 31 = some 1 := by kernel_rfl
@[simp] theorem s35 : sizeA Try.prog 35 = some 6 := by kernel_rfl
end
attribute [simp] Try.underlying25 Try.underlying39 Try.underlying27 Try.underlying41 Try.underlying61 Try.underlying59 Try.underlying33 Try.underlying31 Try.underlying35 Try.underlying3 Try.underlying9 Try.underlying23
theorem f13_ok (hp s : List AObj) (ro : Option Nat) (r n : Int) (hro : ∀ k, ro = some k → k ≤ s.length) :
    callW Try.prog how 13 [.agg [.int .u64 r, .int .i64 n]] ⟨hp, s⟩ ro = some (.agg [.int .u64 r, .int .i64 n], ⟨hp, s⟩) := by
  refine callW_body (fl := {}) (fn := Try.f13) (c := bodyOf Try.f13) rfl Try.func13 rfl ?_
  have henv : ∃ e, e = frameA Try.f13 [.agg [.int .u64 r, .int .i64 n]] := ⟨_, rfl⟩
  obtain ⟨env, henv⟩ := henv
  have hl : env.length = 8 := by rw [henv]; rfl
  have h0 : Env.get env 0 = .agg [.int .u64 r, .int .i64 n] := by rw [henv]; rfl
  rw [← henv]
  clear henv
  simp -implicitDefEqProofs [ofV, ofCell, ofCells, seqA_nil, seqA_cons, seqVK_eq, seqEK_eq, wantedA, yieldedA, isVal, effA, ev, evs, evps, putE, optsA, optsOk, valA, fieldAddrA, fieldA, loadA, partA, aggA, isAggD, buildA, placesA, fillA, lay, storeA, AV.withCells, buildSliceA, elemsA, rowParts, fzL, promL, okE, isSrc, bytesOk, pushA, cxOf, lenA, binA, intBinA, strBinA, unA, indexAddrA, eqA, AVs.inb, AV.inb, Loc.inb, calleeA, opsOf, sub, bodyOf, Env.get_set, quietA_nil, quietA_cons, quietK_none, quietK_some, qstep, newA, isNew, escNew, boxOk, newLoc, flat, rowPartsQ, quietN, quietOp, isBS, List.takeWhile, finishA_eq, finK_ret, finK_normal, retK, backK, resA, oneA, AV.back, AVs.back, execW_seq_eq, seqK_normal, seqK_ret, seqK_exit, execW_cond_eq, condK_true, condK_false, execW_block_eq, blockK_exit, blockK_normal, blockK_ret, execW_region_eq, regK_eq, execW_skip, execW_exit, execW_ret, regionA_plain, regionA_quiet0, tailK_eq, nilCheckA, guardOk, isConst, lookupA, keyFits, mapUpdateA, beqI, bneI, Try.f13, hl, h0, wok_le hro, wok_le' hro]
