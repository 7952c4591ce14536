/- It is proved that the example holds, and that a map that is not there does nothing, for any row. -/
import Derived.Test.YtmpkejckclgbnaaMe
open Go Go.Abs Go.Proofs
set_option maxRecDepth 100000
set_option maxHeartbeats 4000000
theorem f7_nil (hp s : List AObj) (ro) (k a1 a2 c1 c2 c3 c4 b1 b2 n rc num : Int) (key val rv : ByteArray) (rd wr : AV) (r1 : Plain rd) (r2 : Plain wr) : callW Try.prog how 7 [.nilp, .agg [.int .i64 a1, .int .u64 a2, .int .i64 k, .str key, .str val, rd, wr, .int .i64 c1, .int .i64 c2, .int .i64 c3, .int .i64 c4, .int .i64 b1, .int .u64 b2, .int .i64 n, .int .i64 rc, .str rv, .int .u64 num]] ⟨hp, s⟩ ro = some (.bool false, ⟨hp, s⟩) := by
  refine callW_body (fl := {}) rfl Try.func7 rfl ?_
  simp [execW, regionA, seqA, wantedA, yieldedA, isVal, effA, ev, evs, evps, Env.get, frameA, pushA, cxOf, putE, optsA, optsOk, valA, fieldAddrA, fieldA, loadA, partA, aggA, isAggD, buildA, placesA, fillA, lay, calleeA, storeA, finishA, resA, oneA, AV.back, AVs.back, AV.inb, AVs.inb, Loc.inb, binA, intBinA, shiftA, strBinA, unA, indexAddrA, buildSliceA, appendA, rowParts, fzL, AV.withCells, okE, elemsA, ofV, ofCell, bytesOk, isSrc, lenA, sub, bodyOf, Try.f7, List.replicate, eqA, guardOk, r1.one, r2.one, r1.cells, r2.cells, r1.inb, r2.inb]
def heapOf : Option (AV × AS) → List AObj
  | some (_, σ) => σ.hp
  | none => []
theorem f6_nil (c : AObj) : callN Try.prog how 40 6 [.nils] ⟨[], [c]⟩ none = some (.tup [.agg [.int .i64 0, .int .u64 0], .int .i64 0], ⟨heapOf (callN Try.prog how 40 6 [.nils] ⟨[], [c]⟩ none), [c]⟩) := by kernel_rfl
theorem f9_at (c d : AObj) : callN Try.prog how 40 9 [] ⟨heapOf (callN Try.prog how 40 6 [.nils] ⟨[], [c]⟩ none), [c, d]⟩ none = some (.bool true, ⟨heapOf (callN Try.prog how 40 9 [] ⟨heapOf (callN Try.prog how 40 6 [.nils] ⟨[], [c]⟩ none), [c, d]⟩ none), [c, d]⟩) := by kernel_rfl
#print axioms f9_at
