/- It is proved that the conversion of an operation gives its lists cut to ten, for any operation. -/
import Derived.Test.YtmpkejckclgbnaaMc
open Go Go.Abs Go.Proofs
set_option maxRecDepth 100000
set_option maxHeartbeats 4000000
set_option linter.unusedSimpArgs false
set_option linter.unusedVariables false
theorem f10_ok (hp s : List AObj) (ro) (k : Int) (key val : ByteArray) (rd wr : AV)
  (hro : ∀ k, ro = some k → k ≤ s.length) (r1 : isRd rd) (r2 : isWr wr) :
  callW Try.prog how 10 [.agg [.int .i64 k, .str key, .str val, rd, wr]] ⟨hp, s⟩ ro = some (.agg [.int .i64 k, .str key, .str val, cut10 2 rd, cut10 3 wr], ⟨hp, s⟩) := by
  have h25 := fun g => f25_ok hp (s ++ g) ro 0 0 false rd wr (fun k hk => by have := hro k hk; simp; omega) r1 r2
  refine callW_body (fl := {}) rfl Try.func10 rfl ?_
  have r3 := cut10_plain (sz := 2) (x := rd)
  have r4 := cut10_plain (sz := 3) (x := wr)
  simp [execW, regionA, seqA, wantedA, yieldedA, isVal, effA, ev, evs, evps, Env.get, frameA, pushA, cxOf, putE, optsA, optsOk, valA, fieldAddrA, fieldA, loadA, partA, aggA, isAggD, buildA, placesA, fillA, lay, calleeA, storeA, finishA, resA, oneA, AV.back, AVs.back, AV.inb, AVs.inb, Loc.inb, binA, intBinA, shiftA, strBinA, unA, indexAddrA, buildSliceA, appendA, rowParts, fzL, AV.withCells, okE, elemsA, ofV, ofCell, bytesOk, isSrc, lenA, sub, bodyOf, Try.f10, List.replicate, h25, wok_le hro, wok_le' hro, r1.one, r2.one, one_cells r1.one, one_cells r2.one, r3.one, r4.one, r3.cells, r4.cells, r3.inb, r4.inb, r3.back, r4.back]
