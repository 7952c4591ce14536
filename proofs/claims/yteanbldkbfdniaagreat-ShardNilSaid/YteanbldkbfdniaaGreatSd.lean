/- It is proved that the conversion of a transaction gives its lists cut to ten, for any transaction. -/
import Derived.Test.YteanbldkbfdniaaGreatSc
open Go Go.Abs Go.Proofs
set_option maxRecDepth 100000
set_option maxHeartbeats 4000000
set_option linter.unusedSimpArgs false
set_option linter.unusedVariables false
def isRd (rd : AV) : Prop := rd = .nils ∨ ∃ es, rd = .sl false 2 es ∧ es.length ≤ 9223372036854775807 ∧ ∀ e ∈ es, ∃ (key : ByteArray) (num : Int), e = .agg [.str key, .int .u64 num]
def isWr (wr : AV) : Prop := wr = .nils ∨ ∃ es, wr = .sl false 3 es ∧ es.length ≤ 9223372036854775807 ∧ ∀ e ∈ es, ∃ (key : ByteArray) (val : ByteArray) (gone : Bool), e = .agg [.str key, .str val, .bool gone]
theorem isRd.one {x : AV} (h : isRd x) : x.one = true := by rcases h with rfl | ⟨es, rfl, _⟩ <;> rfl
theorem isWr.one {x : AV} (h : isWr x) : x.one = true := by rcases h with rfl | ⟨es, rfl, _⟩ <;> rfl
theorem stage3 (hp s : List AObj) (ro : Option Nat) (i0 i1 : Int) (b : Bool) (rd wr : AV) (l1 l2 : List AV) (hro : ∀ k, ro = some k → k ≤ s.length) (st : St) (hP : Post hp s i0 i1 b rd wr l1 l2 st) :
    finishA Tryz.prog {} Tryz.f10 s.length (execW Tryz.prog { h := s.length, ro := ro, esc := [] } [] (callW Tryz.prog how) (c14.seq .ret) st) = some (.agg [.int .i64 i0, .int .u64 i1, .bool b, slOf 2 l1, slOf 3 l2], ⟨hp, s⟩) := by
  obtain ⟨B, g, R, O, x0, x4, x5, x6, x7, x8, x9, x10, x11, x12, x13, x14, x15, x16, x17, x18, x19, x20, x21, x22, x23, x24, x25, x26, x27, x28, x29, x30, x31, x32, x33, x34, x35, x36, x37, x38, x39, x40, x41, x42, x43, x44, x45, x46, x47, x48, x49, x50, x51, x52, x53, x54, x55, x56, x57, ⟨cs, rfl, hcs⟩, rfl, hS1, hS2⟩ := hP
  have b1 := fun (A B C : AObj) => hS1.back (hp := hp) (A := A) (B := B) (C := C)
  have b2 := fun (A B C : AObj) => hS2.back (hp := hp) (A := A) (B := B) (C := C)
  have p1 := fun h => (slOf_plain (sz := 2) (l := l1)).inb h
  have p2 := fun h => (slOf_plain (sz := 3) (l := l2)).inb h
  simp [execW, regionA, seqA, wantedA, yieldedA, isVal, effA, ev, evs, evps, Env.get, frameA, pushA, cxOf, putE, optsA, optsOk, valA, fieldAddrA, fieldA, loadA, partA, aggA, isAggD, buildA, placesA, fillA, lay, calleeA, storeA, finishA, resA, oneA, AV.back, AVs.back, AV.inb, AVs.inb, Loc.inb, binA, intBinA, shiftA, strBinA, unA, indexAddrA, buildSliceA, appendA, rowParts, fzL, AV.withCells, okE, elemsA, ofV, ofCell, bytesOk, isSrc, lenA, sub, bodyOf, c14, Tryz.f10, hS1.one, hS2.one, wok_le hro, wok_le' hro, hcs, b1, b2, p1, p2]
def cut10 (sz : Nat) : AV → AV
  | .sl _ _ es => slOf sz (es.take 10)
  | _ => .nils
theorem cut10_plain {sz : Nat} {x : AV} : Plain (cut10 sz x) := by
  unfold cut10
  split
  · exact slOf_plain
  · exact ⟨rfl, fun _ => rfl, rfl⟩
theorem f25_ok (hp s : List AObj) (ro : Option Nat) (i0 i1 : Int) (b : Bool) (rd wr : AV) (hro : ∀ k, ro = some k → k ≤ s.length) (h1 : isRd rd) (h2 : isWr wr) :
    callW Tryz.prog how 10 [.agg [.int .i64 i0, .int .u64 i1, .bool b, rd, wr]] ⟨hp, s⟩ ro = some (.agg [.int .i64 i0, .int .u64 i1, .bool b, cut10 2 rd, cut10 3 wr], ⟨hp, s⟩) := by
  obtain ⟨st2, e1, q1⟩ := stage0 hp s ro i0 i1 b rd wr hro h1.one h2.one
  have s1 : ∃ l1 st3, cut10 2 rd = slOf 2 l1 ∧ execW Tryz.prog { h := s.length, ro := ro, esc := [] } [] (callW Tryz.prog how) (c2.seq (.block 0 (.loop lp1))) st2 = some (.normal, st3) ∧ Post hp s i0 i1 b rd wr l1 [] st3 := by
    rcases h1 with rfl | ⟨es, rfl, hl, hty⟩
    · obtain ⟨st3, e, q⟩ := stage1n hp s ro i0 i1 b wr hro h2.one st2 q1
      exact ⟨_, st3, rfl, e, q⟩
    · obtain ⟨st3, e, q⟩ := stage1 hp s ro i0 i1 b wr hro h2.one es hl hty st2 q1
      exact ⟨_, st3, rfl, e, q⟩
  obtain ⟨l1, st3, w1, e2, q2⟩ := s1
  have s2 : ∃ l2 st4, cut10 3 wr = slOf 3 l2 ∧ execW Tryz.prog { h := s.length, ro := ro, esc := [] } [] (callW Tryz.prog how) (c8.seq (.block 2 (.loop lp2))) st3 = some (.normal, st4) ∧ Post hp s i0 i1 b rd wr l1 l2 st4 := by
    rcases h2 with rfl | ⟨es, rfl, hl, hty⟩
    · obtain ⟨st4, e, q⟩ := stage2n hp s ro i0 i1 b rd l1 hro h1.one st3 q2
      exact ⟨_, st4, rfl, e, q⟩
    · obtain ⟨st4, e, q⟩ := stage2 hp s ro i0 i1 b rd l1 hro h1.one es hl hty st3 q2
      exact ⟨_, st4, rfl, e, q⟩
  obtain ⟨l2, st4, w2, e3, q3⟩ := s2
  rw [w1, w2]
  refine callW_body (fl := {}) rfl Tryz.func10 body25 ?_
  rw [← stage3 hp s ro i0 i1 b rd wr l1 l2 hro st4 q3]
  congr 1
  exact execW_seq2_of e1 (execW_seq_of e2 (execW_seq_of e3 rfl))
