/- It is proved that the two loops of the conversion of a transaction end and copy at most ten elements, for any rows. -/
import Derived.Test.YteanbldkbfdniaaGreatSa
import Derived.Test.YteanbldkbfdniaaGreatChecked
open Go Go.Abs Go.Proofs
namespace Go.Abs
inductive Dir | l | r | i
noncomputable def sub : List Dir → Code → Code
  | [], c => c
  | .l :: d, .seq a _ => sub d a
  | .r :: d, .seq _ b => sub d b
  | .l :: d, .cond _ a _ => sub d a
  | .r :: d, .cond _ _ b => sub d b
  | .i :: d, .block _ c => sub d c
  | .i :: d, .loop c => sub d c
  | _, _ => .skip
noncomputable def bodyOf (f : Func) : Code := f.body.getD .skip
end Go.Abs
set_option maxRecDepth 100000
set_option maxHeartbeats 4000000
@[simp] theorem z29 : zeroA Tryz.prog 29 = some (.agg [.int .i64 0, .int .u64 0, .bool false, .nils, .nils]) := by kernel_rfl
@[simp] theorem z38 : zeroA Tryz.prog 38 = some (.agg [.int .i64 0, .int .u64 0, .bool false, .nils, .nils]) := by kernel_rfl
@[simp] theorem z66 : zeroA Tryz.prog 66 = some (.agg [.str ⟨#[]⟩, .int .u64 0]) := by kernel_rfl
@[simp] theorem z53 : zeroA Tryz.prog 53 = some (.agg [.str ⟨#[]⟩, .int .u64 0]) := by kernel_rfl
@[simp] theorem e26 : elemA Tryz.prog 26 = some 66 := by kernel_rfl
@[simp] theorem e35 : elemA Tryz.prog 35 = some 53 := by kernel_rfl
@[simp] theorem s53 : sizeA Tryz.prog 53 = some 2 := by kernel_rfl
@[simp] theorem s66 : sizeA Tryz.prog 66 = some 2 := by kernel_rfl
@[simp] theorem s23 : sizeA Tryz.prog 23 = some 1 := by kernel_rfl
@[simp] theorem s29 : sizeA Tryz.prog 29 = some 5 := by kernel_rfl
@[simp] theorem s38 : sizeA Tryz.prog 38 = some 5 := by kernel_rfl
@[simp] theorem s3 : sizeA Tryz.prog 3 = some 1 := by kernel_rfl
@[simp] theorem s4 : sizeA Tryz.prog 4 = some 1 := by kernel_rfl
@[simp] theorem s9 : sizeA Tryz.prog 9 = some 1 := by kernel_rfl
@[simp] theorem s26 : sizeA Tryz.prog 26 = some 1 := by kernel_rfl
@[simp] theorem s27 : sizeA Tryz.prog 27 = some 1 := by kernel_rfl
@[simp] theorem s35 : sizeA Tryz.prog 35 = some 1 := by kernel_rfl
@[simp] theorem s36 : sizeA Tryz.prog 36 = some 1 := by kernel_rfl
@[simp] theorem s25 : sizeA Tryz.prog 25 = some 2 := by kernel_rfl
attribute [simp] Tryz.underlying38 Tryz.underlying29 Tryz.underlying3 Tryz.underlying4 Tryz.underlying9 Tryz.underlying26 Tryz.underlying27 Tryz.underlying35 Tryz.underlying36 Tryz.underlying25 Tryz.underlying66 Tryz.underlying53 Tryz.underlying23
theorem hb40 : bytesA Tryz.prog 53 = some 24 := by kernel_rfl
theorem hb94 : bytesA Tryz.prog 56 = some 40 := by kernel_rfl
@[simp] theorem z68 : zeroA Tryz.prog 68 = some (.agg [.str ⟨#[]⟩, .str ⟨#[]⟩, .bool false]) := by kernel_rfl
@[simp] theorem z56 : zeroA Tryz.prog 56 = some (.agg [.str ⟨#[]⟩, .str ⟨#[]⟩, .bool false]) := by kernel_rfl
@[simp] theorem e27 : elemA Tryz.prog 27 = some 68 := by kernel_rfl
@[simp] theorem e36 : elemA Tryz.prog 36 = some 56 := by kernel_rfl
@[simp] theorem s68 : sizeA Tryz.prog 68 = some 3 := by kernel_rfl
@[simp] theorem s56 : sizeA Tryz.prog 56 = some 3 := by kernel_rfl
set_option linter.unusedSimpArgs false
set_option linter.unusedVariables false
def SlI (s : List AObj) (sz : Nat) (g : List AObj) (R : AV) (l : List AV) : Prop :=
  (l = [] ∧ R = .nils) ∨ (l ≠ [] ∧ ∃ j v, R = .row (.st (s.length + (j + 1 + 1 + 1))) v 0 l.length ∧ g[j]? = some (.row l sz v false))
theorem SlI.one {s : List AObj} {sz : Nat} {g : List AObj} {R : AV} {l : List AV} (h : SlI s sz g R l) : R.one = true := by
  rcases h with ⟨_, rfl⟩ | ⟨_, j, v, rfl, _⟩ <;> rfl
theorem take_next {es : List AV} {k : Nat} {e : AV} (hk : (k : Int) < 10) (hkl : k < es.length) (he : es[k] = e) : es.take (min (k + 1) 10) = es.take (min k 10) ++ [e] := by
  have h1 : min (k + 1) 10 = k + 1 := by omega
  have h2 : min k 10 = k := by omega
  rw [h1, h2, List.take_add_one, List.getElem?_eq_getElem hkl, he]; rfl
theorem SlI.first {s g : List AObj} {sz : Nat} {es : List AV} {k : Nat} {e : AV} {X Y : AObj} (hS : SlI s sz g .nils (es.take (min k 10))) (hk : (k : Int) < 10) (hkl : k < es.length) (he : es[k] = e) :
    SlI s sz (g ++ [X, Y, .row [e] sz 0 false]) (.row (.st (s.length + (g.length + 2 + 1 + 1 + 1))) 0 0 1) (es.take (min (k + 1) 10)) := by
  rcases hS with ⟨h, _⟩ | ⟨_, j, v, h, _⟩
  · rw [take_next hk hkl he, h]
    refine .inr ⟨by simp, g.length + 2, 0, rfl, ?_⟩
    rw [List.getElem?_append_right (by omega)]
    have : g.length + 2 - g.length = 2 := by omega
    rw [this]; rfl
  · cases h
theorem SlI.more {s g : List AObj} {sz : Nat} {es l : List AV} {k j v : Nat} {e : AV} {g' : List AObj} (hln : l ≠ []) (hg : g[j]? = some (.row l sz v false)) (hle : l = es.take (min k 10)) (hk : (k : Int) < 10) (hkl : k < es.length) (he : es[k] = e) :
    SlI s sz (g.set j (.row (l ++ [e]) sz (v + 1) false) ++ g') (.row (.st (s.length + (j + 1 + 1 + 1))) (v + 1) 0 (l.length + 1)) (es.take (min (k + 1) 10)) := by
  have hj : j < g.length := (List.getElem?_eq_some_iff.1 hg).1
  rw [take_next hk hkl he, ← hle]
  refine .inr ⟨by simp, j, v + 1, by simp, ?_⟩
  rw [List.getElem?_append_left (by simpa using hj), List.getElem?_set_self hj]
theorem SlI.keep {s g : List AObj} {sz : Nat} {es : List AV} {R : AV} {k : Nat} {g' : List AObj} (hS : SlI s sz g R (es.take (min k 10))) (hk : ¬ (k : Int) < 10) : SlI s sz (g ++ g') R (es.take (min (k + 1) 10)) := by
  have h1 : min (k + 1) 10 = min k 10 := by omega
  rw [h1]
  rcases hS with h | ⟨h, j, v, hR, hg⟩
  · exact .inl h
  · exact .inr ⟨h, j, v, hR, by rw [List.getElem?_append_left (List.getElem?_eq_some_iff.1 hg).1]; exact hg⟩
theorem SlI.grow {s g : List AObj} {sz : Nat} {R : AV} {l : List AV} {g' : List AObj} (hS : SlI s sz g R l) : SlI s sz (g ++ g') R l := by
  rcases hS with h | ⟨h, j, v, hR, hg⟩
  · exact .inl h
  · exact .inr ⟨h, j, v, hR, by rw [List.getElem?_append_left (List.getElem?_eq_some_iff.1 hg).1]; exact hg⟩
theorem SlI.put {s g : List AObj} {sz so : Nat} {R : AV} {l m : List AV} {g' : List AObj} {j v : Nat} {ob : AObj} (hS : SlI s so g R l) (hg : g[j]? = some (.row m sz v false)) (hne : sz ≠ so) : SlI s so (g.set j ob ++ g') R l := by
  rcases hS with h | ⟨h, i, w, hR, hi⟩
  · exact .inl h
  · refine .inr ⟨h, i, w, hR, ?_⟩
    have hij : j ≠ i := by
      intro e
      subst e
      rw [hg] at hi
      cases hi
      exact hne rfl
    rw [List.getElem?_append_left (by simpa using (List.getElem?_eq_some_iff.1 hi).1), List.getElem?_set_ne hij]
    exact hi
theorem wr_ok {n : Int} (h1 : -9223372036854775808 ≤ n) (h2 : n ≤ 9223372036854775807) : wr .i64 n = n := by simp [wr, loK, hiK, h1, h2]
attribute [simp] Tryz.underlying68 Tryz.underlying56

noncomputable def lp1 : Code := sub [.r, .r, .l, .r, .i, .i] (bodyOf Tryz.f10)
def l1Inv (hp s : List AObj) (A B : AObj) (i0 i1 : Int) (b : Bool) (O : AV) (so : Nat) (LO es : List AV) (k : Nat) (st : St) : Prop :=
  ∃ (g : List AObj) (R : AV) (x0 x4 x5 x6 x7 x8 x9 x10 x11 x12 x13 x17 x18 x19 x20 x21 x22 x23 x24 x25 x26 x27 x28 x29 x30 x31 x32 x33 x34 x35 x36 x37 x38 x39 x40 x41 x42 x43 x44 x45 x46 x47 x48 x49 x50 x51 x52 x53 x54 x55 x56 x57 : AV), st = ([x0, .ptr (.st s.length) 0, .ptr (.st (s.length+1)) 0, .ptr (.st (s.length+2)) 0, x4, x5, x6, x7, x8, x9, x10, x11, x12, x13, .sl false 2 es, .int .i64 (es.length : Int), .int .i64 (k : Int), x17, x18, x19, x20, x21, x22, x23, x24, x25, x26, x27, x28, x29, x30, x31, x32, x33, x34, x35, x36, x37, x38, x39, x40, x41, x42, x43, x44, x45, x46, x47, x48, x49, x50, x51, x52, x53, x54, x55, x56, x57], ⟨hp, s ++ (A :: B :: .cells [.int .i64 i0, .int .u64 i1, .bool b, R, O] :: g)⟩) ∧ SlI s 2 g R (es.take (min k 10)) ∧ SlI s so g O LO
theorem l1A (hp s g : List AObj) (ro : Option Nat) (A B : AObj) (i0 i1 : Int) (k : Nat) (b : Bool) (O : AV) (so : Nat) (hso : 2 ≠ so) (LO es : List AV) (x0 x4 x5 x6 x7 x8 x9 x10 x11 x12 x13 x17 x18 x19 x20 x21 x22 x23 x24 x25 x26 x27 x28 x29 x30 x31 x32 x33 x34 x35 x36 x37 x38 x39 x40 x41 x42 x43 x44 x45 x46 x47 x48 x49 x50 x51 x52 x53 x54 x55 x56 x57 : AV) (key : ByteArray) (num : Int)
  (hro : ∀ k, ro = some k → k ≤ s.length) (hO : O.one = true) (hk : (k : Int) < 10) (hkl : k < es.length) (hwr : wr .i64 ((k : Int) + 1) = (k : Int) + 1) (he : es[k] = .agg [.str key, .int .u64 num]) (hS : SlI s 2 g .nils (es.take (min k 10))) (hT : SlI s so g O LO) :
    ∃ st', execW Tryz.prog { h := s.length, ro := ro, esc := [] } [] (callW Tryz.prog how) lp1 ([x0, .ptr (.st s.length) 0, .ptr (.st (s.length+1)) 0, .ptr (.st (s.length+2)) 0, x4, x5, x6, x7, x8, x9, x10, x11, x12, x13, .sl false 2 es, .int .i64 (es.length : Int), .int .i64 (k : Int), x17, x18, x19, x20, x21, x22, x23, x24, x25, x26, x27, x28, x29, x30, x31, x32, x33, x34, x35, x36, x37, x38, x39, x40, x41, x42, x43, x44, x45, x46, x47, x48, x49, x50, x51, x52, x53, x54, x55, x56, x57], ⟨hp, s ++ (A :: B :: .cells [.int .i64 i0, .int .u64 i1, .bool b, .nils, O] :: g)⟩) = some (.normal, st') ∧ l1Inv hp s A B i0 i1 b O so LO es (k + 1) st' := by
  suffices h : ∀ r, execW Tryz.prog { h := s.length, ro := ro, esc := [] } [] (callW Tryz.prog how) lp1 ([x0, .ptr (.st s.length) 0, .ptr (.st (s.length+1)) 0, .ptr (.st (s.length+2)) 0, x4, x5, x6, x7, x8, x9, x10, x11, x12, x13, .sl false 2 es, .int .i64 (es.length : Int), .int .i64 (k : Int), x17, x18, x19, x20, x21, x22, x23, x24, x25, x26, x27, x28, x29, x30, x31, x32, x33, x34, x35, x36, x37, x38, x39, x40, x41, x42, x43, x44, x45, x46, x47, x48, x49, x50, x51, x52, x53, x54, x55, x56, x57], ⟨hp, s ++ (A :: B :: .cells [.int .i64 i0, .int .u64 i1, .bool b, .nils, O] :: g)⟩) = r → ∃ st', r = some (.normal, st') ∧ l1Inv hp s A B i0 i1 b O so LO es (k + 1) st' from h _ rfl
  intro r hr
  simp [execW, regionA, seqA, wantedA, yieldedA, isVal, effA, ev, evs, evps, Env.get, frameA, pushA, cxOf, putE, optsA, optsOk, valA, fieldAddrA, fieldA, loadA, partA, aggA, isAggD, buildA, placesA, fillA, lay, calleeA, storeA, finishA, resA, oneA, AV.back, AVs.back, AV.inb, AVs.inb, Loc.inb, binA, intBinA, shiftA, strBinA, unA, indexAddrA, buildSliceA, appendA, rowParts, fzL, AV.withCells, okE, elemsA, ofV, ofCell, bytesOk, isSrc, lenA, sub, bodyOf, lp1, Tryz.f10, wok_le hro, wok_le' hro, hO, hb40, hk, hkl, he, hwr] at hr
  subst hr
  refine ⟨_, rfl, _, _, _, _, _, _, _, _, _, _, _, _, _, _, _, _, _, _, _, _, _, _, _, _, _, _, _, _, _, _, _, _, _, _, _, _, _, _, _, _, _, _, _, _, _, _, _, _, _, _, _, _, _, _, rfl, ?_⟩
  exact ⟨SlI.first hS hk hkl he, hT.grow⟩
theorem l1B (hp s g : List AObj) (ro : Option Nat) (A B : AObj) (i0 i1 : Int) (k : Nat) (b : Bool) (O : AV) (so : Nat) (hso : 2 ≠ so) (LO es : List AV) (x0 x4 x5 x6 x7 x8 x9 x10 x11 x12 x13 x17 x18 x19 x20 x21 x22 x23 x24 x25 x26 x27 x28 x29 x30 x31 x32 x33 x34 x35 x36 x37 x38 x39 x40 x41 x42 x43 x44 x45 x46 x47 x48 x49 x50 x51 x52 x53 x54 x55 x56 x57 : AV) (key : ByteArray) (num : Int)
  (hro : ∀ k, ro = some k → k ≤ s.length) (hO : O.one = true) (j v : Nat) (l : List AV) (hk : (k : Int) < 10) (hj : ∀ g', (g ++ g')[j]? = some (.row l 2 v false)) (hb1 : (l.length + 1) * 24 ≤ 17592186044416) (hb2 : l.length ≤ 17592186044415) (hll : ¬ l.length + 1 ≤ l.length) (hjs : ∀ ob g', (g ++ g').set j ob = g.set j ob ++ g') (hkl : k < es.length) (hwr : wr .i64 ((k : Int) + 1) = (k : Int) + 1) (he : es[k] = .agg [.str key, .int .u64 num]) (hln : l ≠ []) (hg : g[j]? = some (.row l 2 v false)) (hle : l = es.take (min k 10)) (hT : SlI s so g O LO) :
    ∃ st', execW Tryz.prog { h := s.length, ro := ro, esc := [] } [] (callW Tryz.prog how) lp1 ([x0, .ptr (.st s.length) 0, .ptr (.st (s.length+1)) 0, .ptr (.st (s.length+2)) 0, x4, x5, x6, x7, x8, x9, x10, x11, x12, x13, .sl false 2 es, .int .i64 (es.length : Int), .int .i64 (k : Int), x17, x18, x19, x20, x21, x22, x23, x24, x25, x26, x27, x28, x29, x30, x31, x32, x33, x34, x35, x36, x37, x38, x39, x40, x41, x42, x43, x44, x45, x46, x47, x48, x49, x50, x51, x52, x53, x54, x55, x56, x57], ⟨hp, s ++ (A :: B :: .cells [.int .i64 i0, .int .u64 i1, .bool b, .row (.st (s.length + (j + 1 + 1 + 1))) v 0 l.length, O] :: g)⟩) = some (.normal, st') ∧ l1Inv hp s A B i0 i1 b O so LO es (k + 1) st' := by
  suffices h : ∀ r, execW Tryz.prog { h := s.length, ro := ro, esc := [] } [] (callW Tryz.prog how) lp1 ([x0, .ptr (.st s.length) 0, .ptr (.st (s.length+1)) 0, .ptr (.st (s.length+2)) 0, x4, x5, x6, x7, x8, x9, x10, x11, x12, x13, .sl false 2 es, .int .i64 (es.length : Int), .int .i64 (k : Int), x17, x18, x19, x20, x21, x22, x23, x24, x25, x26, x27, x28, x29, x30, x31, x32, x33, x34, x35, x36, x37, x38, x39, x40, x41, x42, x43, x44, x45, x46, x47, x48, x49, x50, x51, x52, x53, x54, x55, x56, x57], ⟨hp, s ++ (A :: B :: .cells [.int .i64 i0, .int .u64 i1, .bool b, .row (.st (s.length + (j + 1 + 1 + 1))) v 0 l.length, O] :: g)⟩) = r → ∃ st', r = some (.normal, st') ∧ l1Inv hp s A B i0 i1 b O so LO es (k + 1) st' from h _ rfl
  intro r hr
  simp [execW, regionA, seqA, wantedA, yieldedA, isVal, effA, ev, evs, evps, Env.get, frameA, pushA, cxOf, putE, optsA, optsOk, valA, fieldAddrA, fieldA, loadA, partA, aggA, isAggD, buildA, placesA, fillA, lay, calleeA, storeA, finishA, resA, oneA, AV.back, AVs.back, AV.inb, AVs.inb, Loc.inb, binA, intBinA, shiftA, strBinA, unA, indexAddrA, buildSliceA, appendA, rowParts, fzL, AV.withCells, okE, elemsA, ofV, ofCell, bytesOk, isSrc, lenA, sub, bodyOf, lp1, Tryz.f10, wok_le hro, wok_le' hro, hO, hb40, hk, hkl, he, hwr, hj, hb1, hb2, hll, hjs] at hr
  subst hr
  refine ⟨_, rfl, _, _, _, _, _, _, _, _, _, _, _, _, _, _, _, _, _, _, _, _, _, _, _, _, _, _, _, _, _, _, _, _, _, _, _, _, _, _, _, _, _, _, _, _, _, _, _, _, _, _, _, _, _, _, rfl, ?_⟩
  exact ⟨SlI.more hln hg hle hk hkl he, hT.put hg hso⟩
theorem l1C (hp s g : List AObj) (ro : Option Nat) (A B : AObj) (i0 i1 : Int) (k : Nat) (b : Bool) (O : AV) (so : Nat) (hso : 2 ≠ so) (LO es : List AV) (x0 x4 x5 x6 x7 x8 x9 x10 x11 x12 x13 x17 x18 x19 x20 x21 x22 x23 x24 x25 x26 x27 x28 x29 x30 x31 x32 x33 x34 x35 x36 x37 x38 x39 x40 x41 x42 x43 x44 x45 x46 x47 x48 x49 x50 x51 x52 x53 x54 x55 x56 x57 : AV) (key : ByteArray) (num : Int)
  (hro : ∀ k, ro = some k → k ≤ s.length) (hO : O.one = true) (R : AV) (hR : R.one = true) (hk : ¬ (k : Int) < 10) (hkl : k < es.length) (hwr : wr .i64 ((k : Int) + 1) = (k : Int) + 1) (he : es[k] = .agg [.str key, .int .u64 num]) (hS : SlI s 2 g R (es.take (min k 10))) (hT : SlI s so g O LO) :
    ∃ st', execW Tryz.prog { h := s.length, ro := ro, esc := [] } [] (callW Tryz.prog how) lp1 ([x0, .ptr (.st s.length) 0, .ptr (.st (s.length+1)) 0, .ptr (.st (s.length+2)) 0, x4, x5, x6, x7, x8, x9, x10, x11, x12, x13, .sl false 2 es, .int .i64 (es.length : Int), .int .i64 (k : Int), x17, x18, x19, x20, x21, x22, x23, x24, x25, x26, x27, x28, x29, x30, x31, x32, x33, x34, x35, x36, x37, x38, x39, x40, x41, x42, x43, x44, x45, x46, x47, x48, x49, x50, x51, x52, x53, x54, x55, x56, x57], ⟨hp, s ++ (A :: B :: .cells [.int .i64 i0, .int .u64 i1, .bool b, R, O] :: g)⟩) = some (.normal, st') ∧ l1Inv hp s A B i0 i1 b O so LO es (k + 1) st' := by
  suffices h : ∀ r, execW Tryz.prog { h := s.length, ro := ro, esc := [] } [] (callW Tryz.prog how) lp1 ([x0, .ptr (.st s.length) 0, .ptr (.st (s.length+1)) 0, .ptr (.st (s.length+2)) 0, x4, x5, x6, x7, x8, x9, x10, x11, x12, x13, .sl false 2 es, .int .i64 (es.length : Int), .int .i64 (k : Int), x17, x18, x19, x20, x21, x22, x23, x24, x25, x26, x27, x28, x29, x30, x31, x32, x33, x34, x35, x36, x37, x38, x39, x40, x41, x42, x43, x44, x45, x46, x47, x48, x49, x50, x51, x52, x53, x54, x55, x56, x57], ⟨hp, s ++ (A :: B :: .cells [.int .i64 i0, .int .u64 i1, .bool b, R, O] :: g)⟩) = r → ∃ st', r = some (.normal, st') ∧ l1Inv hp s A B i0 i1 b O so LO es (k + 1) st' from h _ rfl
  intro r hr
  simp [execW, regionA, seqA, wantedA, yieldedA, isVal, effA, ev, evs, evps, Env.get, frameA, pushA, cxOf, putE, optsA, optsOk, valA, fieldAddrA, fieldA, loadA, partA, aggA, isAggD, buildA, placesA, fillA, lay, calleeA, storeA, finishA, resA, oneA, AV.back, AVs.back, AV.inb, AVs.inb, Loc.inb, binA, intBinA, shiftA, strBinA, unA, indexAddrA, buildSliceA, appendA, rowParts, fzL, AV.withCells, okE, elemsA, ofV, ofCell, bytesOk, isSrc, lenA, sub, bodyOf, lp1, Tryz.f10, wok_le hro, wok_le' hro, hO, hb40, hk, hkl, he, hwr] at hr
  subst hr
  refine ⟨_, rfl, _, _, _, _, _, _, _, _, _, _, _, _, _, _, _, _, _, _, _, _, _, _, _, _, _, _, _, _, _, _, _, _, _, _, _, _, _, _, _, _, _, _, _, _, _, _, _, _, _, _, _, _, _, _, rfl, ?_⟩
  exact ⟨SlI.keep hS hk, hT.grow⟩
theorem l1X (hp s g : List AObj) (ro : Option Nat) (A B : AObj) (i0 i1 : Int) (k : Nat) (b : Bool) (O : AV) (so : Nat) (hso : 2 ≠ so) (LO es : List AV) (x0 x4 x5 x6 x7 x8 x9 x10 x11 x12 x13 x17 x18 x19 x20 x21 x22 x23 x24 x25 x26 x27 x28 x29 x30 x31 x32 x33 x34 x35 x36 x37 x38 x39 x40 x41 x42 x43 x44 x45 x46 x47 x48 x49 x50 x51 x52 x53 x54 x55 x56 x57 : AV) (key : ByteArray) (num : Int)
  (hro : ∀ k, ro = some k → k ≤ s.length) (hO : O.one = true) (R : AV) (hkl : ¬ k < es.length) (hS : SlI s 2 g R (es.take (min k 10))) (hT : SlI s so g O LO) :
    ∃ st', execW Tryz.prog { h := s.length, ro := ro, esc := [] } [] (callW Tryz.prog how) lp1 ([x0, .ptr (.st s.length) 0, .ptr (.st (s.length+1)) 0, .ptr (.st (s.length+2)) 0, x4, x5, x6, x7, x8, x9, x10, x11, x12, x13, .sl false 2 es, .int .i64 (es.length : Int), .int .i64 (k : Int), x17, x18, x19, x20, x21, x22, x23, x24, x25, x26, x27, x28, x29, x30, x31, x32, x33, x34, x35, x36, x37, x38, x39, x40, x41, x42, x43, x44, x45, x46, x47, x48, x49, x50, x51, x52, x53, x54, x55, x56, x57], ⟨hp, s ++ (A :: B :: .cells [.int .i64 i0, .int .u64 i1, .bool b, R, O] :: g)⟩) = some (.exit 0, st') ∧ l1Inv hp s A B i0 i1 b O so LO es k st' := by
  suffices h : ∀ r, execW Tryz.prog { h := s.length, ro := ro, esc := [] } [] (callW Tryz.prog how) lp1 ([x0, .ptr (.st s.length) 0, .ptr (.st (s.length+1)) 0, .ptr (.st (s.length+2)) 0, x4, x5, x6, x7, x8, x9, x10, x11, x12, x13, .sl false 2 es, .int .i64 (es.length : Int), .int .i64 (k : Int), x17, x18, x19, x20, x21, x22, x23, x24, x25, x26, x27, x28, x29, x30, x31, x32, x33, x34, x35, x36, x37, x38, x39, x40, x41, x42, x43, x44, x45, x46, x47, x48, x49, x50, x51, x52, x53, x54, x55, x56, x57], ⟨hp, s ++ (A :: B :: .cells [.int .i64 i0, .int .u64 i1, .bool b, R, O] :: g)⟩) = r → ∃ st', r = some (.exit 0, st') ∧ l1Inv hp s A B i0 i1 b O so LO es k st' from h _ rfl
  intro r hr
  simp [execW, regionA, seqA, wantedA, yieldedA, isVal, effA, ev, evs, evps, Env.get, frameA, pushA, cxOf, putE, optsA, optsOk, valA, fieldAddrA, fieldA, loadA, partA, aggA, isAggD, buildA, placesA, fillA, lay, calleeA, storeA, finishA, resA, oneA, AV.back, AVs.back, AV.inb, AVs.inb, Loc.inb, binA, intBinA, shiftA, strBinA, unA, indexAddrA, buildSliceA, appendA, rowParts, fzL, AV.withCells, okE, elemsA, ofV, ofCell, bytesOk, isSrc, lenA, sub, bodyOf, lp1, Tryz.f10, wok_le hro, wok_le' hro, hO, hb40, hkl] at hr
  subst hr
  exact ⟨_, rfl, _, _, _, _, _, _, _, _, _, _, _, _, _, _, _, _, _, _, _, _, _, _, _, _, _, _, _, _, _, _, _, _, _, _, _, _, _, _, _, _, _, _, _, _, _, _, _, _, _, _, _, _, _, _, rfl, hS, hT⟩
theorem l1Loop (hp s : List AObj) (ro : Option Nat) (A B : AObj) (i0 i1 : Int) (b : Bool) (O : AV) (so : Nat) (hso : 2 ≠ so) (LO es : List AV) (hro : ∀ k, ro = some k → k ≤ s.length) (hO : O.one = true) (hlen : es.length ≤ 9223372036854775807)
    (hty : ∀ e ∈ es, ∃ key num, e = .agg [.str key, .int .u64 num]) : ∀ (m k : Nat) (st : St), k + m = es.length → l1Inv hp s A B i0 i1 b O so LO es k st →
    ∃ st', iterW (execW Tryz.prog { h := s.length, ro := ro, esc := [] } [] (callW Tryz.prog how) lp1) st = some (.exit 0, st') ∧ l1Inv hp s A B i0 i1 b O so LO es es.length st'
  | 0, k, st, hm, hI => by
    obtain ⟨g, R, x0, x4, x5, x6, x7, x8, x9, x10, x11, x12, x13, x17, x18, x19, x20, x21, x22, x23, x24, x25, x26, x27, x28, x29, x30, x31, x32, x33, x34, x35, x36, x37, x38, x39, x40, x41, x42, x43, x44, x45, x46, x47, x48, x49, x50, x51, x52, x53, x54, x55, x56, x57, rfl, hS, hT⟩ := hI
    have hk : k = es.length := by omega
    subst hk
    obtain ⟨st', h1, h2⟩ := l1X hp s g ro A B i0 i1 es.length b O so hso LO es x0 x4 x5 x6 x7 x8 x9 x10 x11 x12 x13 x17 x18 x19 x20 x21 x22 x23 x24 x25 x26 x27 x28 x29 x30 x31 x32 x33 x34 x35 x36 x37 x38 x39 x40 x41 x42 x43 x44 x45 x46 x47 x48 x49 x50 x51 x52 x53 x54 x55 x56 x57 default default hro hO R (by omega) hS hT
    exact ⟨st', iterW_out h1 (by simp), h2⟩
  | m + 1, k, st, hm, hI => by
    obtain ⟨g, R, x0, x4, x5, x6, x7, x8, x9, x10, x11, x12, x13, x17, x18, x19, x20, x21, x22, x23, x24, x25, x26, x27, x28, x29, x30, x31, x32, x33, x34, x35, x36, x37, x38, x39, x40, x41, x42, x43, x44, x45, x46, x47, x48, x49, x50, x51, x52, x53, x54, x55, x56, x57, rfl, hS, hT⟩ := hI
    have hkl : k < es.length := by omega
    obtain ⟨key, num, he⟩ := hty es[k] (List.getElem_mem hkl)
    have hwr : wr .i64 ((k : Int) + 1) = (k : Int) + 1 := wr_ok (by omega) (by omega)
    have key : ∃ st', execW Tryz.prog { h := s.length, ro := ro, esc := [] } [] (callW Tryz.prog how) lp1 ([x0, .ptr (.st s.length) 0, .ptr (.st (s.length+1)) 0, .ptr (.st (s.length+2)) 0, x4, x5, x6, x7, x8, x9, x10, x11, x12, x13, .sl false 2 es, .int .i64 (es.length : Int), .int .i64 (k : Int), x17, x18, x19, x20, x21, x22, x23, x24, x25, x26, x27, x28, x29, x30, x31, x32, x33, x34, x35, x36, x37, x38, x39, x40, x41, x42, x43, x44, x45, x46, x47, x48, x49, x50, x51, x52, x53, x54, x55, x56, x57], ⟨hp, s ++ (A :: B :: .cells [.int .i64 i0, .int .u64 i1, .bool b, R, O] :: g)⟩) = some (.normal, st') ∧ l1Inv hp s A B i0 i1 b O so LO es (k + 1) st' := by
      by_cases hk : (k : Int) < 10
      · rcases hS with ⟨hl, rfl⟩ | ⟨hl, j, v, rfl, hg⟩
        · exact l1A hp s g ro A B i0 i1 k b O so hso LO es x0 x4 x5 x6 x7 x8 x9 x10 x11 x12 x13 x17 x18 x19 x20 x21 x22 x23 x24 x25 x26 x27 x28 x29 x30 x31 x32 x33 x34 x35 x36 x37 x38 x39 x40 x41 x42 x43 x44 x45 x46 x47 x48 x49 x50 x51 x52 x53 x54 x55 x56 x57 key num hro hO hk hkl hwr he (.inl ⟨hl, rfl⟩) hT
        · have hjl : j < g.length := (List.getElem?_eq_some_iff.1 hg).1
          have hl10 : (es.take (min k 10)).length ≤ 10 := by simp; omega
          exact l1B hp s g ro A B i0 i1 k b O so hso LO es x0 x4 x5 x6 x7 x8 x9 x10 x11 x12 x13 x17 x18 x19 x20 x21 x22 x23 x24 x25 x26 x27 x28 x29 x30 x31 x32 x33 x34 x35 x36 x37 x38 x39 x40 x41 x42 x43 x44 x45 x46 x47 x48 x49 x50 x51 x52 x53 x54 x55 x56 x57 key num hro hO j v _ hk (fun g' => by rw [List.getElem?_append_left hjl]; exact hg) (by omega) (by omega) (by omega) (fun ob g' => List.set_append_left _ _ hjl) hkl hwr he hl hg rfl hT
      · exact l1C hp s g ro A B i0 i1 k b O so hso LO es x0 x4 x5 x6 x7 x8 x9 x10 x11 x12 x13 x17 x18 x19 x20 x21 x22 x23 x24 x25 x26 x27 x28 x29 x30 x31 x32 x33 x34 x35 x36 x37 x38 x39 x40 x41 x42 x43 x44 x45 x46 x47 x48 x49 x50 x51 x52 x53 x54 x55 x56 x57 key num hro hO R hS.one hk hkl hwr he hS hT
    obtain ⟨st1, h1, h2⟩ := key
    obtain ⟨st', h3, h4⟩ := l1Loop hp s ro A B i0 i1 b O so hso LO es hro hO hlen hty m (k + 1) st1 (by omega) h2
    exact ⟨st', iterW_next h1 h3, h4⟩
noncomputable def lp2 : Code := sub [.r, .r, .r, .l, .r, .i, .i] (bodyOf Tryz.f10)
def l2Inv (hp s : List AObj) (A B : AObj) (i0 i1 : Int) (b : Bool) (O : AV) (so : Nat) (LO es : List AV) (k : Nat) (st : St) : Prop :=
  ∃ (g : List AObj) (R : AV) (x0 x4 x5 x6 x7 x8 x9 x10 x11 x12 x13 x14 x15 x16 x17 x18 x19 x20 x21 x22 x23 x24 x25 x26 x27 x28 x29 x30 x31 x32 x33 x34 x38 x39 x40 x41 x42 x43 x44 x45 x46 x47 x48 x49 x50 x51 x52 x53 x54 x55 x56 x57 : AV), st = ([x0, .ptr (.st s.length) 0, .ptr (.st (s.length+1)) 0, .ptr (.st (s.length+2)) 0, x4, x5, x6, x7, x8, x9, x10, x11, x12, x13, x14, x15, x16, x17, x18, x19, x20, x21, x22, x23, x24, x25, x26, x27, x28, x29, x30, x31, x32, x33, x34, .sl false 3 es, .int .i64 (es.length : Int), .int .i64 (k : Int), x38, x39, x40, x41, x42, x43, x44, x45, x46, x47, x48, x49, x50, x51, x52, x53, x54, x55, x56, x57], ⟨hp, s ++ (A :: B :: .cells [.int .i64 i0, .int .u64 i1, .bool b, O, R] :: g)⟩) ∧ SlI s 3 g R (es.take (min k 10)) ∧ SlI s so g O LO
theorem l2A (hp s g : List AObj) (ro : Option Nat) (A B : AObj) (i0 i1 : Int) (k : Nat) (b : Bool) (O : AV) (so : Nat) (hso : 3 ≠ so) (LO es : List AV) (x0 x4 x5 x6 x7 x8 x9 x10 x11 x12 x13 x14 x15 x16 x17 x18 x19 x20 x21 x22 x23 x24 x25 x26 x27 x28 x29 x30 x31 x32 x33 x34 x38 x39 x40 x41 x42 x43 x44 x45 x46 x47 x48 x49 x50 x51 x52 x53 x54 x55 x56 x57 : AV) (key : ByteArray) (val : ByteArray) (gone : Bool)
  (hro : ∀ k, ro = some k → k ≤ s.length) (hO : O.one = true) (hk : (k : Int) < 10) (hkl : k < es.length) (hwr : wr .i64 ((k : Int) + 1) = (k : Int) + 1) (he : es[k] = .agg [.str key, .str val, .bool gone]) (hS : SlI s 3 g .nils (es.take (min k 10))) (hT : SlI s so g O LO) :
    ∃ st', execW Tryz.prog { h := s.length, ro := ro, esc := [] } [] (callW Tryz.prog how) lp2 ([x0, .ptr (.st s.length) 0, .ptr (.st (s.length+1)) 0, .ptr (.st (s.length+2)) 0, x4, x5, x6, x7, x8, x9, x10, x11, x12, x13, x14, x15, x16, x17, x18, x19, x20, x21, x22, x23, x24, x25, x26, x27, x28, x29, x30, x31, x32, x33, x34, .sl false 3 es, .int .i64 (es.length : Int), .int .i64 (k : Int), x38, x39, x40, x41, x42, x43, x44, x45, x46, x47, x48, x49, x50, x51, x52, x53, x54, x55, x56, x57], ⟨hp, s ++ (A :: B :: .cells [.int .i64 i0, .int .u64 i1, .bool b, O, .nils] :: g)⟩) = some (.normal, st') ∧ l2Inv hp s A B i0 i1 b O so LO es (k + 1) st' := by
  suffices h : ∀ r, execW Tryz.prog { h := s.length, ro := ro, esc := [] } [] (callW Tryz.prog how) lp2 ([x0, .ptr (.st s.length) 0, .ptr (.st (s.length+1)) 0, .ptr (.st (s.length+2)) 0, x4, x5, x6, x7, x8, x9, x10, x11, x12, x13, x14, x15, x16, x17, x18, x19, x20, x21, x22, x23, x24, x25, x26, x27, x28, x29, x30, x31, x32, x33, x34, .sl false 3 es, .int .i64 (es.length : Int), .int .i64 (k : Int), x38, x39, x40, x41, x42, x43, x44, x45, x46, x47, x48, x49, x50, x51, x52, x53, x54, x55, x56, x57], ⟨hp, s ++ (A :: B :: .cells [.int .i64 i0, .int .u64 i1, .bool b, O, .nils] :: g)⟩) = r → ∃ st', r = some (.normal, st') ∧ l2Inv hp s A B i0 i1 b O so LO es (k + 1) st' from h _ rfl
  intro r hr
  simp [execW, regionA, seqA, wantedA, yieldedA, isVal, effA, ev, evs, evps, Env.get, frameA, pushA, cxOf, putE, optsA, optsOk, valA, fieldAddrA, fieldA, loadA, partA, aggA, isAggD, buildA, placesA, fillA, lay, calleeA, storeA, finishA, resA, oneA, AV.back, AVs.back, AV.inb, AVs.inb, Loc.inb, binA, intBinA, shiftA, strBinA, unA, indexAddrA, buildSliceA, appendA, rowParts, fzL, AV.withCells, okE, elemsA, ofV, ofCell, bytesOk, isSrc, lenA, sub, bodyOf, lp2, Tryz.f10, wok_le hro, wok_le' hro, hO, hb94, hk, hkl, he, hwr] at hr
  subst hr
  refine ⟨_, rfl, _, _, _, _, _, _, _, _, _, _, _, _, _, _, _, _, _, _, _, _, _, _, _, _, _, _, _, _, _, _, _, _, _, _, _, _, _, _, _, _, _, _, _, _, _, _, _, _, _, _, _, _, _, _, rfl, ?_⟩
  exact ⟨SlI.first hS hk hkl he, hT.grow⟩
theorem l2B (hp s g : List AObj) (ro : Option Nat) (A B : AObj) (i0 i1 : Int) (k : Nat) (b : Bool) (O : AV) (so : Nat) (hso : 3 ≠ so) (LO es : List AV) (x0 x4 x5 x6 x7 x8 x9 x10 x11 x12 x13 x14 x15 x16 x17 x18 x19 x20 x21 x22 x23 x24 x25 x26 x27 x28 x29 x30 x31 x32 x33 x34 x38 x39 x40 x41 x42 x43 x44 x45 x46 x47 x48 x49 x50 x51 x52 x53 x54 x55 x56 x57 : AV) (key : ByteArray) (val : ByteArray) (gone : Bool)
  (hro : ∀ k, ro = some k → k ≤ s.length) (hO : O.one = true) (j v : Nat) (l : List AV) (hk : (k : Int) < 10) (hj : ∀ g', (g ++ g')[j]? = some (.row l 3 v false)) (hb1 : (l.length + 1) * 40 ≤ 17592186044416) (hb2 : l.length ≤ 17592186044415) (hll : ¬ l.length + 1 ≤ l.length) (hjs : ∀ ob g', (g ++ g').set j ob = g.set j ob ++ g') (hkl : k < es.length) (hwr : wr .i64 ((k : Int) + 1) = (k : Int) + 1) (he : es[k] = .agg [.str key, .str val, .bool gone]) (hln : l ≠ []) (hg : g[j]? = some (.row l 3 v false)) (hle : l = es.take (min k 10)) (hT : SlI s so g O LO) :
    ∃ st', execW Tryz.prog { h := s.length, ro := ro, esc := [] } [] (callW Tryz.prog how) lp2 ([x0, .ptr (.st s.length) 0, .ptr (.st (s.length+1)) 0, .ptr (.st (s.length+2)) 0, x4, x5, x6, x7, x8, x9, x10, x11, x12, x13, x14, x15, x16, x17, x18, x19, x20, x21, x22, x23, x24, x25, x26, x27, x28, x29, x30, x31, x32, x33, x34, .sl false 3 es, .int .i64 (es.length : Int), .int .i64 (k : Int), x38, x39, x40, x41, x42, x43, x44, x45, x46, x47, x48, x49, x50, x51, x52, x53, x54, x55, x56, x57], ⟨hp, s ++ (A :: B :: .cells [.int .i64 i0, .int .u64 i1, .bool b, O, .row (.st (s.length + (j + 1 + 1 + 1))) v 0 l.length] :: g)⟩) = some (.normal, st') ∧ l2Inv hp s A B i0 i1 b O so LO es (k + 1) st' := by
  suffices h : ∀ r, execW Tryz.prog { h := s.length, ro := ro, esc := [] } [] (callW Tryz.prog how) lp2 ([x0, .ptr (.st s.length) 0, .ptr (.st (s.length+1)) 0, .ptr (.st (s.length+2)) 0, x4, x5, x6, x7, x8, x9, x10, x11, x12, x13, x14, x15, x16, x17, x18, x19, x20, x21, x22, x23, x24, x25, x26, x27, x28, x29, x30, x31, x32, x33, x34, .sl false 3 es, .int .i64 (es.length : Int), .int .i64 (k : Int), x38, x39, x40, x41, x42, x43, x44, x45, x46, x47, x48, x49, x50, x51, x52, x53, x54, x55, x56, x57], ⟨hp, s ++ (A :: B :: .cells [.int .i64 i0, .int .u64 i1, .bool b, O, .row (.st (s.length + (j + 1 + 1 + 1))) v 0 l.length] :: g)⟩) = r → ∃ st', r = some (.normal, st') ∧ l2Inv hp s A B i0 i1 b O so LO es (k + 1) st' from h _ rfl
  intro r hr
  simp [execW, regionA, seqA, wantedA, yieldedA, isVal, effA, ev, evs, evps, Env.get, frameA, pushA, cxOf, putE, optsA, optsOk, valA, fieldAddrA, fieldA, loadA, partA, aggA, isAggD, buildA, placesA, fillA, lay, calleeA, storeA, finishA, resA, oneA, AV.back, AVs.back, AV.inb, AVs.inb, Loc.inb, binA, intBinA, shiftA, strBinA, unA, indexAddrA, buildSliceA, appendA, rowParts, fzL, AV.withCells, okE, elemsA, ofV, ofCell, bytesOk, isSrc, lenA, sub, bodyOf, lp2, Tryz.f10, wok_le hro, wok_le' hro, hO, hb94, hk, hkl, he, hwr, hj, hb1, hb2, hll, hjs] at hr
  subst hr
  refine ⟨_, rfl, _, _, _, _, _, _, _, _, _, _, _, _, _, _, _, _, _, _, _, _, _, _, _, _, _, _, _, _, _, _, _, _, _, _, _, _, _, _, _, _, _, _, _, _, _, _, _, _, _, _, _, _, _, _, rfl, ?_⟩
  exact ⟨SlI.more hln hg hle hk hkl he, hT.put hg hso⟩
theorem l2C (hp s g : List AObj) (ro : Option Nat) (A B : AObj) (i0 i1 : Int) (k : Nat) (b : Bool) (O : AV) (so : Nat) (hso : 3 ≠ so) (LO es : List AV) (x0 x4 x5 x6 x7 x8 x9 x10 x11 x12 x13 x14 x15 x16 x17 x18 x19 x20 x21 x22 x23 x24 x25 x26 x27 x28 x29 x30 x31 x32 x33 x34 x38 x39 x40 x41 x42 x43 x44 x45 x46 x47 x48 x49 x50 x51 x52 x53 x54 x55 x56 x57 : AV) (key : ByteArray) (val : ByteArray) (gone : Bool)
  (hro : ∀ k, ro = some k → k ≤ s.length) (hO : O.one = true) (R : AV) (hR : R.one = true) (hk : ¬ (k : Int) < 10) (hkl : k < es.length) (hwr : wr .i64 ((k : Int) + 1) = (k : Int) + 1) (he : es[k] = .agg [.str key, .str val, .bool gone]) (hS : SlI s 3 g R (es.take (min k 10))) (hT : SlI s so g O LO) :
    ∃ st', execW Tryz.prog { h := s.length, ro := ro, esc := [] } [] (callW Tryz.prog how) lp2 ([x0, .ptr (.st s.length) 0, .ptr (.st (s.length+1)) 0, .ptr (.st (s.length+2)) 0, x4, x5, x6, x7, x8, x9, x10, x11, x12, x13, x14, x15, x16, x17, x18, x19, x20, x21, x22, x23, x24, x25, x26, x27, x28, x29, x30, x31, x32, x33, x34, .sl false 3 es, .int .i64 (es.length : Int), .int .i64 (k : Int), x38, x39, x40, x41, x42, x43, x44, x45, x46, x47, x48, x49, x50, x51, x52, x53, x54, x55, x56, x57], ⟨hp, s ++ (A :: B :: .cells [.int .i64 i0, .int .u64 i1, .bool b, O, R] :: g)⟩) = some (.normal, st') ∧ l2Inv hp s A B i0 i1 b O so LO es (k + 1) st' := by
  suffices h : ∀ r, execW Tryz.prog { h := s.length, ro := ro, esc := [] } [] (callW Tryz.prog how) lp2 ([x0, .ptr (.st s.length) 0, .ptr (.st (s.length+1)) 0, .ptr (.st (s.length+2)) 0, x4, x5, x6, x7, x8, x9, x10, x11, x12, x13, x14, x15, x16, x17, x18, x19, x20, x21, x22, x23, x24, x25, x26, x27, x28, x29, x30, x31, x32, x33, x34, .sl false 3 es, .int .i64 (es.length : Int), .int .i64 (k : Int), x38, x39, x40, x41, x42, x43, x44, x45, x46, x47, x48, x49, x50, x51, x52, x53, x54, x55, x56, x57], ⟨hp, s ++ (A :: B :: .cells [.int .i64 i0, .int .u64 i1, .bool b, O, R] :: g)⟩) = r → ∃ st', r = some (.normal, st') ∧ l2Inv hp s A B i0 i1 b O so LO es (k + 1) st' from h _ rfl
  intro r hr
  simp [execW, regionA, seqA, wantedA, yieldedA, isVal, effA, ev, evs, evps, Env.get, frameA, pushA, cxOf, putE, optsA, optsOk, valA, fieldAddrA, fieldA, loadA, partA, aggA, isAggD, buildA, placesA, fillA, lay, calleeA, storeA, finishA, resA, oneA, AV.back, AVs.back, AV.inb, AVs.inb, Loc.inb, binA, intBinA, shiftA, strBinA, unA, indexAddrA, buildSliceA, appendA, rowParts, fzL, AV.withCells, okE, elemsA, ofV, ofCell, bytesOk, isSrc, lenA, sub, bodyOf, lp2, Tryz.f10, wok_le hro, wok_le' hro, hO, hb94, hk, hkl, he, hwr] at hr
  subst hr
  refine ⟨_, rfl, _, _, _, _, _, _, _, _, _, _, _, _, _, _, _, _, _, _, _, _, _, _, _, _, _, _, _, _, _, _, _, _, _, _, _, _, _, _, _, _, _, _, _, _, _, _, _, _, _, _, _, _, _, _, rfl, ?_⟩
  exact ⟨SlI.keep hS hk, hT.grow⟩
theorem l2X (hp s g : List AObj) (ro : Option Nat) (A B : AObj) (i0 i1 : Int) (k : Nat) (b : Bool) (O : AV) (so : Nat) (hso : 3 ≠ so) (LO es : List AV) (x0 x4 x5 x6 x7 x8 x9 x10 x11 x12 x13 x14 x15 x16 x17 x18 x19 x20 x21 x22 x23 x24 x25 x26 x27 x28 x29 x30 x31 x32 x33 x34 x38 x39 x40 x41 x42 x43 x44 x45 x46 x47 x48 x49 x50 x51 x52 x53 x54 x55 x56 x57 : AV) (key : ByteArray) (val : ByteArray) (gone : Bool)
  (hro : ∀ k, ro = some k → k ≤ s.length) (hO : O.one = true) (R : AV) (hkl : ¬ k < es.length) (hS : SlI s 3 g R (es.take (min k 10))) (hT : SlI s so g O LO) :
    ∃ st', execW Tryz.prog { h := s.length, ro := ro, esc := [] } [] (callW Tryz.prog how) lp2 ([x0, .ptr (.st s.length) 0, .ptr (.st (s.length+1)) 0, .ptr (.st (s.length+2)) 0, x4, x5, x6, x7, x8, x9, x10, x11, x12, x13, x14, x15, x16, x17, x18, x19, x20, x21, x22, x23, x24, x25, x26, x27, x28, x29, x30, x31, x32, x33, x34, .sl false 3 es, .int .i64 (es.length : Int), .int .i64 (k : Int), x38, x39, x40, x41, x42, x43, x44, x45, x46, x47, x48, x49, x50, x51, x52, x53, x54, x55, x56, x57], ⟨hp, s ++ (A :: B :: .cells [.int .i64 i0, .int .u64 i1, .bool b, O, R] :: g)⟩) = some (.exit 2, st') ∧ l2Inv hp s A B i0 i1 b O so LO es k st' := by
  suffices h : ∀ r, execW Tryz.prog { h := s.length, ro := ro, esc := [] } [] (callW Tryz.prog how) lp2 ([x0, .ptr (.st s.length) 0, .ptr (.st (s.length+1)) 0, .ptr (.st (s.length+2)) 0, x4, x5, x6, x7, x8, x9, x10, x11, x12, x13, x14, x15, x16, x17, x18, x19, x20, x21, x22, x23, x24, x25, x26, x27, x28, x29, x30, x31, x32, x33, x34, .sl false 3 es, .int .i64 (es.length : Int), .int .i64 (k : Int), x38, x39, x40, x41, x42, x43, x44, x45, x46, x47, x48, x49, x50, x51, x52, x53, x54, x55, x56, x57], ⟨hp, s ++ (A :: B :: .cells [.int .i64 i0, .int .u64 i1, .bool b, O, R] :: g)⟩) = r → ∃ st', r = some (.exit 2, st') ∧ l2Inv hp s A B i0 i1 b O so LO es k st' from h _ rfl
  intro r hr
  simp [execW, regionA, seqA, wantedA, yieldedA, isVal, effA, ev, evs, evps, Env.get, frameA, pushA, cxOf, putE, optsA, optsOk, valA, fieldAddrA, fieldA, loadA, partA, aggA, isAggD, buildA, placesA, fillA, lay, calleeA, storeA, finishA, resA, oneA, AV.back, AVs.back, AV.inb, AVs.inb, Loc.inb, binA, intBinA, shiftA, strBinA, unA, indexAddrA, buildSliceA, appendA, rowParts, fzL, AV.withCells, okE, elemsA, ofV, ofCell, bytesOk, isSrc, lenA, sub, bodyOf, lp2, Tryz.f10, wok_le hro, wok_le' hro, hO, hb94, hkl] at hr
  subst hr
  exact ⟨_, rfl, _, _, _, _, _, _, _, _, _, _, _, _, _, _, _, _, _, _, _, _, _, _, _, _, _, _, _, _, _, _, _, _, _, _, _, _, _, _, _, _, _, _, _, _, _, _, _, _, _, _, _, _, _, _, rfl, hS, hT⟩
theorem l2Loop (hp s : List AObj) (ro : Option Nat) (A B : AObj) (i0 i1 : Int) (b : Bool) (O : AV) (so : Nat) (hso : 3 ≠ so) (LO es : List AV) (hro : ∀ k, ro = some k → k ≤ s.length) (hO : O.one = true) (hlen : es.length ≤ 9223372036854775807)
    (hty : ∀ e ∈ es, ∃ key val gone, e = .agg [.str key, .str val, .bool gone]) : ∀ (m k : Nat) (st : St), k + m = es.length → l2Inv hp s A B i0 i1 b O so LO es k st →
    ∃ st', iterW (execW Tryz.prog { h := s.length, ro := ro, esc := [] } [] (callW Tryz.prog how) lp2) st = some (.exit 2, st') ∧ l2Inv hp s A B i0 i1 b O so LO es es.length st'
  | 0, k, st, hm, hI => by
    obtain ⟨g, R, x0, x4, x5, x6, x7, x8, x9, x10, x11, x12, x13, x14, x15, x16, x17, x18, x19, x20, x21, x22, x23, x24, x25, x26, x27, x28, x29, x30, x31, x32, x33, x34, x38, x39, x40, x41, x42, x43, x44, x45, x46, x47, x48, x49, x50, x51, x52, x53, x54, x55, x56, x57, rfl, hS, hT⟩ := hI
    have hk : k = es.length := by omega
    subst hk
    obtain ⟨st', h1, h2⟩ := l2X hp s g ro A B i0 i1 es.length b O so hso LO es x0 x4 x5 x6 x7 x8 x9 x10 x11 x12 x13 x14 x15 x16 x17 x18 x19 x20 x21 x22 x23 x24 x25 x26 x27 x28 x29 x30 x31 x32 x33 x34 x38 x39 x40 x41 x42 x43 x44 x45 x46 x47 x48 x49 x50 x51 x52 x53 x54 x55 x56 x57 default default default hro hO R (by omega) hS hT
    exact ⟨st', iterW_out h1 (by simp), h2⟩
  | m + 1, k, st, hm, hI => by
    obtain ⟨g, R, x0, x4, x5, x6, x7, x8, x9, x10, x11, x12, x13, x14, x15, x16, x17, x18, x19, x20, x21, x22, x23, x24, x25, x26, x27, x28, x29, x30, x31, x32, x33, x34, x38, x39, x40, x41, x42, x43, x44, x45, x46, x47, x48, x49, x50, x51, x52, x53, x54, x55, x56, x57, rfl, hS, hT⟩ := hI
    have hkl : k < es.length := by omega
    obtain ⟨key, val, gone, he⟩ := hty es[k] (List.getElem_mem hkl)
    have hwr : wr .i64 ((k : Int) + 1) = (k : Int) + 1 := wr_ok (by omega) (by omega)
    have key : ∃ st', execW Tryz.prog { h := s.length, ro := ro, esc := [] } [] (callW Tryz.prog how) lp2 ([x0, .ptr (.st s.length) 0, .ptr (.st (s.length+1)) 0, .ptr (.st (s.length+2)) 0, x4, x5, x6, x7, x8, x9, x10, x11, x12, x13, x14, x15, x16, x17, x18, x19, x20, x21, x22, x23, x24, x25, x26, x27, x28, x29, x30, x31, x32, x33, x34, .sl false 3 es, .int .i64 (es.length : Int), .int .i64 (k : Int), x38, x39, x40, x41, x42, x43, x44, x45, x46, x47, x48, x49, x50, x51, x52, x53, x54, x55, x56, x57], ⟨hp, s ++ (A :: B :: .cells [.int .i64 i0, .int .u64 i1, .bool b, O, R] :: g)⟩) = some (.normal, st') ∧ l2Inv hp s A B i0 i1 b O so LO es (k + 1) st' := by
      by_cases hk : (k : Int) < 10
      · rcases hS with ⟨hl, rfl⟩ | ⟨hl, j, v, rfl, hg⟩
        · exact l2A hp s g ro A B i0 i1 k b O so hso LO es x0 x4 x5 x6 x7 x8 x9 x10 x11 x12 x13 x14 x15 x16 x17 x18 x19 x20 x21 x22 x23 x24 x25 x26 x27 x28 x29 x30 x31 x32 x33 x34 x38 x39 x40 x41 x42 x43 x44 x45 x46 x47 x48 x49 x50 x51 x52 x53 x54 x55 x56 x57 key val gone hro hO hk hkl hwr he (.inl ⟨hl, rfl⟩) hT
        · have hjl : j < g.length := (List.getElem?_eq_some_iff.1 hg).1
          have hl10 : (es.take (min k 10)).length ≤ 10 := by simp; omega
          exact l2B hp s g ro A B i0 i1 k b O so hso LO es x0 x4 x5 x6 x7 x8 x9 x10 x11 x12 x13 x14 x15 x16 x17 x18 x19 x20 x21 x22 x23 x24 x25 x26 x27 x28 x29 x30 x31 x32 x33 x34 x38 x39 x40 x41 x42 x43 x44 x45 x46 x47 x48 x49 x50 x51 x52 x53 x54 x55 x56 x57 key val gone hro hO j v _ hk (fun g' => by rw [List.getElem?_append_left hjl]; exact hg) (by omega) (by omega) (by omega) (fun ob g' => List.set_append_left _ _ hjl) hkl hwr he hl hg rfl hT
      · exact l2C hp s g ro A B i0 i1 k b O so hso LO es x0 x4 x5 x6 x7 x8 x9 x10 x11 x12 x13 x14 x15 x16 x17 x18 x19 x20 x21 x22 x23 x24 x25 x26 x27 x28 x29 x30 x31 x32 x33 x34 x38 x39 x40 x41 x42 x43 x44 x45 x46 x47 x48 x49 x50 x51 x52 x53 x54 x55 x56 x57 key val gone hro hO R hS.one hk hkl hwr he hS hT
    obtain ⟨st1, h1, h2⟩ := key
    obtain ⟨st', h3, h4⟩ := l2Loop hp s ro A B i0 i1 b O so hso LO es hro hO hlen hty m (k + 1) st1 (by omega) h2
    exact ⟨st', iterW_next h1 h3, h4⟩
