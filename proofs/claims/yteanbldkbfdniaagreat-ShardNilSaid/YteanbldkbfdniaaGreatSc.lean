/- It is proved that the stages of the conversion of a transaction give the cut lists, for any transaction. -/
import Derived.Test.YteanbldkbfdniaaGreatSb
open Go Go.Abs Go.Proofs
set_option maxRecDepth 100000
set_option maxHeartbeats 4000000
set_option linter.unusedSimpArgs false
set_option linter.unusedVariables false
theorem execW_loop_of {P : Program} {cx : Cx} {tails : List Nat} {call : Caller} {c : Code} {st st1 : St} {i : Nat} (h : iterW (execW P cx tails call c) st = some (.exit i, st1)) : execW P cx tails call (.block i (.loop c)) st = some (.normal, st1) := by
  simp [execW, h]
def slOf (sz : Nat) : List AV → AV
  | [] => .nils
  | l => .sl false sz l
theorem slOf_plain {sz : Nat} {l : List AV} : Plain (slOf sz l) := by
  cases l <;> exact ⟨rfl, fun _ => rfl, rfl⟩
theorem SlI.back {hp s g : List AObj} {sz : Nat} {R : AV} {l : List AV} {A B C : AObj} (h : SlI s sz g R l) : AV.back s.length ⟨hp, s ++ A :: B :: C :: g⟩ R = some (slOf sz l) := by
  rcases h with ⟨rfl, rfl⟩ | ⟨h, j, v, rfl, hg⟩
  · rfl
  · have h1 : (s ++ A :: B :: C :: g)[s.length + (j + 1 + 1 + 1)]? = g[j]? := by simp [List.getElem?_append_right]
    have h2 : ¬ s.length + (j + 1 + 1 + 1) < s.length := by omega
    simp only [AV.back, if_neg h2, h1, hg, List.drop_zero, List.take_length, Nat.zero_add, Nat.le_refl, and_self, if_true]
    cases l with
    | nil => exact absurd rfl h
    | cons _ _ => rfl
noncomputable def cA : Code := sub [.l] (bodyOf Tryz.f10)
noncomputable def cB : Code := sub [.r, .l] (bodyOf Tryz.f10)
noncomputable def c2 : Code := sub [.r, .r, .l, .l] (bodyOf Tryz.f10)
noncomputable def c8 : Code := sub [.r, .r, .r, .l, .l] (bodyOf Tryz.f10)
noncomputable def c14 : Code := sub [.r, .r, .r, .r, .l] (bodyOf Tryz.f10)
theorem body25 : Tryz.f10.body = some (cA.seq (cB.seq ((c2.seq (.block 0 (.loop lp1))).seq ((c8.seq (.block 2 (.loop lp2))).seq (c14.seq .ret))))) := rfl
def Post (hp s : List AObj) (i0 i1 : Int) (b : Bool) (rd wr : AV) (l1 l2 : List AV) (st : St) : Prop :=
  ∃ (B : AObj) (g : List AObj) (R O : AV) (x0 x4 x5 x6 x7 x8 x9 x10 x11 x12 x13 x14 x15 x16 x17 x18 x19 x20 x21 x22 x23 x24 x25 x26 x27 x28 x29 x30 x31 x32 x33 x34 x35 x36 x37 x38 x39 x40 x41 x42 x43 x44 x45 x46 x47 x48 x49 x50 x51 x52 x53 x54 x55 x56 x57 : AV), (∃ cs, B = .cells cs ∧ cs.length = 5) ∧ st = ([x0, .ptr (.st s.length) 0, .ptr (.st (s.length+1)) 0, .ptr (.st (s.length+2)) 0, x4, x5, x6, x7, x8, x9, x10, x11, x12, x13, x14, x15, x16, x17, x18, x19, x20, x21, x22, x23, x24, x25, x26, x27, x28, x29, x30, x31, x32, x33, x34, x35, x36, x37, x38, x39, x40, x41, x42, x43, x44, x45, x46, x47, x48, x49, x50, x51, x52, x53, x54, x55, x56, x57], ⟨hp, s ++ (.cells [.int .i64 i0, .int .u64 i1, .bool b, rd, wr] :: B :: .cells [.int .i64 i0, .int .u64 i1, .bool b, R, O] :: g)⟩) ∧ SlI s 2 g R l1 ∧ SlI s 3 g O l2
theorem stage0 (hp s : List AObj) (ro : Option Nat) (i0 i1 : Int) (b : Bool) (rd wr : AV) (hro : ∀ k, ro = some k → k ≤ s.length) (h1 : rd.one = true) (h2 : wr.one = true) :
    ∃ st2, execW Tryz.prog { h := s.length, ro := ro, esc := [] } [] (callW Tryz.prog how) (cA.seq cB) (frameA Tryz.f10 [.agg [.int .i64 i0, .int .u64 i1, .bool b, rd, wr]], ⟨hp, s⟩) = some (.normal, st2) ∧ Post hp s i0 i1 b rd wr [] [] st2 := by
  suffices h : ∀ r, execW Tryz.prog { h := s.length, ro := ro, esc := [] } [] (callW Tryz.prog how) (cA.seq cB) (frameA Tryz.f10 [.agg [.int .i64 i0, .int .u64 i1, .bool b, rd, wr]], ⟨hp, s⟩) = r → ∃ st2, r = some (.normal, st2) ∧ Post hp s i0 i1 b rd wr [] [] st2 from h _ rfl
  intro r hr
  simp [execW, regionA, seqA, wantedA, yieldedA, isVal, effA, ev, evs, evps, Env.get, frameA, pushA, cxOf, putE, optsA, optsOk, valA, fieldAddrA, fieldA, loadA, partA, aggA, isAggD, buildA, placesA, fillA, lay, calleeA, storeA, finishA, resA, oneA, AV.back, AVs.back, AV.inb, AVs.inb, Loc.inb, binA, intBinA, shiftA, strBinA, unA, indexAddrA, buildSliceA, appendA, rowParts, fzL, AV.withCells, okE, elemsA, ofV, ofCell, bytesOk, isSrc, lenA, sub, bodyOf, cA, cB, Tryz.f10, List.replicate, h1, h2, wok_le hro, wok_le' hro] at hr
  subst hr
  exact ⟨_, rfl, _, _, _, _, _, _, _, _, _, _, _, _, _, _, _, _, _, _, _, _, _, _, _, _, _, _, _, _, _, _, _, _, _, _, _, _, _, _, _, _, _, _, _, _, _, _, _, _, _, _, _, _, _, _, _, _, _, _, _, ⟨_, rfl, rfl⟩, rfl, .inl ⟨rfl, rfl⟩, .inl ⟨rfl, rfl⟩⟩
theorem stage1 (hp s : List AObj) (ro : Option Nat) (i0 i1 : Int) (b : Bool) (wr : AV)  (hro : ∀ k, ro = some k → k ≤ s.length) (ho : wr.one = true) (es : List AV) (hlen : es.length ≤ 9223372036854775807) (hty : ∀ e ∈ es, ∃ (key : ByteArray) (num : Int), e = .agg [.str key, .int .u64 num]) (st : St) (hP : Post hp s i0 i1 b (.sl false 2 es) wr [] [] st) :
    ∃ st2, execW Tryz.prog { h := s.length, ro := ro, esc := [] } [] (callW Tryz.prog how) ((c2).seq (.block 0 (.loop lp1))) st = some (.normal, st2) ∧ Post hp s i0 i1 b (.sl false 2 es) wr (es.take 10) [] st2 := by
  obtain ⟨B, g, R, O, x0, x4, x5, x6, x7, x8, x9, x10, x11, x12, x13, x14, x15, x16, x17, x18, x19, x20, x21, x22, x23, x24, x25, x26, x27, x28, x29, x30, x31, x32, x33, x34, x35, x36, x37, x38, x39, x40, x41, x42, x43, x44, x45, x46, x47, x48, x49, x50, x51, x52, x53, x54, x55, x56, x57, hB, rfl, hS1, hS2⟩ := hP
  have key : ∃ st1, execW Tryz.prog { h := s.length, ro := ro, esc := [] } [] (callW Tryz.prog how) c2 ([x0, .ptr (.st s.length) 0, .ptr (.st (s.length+1)) 0, .ptr (.st (s.length+2)) 0, x4, x5, x6, x7, x8, x9, x10, x11, x12, x13, x14, x15, x16, x17, x18, x19, x20, x21, x22, x23, x24, x25, x26, x27, x28, x29, x30, x31, x32, x33, x34, x35, x36, x37, x38, x39, x40, x41, x42, x43, x44, x45, x46, x47, x48, x49, x50, x51, x52, x53, x54, x55, x56, x57], ⟨hp, s ++ (.cells [.int .i64 i0, .int .u64 i1, .bool b, (.sl false 2 es), wr] :: B :: .cells [.int .i64 i0, .int .u64 i1, .bool b, R, O] :: g)⟩) = some (.normal, st1) ∧ l1Inv hp s (.cells [.int .i64 i0, .int .u64 i1, .bool b, .sl false 2 es, wr]) B i0 i1 b O 3 [] es 0 st1 := by
    suffices h : ∀ r, execW Tryz.prog { h := s.length, ro := ro, esc := [] } [] (callW Tryz.prog how) c2 ([x0, .ptr (.st s.length) 0, .ptr (.st (s.length+1)) 0, .ptr (.st (s.length+2)) 0, x4, x5, x6, x7, x8, x9, x10, x11, x12, x13, x14, x15, x16, x17, x18, x19, x20, x21, x22, x23, x24, x25, x26, x27, x28, x29, x30, x31, x32, x33, x34, x35, x36, x37, x38, x39, x40, x41, x42, x43, x44, x45, x46, x47, x48, x49, x50, x51, x52, x53, x54, x55, x56, x57], ⟨hp, s ++ (.cells [.int .i64 i0, .int .u64 i1, .bool b, (.sl false 2 es), wr] :: B :: .cells [.int .i64 i0, .int .u64 i1, .bool b, R, O] :: g)⟩) = r → ∃ st1, r = some (.normal, st1) ∧ l1Inv hp s (.cells [.int .i64 i0, .int .u64 i1, .bool b, .sl false 2 es, wr]) B i0 i1 b O 3 [] es 0 st1 from h _ rfl
    intro r hr
    simp [execW, regionA, seqA, wantedA, yieldedA, isVal, effA, ev, evs, evps, Env.get, frameA, pushA, cxOf, putE, optsA, optsOk, valA, fieldAddrA, fieldA, loadA, partA, aggA, isAggD, buildA, placesA, fillA, lay, calleeA, storeA, finishA, resA, oneA, AV.back, AVs.back, AV.inb, AVs.inb, Loc.inb, binA, intBinA, shiftA, strBinA, unA, indexAddrA, buildSliceA, appendA, rowParts, fzL, AV.withCells, okE, elemsA, ofV, ofCell, bytesOk, isSrc, lenA, sub, bodyOf, c2, Tryz.f10, ho, wok_le hro, wok_le' hro] at hr
    subst hr
    exact ⟨_, rfl, _, _, _, _, _, _, _, _, _, _, _, _, _, _, _, _, _, _, _, _, _, _, _, _, _, _, _, _, _, _, _, _, _, _, _, _, _, _, _, _, _, _, _, _, _, _, _, _, _, _, _, _, _, _, rfl, by simpa using hS1, hS2⟩
  obtain ⟨st1, h1, hI⟩ := key
  obtain ⟨st2, h2, hI2⟩ := l1Loop hp s ro _ B i0 i1 b O 3 (by decide) [] es hro hS2.one hlen hty es.length 0 st1 (by omega) hI
  refine ⟨st2, execW_seq_of h1 (execW_loop_of h2), ?_⟩
  obtain ⟨g', R', y0, y4, y5, y6, y7, y8, y9, y10, y11, y12, y13, y17, y18, y19, y20, y21, y22, y23, y24, y25, y26, y27, y28, y29, y30, y31, y32, y33, y34, y35, y36, y37, y38, y39, y40, y41, y42, y43, y44, y45, y46, y47, y48, y49, y50, y51, y52, y53, y54, y55, y56, y57, rfl, hS, hT⟩ := hI2
  have e : es.take (min es.length 10) = es.take 10 := by
    rcases Nat.lt_or_ge es.length 10 with h | h
    · rw [Nat.min_eq_left (by omega), List.take_length, List.take_of_length_le (by omega)]
    · rw [Nat.min_eq_right h]
  rw [e] at hS
  exact ⟨B, g', _, _, _, _, _, _, _, _, _, _, _, _, _, _, _, _, _, _, _, _, _, _, _, _, _, _, _, _, _, _, _, _, _, _, _, _, _, _, _, _, _, _, _, _, _, _, _, _, _, _, _, _, _, _, _, _, _, hB, rfl, hS, hT⟩
theorem stage1n (hp s : List AObj) (ro : Option Nat) (i0 i1 : Int) (b : Bool) (wr : AV)  (hro : ∀ k, ro = some k → k ≤ s.length) (ho : wr.one = true) (st : St) (hP : Post hp s i0 i1 b .nils wr [] [] st) :
    ∃ st2, execW Tryz.prog { h := s.length, ro := ro, esc := [] } [] (callW Tryz.prog how) ((c2).seq (.block 0 (.loop lp1))) st = some (.normal, st2) ∧ Post hp s i0 i1 b .nils wr [] [] st2 := by
  obtain ⟨B, g, R, O, x0, x4, x5, x6, x7, x8, x9, x10, x11, x12, x13, x14, x15, x16, x17, x18, x19, x20, x21, x22, x23, x24, x25, x26, x27, x28, x29, x30, x31, x32, x33, x34, x35, x36, x37, x38, x39, x40, x41, x42, x43, x44, x45, x46, x47, x48, x49, x50, x51, x52, x53, x54, x55, x56, x57, hB, rfl, hS1, hS2⟩ := hP
  suffices h : ∀ r, execW Tryz.prog { h := s.length, ro := ro, esc := [] } [] (callW Tryz.prog how) c2 ([x0, .ptr (.st s.length) 0, .ptr (.st (s.length+1)) 0, .ptr (.st (s.length+2)) 0, x4, x5, x6, x7, x8, x9, x10, x11, x12, x13, x14, x15, x16, x17, x18, x19, x20, x21, x22, x23, x24, x25, x26, x27, x28, x29, x30, x31, x32, x33, x34, x35, x36, x37, x38, x39, x40, x41, x42, x43, x44, x45, x46, x47, x48, x49, x50, x51, x52, x53, x54, x55, x56, x57], ⟨hp, s ++ (.cells [.int .i64 i0, .int .u64 i1, .bool b, .nils, wr] :: B :: .cells [.int .i64 i0, .int .u64 i1, .bool b, R, O] :: g)⟩) = r → ∃ st1, r = some (.normal, st1) ∧ ∃ st2, execW Tryz.prog { h := s.length, ro := ro, esc := [] } [] (callW Tryz.prog how) lp1 st1 = some (.exit 0, st2) ∧ Post hp s i0 i1 b .nils wr [] [] st2 by
    obtain ⟨st1, h1, st2, h2, h3⟩ := h _ rfl
    exact ⟨st2, execW_seq_of h1 (execW_loop_of (iterW_out h2 (by simp))), h3⟩
  intro r hr
  simp [execW, regionA, seqA, wantedA, yieldedA, isVal, effA, ev, evs, evps, Env.get, frameA, pushA, cxOf, putE, optsA, optsOk, valA, fieldAddrA, fieldA, loadA, partA, aggA, isAggD, buildA, placesA, fillA, lay, calleeA, storeA, finishA, resA, oneA, AV.back, AVs.back, AV.inb, AVs.inb, Loc.inb, binA, intBinA, shiftA, strBinA, unA, indexAddrA, buildSliceA, appendA, rowParts, fzL, AV.withCells, okE, elemsA, ofV, ofCell, bytesOk, isSrc, lenA, sub, bodyOf, c2, Tryz.f10, ho, wok_le hro, wok_le' hro] at hr
  subst hr
  refine ⟨_, rfl, ?_⟩
  suffices h : ∀ r, execW Tryz.prog { h := s.length, ro := ro, esc := [] } [] (callW Tryz.prog how) lp1 _ = r → ∃ st1, r = some (.exit 0, st1) ∧ Post hp s i0 i1 b .nils wr [] [] st1 from h _ rfl
  intro r hr
  simp [execW, regionA, seqA, wantedA, yieldedA, isVal, effA, ev, evs, evps, Env.get, frameA, pushA, cxOf, putE, optsA, optsOk, valA, fieldAddrA, fieldA, loadA, partA, aggA, isAggD, buildA, placesA, fillA, lay, calleeA, storeA, finishA, resA, oneA, AV.back, AVs.back, AV.inb, AVs.inb, Loc.inb, binA, intBinA, shiftA, strBinA, unA, indexAddrA, buildSliceA, appendA, rowParts, fzL, AV.withCells, okE, elemsA, ofV, ofCell, bytesOk, isSrc, lenA, sub, bodyOf, lp1, Tryz.f10, ho, wok_le hro, wok_le' hro] at hr
  subst hr
  exact ⟨_, rfl, _, _, _, _, _, _, _, _, _, _, _, _, _, _, _, _, _, _, _, _, _, _, _, _, _, _, _, _, _, _, _, _, _, _, _, _, _, _, _, _, _, _, _, _, _, _, _, _, _, _, _, _, _, _, _, _, _, _, _, hB, rfl, hS1, hS2⟩
theorem stage2 (hp s : List AObj) (ro : Option Nat) (i0 i1 : Int) (b : Bool) (rd : AV) (l1 : List AV) (hro : ∀ k, ro = some k → k ≤ s.length) (ho : rd.one = true) (es : List AV) (hlen : es.length ≤ 9223372036854775807) (hty : ∀ e ∈ es, ∃ (key : ByteArray) (val : ByteArray) (gone : Bool), e = .agg [.str key, .str val, .bool gone]) (st : St) (hP : Post hp s i0 i1 b rd (.sl false 3 es) l1 [] st) :
    ∃ st2, execW Tryz.prog { h := s.length, ro := ro, esc := [] } [] (callW Tryz.prog how) ((c8).seq (.block 2 (.loop lp2))) st = some (.normal, st2) ∧ Post hp s i0 i1 b rd (.sl false 3 es) l1 (es.take 10) st2 := by
  obtain ⟨B, g, R, O, x0, x4, x5, x6, x7, x8, x9, x10, x11, x12, x13, x14, x15, x16, x17, x18, x19, x20, x21, x22, x23, x24, x25, x26, x27, x28, x29, x30, x31, x32, x33, x34, x35, x36, x37, x38, x39, x40, x41, x42, x43, x44, x45, x46, x47, x48, x49, x50, x51, x52, x53, x54, x55, x56, x57, hB, rfl, hS1, hS2⟩ := hP
  have key : ∃ st1, execW Tryz.prog { h := s.length, ro := ro, esc := [] } [] (callW Tryz.prog how) c8 ([x0, .ptr (.st s.length) 0, .ptr (.st (s.length+1)) 0, .ptr (.st (s.length+2)) 0, x4, x5, x6, x7, x8, x9, x10, x11, x12, x13, x14, x15, x16, x17, x18, x19, x20, x21, x22, x23, x24, x25, x26, x27, x28, x29, x30, x31, x32, x33, x34, x35, x36, x37, x38, x39, x40, x41, x42, x43, x44, x45, x46, x47, x48, x49, x50, x51, x52, x53, x54, x55, x56, x57], ⟨hp, s ++ (.cells [.int .i64 i0, .int .u64 i1, .bool b, rd, (.sl false 3 es)] :: B :: .cells [.int .i64 i0, .int .u64 i1, .bool b, R, O] :: g)⟩) = some (.normal, st1) ∧ l2Inv hp s (.cells [.int .i64 i0, .int .u64 i1, .bool b, rd, .sl false 3 es]) B i0 i1 b R 2 l1 es 0 st1 := by
    suffices h : ∀ r, execW Tryz.prog { h := s.length, ro := ro, esc := [] } [] (callW Tryz.prog how) c8 ([x0, .ptr (.st s.length) 0, .ptr (.st (s.length+1)) 0, .ptr (.st (s.length+2)) 0, x4, x5, x6, x7, x8, x9, x10, x11, x12, x13, x14, x15, x16, x17, x18, x19, x20, x21, x22, x23, x24, x25, x26, x27, x28, x29, x30, x31, x32, x33, x34, x35, x36, x37, x38, x39, x40, x41, x42, x43, x44, x45, x46, x47, x48, x49, x50, x51, x52, x53, x54, x55, x56, x57], ⟨hp, s ++ (.cells [.int .i64 i0, .int .u64 i1, .bool b, rd, (.sl false 3 es)] :: B :: .cells [.int .i64 i0, .int .u64 i1, .bool b, R, O] :: g)⟩) = r → ∃ st1, r = some (.normal, st1) ∧ l2Inv hp s (.cells [.int .i64 i0, .int .u64 i1, .bool b, rd, .sl false 3 es]) B i0 i1 b R 2 l1 es 0 st1 from h _ rfl
    intro r hr
    simp [execW, regionA, seqA, wantedA, yieldedA, isVal, effA, ev, evs, evps, Env.get, frameA, pushA, cxOf, putE, optsA, optsOk, valA, fieldAddrA, fieldA, loadA, partA, aggA, isAggD, buildA, placesA, fillA, lay, calleeA, storeA, finishA, resA, oneA, AV.back, AVs.back, AV.inb, AVs.inb, Loc.inb, binA, intBinA, shiftA, strBinA, unA, indexAddrA, buildSliceA, appendA, rowParts, fzL, AV.withCells, okE, elemsA, ofV, ofCell, bytesOk, isSrc, lenA, sub, bodyOf, c8, Tryz.f10, ho, wok_le hro, wok_le' hro] at hr
    subst hr
    exact ⟨_, rfl, _, _, _, _, _, _, _, _, _, _, _, _, _, _, _, _, _, _, _, _, _, _, _, _, _, _, _, _, _, _, _, _, _, _, _, _, _, _, _, _, _, _, _, _, _, _, _, _, _, _, _, _, _, _, rfl, by simpa using hS2, hS1⟩
  obtain ⟨st1, h1, hI⟩ := key
  obtain ⟨st2, h2, hI2⟩ := l2Loop hp s ro _ B i0 i1 b R 2 (by decide) l1 es hro hS1.one hlen hty es.length 0 st1 (by omega) hI
  refine ⟨st2, execW_seq_of h1 (execW_loop_of h2), ?_⟩
  obtain ⟨g', R', y0, y4, y5, y6, y7, y8, y9, y10, y11, y12, y13, y14, y15, y16, y17, y18, y19, y20, y21, y22, y23, y24, y25, y26, y27, y28, y29, y30, y31, y32, y33, y34, y38, y39, y40, y41, y42, y43, y44, y45, y46, y47, y48, y49, y50, y51, y52, y53, y54, y55, y56, y57, rfl, hS, hT⟩ := hI2
  have e : es.take (min es.length 10) = es.take 10 := by
    rcases Nat.lt_or_ge es.length 10 with h | h
    · rw [Nat.min_eq_left (by omega), List.take_length, List.take_of_length_le (by omega)]
    · rw [Nat.min_eq_right h]
  rw [e] at hS
  exact ⟨B, g', _, _, _, _, _, _, _, _, _, _, _, _, _, _, _, _, _, _, _, _, _, _, _, _, _, _, _, _, _, _, _, _, _, _, _, _, _, _, _, _, _, _, _, _, _, _, _, _, _, _, _, _, _, _, _, _, _, hB, rfl, hT, hS⟩
theorem stage2n (hp s : List AObj) (ro : Option Nat) (i0 i1 : Int) (b : Bool) (rd : AV) (l1 : List AV) (hro : ∀ k, ro = some k → k ≤ s.length) (ho : rd.one = true) (st : St) (hP : Post hp s i0 i1 b rd .nils l1 [] st) :
    ∃ st2, execW Tryz.prog { h := s.length, ro := ro, esc := [] } [] (callW Tryz.prog how) ((c8).seq (.block 2 (.loop lp2))) st = some (.normal, st2) ∧ Post hp s i0 i1 b rd .nils l1 [] st2 := by
  obtain ⟨B, g, R, O, x0, x4, x5, x6, x7, x8, x9, x10, x11, x12, x13, x14, x15, x16, x17, x18, x19, x20, x21, x22, x23, x24, x25, x26, x27, x28, x29, x30, x31, x32, x33, x34, x35, x36, x37, x38, x39, x40, x41, x42, x43, x44, x45, x46, x47, x48, x49, x50, x51, x52, x53, x54, x55, x56, x57, hB, rfl, hS1, hS2⟩ := hP
  suffices h : ∀ r, execW Tryz.prog { h := s.length, ro := ro, esc := [] } [] (callW Tryz.prog how) c8 ([x0, .ptr (.st s.length) 0, .ptr (.st (s.length+1)) 0, .ptr (.st (s.length+2)) 0, x4, x5, x6, x7, x8, x9, x10, x11, x12, x13, x14, x15, x16, x17, x18, x19, x20, x21, x22, x23, x24, x25, x26, x27, x28, x29, x30, x31, x32, x33, x34, x35, x36, x37, x38, x39, x40, x41, x42, x43, x44, x45, x46, x47, x48, x49, x50, x51, x52, x53, x54, x55, x56, x57], ⟨hp, s ++ (.cells [.int .i64 i0, .int .u64 i1, .bool b, rd, .nils] :: B :: .cells [.int .i64 i0, .int .u64 i1, .bool b, R, O] :: g)⟩) = r → ∃ st1, r = some (.normal, st1) ∧ ∃ st2, execW Tryz.prog { h := s.length, ro := ro, esc := [] } [] (callW Tryz.prog how) lp2 st1 = some (.exit 2, st2) ∧ Post hp s i0 i1 b rd .nils l1 [] st2 by
    obtain ⟨st1, h1, st2, h2, h3⟩ := h _ rfl
    exact ⟨st2, execW_seq_of h1 (execW_loop_of (iterW_out h2 (by simp))), h3⟩
  intro r hr
  simp [execW, regionA, seqA, wantedA, yieldedA, isVal, effA, ev, evs, evps, Env.get, frameA, pushA, cxOf, putE, optsA, optsOk, valA, fieldAddrA, fieldA, loadA, partA, aggA, isAggD, buildA, placesA, fillA, lay, calleeA, storeA, finishA, resA, oneA, AV.back, AVs.back, AV.inb, AVs.inb, Loc.inb, binA, intBinA, shiftA, strBinA, unA, indexAddrA, buildSliceA, appendA, rowParts, fzL, AV.withCells, okE, elemsA, ofV, ofCell, bytesOk, isSrc, lenA, sub, bodyOf, c8, Tryz.f10, ho, wok_le hro, wok_le' hro] at hr
  subst hr
  refine ⟨_, rfl, ?_⟩
  suffices h : ∀ r, execW Tryz.prog { h := s.length, ro := ro, esc := [] } [] (callW Tryz.prog how) lp2 _ = r → ∃ st1, r = some (.exit 2, st1) ∧ Post hp s i0 i1 b rd .nils l1 [] st1 from h _ rfl
  intro r hr
  simp [execW, regionA, seqA, wantedA, yieldedA, isVal, effA, ev, evs, evps, Env.get, frameA, pushA, cxOf, putE, optsA, optsOk, valA, fieldAddrA, fieldA, loadA, partA, aggA, isAggD, buildA, placesA, fillA, lay, calleeA, storeA, finishA, resA, oneA, AV.back, AVs.back, AV.inb, AVs.inb, Loc.inb, binA, intBinA, shiftA, strBinA, unA, indexAddrA, buildSliceA, appendA, rowParts, fzL, AV.withCells, okE, elemsA, ofV, ofCell, bytesOk, isSrc, lenA, sub, bodyOf, lp2, Tryz.f10, ho, wok_le hro, wok_le' hro] at hr
  subst hr
  exact ⟨_, rfl, _, _, _, _, _, _, _, _, _, _, _, _, _, _, _, _, _, _, _, _, _, _, _, _, _, _, _, _, _, _, _, _, _, _, _, _, _, _, _, _, _, _, _, _, _, _, _, _, _, _, _, _, _, _, _, _, _, _, _, hB, rfl, hS1, hS2⟩
