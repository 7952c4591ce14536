/- What a transaction is turned into. -/
import Derived.Test.YthikbholekngfaaGreatDoorAbs12
import Derived.Test.YthikbholekngfaaGreatDoorChecked
open Go Go.Abs Go.Proofs
set_option maxRecDepth 100000
set_option maxHeartbeats 4000000
set_option linter.unusedSimpArgs false
set_option linter.unusedVariables false
variable {how : FuncId → Option How}
theorem push_eq {σ : AS} {ob : AObj} : AS.mk (σ.hp ++ []) (σ.st ++ [ob]) = σ.push false ob := by simp [AS.push]
theorem same_eq {σ : AS} : AS.mk (σ.hp ++ []) (σ.st ++ []) = σ := by cases σ; simp
def isT177 (e : AV) : Prop := ∃ (fa0 : ByteArray) (fa1 : Int), e = .agg [.str fa0, .int .u64 fa1]
def isT180 (e : AV) : Prop := ∃ (fa0 : ByteArray) (fa1 : ByteArray) (fa2 : Bool), e = .agg [.str fa0, .str fa1, .bool fa2]

/-! function 31: "sautoir/sautoirlaw12.OurTxn" -/
@[simp] theorem s35 : sizeA Tryz.prog 35 = some 5 := by kernel_rfl
attribute [simp] Tryz.underlying35
@[simp] theorem s31 : sizeA Tryz.prog 31 = some 2 := by kernel_rfl
attribute [simp] Tryz.underlying31
@[simp] theorem s3 : sizeA Tryz.prog 3 = some 1 := by kernel_rfl
attribute [simp] Tryz.underlying3
@[simp] theorem s24 : sizeA Tryz.prog 24 = some 1 := by kernel_rfl
attribute [simp] Tryz.underlying24
@[simp] theorem s4 : sizeA Tryz.prog 4 = some 1 := by kernel_rfl
attribute [simp] Tryz.underlying4
@[simp] theorem s32 : sizeA Tryz.prog 32 = some 1 := by kernel_rfl
attribute [simp] Tryz.underlying32
@[simp] theorem s33 : sizeA Tryz.prog 33 = some 1 := by kernel_rfl
attribute [simp] Tryz.underlying33
@[simp] theorem s57 : sizeA Tryz.prog 57 = some 5 := by kernel_rfl
attribute [simp] Tryz.underlying57
@[simp] theorem s54 : sizeA Tryz.prog 54 = some 1 := by kernel_rfl
attribute [simp] Tryz.underlying54
@[simp] theorem s55 : sizeA Tryz.prog 55 = some 1 := by kernel_rfl
attribute [simp] Tryz.underlying55
@[simp] theorem z57 : zeroA Tryz.prog 57 = some (.agg [.int .i64 0, .int .u64 0, .bool false, .nils, .nils]) := by kernel_rfl
@[simp] theorem e32 : elemA Tryz.prog 32 = some 177 := by kernel_rfl
@[simp] theorem s177 : sizeA Tryz.prog 177 = some 2 := by kernel_rfl
attribute [simp] Tryz.underlying177
@[simp] theorem s9 : sizeA Tryz.prog 9 = some 1 := by kernel_rfl
attribute [simp] Tryz.underlying9
@[simp] theorem z177 : zeroA Tryz.prog 177 = some (.agg [.str ⟨#[]⟩, .int .u64 0]) := by kernel_rfl
@[simp] theorem b177 : bytesA Tryz.prog 177 = some 24 := by kernel_rfl
@[simp] theorem s178 : sizeA Tryz.prog 178 = some 2 := by kernel_rfl
attribute [simp] Tryz.underlying178
@[simp] theorem z178 : zeroA Tryz.prog 178 = some (.agg [.str ⟨#[]⟩, .int .u64 0]) := by kernel_rfl
@[simp] theorem e54 : elemA Tryz.prog 54 = some 178 := by kernel_rfl
@[simp] theorem b178 : bytesA Tryz.prog 178 = some 24 := by kernel_rfl
@[simp] theorem e33 : elemA Tryz.prog 33 = some 180 := by kernel_rfl
@[simp] theorem s180 : sizeA Tryz.prog 180 = some 3 := by kernel_rfl
attribute [simp] Tryz.underlying180
@[simp] theorem z180 : zeroA Tryz.prog 180 = some (.agg [.str ⟨#[]⟩, .str ⟨#[]⟩, .bool false]) := by kernel_rfl
@[simp] theorem b180 : bytesA Tryz.prog 180 = some 40 := by kernel_rfl
@[simp] theorem s181 : sizeA Tryz.prog 181 = some 3 := by kernel_rfl
attribute [simp] Tryz.underlying181
@[simp] theorem z181 : zeroA Tryz.prog 181 = some (.agg [.str ⟨#[]⟩, .str ⟨#[]⟩, .bool false]) := by kernel_rfl
@[simp] theorem e55 : elemA Tryz.prog 55 = some 181 := by kernel_rfl
@[simp] theorem b181 : bytesA Tryz.prog 181 = some 40 := by kernel_rfl
namespace F31
noncomputable def cr (p : List Dir) : Code := sub p (bodyOf Tryz.f31)
noncomputable def q0 : List Oper := opsOf (sub [.l] (bodyOf Tryz.f31))
theorem cq0 : cr [.l] = .region 0 q0.toArray false := by kernel_rfl
theorem r0 (cx : Cx) (env : Env) (σ : AS) (fa0 : Int) (fa1 : Int) (fa2 : Bool) (fa3 : AV) (fa4 : AV) (hlen : env.length = 58) (f0 : Env.get env 0 = .agg [.int .i64 fa0, .int .u64 fa1, .bool fa2, fa3, fa4])    (hcx : cx.esc = []) :
    ∃ env', seqA Tryz.prog cx (callW Tryz.prog how) q0 (q0) env σ = some (env', (σ.push false (.cells [.int .i64 fa0, .int .u64 fa1, .bool fa2, fa3, fa4])).push false (.cells [.int .i64 0, .int .u64 0, .bool false, .nils, .nils])) ∧ env'.length = 58 ∧ (Env.get env' 1 = .ptr (.st σ.st.length) 0 ∧ Env.get env' 2 = .ptr (.st (σ.st.length + 1)) 0) ∧ (∀ i, i ∉ [1, 2] → Env.get env' i = Env.get env i) := by
  suffices h : ∀ r, seqA Tryz.prog cx (callW Tryz.prog how) q0 (q0) env σ = r → ∃ env', r = some (env', (σ.push false (.cells [.int .i64 fa0, .int .u64 fa1, .bool fa2, fa3, fa4])).push false (.cells [.int .i64 0, .int .u64 0, .bool false, .nils, .nils])) ∧ env'.length = 58 ∧ (Env.get env' 1 = .ptr (.st σ.st.length) 0 ∧ Env.get env' 2 = .ptr (.st (σ.st.length + 1)) 0) ∧ (∀ i, i ∉ [1, 2] → Env.get env' i = Env.get env i) from h _ rfl
  intro r hr
  simp -implicitDefEqProofs [ofV, ofCell, ofCells, seqA_nil, seqA_cons, seqVK_eq, seqEK_eq, wantedA, yieldedA, isVal, effA, ev, evs, evps, putE, optsA, optsOk, valA, fieldAddrA, fieldA, loadA, partA, aggA, isAggD, buildA, placesA, fillA, lay, storeA, AV.withCells, buildSliceA, elemsA, rowParts, fzL, promL, okE, isSrc, bytesOk, pushA, cxOf, lenA, binA, intBinA, strBinA, unA, indexAddrA, eqA, AVs.inb, AV.inb, Loc.inb, calleeA, opsOf, sub, bodyOf, Env.get_set, AS.get_push_at, AS.get_push_old, AS.push_len, AS.set_st_len, AS.next_st', AS.set_push_at, AS.get_set_self, AS.get_set_other, q0, Tryz.f31, hlen, hcx, f0] at hr
  subst hr
  refine ⟨_, rfl, by simp [hlen], by simp [Env.get_set, hlen, f0], fun i hi => ?_⟩
  simp only [List.mem_cons, List.not_mem_nil, or_false, not_or] at hi
  obtain ⟨x0, x1⟩ := hi
  simp [Env.get_set, hlen, Ne.symm x0, Ne.symm x1]
noncomputable def q1 : List Oper := opsOf (sub [.r, .l] (bodyOf Tryz.f31))
theorem cq1 : cr [.r, .l] = .region 1 q1.toArray false := by kernel_rfl
theorem r1 (cx : Cx) (env : Env) (σ : AS) (fa0 : Int) (fa1 : Int) (fa2 : Bool) (fa3 : AV) (fa4 : AV) (i1 : Nat) (hlen : env.length = 58) (f1 : Env.get env 1 = .ptr (.st i1) 0) (g0 : σ.get (.st i1) = some (.cells [.int .i64 fa0, .int .u64 fa1, .bool fa2, fa3, fa4]))   (pfa3 : Plain fa3) (pfa4 : Plain fa4) (wn : wok cx.ro (.st σ.st.length) = true) (hn : cx.h ≤ σ.st.length) (hcx : cx.esc = []) :
    ∃ env', seqA Tryz.prog cx (callW Tryz.prog how) q1 (q1) env σ = some (env', σ.push false (.cells [.int .i64 fa0, .int .u64 fa1, .bool fa2, .nils, .nils])) ∧ env'.length = 58 ∧ (Env.get env' 3 = .ptr (.st σ.st.length) 0) ∧ (∀ i, i ∉ [3, 8, 9, 10, 11, 12] → Env.get env' i = Env.get env i) := by
  suffices h : ∀ r, seqA Tryz.prog cx (callW Tryz.prog how) q1 (q1) env σ = r → ∃ env', r = some (env', σ.push false (.cells [.int .i64 fa0, .int .u64 fa1, .bool fa2, .nils, .nils])) ∧ env'.length = 58 ∧ (Env.get env' 3 = .ptr (.st σ.st.length) 0) ∧ (∀ i, i ∉ [3, 8, 9, 10, 11, 12] → Env.get env' i = Env.get env i) from h _ rfl
  intro r hr
  simp -implicitDefEqProofs [ofV, ofCell, ofCells, seqA_nil, seqA_cons, seqVK_eq, seqEK_eq, wantedA, yieldedA, isVal, effA, ev, evs, evps, putE, optsA, optsOk, valA, fieldAddrA, fieldA, loadA, partA, aggA, isAggD, buildA, placesA, fillA, lay, storeA, AV.withCells, buildSliceA, elemsA, rowParts, fzL, promL, okE, isSrc, bytesOk, pushA, cxOf, lenA, binA, intBinA, strBinA, unA, indexAddrA, eqA, AVs.inb, AV.inb, Loc.inb, calleeA, opsOf, sub, bodyOf, Env.get_set, AS.get_push_at, AS.get_push_old, AS.push_len, AS.set_st_len, AS.next_st', AS.set_push_at, AS.get_set_self, AS.get_set_other, q1, Tryz.f31, hlen, hcx, f1, g0, pfa3.one, pfa3.inb, pfa3.row, pfa4.one, pfa4.inb, pfa4.row, wn, hn] at hr
  subst hr
  refine ⟨_, rfl, by simp [hlen], by simp [Env.get_set, hlen, f1, g0, pfa3.one, pfa3.inb, pfa3.row, pfa4.one, pfa4.inb, pfa4.row, wn, hn], fun i hi => ?_⟩
  simp only [List.mem_cons, List.not_mem_nil, or_false, not_or] at hi
  obtain ⟨x0, x1, x2, x3, x4, x5⟩ := hi
  simp [Env.get_set, hlen, Ne.symm x0, Ne.symm x1, Ne.symm x2, Ne.symm x3, Ne.symm x4, Ne.symm x5]
noncomputable def qL0 : List Oper := opsOf (sub [.r, .r, .l, .l] (bodyOf Tryz.f31))
theorem cqL0 : cr [.r, .r, .l, .l] = .region 2 qL0.toArray false := by kernel_rfl
noncomputable def qT0 : List Oper := opsOf (sub [.r, .r, .l, .r, .i, .i, .l] (bodyOf Tryz.f31))
theorem cqT0 : cr [.r, .r, .l, .r, .i, .i, .l] = .region 3 qT0.toArray false := by kernel_rfl
noncomputable def qI0 : List Oper := opsOf (sub [.r, .r, .l, .r, .i, .i, .r, .r, .r] (bodyOf Tryz.f31))
theorem cqI0 : cr [.r, .r, .l, .r, .i, .i, .r, .r, .r] = .region 7 qI0.toArray false := by kernel_rfl
noncomputable def qE0 : List Oper := opsOf (sub [.r, .r, .l, .r, .i, .i, .r, .r, .l, .i, .l] (bodyOf Tryz.f31))
theorem cqE0 : cr [.r, .r, .l, .r, .i, .i, .r, .r, .l, .i, .l] = .region 4 qE0.toArray false := by kernel_rfl
noncomputable def qC0 : List Oper := opsOf (sub [.r, .r, .l, .r, .i, .i, .r, .r, .l, .i, .r, .l] (bodyOf Tryz.f31))
theorem cqC0 : cr [.r, .r, .l, .r, .i, .i, .r, .r, .l, .i, .r, .l] = .region 5 qC0.toArray false := by kernel_rfl
noncomputable def qA0_0 : List Oper := opsOf (sub [.r, .r, .l, .r, .i, .i, .r, .r, .l, .i, .r, .r, .l] (bodyOf Tryz.f31))
theorem cqA0_0 : cr [.r, .r, .l, .r, .i, .i, .r, .r, .l, .i, .r, .r, .l] = .region 6 qA0_0.toArray false := by kernel_rfl
noncomputable def qL1 : List Oper := opsOf (sub [.r, .r, .r, .l, .l] (bodyOf Tryz.f31))
theorem cqL1 : cr [.r, .r, .r, .l, .l] = .region 8 qL1.toArray false := by kernel_rfl
noncomputable def qT1 : List Oper := opsOf (sub [.r, .r, .r, .l, .r, .i, .i, .l] (bodyOf Tryz.f31))
theorem cqT1 : cr [.r, .r, .r, .l, .r, .i, .i, .l] = .region 9 qT1.toArray false := by kernel_rfl
noncomputable def qI1 : List Oper := opsOf (sub [.r, .r, .r, .l, .r, .i, .i, .r, .r, .r] (bodyOf Tryz.f31))
theorem cqI1 : cr [.r, .r, .r, .l, .r, .i, .i, .r, .r, .r] = .region 13 qI1.toArray false := by kernel_rfl
noncomputable def qE1 : List Oper := opsOf (sub [.r, .r, .r, .l, .r, .i, .i, .r, .r, .l, .i, .l] (bodyOf Tryz.f31))
theorem cqE1 : cr [.r, .r, .r, .l, .r, .i, .i, .r, .r, .l, .i, .l] = .region 10 qE1.toArray false := by kernel_rfl
noncomputable def qC1 : List Oper := opsOf (sub [.r, .r, .r, .l, .r, .i, .i, .r, .r, .l, .i, .r, .l] (bodyOf Tryz.f31))
theorem cqC1 : cr [.r, .r, .r, .l, .r, .i, .i, .r, .r, .l, .i, .r, .l] = .region 11 qC1.toArray false := by kernel_rfl
noncomputable def qA1_0 : List Oper := opsOf (sub [.r, .r, .r, .l, .r, .i, .i, .r, .r, .l, .i, .r, .r, .l] (bodyOf Tryz.f31))
theorem cqA1_0 : cr [.r, .r, .r, .l, .r, .i, .i, .r, .r, .l, .i, .r, .r, .l] = .region 12 qA1_0.toArray false := by kernel_rfl
def W (h : Nat) (σ0 : AS) (i1 i2 i3 : Nat) (fa0 : Int) (fa1 : Int) (fa2 : Bool) (fa3 : AV) (fa4 : AV) (nb0 nb1 : Nat) (σ : AS) : Prop :=
  ∃ (R0 : AV) (l0 : List AV) (R1 : AV) (l1 : List AV), σ.get (.st i1) = some (.cells [.int .i64 fa0, .int .u64 fa1, .bool fa2, fa3, fa4]) ∧ σ.get (.st i2) = some (.cells [.int .i64 0, .int .u64 0, .bool false, .nils, .nils]) ∧ σ.get (.st i3) = some (.cells [.int .i64 fa0, .int .u64 fa1, .bool fa2, R0, R1]) ∧
  Rows h σ [(2, R0, l0), (3, R1, l1)] ∧ Outside h σ0 σ ∧ (h ≤ i1 ∧ h ≤ i2 ∧ h ≤ i3 ∧ i1 ≠ i2 ∧ i1 ≠ i3 ∧ i2 ≠ i3) ∧ (l0.length ≤ nb0 ∧ l1.length ≤ nb1)
theorem W.push {h : Nat} {σ0 : AS} {i1 i2 i3 : Nat} {fa0 : Int} {fa1 : Int} {fa2 : Bool} {fa3 : AV} {fa4 : AV} {nb0 nb1 : Nat} {σ : AS} {ob : AObj} (w : W h σ0 i1 i2 i3 fa0 fa1 fa2 fa3 fa4 nb0 nb1 σ) : W h σ0 i1 i2 i3 fa0 fa1 fa2 fa3 fa4 nb0 nb1 (σ.push false ob) := by
  obtain ⟨R0, l0, R1, l1, w1, w2, w3, w4, w5, w6, w7⟩ := w
  exact ⟨R0, l0, R1, l1, get_push' w1, get_push' w2, get_push' w3, w4.push, w5.push, w6, w7⟩
theorem W.len {h : Nat} {σ0 : AS} {i1 i2 i3 : Nat} {fa0 : Int} {fa1 : Int} {fa2 : Bool} {fa3 : AV} {fa4 : AV} {nb0 nb1 : Nat} {σ : AS} (w : W h σ0 i1 i2 i3 fa0 fa1 fa2 fa3 fa4 nb0 nb1 σ) : h ≤ σ.st.length := by
  obtain ⟨R0, l0, R1, l1, w1, w2, w3, w4, w5, w6, w7⟩ := w
  exact w5.2.2
theorem W.mono0 {h : Nat} {σ0 : AS} {i1 i2 i3 : Nat} {fa0 : Int} {fa1 : Int} {fa2 : Bool} {fa3 : AV} {fa4 : AV} {nb0 nb1 : Nat} {σ : AS} (w : W h σ0 i1 i2 i3 fa0 fa1 fa2 fa3 fa4 nb0 nb1 σ) : W h σ0 i1 i2 i3 fa0 fa1 fa2 fa3 fa4 (nb0 + 1) nb1 σ := by
  obtain ⟨R0, l0, R1, l1, w1, w2, w3, w4, w5, w6, v0, v1⟩ := w
  exact ⟨R0, l0, R1, l1, w1, w2, w3, w4, w5, w6, Nat.le_succ_of_le v0, v1⟩
theorem W.mono1 {h : Nat} {σ0 : AS} {i1 i2 i3 : Nat} {fa0 : Int} {fa1 : Int} {fa2 : Bool} {fa3 : AV} {fa4 : AV} {nb0 nb1 : Nat} {σ : AS} (w : W h σ0 i1 i2 i3 fa0 fa1 fa2 fa3 fa4 nb0 nb1 σ) : W h σ0 i1 i2 i3 fa0 fa1 fa2 fa3 fa4 nb0 (nb1 + 1) σ := by
  obtain ⟨R0, l0, R1, l1, w1, w2, w3, w4, w5, w6, v0, v1⟩ := w
  exact ⟨R0, l0, R1, l1, w1, w2, w3, w4, w5, w6, v0, Nat.le_succ_of_le v1⟩
theorem rL0n (cx : Cx) (env : Env) (σ : AS) (fa0 : Int) (fa1 : Int) (fa2 : Bool) (fa4 : AV) (i1 : Nat) (hlen : env.length = 58) (f1 : Env.get env 1 = .ptr (.st i1) 0) (g0 : σ.get (.st i1) = some (.cells [.int .i64 fa0, .int .u64 fa1, .bool fa2, .nils, fa4]))   (hcx : cx.esc = []) :
    ∃ env', seqA Tryz.prog cx (callW Tryz.prog how) qL0 (qL0) env σ = some (env', σ) ∧ env'.length = 58 ∧ (Env.get env' 14 = .nils ∧ Env.get env' 15 = .int .i64 0 ∧ Env.get env' 16 = .int .i64 0) ∧ (∀ i, i ∉ [13, 14, 15, 16] → Env.get env' i = Env.get env i) := by
  suffices h : ∀ r, seqA Tryz.prog cx (callW Tryz.prog how) qL0 (qL0) env σ = r → ∃ env', r = some (env', σ) ∧ env'.length = 58 ∧ (Env.get env' 14 = .nils ∧ Env.get env' 15 = .int .i64 0 ∧ Env.get env' 16 = .int .i64 0) ∧ (∀ i, i ∉ [13, 14, 15, 16] → Env.get env' i = Env.get env i) from h _ rfl
  intro r hr
  simp -implicitDefEqProofs [ofV, ofCell, ofCells, seqA_nil, seqA_cons, seqVK_eq, seqEK_eq, wantedA, yieldedA, isVal, effA, ev, evs, evps, putE, optsA, optsOk, valA, fieldAddrA, fieldA, loadA, partA, aggA, isAggD, buildA, placesA, fillA, lay, storeA, AV.withCells, buildSliceA, elemsA, rowParts, fzL, promL, okE, isSrc, bytesOk, pushA, cxOf, lenA, binA, intBinA, strBinA, unA, indexAddrA, eqA, AVs.inb, AV.inb, Loc.inb, calleeA, opsOf, sub, bodyOf, Env.get_set, AS.get_push_at, AS.get_push_old, AS.push_len, AS.set_st_len, AS.next_st', AS.set_push_at, AS.get_set_self, AS.get_set_other, qL0, Tryz.f31, hlen, hcx, f1, g0] at hr
  subst hr
  refine ⟨_, rfl, by simp [hlen], by simp [Env.get_set, hlen, f1, g0], fun i hi => ?_⟩
  simp only [List.mem_cons, List.not_mem_nil, or_false, not_or] at hi
  obtain ⟨x0, x1, x2, x3⟩ := hi
  simp [Env.get_set, hlen, Ne.symm x0, Ne.symm x1, Ne.symm x2, Ne.symm x3]
theorem rL0s (cx : Cx) (env : Env) (σ : AS) (fa0 : Int) (fa1 : Int) (fa2 : Bool) (fa4 : AV) (i1 : Nat) (es : List AV) (hlen : env.length = 58) (f1 : Env.get env 1 = .ptr (.st i1) 0) (g0 : σ.get (.st i1) = some (.cells [.int .i64 fa0, .int .u64 fa1, .bool fa2, .sl false 2 es, fa4]))   (hcx : cx.esc = []) :
    ∃ env', seqA Tryz.prog cx (callW Tryz.prog how) qL0 (qL0) env σ = some (env', σ) ∧ env'.length = 58 ∧ (Env.get env' 14 = .sl false 2 es ∧ Env.get env' 15 = .int .i64 (es.length : Int) ∧ Env.get env' 16 = .int .i64 0) ∧ (∀ i, i ∉ [13, 14, 15, 16] → Env.get env' i = Env.get env i) := by
  suffices h : ∀ r, seqA Tryz.prog cx (callW Tryz.prog how) qL0 (qL0) env σ = r → ∃ env', r = some (env', σ) ∧ env'.length = 58 ∧ (Env.get env' 14 = .sl false 2 es ∧ Env.get env' 15 = .int .i64 (es.length : Int) ∧ Env.get env' 16 = .int .i64 0) ∧ (∀ i, i ∉ [13, 14, 15, 16] → Env.get env' i = Env.get env i) from h _ rfl
  intro r hr
  simp -implicitDefEqProofs [ofV, ofCell, ofCells, seqA_nil, seqA_cons, seqVK_eq, seqEK_eq, wantedA, yieldedA, isVal, effA, ev, evs, evps, putE, optsA, optsOk, valA, fieldAddrA, fieldA, loadA, partA, aggA, isAggD, buildA, placesA, fillA, lay, storeA, AV.withCells, buildSliceA, elemsA, rowParts, fzL, promL, okE, isSrc, bytesOk, pushA, cxOf, lenA, binA, intBinA, strBinA, unA, indexAddrA, eqA, AVs.inb, AV.inb, Loc.inb, calleeA, opsOf, sub, bodyOf, Env.get_set, AS.get_push_at, AS.get_push_old, AS.push_len, AS.set_st_len, AS.next_st', AS.set_push_at, AS.get_set_self, AS.get_set_other, qL0, Tryz.f31, hlen, hcx, f1, g0] at hr
  subst hr
  refine ⟨_, rfl, by simp [hlen], by simp [Env.get_set, hlen, f1, g0], fun i hi => ?_⟩
  simp only [List.mem_cons, List.not_mem_nil, or_false, not_or] at hi
  obtain ⟨x0, x1, x2, x3⟩ := hi
  simp [Env.get_set, hlen, Ne.symm x0, Ne.symm x1, Ne.symm x2, Ne.symm x3]
theorem rT0 (cx : Cx) (env : Env) (σ : AS) (k n : Nat) (hlen : env.length = 58) (f16 : Env.get env 16 = .int .i64 (k : Int)) (f15 : Env.get env 15 = .int .i64 (n : Int))    (hcx : cx.esc = []) :
    ∃ env', seqA Tryz.prog cx (callW Tryz.prog how) qT0 (qT0) env σ = some (env', σ) ∧ env'.length = 58 ∧ (Env.get env' 17 = .bool (decide (k < n))) ∧ (∀ i, i ∉ [17] → Env.get env' i = Env.get env i) := by
  suffices h : ∀ r, seqA Tryz.prog cx (callW Tryz.prog how) qT0 (qT0) env σ = r → ∃ env', r = some (env', σ) ∧ env'.length = 58 ∧ (Env.get env' 17 = .bool (decide (k < n))) ∧ (∀ i, i ∉ [17] → Env.get env' i = Env.get env i) from h _ rfl
  intro r hr
  simp -implicitDefEqProofs [ofV, ofCell, ofCells, seqA_nil, seqA_cons, seqVK_eq, seqEK_eq, wantedA, yieldedA, isVal, effA, ev, evs, evps, putE, optsA, optsOk, valA, fieldAddrA, fieldA, loadA, partA, aggA, isAggD, buildA, placesA, fillA, lay, storeA, AV.withCells, buildSliceA, elemsA, rowParts, fzL, promL, okE, isSrc, bytesOk, pushA, cxOf, lenA, binA, intBinA, strBinA, unA, indexAddrA, eqA, AVs.inb, AV.inb, Loc.inb, calleeA, opsOf, sub, bodyOf, Env.get_set, AS.get_push_at, AS.get_push_old, AS.push_len, AS.set_st_len, AS.next_st', AS.set_push_at, AS.get_set_self, AS.get_set_other, qT0, Tryz.f31, hlen, hcx, f16, f15] at hr
  subst hr
  refine ⟨_, rfl, by simp [hlen], by simp [Env.get_set, hlen, f16, f15], fun i hi => ?_⟩
  simp only [List.mem_cons, List.not_mem_nil, or_false, not_or] at hi
  have x0 := hi
  simp [Env.get_set, hlen, Ne.symm x0]
theorem rE0 (cx : Cx) (env : Env) (σ : AS) (es : List AV) (k : Nat) (fe0 : ByteArray) (fe1 : Int) (hlen : env.length = 58) (f14 : Env.get env 14 = .sl false 2 es) (f16 : Env.get env 16 = .int .i64 (k : Int))   (hk : k < es.length) (he : es[k] = .agg [.str fe0, .int .u64 fe1]) (wn : wok cx.ro (.st σ.st.length) = true) (hn : cx.h ≤ σ.st.length) (hcx : cx.esc = []) :
    ∃ env', seqA Tryz.prog cx (callW Tryz.prog how) qE0 (qE0) env σ = some (env', σ.push false (.cells [.str fe0, .int .u64 fe1])) ∧ env'.length = 58 ∧ (Env.get env' 5 = .ptr (.st σ.st.length) 0 ∧ Env.get env' 4 = .int .i64 (k : Int)) ∧ (∀ i, i ∉ [4, 5, 18, 19, 20] → Env.get env' i = Env.get env i) := by
  suffices h : ∀ r, seqA Tryz.prog cx (callW Tryz.prog how) qE0 (qE0) env σ = r → ∃ env', r = some (env', σ.push false (.cells [.str fe0, .int .u64 fe1])) ∧ env'.length = 58 ∧ (Env.get env' 5 = .ptr (.st σ.st.length) 0 ∧ Env.get env' 4 = .int .i64 (k : Int)) ∧ (∀ i, i ∉ [4, 5, 18, 19, 20] → Env.get env' i = Env.get env i) from h _ rfl
  intro r hr
  simp -implicitDefEqProofs [ofV, ofCell, ofCells, seqA_nil, seqA_cons, seqVK_eq, seqEK_eq, wantedA, yieldedA, isVal, effA, ev, evs, evps, putE, optsA, optsOk, valA, fieldAddrA, fieldA, loadA, partA, aggA, isAggD, buildA, placesA, fillA, lay, storeA, AV.withCells, buildSliceA, elemsA, rowParts, fzL, promL, okE, isSrc, bytesOk, pushA, cxOf, lenA, binA, intBinA, strBinA, unA, indexAddrA, eqA, AVs.inb, AV.inb, Loc.inb, calleeA, opsOf, sub, bodyOf, Env.get_set, AS.get_push_at, AS.get_push_old, AS.push_len, AS.set_st_len, AS.next_st', AS.set_push_at, AS.get_set_self, AS.get_set_other, qE0, Tryz.f31, hlen, hcx, f14, f16, hk, he, wn, hn] at hr
  subst hr
  refine ⟨_, rfl, by simp [hlen], by simp [Env.get_set, hlen, f14, f16, hk, he, wn, hn], fun i hi => ?_⟩
  simp only [List.mem_cons, List.not_mem_nil, or_false, not_or] at hi
  obtain ⟨x0, x1, x2, x3, x4⟩ := hi
  simp [Env.get_set, hlen, Ne.symm x0, Ne.symm x1, Ne.symm x2, Ne.symm x3, Ne.symm x4]
theorem rC0 (cx : Cx) (env : Env) (σ : AS) (k : Nat) (hlen : env.length = 58) (f4 : Env.get env 4 = .int .i64 (k : Int))    (hcx : cx.esc = []) :
    ∃ env', seqA Tryz.prog cx (callW Tryz.prog how) qC0 (qC0) env σ = some (env', σ) ∧ env'.length = 58 ∧ (Env.get env' 22 = .bool (decide ((k : Int) < 10))) ∧ (∀ i, i ∉ [21, 22] → Env.get env' i = Env.get env i) := by
  suffices h : ∀ r, seqA Tryz.prog cx (callW Tryz.prog how) qC0 (qC0) env σ = r → ∃ env', r = some (env', σ) ∧ env'.length = 58 ∧ (Env.get env' 22 = .bool (decide ((k : Int) < 10))) ∧ (∀ i, i ∉ [21, 22] → Env.get env' i = Env.get env i) from h _ rfl
  intro r hr
  simp -implicitDefEqProofs [ofV, ofCell, ofCells, seqA_nil, seqA_cons, seqVK_eq, seqEK_eq, wantedA, yieldedA, isVal, effA, ev, evs, evps, putE, optsA, optsOk, valA, fieldAddrA, fieldA, loadA, partA, aggA, isAggD, buildA, placesA, fillA, lay, storeA, AV.withCells, buildSliceA, elemsA, rowParts, fzL, promL, okE, isSrc, bytesOk, pushA, cxOf, lenA, binA, intBinA, strBinA, unA, indexAddrA, eqA, AVs.inb, AV.inb, Loc.inb, calleeA, opsOf, sub, bodyOf, Env.get_set, AS.get_push_at, AS.get_push_old, AS.push_len, AS.set_st_len, AS.next_st', AS.set_push_at, AS.get_set_self, AS.get_set_other, qC0, Tryz.f31, hlen, hcx, f4] at hr
  subst hr
  refine ⟨_, rfl, by simp [hlen], by simp [Env.get_set, hlen, f4], fun i hi => ?_⟩
  simp only [List.mem_cons, List.not_mem_nil, or_false, not_or] at hi
  obtain ⟨x0, x1⟩ := hi
  simp [Env.get_set, hlen, Ne.symm x0, Ne.symm x1]
theorem rI0 (cx : Cx) (env : Env) (σ : AS) (k : Nat) (hlen : env.length = 58) (f16 : Env.get env 16 = .int .i64 (k : Int))   (hwr : wr .i64 ((k : Int) + 1) = (k : Int) + 1) (hcx : cx.esc = []) :
    ∃ env', seqA Tryz.prog cx (callW Tryz.prog how) qI0 (qI0) env σ = some (env', σ) ∧ env'.length = 58 ∧ (Env.get env' 16 = .int .i64 ((k : Int) + 1)) ∧ (∀ i, i ∉ [16, 33] → Env.get env' i = Env.get env i) := by
  suffices h : ∀ r, seqA Tryz.prog cx (callW Tryz.prog how) qI0 (qI0) env σ = r → ∃ env', r = some (env', σ) ∧ env'.length = 58 ∧ (Env.get env' 16 = .int .i64 ((k : Int) + 1)) ∧ (∀ i, i ∉ [16, 33] → Env.get env' i = Env.get env i) from h _ rfl
  intro r hr
  simp -implicitDefEqProofs [ofV, ofCell, ofCells, seqA_nil, seqA_cons, seqVK_eq, seqEK_eq, wantedA, yieldedA, isVal, effA, ev, evs, evps, putE, optsA, optsOk, valA, fieldAddrA, fieldA, loadA, partA, aggA, isAggD, buildA, placesA, fillA, lay, storeA, AV.withCells, buildSliceA, elemsA, rowParts, fzL, promL, okE, isSrc, bytesOk, pushA, cxOf, lenA, binA, intBinA, strBinA, unA, indexAddrA, eqA, AVs.inb, AV.inb, Loc.inb, calleeA, opsOf, sub, bodyOf, Env.get_set, AS.get_push_at, AS.get_push_old, AS.push_len, AS.set_st_len, AS.next_st', AS.set_push_at, AS.get_set_self, AS.get_set_other, qI0, Tryz.f31, hlen, hcx, f16, hwr] at hr
  subst hr
  refine ⟨_, rfl, by simp [hlen], by simp [Env.get_set, hlen, f16, hwr], fun i hi => ?_⟩
  simp only [List.mem_cons, List.not_mem_nil, or_false, not_or] at hi
  obtain ⟨x0, x1⟩ := hi
  simp [Env.get_set, hlen, Ne.symm x0, Ne.symm x1]
theorem rA0_0 (cx : Cx) (env : Env) (σ : AS) (fa0 : Int) (fa1 : Int) (fa2 : Bool) (fa3 : AV) (fa4 : AV) (R0 : AV) (R1 : AV) (fe0 : ByteArray) (fe1 : Int) (i3 ib : Nat) (R' : AV) (σ' : AS) (hlen : env.length = 58) (f3 : Env.get env 3 = .ptr (.st i3) 0) (f5 : Env.get env 5 = .ptr (.st ib) 0) (g0 : σ.get (.st i3) = some (.cells [.int .i64 fa0, .int .u64 fa1, .bool fa2, R0, R1])) (g1 : σ.get (.st ib) = some (.cells [.str fe0, .int .u64 fe1])) (g2 : σ'.get (.st i3) = some (.cells [.int .i64 fa0, .int .u64 fa1, .bool fa2, R0, R1])) (w0 : wok cx.ro (.st i3) = true) (h0 : cx.h ≤ i3) (hap : appendA Tryz.prog cx (σ.push false (.row [.agg [.str fe0, .int .u64 fe1]] 2 0 false)) [54, 54] R0 (.row (.st σ.st.length) 0 0 1) = some (R', σ')) (hR' : R'.one = true) (hR0 : R0.one = true) (hR1 : R1.one = true) (hcx : cx.esc = []) :
    ∃ env', seqA Tryz.prog cx (callW Tryz.prog how) qA0_0 (qA0_0) env σ = some (env', σ'.set (.st i3) (.cells [.int .i64 fa0, .int .u64 fa1, .bool fa2, R', R1])) ∧ env'.length = 58 ∧ (True) ∧ (∀ i, i ∉ [23, 24, 25, 26, 27, 28, 29, 30, 31, 32] → Env.get env' i = Env.get env i) := by
  suffices h : ∀ r, seqA Tryz.prog cx (callW Tryz.prog how) qA0_0 (qA0_0) env σ = r → ∃ env', r = some (env', σ'.set (.st i3) (.cells [.int .i64 fa0, .int .u64 fa1, .bool fa2, R', R1])) ∧ env'.length = 58 ∧ (True) ∧ (∀ i, i ∉ [23, 24, 25, 26, 27, 28, 29, 30, 31, 32] → Env.get env' i = Env.get env i) from h _ rfl
  intro r hr
  simp -implicitDefEqProofs [ofV, ofCell, ofCells, seqA_nil, seqA_cons, seqVK_eq, seqEK_eq, wantedA, yieldedA, isVal, effA, ev, evs, evps, putE, optsA, optsOk, valA, fieldAddrA, fieldA, loadA, partA, aggA, isAggD, buildA, placesA, fillA, lay, storeA, AV.withCells, buildSliceA, elemsA, rowParts, fzL, promL, okE, isSrc, bytesOk, pushA, cxOf, lenA, binA, intBinA, strBinA, unA, indexAddrA, eqA, AVs.inb, AV.inb, Loc.inb, calleeA, opsOf, sub, bodyOf, Env.get_set, AS.get_push_at, AS.get_push_old, AS.push_len, AS.set_st_len, AS.next_st', AS.set_push_at, AS.get_set_self, AS.get_set_other, qA0_0, Tryz.f31, hlen, hcx, f3, f5, g0, g1, g2, w0, h0, hap, hR', one_cells hR', hR0, hR1] at hr
  subst hr
  refine ⟨_, rfl, by simp [hlen], by simp [Env.get_set, hlen, f3, f5, g0, g1, g2, w0, h0, hap, hR', one_cells hR', hR0, hR1], fun i hi => ?_⟩
  simp only [List.mem_cons, List.not_mem_nil, or_false, not_or] at hi
  obtain ⟨x0, x1, x2, x3, x4, x5, x6, x7, x8, x9⟩ := hi
  simp [Env.get_set, hlen, Ne.symm x0, Ne.symm x1, Ne.symm x2, Ne.symm x3, Ne.symm x4, Ne.symm x5, Ne.symm x6, Ne.symm x7, Ne.symm x8, Ne.symm x9]
theorem step0 (cx : Cx) (σ0 : AS) (i1 i2 i3 : Nat) (fa0 : Int) (fa1 : Int) (fa2 : Bool) (fa3 : AV) (fa4 : AV) (nb1 : Nat) (hcx : cx.esc = []) (hro : ∀ k, cx.ro = some k → k ≤ cx.h) (env : Env) (σ : AS) (e : AV) (m : Nat) (he : isT177 e) (hlen : env.length = 58) (f3 : Env.get env 3 = .ptr (.st i3) 0) (fb : Env.get env 5 = .ptr (.st σ.st.length) 0) (w : W cx.h σ0 i1 i2 i3 fa0 fa1 fa2 fa3 fa4 m nb1 σ) (hm : m < 10) :
    ∃ env' σ', execW Tryz.prog cx [] (callW Tryz.prog how) (cr [.r, .r, .l, .r, .i, .i, .r, .r, .l, .i, .r, .r, .l]) (env, σ.push false (.cells e.cells)) = some (.normal, (env', σ')) ∧ env'.length = 58 ∧ W cx.h σ0 i1 i2 i3 fa0 fa1 fa2 fa3 fa4 (m + 1) nb1 σ' ∧ ∀ i, i ∉ [23, 24, 25, 26, 27, 28, 29, 30, 31, 32] → Env.get env' i = Env.get env i := by
  obtain ⟨fe0, fe1, rfl⟩ := he
  obtain ⟨R0, l0, R1, l1, w1, w2, w3, w4, w5, ⟨u1, u2, u3, u4, u5, u6⟩, v0, v1⟩ := w
  have d3 := lt_of_get w3
  have gb : (σ.push false (.cells [.str fe0, .int .u64 fe1])).get (.st σ.st.length) = some (.cells [.str fe0, .int .u64 fe1]) := AS.get_push_at rfl
  have w1 := get_push' (ob' := .cells [.str fe0, .int .u64 fe1]) w1
  have w2 := get_push' (ob' := .cells [.str fe0, .int .u64 fe1]) w2
  have w3 := get_push' (ob' := .cells [.str fe0, .int .u64 fe1]) w3
  have w4 := w4.push (ob := .cells [.str fe0, .int .u64 fe1])
  have w5 := w5.push (ob := .cells [.str fe0, .int .u64 fe1])
  have hb3 : σ.st.length ≠ i3 := by omega
  generalize hib : σ.st.length = ib at fb gb hb3
  have hs0 : (AV.cells (.agg [.str fe0, .int .u64 fe1])) = [.str fe0, .int .u64 fe1] := rfl
  rw [hs0]
  generalize σ.push false (.cells [.str fe0, .int .u64 fe1]) = σa at w1 w2 w3 w4 w5 gb ⊢
  have hR0_1 : R0.one = true := (w4.1 (2, R0, l0) (by simp)).one
  have hR1_1 : R1.one = true := (w4.1 (3, R1, l1) (by simp)).one
  have T1 : AppOk Tryz.prog 54 2 24 := ⟨178, _, e54, Tryz.underlying54, s178, b178, rfl, by decide, by rw [z178]; rfl⟩
  obtain ⟨S1, σ1, ap1, o1, rw1, kc1, ou1⟩ := append_one (cx := cx) (x := .agg [.str fe0, .int .u64 fe1]) (j := 0) T1 w4 rfl (by omega) (by decide) hro w5.2.2
  obtain ⟨env1, a1, k1, _, z1⟩ := rA0_0 (how := how) cx env σa fa0 fa1 fa2 fa3 fa4 R0 R1 fe0 fe1 i3 ib S1 σ1 hlen f3 fb w3 gb (kc1 _ _ w3) (wokst hro u3) u3 ap1 o1 hR0_1 hR1_1 hcx
  have X1 := execW_plain (P := Tryz.prog) (tails := []) (id := 6) (ops := qA0_0.toArray) a1
  rw [← cqA0_0] at X1
  have w1 := get_set' (ob' := .cells [.int .i64 fa0, .int .u64 fa1, .bool fa2, S1, R1]) (kc1 _ _ w1) u5
  have w2 := get_set' (ob' := .cells [.int .i64 fa0, .int .u64 fa1, .bool fa2, S1, R1]) (kc1 _ _ w2) u6
  have gb := get_set' (ob' := .cells [.int .i64 fa0, .int .u64 fa1, .bool fa2, S1, R1]) (kc1 _ _ gb) hb3
  have rw1 := rw1.setc (ob := .cells [.int .i64 fa0, .int .u64 fa1, .bool fa2, S1, R1]) (kc1 _ _ w3)
  have w5 := (ou1 _ w5).set (ob := .cells [.int .i64 fa0, .int .u64 fa1, .bool fa2, S1, R1]) ⟨i3, rfl, u3⟩
  have w3 := get_set_at (ob' := .cells [.int .i64 fa0, .int .u64 fa1, .bool fa2, S1, R1]) (kc1 _ _ w3)
  have w4 : Rows cx.h _ [(2, S1, (l0 ++ [.agg [.str fe0, .int .u64 fe1]])), (3, R1, l1)] := rw1
  generalize σ1.set (.st i3) (.cells [.int .i64 fa0, .int .u64 fa1, .bool fa2, S1, R1]) = σ1s at *
  have l1' : ∀ (A : List AV) (x : AV), (A ++ [x]).length = A.length + 1 := fun A x => by simp
  exact ⟨env1, _, X1, k1, ⟨S1, (l0 ++ [.agg [.str fe0, .int .u64 fe1]]), R1, l1, w1, w2, w3, w4, w5, ⟨u1, u2, u3, u4, u5, u6⟩, by rw [l1']; omega, v1⟩, fun i hi => ((z1 i (fun hx => hi (by revert hx; simp only [List.mem_cons, List.not_mem_nil, or_false]; omega))).trans rfl)⟩
theorem loop0_eq : cr [.r, .r, .l, .r] = .block 0 (.loop (.seq (cr [.r, .r, .l, .r, .i, .i, .l]) (.seq (.cond (.tmp 17) .skip (.exit 0)) (.seq (.block 1 (.seq (cr [.r, .r, .l, .r, .i, .i, .r, .r, .l, .i, .l]) (.seq (cr [.r, .r, .l, .r, .i, .i, .r, .r, .l, .i, .r, .l]) (.cond (.tmp 22) (cr [.r, .r, .l, .r, .i, .i, .r, .r, .l, .i, .r, .r, .l]) .skip)))) (cr [.r, .r, .l, .r, .i, .i, .r, .r, .r]))))) := by kernel_rfl
theorem loop0 (cx : Cx) (σ0 : AS) (i1 i2 i3 : Nat) (fa0 : Int) (fa1 : Int) (fa2 : Bool) (fa3 : AV) (fa4 : AV) (nb1 : Nat) (hcx : cx.esc = []) (hro : ∀ k, cx.ro = some k → k ≤ cx.h) (es : List AV) (hes : ∀ e ∈ es, isT177 e) (hle : es.length ≤ 9223372036854775807) (env : Env) (σ : AS) (hlen : env.length = 58) (f3 : Env.get env 3 = .ptr (.st i3) 0) (fs : es = [] ∨ Env.get env 14 = .sl false 2 es) (fl : Env.get env 15 = .int .i64 (es.length : Int)) (fi : Env.get env 16 = .int .i64 0) (w : W cx.h σ0 i1 i2 i3 fa0 fa1 fa2 fa3 fa4 0 nb1 σ) :
    ∃ env' σ' m, execW Tryz.prog cx [] (callW Tryz.prog how) (cr [.r, .r, .l, .r]) (env, σ) = some (.normal, (env', σ')) ∧ env'.length = 58 ∧ (∀ i ∈ [1, 2, 3], Env.get env' i = Env.get env i) ∧ W cx.h σ0 i1 i2 i3 fa0 fa1 fa2 fa3 fa4 m nb1 σ' := by
  rw [loop0_eq]
  have I0 : LoopI 58 [1, 2, 3, 14, 15] env 16 (fun m σ => W cx.h σ0 i1 i2 i3 fa0 fa1 fa2 fa3 fa4 m nb1 σ) 0 0 (env, σ) := ⟨hlen, fun _ _ => rfl, fi, w⟩
  obtain ⟨⟨env', σ'⟩, e1, I⟩ := conv_loop (P := Tryz.prog) (cx := cx) (tails := []) (call := callW Tryz.prog how) (n := es.length) (test := cr [.r, .r, .l, .r, .i, .i, .l]) (inc := cr [.r, .r, .l, .r, .i, .i, .r, .r, .r]) (body := .block 1 (.seq (cr [.r, .r, .l, .r, .i, .i, .r, .r, .l, .i, .l]) (.seq (cr [.r, .r, .l, .r, .i, .i, .r, .r, .l, .i, .r, .l]) (.cond (.tmp 22) (cr [.r, .r, .l, .r, .i, .i, .r, .r, .l, .i, .r, .r, .l]) .skip)))) (tc := 17) (B := 0) (VT := [17]) (VI := [16, 33]) (tl := 15) (by decide) fl hle
    (fun env σ k h1 h2 h3 => by
      obtain ⟨env', e1, e2, e3, e4⟩ := rT0 (how := how) cx env σ k es.length h1 h2 h3 hcx
      rw [cqT0]
      exact ⟨env', execW_plain e1, e2, e3, e4⟩) (by decide)
    (conv_body (elemR := cr [.r, .r, .l, .r, .i, .i, .r, .r, .l, .i, .l]) (cutR := cr [.r, .r, .l, .r, .i, .i, .r, .r, .l, .i, .r, .l]) (app := cr [.r, .r, .l, .r, .i, .i, .r, .r, .l, .i, .r, .r, .l]) (tc := 22) (cut := 10) (VE := [4, 5, 18, 19, 20]) (VC := [21, 22]) (VA := [23, 24, 25, 26, 27, 28, 29, 30, 31, 32]) (tb := 5) (tk := 4) (by decide) fs
      (fun env σ k hk h1 h2 h3 hh => by
        obtain ⟨fe0, fe1, he⟩ := hes es[k] (List.getElem_mem hk)
        obtain ⟨env', x1, x2, x3, x4⟩ := rE0 (how := how) cx env σ es k fe0 fe1 h1 h2 h3 hk he (wokst hro hh) hh hcx
        rw [cqE0, he]
        exact ⟨env', execW_plain x1, x2, x3, x4⟩) (by decide)
      (fun env σ k h1 h2 => by
        obtain ⟨env', e1, e2, e3, e4⟩ := rC0 (how := how) cx env σ k h1 h2 hcx
        rw [cqC0]
        exact ⟨env', execW_plain e1, e2, e3, e4⟩) (by decide) (by decide)
      (fun env1 σ e m he h1 h2 h3 w hm => step0 cx σ0 i1 i2 i3 fa0 fa1 fa2 fa3 fa4 nb1 hcx hro env1 σ e m (hes e he) h1 ((h2 3 (by decide)).trans f3) h3 w hm) (by decide)
      (fun m σ ob w => w.push) (fun m σ w => w.mono0) (fun m σ w => w.len))
    (fun env σ k h1 h2 hwr => by
      obtain ⟨env', e1, e2, e3, e4⟩ := rI0 (how := how) cx env σ k h1 h2 hwr hcx
      rw [cqI0]
      exact ⟨env', execW_plain e1, e2, e3, e4⟩) (by decide) I0
  exact ⟨env', σ', _, e1, I.len, fun i hi => I.keep i (List.mem_append_left [14, 15] hi), I.w⟩
theorem part0 (cx : Cx) (σ0 : AS) (i1 i2 i3 : Nat) (fa0 : Int) (fa1 : Int) (fa2 : Bool) (fa3 : AV) (fa4 : AV) (nb1 : Nat) (hcx : cx.esc = []) (hro : ∀ k, cx.ro = some k → k ≤ cx.h) (hX : isSl 2 isT177 fa3) (env : Env) (σ : AS) (hlen : env.length = 58) (f1 : Env.get env 1 = .ptr (.st i1) 0) (f3 : Env.get env 3 = .ptr (.st i3) 0) (w : W cx.h σ0 i1 i2 i3 fa0 fa1 fa2 fa3 fa4 0 nb1 σ) :
    ∃ env' σ' m, execW Tryz.prog cx [] (callW Tryz.prog how) ((cr [.r, .r, .l, .l]).seq (cr [.r, .r, .l, .r])) (env, σ) = some (.normal, (env', σ')) ∧ env'.length = 58 ∧ (∀ i ∈ [1, 2, 3], Env.get env' i = Env.get env i) ∧ W cx.h σ0 i1 i2 i3 fa0 fa1 fa2 fa3 fa4 m nb1 σ' := by
  have hw := w
  obtain ⟨R0, l0, R1, l1, w1, _⟩ := hw
  rcases hX with rfl | ⟨es, rfl, hl, hes⟩
  · obtain ⟨env1, c1, c2, c3, c4⟩ := rL0n (how := how) cx env σ fa0 fa1 fa2 fa4 i1 hlen f1 w1 hcx
    have x1 := execW_plain (P := Tryz.prog) (tails := []) (id := 2) (ops := qL0.toArray) c1
    rw [← cqL0] at x1
    obtain ⟨env', σ', m, d1, d2, d3, d4⟩ := loop0 cx σ0 i1 i2 i3 fa0 fa1 fa2 .nils fa4 nb1 hcx hro [] (fun _ h => by cases h) (by simp) env1 σ c2 ((c4 3 (by decide)).trans f3) (.inl rfl) c3.2.1 c3.2.2 w
    exact ⟨env', σ', m, execW_seq_of x1 d1, d2, fun i hi => (d3 i hi).trans (c4 i (by simp only [List.mem_cons, List.not_mem_nil, or_false] at hi; rcases hi with rfl | rfl | rfl <;> decide)), d4⟩
  · obtain ⟨env1, c1, c2, c3, c4⟩ := rL0s (how := how) cx env σ fa0 fa1 fa2 fa4 i1 es hlen f1 w1 hcx
    have x1 := execW_plain (P := Tryz.prog) (tails := []) (id := 2) (ops := qL0.toArray) c1
    rw [← cqL0] at x1
    obtain ⟨env', σ', m, d1, d2, d3, d4⟩ := loop0 cx σ0 i1 i2 i3 fa0 fa1 fa2 (.sl false 2 es) fa4 nb1 hcx hro es hes hl env1 σ c2 ((c4 3 (by decide)).trans f3) (.inr c3.1) c3.2.1 c3.2.2 w
    exact ⟨env', σ', m, execW_seq_of x1 d1, d2, fun i hi => (d3 i hi).trans (c4 i (by simp only [List.mem_cons, List.not_mem_nil, or_false] at hi; rcases hi with rfl | rfl | rfl <;> decide)), d4⟩
theorem rL1n (cx : Cx) (env : Env) (σ : AS) (fa0 : Int) (fa1 : Int) (fa2 : Bool) (fa3 : AV) (i1 : Nat) (hlen : env.length = 58) (f1 : Env.get env 1 = .ptr (.st i1) 0) (g0 : σ.get (.st i1) = some (.cells [.int .i64 fa0, .int .u64 fa1, .bool fa2, fa3, .nils]))   (hcx : cx.esc = []) :
    ∃ env', seqA Tryz.prog cx (callW Tryz.prog how) qL1 (qL1) env σ = some (env', σ) ∧ env'.length = 58 ∧ (Env.get env' 35 = .nils ∧ Env.get env' 36 = .int .i64 0 ∧ Env.get env' 37 = .int .i64 0) ∧ (∀ i, i ∉ [34, 35, 36, 37] → Env.get env' i = Env.get env i) := by
  suffices h : ∀ r, seqA Tryz.prog cx (callW Tryz.prog how) qL1 (qL1) env σ = r → ∃ env', r = some (env', σ) ∧ env'.length = 58 ∧ (Env.get env' 35 = .nils ∧ Env.get env' 36 = .int .i64 0 ∧ Env.get env' 37 = .int .i64 0) ∧ (∀ i, i ∉ [34, 35, 36, 37] → Env.get env' i = Env.get env i) from h _ rfl
  intro r hr
  simp -implicitDefEqProofs [ofV, ofCell, ofCells, seqA_nil, seqA_cons, seqVK_eq, seqEK_eq, wantedA, yieldedA, isVal, effA, ev, evs, evps, putE, optsA, optsOk, valA, fieldAddrA, fieldA, loadA, partA, aggA, isAggD, buildA, placesA, fillA, lay, storeA, AV.withCells, buildSliceA, elemsA, rowParts, fzL, promL, okE, isSrc, bytesOk, pushA, cxOf, lenA, binA, intBinA, strBinA, unA, indexAddrA, eqA, AVs.inb, AV.inb, Loc.inb, calleeA, opsOf, sub, bodyOf, Env.get_set, AS.get_push_at, AS.get_push_old, AS.push_len, AS.set_st_len, AS.next_st', AS.set_push_at, AS.get_set_self, AS.get_set_other, qL1, Tryz.f31, hlen, hcx, f1, g0] at hr
  subst hr
  refine ⟨_, rfl, by simp [hlen], by simp [Env.get_set, hlen, f1, g0], fun i hi => ?_⟩
  simp only [List.mem_cons, List.not_mem_nil, or_false, not_or] at hi
  obtain ⟨x0, x1, x2, x3⟩ := hi
  simp [Env.get_set, hlen, Ne.symm x0, Ne.symm x1, Ne.symm x2, Ne.symm x3]
theorem rL1s (cx : Cx) (env : Env) (σ : AS) (fa0 : Int) (fa1 : Int) (fa2 : Bool) (fa3 : AV) (i1 : Nat) (es : List AV) (hlen : env.length = 58) (f1 : Env.get env 1 = .ptr (.st i1) 0) (g0 : σ.get (.st i1) = some (.cells [.int .i64 fa0, .int .u64 fa1, .bool fa2, fa3, .sl false 3 es]))   (hcx : cx.esc = []) :
    ∃ env', seqA Tryz.prog cx (callW Tryz.prog how) qL1 (qL1) env σ = some (env', σ) ∧ env'.length = 58 ∧ (Env.get env' 35 = .sl false 3 es ∧ Env.get env' 36 = .int .i64 (es.length : Int) ∧ Env.get env' 37 = .int .i64 0) ∧ (∀ i, i ∉ [34, 35, 36, 37] → Env.get env' i = Env.get env i) := by
  suffices h : ∀ r, seqA Tryz.prog cx (callW Tryz.prog how) qL1 (qL1) env σ = r → ∃ env', r = some (env', σ) ∧ env'.length = 58 ∧ (Env.get env' 35 = .sl false 3 es ∧ Env.get env' 36 = .int .i64 (es.length : Int) ∧ Env.get env' 37 = .int .i64 0) ∧ (∀ i, i ∉ [34, 35, 36, 37] → Env.get env' i = Env.get env i) from h _ rfl
  intro r hr
  simp -implicitDefEqProofs [ofV, ofCell, ofCells, seqA_nil, seqA_cons, seqVK_eq, seqEK_eq, wantedA, yieldedA, isVal, effA, ev, evs, evps, putE, optsA, optsOk, valA, fieldAddrA, fieldA, loadA, partA, aggA, isAggD, buildA, placesA, fillA, lay, storeA, AV.withCells, buildSliceA, elemsA, rowParts, fzL, promL, okE, isSrc, bytesOk, pushA, cxOf, lenA, binA, intBinA, strBinA, unA, indexAddrA, eqA, AVs.inb, AV.inb, Loc.inb, calleeA, opsOf, sub, bodyOf, Env.get_set, AS.get_push_at, AS.get_push_old, AS.push_len, AS.set_st_len, AS.next_st', AS.set_push_at, AS.get_set_self, AS.get_set_other, qL1, Tryz.f31, hlen, hcx, f1, g0] at hr
  subst hr
  refine ⟨_, rfl, by simp [hlen], by simp [Env.get_set, hlen, f1, g0], fun i hi => ?_⟩
  simp only [List.mem_cons, List.not_mem_nil, or_false, not_or] at hi
  obtain ⟨x0, x1, x2, x3⟩ := hi
  simp [Env.get_set, hlen, Ne.symm x0, Ne.symm x1, Ne.symm x2, Ne.symm x3]
theorem rT1 (cx : Cx) (env : Env) (σ : AS) (k n : Nat) (hlen : env.length = 58) (f37 : Env.get env 37 = .int .i64 (k : Int)) (f36 : Env.get env 36 = .int .i64 (n : Int))    (hcx : cx.esc = []) :
    ∃ env', seqA Tryz.prog cx (callW Tryz.prog how) qT1 (qT1) env σ = some (env', σ) ∧ env'.length = 58 ∧ (Env.get env' 38 = .bool (decide (k < n))) ∧ (∀ i, i ∉ [38] → Env.get env' i = Env.get env i) := by
  suffices h : ∀ r, seqA Tryz.prog cx (callW Tryz.prog how) qT1 (qT1) env σ = r → ∃ env', r = some (env', σ) ∧ env'.length = 58 ∧ (Env.get env' 38 = .bool (decide (k < n))) ∧ (∀ i, i ∉ [38] → Env.get env' i = Env.get env i) from h _ rfl
  intro r hr
  simp -implicitDefEqProofs [ofV, ofCell, ofCells, seqA_nil, seqA_cons, seqVK_eq, seqEK_eq, wantedA, yieldedA, isVal, effA, ev, evs, evps, putE, optsA, optsOk, valA, fieldAddrA, fieldA, loadA, partA, aggA, isAggD, buildA, placesA, fillA, lay, storeA, AV.withCells, buildSliceA, elemsA, rowParts, fzL, promL, okE, isSrc, bytesOk, pushA, cxOf, lenA, binA, intBinA, strBinA, unA, indexAddrA, eqA, AVs.inb, AV.inb, Loc.inb, calleeA, opsOf, sub, bodyOf, Env.get_set, AS.get_push_at, AS.get_push_old, AS.push_len, AS.set_st_len, AS.next_st', AS.set_push_at, AS.get_set_self, AS.get_set_other, qT1, Tryz.f31, hlen, hcx, f37, f36] at hr
  subst hr
  refine ⟨_, rfl, by simp [hlen], by simp [Env.get_set, hlen, f37, f36], fun i hi => ?_⟩
  simp only [List.mem_cons, List.not_mem_nil, or_false, not_or] at hi
  have x0 := hi
  simp [Env.get_set, hlen, Ne.symm x0]
theorem rE1 (cx : Cx) (env : Env) (σ : AS) (es : List AV) (k : Nat) (fe0 : ByteArray) (fe1 : ByteArray) (fe2 : Bool) (hlen : env.length = 58) (f35 : Env.get env 35 = .sl false 3 es) (f37 : Env.get env 37 = .int .i64 (k : Int))   (hk : k < es.length) (he : es[k] = .agg [.str fe0, .str fe1, .bool fe2]) (wn : wok cx.ro (.st σ.st.length) = true) (hn : cx.h ≤ σ.st.length) (hcx : cx.esc = []) :
    ∃ env', seqA Tryz.prog cx (callW Tryz.prog how) qE1 (qE1) env σ = some (env', σ.push false (.cells [.str fe0, .str fe1, .bool fe2])) ∧ env'.length = 58 ∧ (Env.get env' 7 = .ptr (.st σ.st.length) 0 ∧ Env.get env' 6 = .int .i64 (k : Int)) ∧ (∀ i, i ∉ [6, 7, 39, 40, 41] → Env.get env' i = Env.get env i) := by
  suffices h : ∀ r, seqA Tryz.prog cx (callW Tryz.prog how) qE1 (qE1) env σ = r → ∃ env', r = some (env', σ.push false (.cells [.str fe0, .str fe1, .bool fe2])) ∧ env'.length = 58 ∧ (Env.get env' 7 = .ptr (.st σ.st.length) 0 ∧ Env.get env' 6 = .int .i64 (k : Int)) ∧ (∀ i, i ∉ [6, 7, 39, 40, 41] → Env.get env' i = Env.get env i) from h _ rfl
  intro r hr
  simp -implicitDefEqProofs [ofV, ofCell, ofCells, seqA_nil, seqA_cons, seqVK_eq, seqEK_eq, wantedA, yieldedA, isVal, effA, ev, evs, evps, putE, optsA, optsOk, valA, fieldAddrA, fieldA, loadA, partA, aggA, isAggD, buildA, placesA, fillA, lay, storeA, AV.withCells, buildSliceA, elemsA, rowParts, fzL, promL, okE, isSrc, bytesOk, pushA, cxOf, lenA, binA, intBinA, strBinA, unA, indexAddrA, eqA, AVs.inb, AV.inb, Loc.inb, calleeA, opsOf, sub, bodyOf, Env.get_set, AS.get_push_at, AS.get_push_old, AS.push_len, AS.set_st_len, AS.next_st', AS.set_push_at, AS.get_set_self, AS.get_set_other, qE1, Tryz.f31, hlen, hcx, f35, f37, hk, he, wn, hn] at hr
  subst hr
  refine ⟨_, rfl, by simp [hlen], by simp [Env.get_set, hlen, f35, f37, hk, he, wn, hn], fun i hi => ?_⟩
  simp only [List.mem_cons, List.not_mem_nil, or_false, not_or] at hi
  obtain ⟨x0, x1, x2, x3, x4⟩ := hi
  simp [Env.get_set, hlen, Ne.symm x0, Ne.symm x1, Ne.symm x2, Ne.symm x3, Ne.symm x4]
theorem rC1 (cx : Cx) (env : Env) (σ : AS) (k : Nat) (hlen : env.length = 58) (f6 : Env.get env 6 = .int .i64 (k : Int))    (hcx : cx.esc = []) :
    ∃ env', seqA Tryz.prog cx (callW Tryz.prog how) qC1 (qC1) env σ = some (env', σ) ∧ env'.length = 58 ∧ (Env.get env' 43 = .bool (decide ((k : Int) < 10))) ∧ (∀ i, i ∉ [42, 43] → Env.get env' i = Env.get env i) := by
  suffices h : ∀ r, seqA Tryz.prog cx (callW Tryz.prog how) qC1 (qC1) env σ = r → ∃ env', r = some (env', σ) ∧ env'.length = 58 ∧ (Env.get env' 43 = .bool (decide ((k : Int) < 10))) ∧ (∀ i, i ∉ [42, 43] → Env.get env' i = Env.get env i) from h _ rfl
  intro r hr
  simp -implicitDefEqProofs [ofV, ofCell, ofCells, seqA_nil, seqA_cons, seqVK_eq, seqEK_eq, wantedA, yieldedA, isVal, effA, ev, evs, evps, putE, optsA, optsOk, valA, fieldAddrA, fieldA, loadA, partA, aggA, isAggD, buildA, placesA, fillA, lay, storeA, AV.withCells, buildSliceA, elemsA, rowParts, fzL, promL, okE, isSrc, bytesOk, pushA, cxOf, lenA, binA, intBinA, strBinA, unA, indexAddrA, eqA, AVs.inb, AV.inb, Loc.inb, calleeA, opsOf, sub, bodyOf, Env.get_set, AS.get_push_at, AS.get_push_old, AS.push_len, AS.set_st_len, AS.next_st', AS.set_push_at, AS.get_set_self, AS.get_set_other, qC1, Tryz.f31, hlen, hcx, f6] at hr
  subst hr
  refine ⟨_, rfl, by simp [hlen], by simp [Env.get_set, hlen, f6], fun i hi => ?_⟩
  simp only [List.mem_cons, List.not_mem_nil, or_false, not_or] at hi
  obtain ⟨x0, x1⟩ := hi
  simp [Env.get_set, hlen, Ne.symm x0, Ne.symm x1]
theorem rI1 (cx : Cx) (env : Env) (σ : AS) (k : Nat) (hlen : env.length = 58) (f37 : Env.get env 37 = .int .i64 (k : Int))   (hwr : wr .i64 ((k : Int) + 1) = (k : Int) + 1) (hcx : cx.esc = []) :
    ∃ env', seqA Tryz.prog cx (callW Tryz.prog how) qI1 (qI1) env σ = some (env', σ) ∧ env'.length = 58 ∧ (Env.get env' 37 = .int .i64 ((k : Int) + 1)) ∧ (∀ i, i ∉ [37, 56] → Env.get env' i = Env.get env i) := by
  suffices h : ∀ r, seqA Tryz.prog cx (callW Tryz.prog how) qI1 (qI1) env σ = r → ∃ env', r = some (env', σ) ∧ env'.length = 58 ∧ (Env.get env' 37 = .int .i64 ((k : Int) + 1)) ∧ (∀ i, i ∉ [37, 56] → Env.get env' i = Env.get env i) from h _ rfl
  intro r hr
  simp -implicitDefEqProofs [ofV, ofCell, ofCells, seqA_nil, seqA_cons, seqVK_eq, seqEK_eq, wantedA, yieldedA, isVal, effA, ev, evs, evps, putE, optsA, optsOk, valA, fieldAddrA, fieldA, loadA, partA, aggA, isAggD, buildA, placesA, fillA, lay, storeA, AV.withCells, buildSliceA, elemsA, rowParts, fzL, promL, okE, isSrc, bytesOk, pushA, cxOf, lenA, binA, intBinA, strBinA, unA, indexAddrA, eqA, AVs.inb, AV.inb, Loc.inb, calleeA, opsOf, sub, bodyOf, Env.get_set, AS.get_push_at, AS.get_push_old, AS.push_len, AS.set_st_len, AS.next_st', AS.set_push_at, AS.get_set_self, AS.get_set_other, qI1, Tryz.f31, hlen, hcx, f37, hwr] at hr
  subst hr
  refine ⟨_, rfl, by simp [hlen], by simp [Env.get_set, hlen, f37, hwr], fun i hi => ?_⟩
  simp only [List.mem_cons, List.not_mem_nil, or_false, not_or] at hi
  obtain ⟨x0, x1⟩ := hi
  simp [Env.get_set, hlen, Ne.symm x0, Ne.symm x1]
theorem rA1_0 (cx : Cx) (env : Env) (σ : AS) (fa0 : Int) (fa1 : Int) (fa2 : Bool) (fa3 : AV) (fa4 : AV) (R0 : AV) (R1 : AV) (fe0 : ByteArray) (fe1 : ByteArray) (fe2 : Bool) (i3 ib : Nat) (R' : AV) (σ' : AS) (hlen : env.length = 58) (f3 : Env.get env 3 = .ptr (.st i3) 0) (f7 : Env.get env 7 = .ptr (.st ib) 0) (g0 : σ.get (.st i3) = some (.cells [.int .i64 fa0, .int .u64 fa1, .bool fa2, R0, R1])) (g1 : σ.get (.st ib) = some (.cells [.str fe0, .str fe1, .bool fe2])) (g2 : σ'.get (.st i3) = some (.cells [.int .i64 fa0, .int .u64 fa1, .bool fa2, R0, R1])) (w0 : wok cx.ro (.st i3) = true) (h0 : cx.h ≤ i3) (hap : appendA Tryz.prog cx (σ.push false (.row [.agg [.str fe0, .str fe1, .bool fe2]] 3 0 false)) [55, 55] R1 (.row (.st σ.st.length) 0 0 1) = some (R', σ')) (hR' : R'.one = true) (hR0 : R0.one = true) (hR1 : R1.one = true) (hcx : cx.esc = []) :
    ∃ env', seqA Tryz.prog cx (callW Tryz.prog how) qA1_0 (qA1_0) env σ = some (env', σ'.set (.st i3) (.cells [.int .i64 fa0, .int .u64 fa1, .bool fa2, R0, R'])) ∧ env'.length = 58 ∧ (True) ∧ (∀ i, i ∉ [44, 45, 46, 47, 48, 49, 50, 51, 52, 53, 54, 55] → Env.get env' i = Env.get env i) := by
  suffices h : ∀ r, seqA Tryz.prog cx (callW Tryz.prog how) qA1_0 (qA1_0) env σ = r → ∃ env', r = some (env', σ'.set (.st i3) (.cells [.int .i64 fa0, .int .u64 fa1, .bool fa2, R0, R'])) ∧ env'.length = 58 ∧ (True) ∧ (∀ i, i ∉ [44, 45, 46, 47, 48, 49, 50, 51, 52, 53, 54, 55] → Env.get env' i = Env.get env i) from h _ rfl
  intro r hr
  simp -implicitDefEqProofs [ofV, ofCell, ofCells, seqA_nil, seqA_cons, seqVK_eq, seqEK_eq, wantedA, yieldedA, isVal, effA, ev, evs, evps, putE, optsA, optsOk, valA, fieldAddrA, fieldA, loadA, partA, aggA, isAggD, buildA, placesA, fillA, lay, storeA, AV.withCells, buildSliceA, elemsA, rowParts, fzL, promL, okE, isSrc, bytesOk, pushA, cxOf, lenA, binA, intBinA, strBinA, unA, indexAddrA, eqA, AVs.inb, AV.inb, Loc.inb, calleeA, opsOf, sub, bodyOf, Env.get_set, AS.get_push_at, AS.get_push_old, AS.push_len, AS.set_st_len, AS.next_st', AS.set_push_at, AS.get_set_self, AS.get_set_other, qA1_0, Tryz.f31, hlen, hcx, f3, f7, g0, g1, g2, w0, h0, hap, hR', one_cells hR', hR0, hR1] at hr
  subst hr
  refine ⟨_, rfl, by simp [hlen], by simp [Env.get_set, hlen, f3, f7, g0, g1, g2, w0, h0, hap, hR', one_cells hR', hR0, hR1], fun i hi => ?_⟩
  simp only [List.mem_cons, List.not_mem_nil, or_false, not_or] at hi
  obtain ⟨x0, x1, x2, x3, x4, x5, x6, x7, x8, x9, x10, x11⟩ := hi
  simp [Env.get_set, hlen, Ne.symm x0, Ne.symm x1, Ne.symm x2, Ne.symm x3, Ne.symm x4, Ne.symm x5, Ne.symm x6, Ne.symm x7, Ne.symm x8, Ne.symm x9, Ne.symm x10, Ne.symm x11]
theorem step1 (cx : Cx) (σ0 : AS) (i1 i2 i3 : Nat) (fa0 : Int) (fa1 : Int) (fa2 : Bool) (fa3 : AV) (fa4 : AV) (nb0 : Nat) (hcx : cx.esc = []) (hro : ∀ k, cx.ro = some k → k ≤ cx.h) (env : Env) (σ : AS) (e : AV) (m : Nat) (he : isT180 e) (hlen : env.length = 58) (f3 : Env.get env 3 = .ptr (.st i3) 0) (fb : Env.get env 7 = .ptr (.st σ.st.length) 0) (w : W cx.h σ0 i1 i2 i3 fa0 fa1 fa2 fa3 fa4 nb0 m σ) (hm : m < 10) :
    ∃ env' σ', execW Tryz.prog cx [] (callW Tryz.prog how) (cr [.r, .r, .r, .l, .r, .i, .i, .r, .r, .l, .i, .r, .r, .l]) (env, σ.push false (.cells e.cells)) = some (.normal, (env', σ')) ∧ env'.length = 58 ∧ W cx.h σ0 i1 i2 i3 fa0 fa1 fa2 fa3 fa4 nb0 (m + 1) σ' ∧ ∀ i, i ∉ [44, 45, 46, 47, 48, 49, 50, 51, 52, 53, 54, 55] → Env.get env' i = Env.get env i := by
  obtain ⟨fe0, fe1, fe2, rfl⟩ := he
  obtain ⟨R0, l0, R1, l1, w1, w2, w3, w4, w5, ⟨u1, u2, u3, u4, u5, u6⟩, v0, v1⟩ := w
  have d3 := lt_of_get w3
  have gb : (σ.push false (.cells [.str fe0, .str fe1, .bool fe2])).get (.st σ.st.length) = some (.cells [.str fe0, .str fe1, .bool fe2]) := AS.get_push_at rfl
  have w1 := get_push' (ob' := .cells [.str fe0, .str fe1, .bool fe2]) w1
  have w2 := get_push' (ob' := .cells [.str fe0, .str fe1, .bool fe2]) w2
  have w3 := get_push' (ob' := .cells [.str fe0, .str fe1, .bool fe2]) w3
  have w4 := w4.push (ob := .cells [.str fe0, .str fe1, .bool fe2])
  have w5 := w5.push (ob := .cells [.str fe0, .str fe1, .bool fe2])
  have hb3 : σ.st.length ≠ i3 := by omega
  generalize hib : σ.st.length = ib at fb gb hb3
  have hs0 : (AV.cells (.agg [.str fe0, .str fe1, .bool fe2])) = [.str fe0, .str fe1, .bool fe2] := rfl
  rw [hs0]
  generalize σ.push false (.cells [.str fe0, .str fe1, .bool fe2]) = σa at w1 w2 w3 w4 w5 gb ⊢
  have hR0_1 : R0.one = true := (w4.1 (2, R0, l0) (by simp)).one
  have hR1_1 : R1.one = true := (w4.1 (3, R1, l1) (by simp)).one
  have T1 : AppOk Tryz.prog 55 3 40 := ⟨181, _, e55, Tryz.underlying55, s181, b181, rfl, by decide, by rw [z181]; rfl⟩
  obtain ⟨S1, σ1, ap1, o1, rw1, kc1, ou1⟩ := append_one (cx := cx) (x := .agg [.str fe0, .str fe1, .bool fe2]) (j := 1) T1 w4 rfl (by omega) (by decide) hro w5.2.2
  obtain ⟨env1, a1, k1, _, z1⟩ := rA1_0 (how := how) cx env σa fa0 fa1 fa2 fa3 fa4 R0 R1 fe0 fe1 fe2 i3 ib S1 σ1 hlen f3 fb w3 gb (kc1 _ _ w3) (wokst hro u3) u3 ap1 o1 hR0_1 hR1_1 hcx
  have X1 := execW_plain (P := Tryz.prog) (tails := []) (id := 12) (ops := qA1_0.toArray) a1
  rw [← cqA1_0] at X1
  have w1 := get_set' (ob' := .cells [.int .i64 fa0, .int .u64 fa1, .bool fa2, R0, S1]) (kc1 _ _ w1) u5
  have w2 := get_set' (ob' := .cells [.int .i64 fa0, .int .u64 fa1, .bool fa2, R0, S1]) (kc1 _ _ w2) u6
  have gb := get_set' (ob' := .cells [.int .i64 fa0, .int .u64 fa1, .bool fa2, R0, S1]) (kc1 _ _ gb) hb3
  have rw1 := rw1.setc (ob := .cells [.int .i64 fa0, .int .u64 fa1, .bool fa2, R0, S1]) (kc1 _ _ w3)
  have w5 := (ou1 _ w5).set (ob := .cells [.int .i64 fa0, .int .u64 fa1, .bool fa2, R0, S1]) ⟨i3, rfl, u3⟩
  have w3 := get_set_at (ob' := .cells [.int .i64 fa0, .int .u64 fa1, .bool fa2, R0, S1]) (kc1 _ _ w3)
  have w4 : Rows cx.h _ [(2, R0, l0), (3, S1, (l1 ++ [.agg [.str fe0, .str fe1, .bool fe2]]))] := rw1
  generalize σ1.set (.st i3) (.cells [.int .i64 fa0, .int .u64 fa1, .bool fa2, R0, S1]) = σ1s at *
  have l1' : ∀ (A : List AV) (x : AV), (A ++ [x]).length = A.length + 1 := fun A x => by simp
  exact ⟨env1, _, X1, k1, ⟨R0, l0, S1, (l1 ++ [.agg [.str fe0, .str fe1, .bool fe2]]), w1, w2, w3, w4, w5, ⟨u1, u2, u3, u4, u5, u6⟩, v0, by rw [l1']; omega⟩, fun i hi => ((z1 i (fun hx => hi (by revert hx; simp only [List.mem_cons, List.not_mem_nil, or_false]; omega))).trans rfl)⟩
theorem loop1_eq : cr [.r, .r, .r, .l, .r] = .block 2 (.loop (.seq (cr [.r, .r, .r, .l, .r, .i, .i, .l]) (.seq (.cond (.tmp 38) .skip (.exit 2)) (.seq (.block 3 (.seq (cr [.r, .r, .r, .l, .r, .i, .i, .r, .r, .l, .i, .l]) (.seq (cr [.r, .r, .r, .l, .r, .i, .i, .r, .r, .l, .i, .r, .l]) (.cond (.tmp 43) (cr [.r, .r, .r, .l, .r, .i, .i, .r, .r, .l, .i, .r, .r, .l]) .skip)))) (cr [.r, .r, .r, .l, .r, .i, .i, .r, .r, .r]))))) := by kernel_rfl
theorem loop1 (cx : Cx) (σ0 : AS) (i1 i2 i3 : Nat) (fa0 : Int) (fa1 : Int) (fa2 : Bool) (fa3 : AV) (fa4 : AV) (nb0 : Nat) (hcx : cx.esc = []) (hro : ∀ k, cx.ro = some k → k ≤ cx.h) (es : List AV) (hes : ∀ e ∈ es, isT180 e) (hle : es.length ≤ 9223372036854775807) (env : Env) (σ : AS) (hlen : env.length = 58) (f3 : Env.get env 3 = .ptr (.st i3) 0) (fs : es = [] ∨ Env.get env 35 = .sl false 3 es) (fl : Env.get env 36 = .int .i64 (es.length : Int)) (fi : Env.get env 37 = .int .i64 0) (w : W cx.h σ0 i1 i2 i3 fa0 fa1 fa2 fa3 fa4 nb0 0 σ) :
    ∃ env' σ' m, execW Tryz.prog cx [] (callW Tryz.prog how) (cr [.r, .r, .r, .l, .r]) (env, σ) = some (.normal, (env', σ')) ∧ env'.length = 58 ∧ (∀ i ∈ [1, 2, 3], Env.get env' i = Env.get env i) ∧ W cx.h σ0 i1 i2 i3 fa0 fa1 fa2 fa3 fa4 nb0 m σ' := by
  rw [loop1_eq]
  have I0 : LoopI 58 [1, 2, 3, 35, 36] env 37 (fun m σ => W cx.h σ0 i1 i2 i3 fa0 fa1 fa2 fa3 fa4 nb0 m σ) 0 0 (env, σ) := ⟨hlen, fun _ _ => rfl, fi, w⟩
  obtain ⟨⟨env', σ'⟩, e1, I⟩ := conv_loop (P := Tryz.prog) (cx := cx) (tails := []) (call := callW Tryz.prog how) (n := es.length) (test := cr [.r, .r, .r, .l, .r, .i, .i, .l]) (inc := cr [.r, .r, .r, .l, .r, .i, .i, .r, .r, .r]) (body := .block 3 (.seq (cr [.r, .r, .r, .l, .r, .i, .i, .r, .r, .l, .i, .l]) (.seq (cr [.r, .r, .r, .l, .r, .i, .i, .r, .r, .l, .i, .r, .l]) (.cond (.tmp 43) (cr [.r, .r, .r, .l, .r, .i, .i, .r, .r, .l, .i, .r, .r, .l]) .skip)))) (tc := 38) (B := 2) (VT := [38]) (VI := [37, 56]) (tl := 36) (by decide) fl hle
    (fun env σ k h1 h2 h3 => by
      obtain ⟨env', e1, e2, e3, e4⟩ := rT1 (how := how) cx env σ k es.length h1 h2 h3 hcx
      rw [cqT1]
      exact ⟨env', execW_plain e1, e2, e3, e4⟩) (by decide)
    (conv_body (elemR := cr [.r, .r, .r, .l, .r, .i, .i, .r, .r, .l, .i, .l]) (cutR := cr [.r, .r, .r, .l, .r, .i, .i, .r, .r, .l, .i, .r, .l]) (app := cr [.r, .r, .r, .l, .r, .i, .i, .r, .r, .l, .i, .r, .r, .l]) (tc := 43) (cut := 10) (VE := [6, 7, 39, 40, 41]) (VC := [42, 43]) (VA := [44, 45, 46, 47, 48, 49, 50, 51, 52, 53, 54, 55]) (tb := 7) (tk := 6) (by decide) fs
      (fun env σ k hk h1 h2 h3 hh => by
        obtain ⟨fe0, fe1, fe2, he⟩ := hes es[k] (List.getElem_mem hk)
        obtain ⟨env', x1, x2, x3, x4⟩ := rE1 (how := how) cx env σ es k fe0 fe1 fe2 h1 h2 h3 hk he (wokst hro hh) hh hcx
        rw [cqE1, he]
        exact ⟨env', execW_plain x1, x2, x3, x4⟩) (by decide)
      (fun env σ k h1 h2 => by
        obtain ⟨env', e1, e2, e3, e4⟩ := rC1 (how := how) cx env σ k h1 h2 hcx
        rw [cqC1]
        exact ⟨env', execW_plain e1, e2, e3, e4⟩) (by decide) (by decide)
      (fun env1 σ e m he h1 h2 h3 w hm => step1 cx σ0 i1 i2 i3 fa0 fa1 fa2 fa3 fa4 nb0 hcx hro env1 σ e m (hes e he) h1 ((h2 3 (by decide)).trans f3) h3 w hm) (by decide)
      (fun m σ ob w => w.push) (fun m σ w => w.mono1) (fun m σ w => w.len))
    (fun env σ k h1 h2 hwr => by
      obtain ⟨env', e1, e2, e3, e4⟩ := rI1 (how := how) cx env σ k h1 h2 hwr hcx
      rw [cqI1]
      exact ⟨env', execW_plain e1, e2, e3, e4⟩) (by decide) I0
  exact ⟨env', σ', _, e1, I.len, fun i hi => I.keep i (List.mem_append_left [35, 36] hi), I.w⟩
theorem part1 (cx : Cx) (σ0 : AS) (i1 i2 i3 : Nat) (fa0 : Int) (fa1 : Int) (fa2 : Bool) (fa3 : AV) (fa4 : AV) (nb0 : Nat) (hcx : cx.esc = []) (hro : ∀ k, cx.ro = some k → k ≤ cx.h) (hX : isSl 3 isT180 fa4) (env : Env) (σ : AS) (hlen : env.length = 58) (f1 : Env.get env 1 = .ptr (.st i1) 0) (f3 : Env.get env 3 = .ptr (.st i3) 0) (w : W cx.h σ0 i1 i2 i3 fa0 fa1 fa2 fa3 fa4 nb0 0 σ) :
    ∃ env' σ' m, execW Tryz.prog cx [] (callW Tryz.prog how) ((cr [.r, .r, .r, .l, .l]).seq (cr [.r, .r, .r, .l, .r])) (env, σ) = some (.normal, (env', σ')) ∧ env'.length = 58 ∧ (∀ i ∈ [1, 2, 3], Env.get env' i = Env.get env i) ∧ W cx.h σ0 i1 i2 i3 fa0 fa1 fa2 fa3 fa4 nb0 m σ' := by
  have hw := w
  obtain ⟨R0, l0, R1, l1, w1, _⟩ := hw
  rcases hX with rfl | ⟨es, rfl, hl, hes⟩
  · obtain ⟨env1, c1, c2, c3, c4⟩ := rL1n (how := how) cx env σ fa0 fa1 fa2 fa3 i1 hlen f1 w1 hcx
    have x1 := execW_plain (P := Tryz.prog) (tails := []) (id := 8) (ops := qL1.toArray) c1
    rw [← cqL1] at x1
    obtain ⟨env', σ', m, d1, d2, d3, d4⟩ := loop1 cx σ0 i1 i2 i3 fa0 fa1 fa2 fa3 .nils nb0 hcx hro [] (fun _ h => by cases h) (by simp) env1 σ c2 ((c4 3 (by decide)).trans f3) (.inl rfl) c3.2.1 c3.2.2 w
    exact ⟨env', σ', m, execW_seq_of x1 d1, d2, fun i hi => (d3 i hi).trans (c4 i (by simp only [List.mem_cons, List.not_mem_nil, or_false] at hi; rcases hi with rfl | rfl | rfl <;> decide)), d4⟩
  · obtain ⟨env1, c1, c2, c3, c4⟩ := rL1s (how := how) cx env σ fa0 fa1 fa2 fa3 i1 es hlen f1 w1 hcx
    have x1 := execW_plain (P := Tryz.prog) (tails := []) (id := 8) (ops := qL1.toArray) c1
    rw [← cqL1] at x1
    obtain ⟨env', σ', m, d1, d2, d3, d4⟩ := loop1 cx σ0 i1 i2 i3 fa0 fa1 fa2 fa3 (.sl false 3 es) nb0 hcx hro es hes hl env1 σ c2 ((c4 3 (by decide)).trans f3) (.inr c3.1) c3.2.1 c3.2.2 w
    exact ⟨env', σ', m, execW_seq_of x1 d1, d2, fun i hi => (d3 i hi).trans (c4 i (by simp only [List.mem_cons, List.not_mem_nil, or_false] at hi; rcases hi with rfl | rfl | rfl <;> decide)), d4⟩
noncomputable def qF : List Oper := opsOf (sub [.r, .r, .r, .r, .l] (bodyOf Tryz.f31))
theorem cqF : cr [.r, .r, .r, .r, .l] = .region 14 qF.toArray false := by kernel_rfl
theorem rF (cx : Cx) (env : Env) (σ : AS) (fa0 : Int) (fa1 : Int) (fa2 : Bool) (fa3 : AV) (fa4 : AV) (R0 : AV) (R1 : AV) (i2 i3 : Nat) (hlen : env.length = 58) (f2 : Env.get env 2 = .ptr (.st i2) 0) (f3 : Env.get env 3 = .ptr (.st i3) 0) (g0 : σ.get (.st i3) = some (.cells [.int .i64 fa0, .int .u64 fa1, .bool fa2, R0, R1])) (g1 : σ.get (.st i2) = some (.cells [.int .i64 0, .int .u64 0, .bool false, .nils, .nils])) (w0 : wok cx.ro (.st i2) = true) (h0 : cx.h ≤ i2)  (hR0 : R0.one = true) (hR1 : R1.one = true) (hcx : cx.esc = []) :
    ∃ env', seqA Tryz.prog cx (callW Tryz.prog how) qF (qF) env σ = some (env', σ.set (.st i2) (.cells [.int .i64 fa0, .int .u64 fa1, .bool fa2, R0, R1])) ∧ env'.length = 58 ∧ (True) ∧ (∀ i, i ∉ [57] → Env.get env' i = Env.get env i) := by
  suffices h : ∀ r, seqA Tryz.prog cx (callW Tryz.prog how) qF (qF) env σ = r → ∃ env', r = some (env', σ.set (.st i2) (.cells [.int .i64 fa0, .int .u64 fa1, .bool fa2, R0, R1])) ∧ env'.length = 58 ∧ (True) ∧ (∀ i, i ∉ [57] → Env.get env' i = Env.get env i) from h _ rfl
  intro r hr
  simp -implicitDefEqProofs [ofV, ofCell, ofCells, seqA_nil, seqA_cons, seqVK_eq, seqEK_eq, wantedA, yieldedA, isVal, effA, ev, evs, evps, putE, optsA, optsOk, valA, fieldAddrA, fieldA, loadA, partA, aggA, isAggD, buildA, placesA, fillA, lay, storeA, AV.withCells, buildSliceA, elemsA, rowParts, fzL, promL, okE, isSrc, bytesOk, pushA, cxOf, lenA, binA, intBinA, strBinA, unA, indexAddrA, eqA, AVs.inb, AV.inb, Loc.inb, calleeA, opsOf, sub, bodyOf, Env.get_set, AS.get_push_at, AS.get_push_old, AS.push_len, AS.set_st_len, AS.next_st', AS.set_push_at, AS.get_set_self, AS.get_set_other, qF, Tryz.f31, hlen, hcx, f2, f3, g0, g1, w0, h0, hR0, hR1, one_cells hR0, one_cells hR1] at hr
  subst hr
  refine ⟨_, rfl, by simp [hlen], by simp [Env.get_set, hlen, f2, f3, g0, g1, w0, h0, hR0, hR1, one_cells hR0, one_cells hR1], fun i hi => ?_⟩
  simp only [List.mem_cons, List.not_mem_nil, or_false, not_or] at hi
  have x0 := hi
  simp [Env.get_set, hlen, Ne.symm x0]
theorem body : Tryz.f31.body = some (((cr [.l])).seq (((cr [.r, .l])).seq ((((cr [.r, .r, .l, .l]).seq (cr [.r, .r, .l, .r]))).seq ((((cr [.r, .r, .r, .l, .l]).seq (cr [.r, .r, .r, .l, .r]))).seq ((cr [.r, .r, .r, .r, .l]).seq .ret))))) := by kernel_rfl
theorem ok (hh31 : how 31 = some (.body {})) (hp s : List AObj) (ro : Option Nat) (fa0 : Int) (fa1 : Int) (fa2 : Bool) (fa3 : AV) (fa4 : AV) (hfa3 : isSl 2 isT177 fa3) (hfa4 : isSl 3 isT180 fa4) (hro : ∀ k, ro = some k → k ≤ s.length) :
    ∃ y0 y1, callW Tryz.prog how 31 [.agg [.int .i64 fa0, .int .u64 fa1, .bool fa2, fa3, fa4]] ⟨hp, s⟩ ro = some (.agg [.int .i64 fa0, .int .u64 fa1, .bool fa2, y0, y1], ⟨hp, s⟩) ∧ Plain y0 ∧ Plain y1 := by
  let cx : Cx := { h := s.length, ro := ro, esc := [] }
  have hcx : cx.esc = [] := rfl
  have hro' : ∀ k, cx.ro = some k → k ≤ cx.h := hro
  have pfa3 := hfa3.plain
  have pfa4 := hfa4.plain
  have henv : ∃ e, e = frameA Tryz.f31 [.agg [.int .i64 fa0, .int .u64 fa1, .bool fa2, fa3, fa4]] := ⟨_, rfl⟩
  obtain ⟨env0, henv⟩ := henv
  have hfl : env0.length = 58 := by rw [henv]; rfl
  have hf0 : Env.get env0 0 = .agg [.int .i64 fa0, .int .u64 fa1, .bool fa2, fa3, fa4] := by rw [henv]; rfl
  obtain ⟨env1, a1, a2, a3, a4⟩ := r0 (how := how) cx env0 ⟨hp, s⟩ fa0 fa1 fa2 fa3 fa4 hfl hf0 hcx
  have x0 := execW_plain (P := Tryz.prog) (tails := []) (id := 0) (ops := q0.toArray) a1
  rw [← cq0] at x0
  have w0 : ∃ σ1, σ1 = ((AS.mk hp s).push false (.cells [.int .i64 fa0, .int .u64 fa1, .bool fa2, fa3, fa4])).push false (.cells [.int .i64 0, .int .u64 0, .bool false, .nils, .nils]) := ⟨_, rfl⟩
  obtain ⟨σ1, w0⟩ := w0
  rw [← w0] at x0
  have l1 : σ1.st.length = s.length + 2 := by rw [w0, AS.push_len, AS.push_len]
  have g1 : σ1.get (.st s.length) = some (.cells [.int .i64 fa0, .int .u64 fa1, .bool fa2, fa3, fa4]) := by rw [w0]; exact get_push' (AS.get_push_at rfl)
  have g2 : σ1.get (.st (s.length + 1)) = some (.cells [.int .i64 0, .int .u64 0, .bool false, .nils, .nils]) := by rw [w0]; exact AS.get_push_at (by rw [AS.push_len])
  have o1 : Outside s.length ⟨hp, s⟩ σ1 := by rw [w0]; exact ((Outside.refl (Nat.le_refl _)).push).push
  clear w0
  have f1 : Env.get env1 1 = .ptr (.st s.length) 0 := a3.1
  have f2 : Env.get env1 2 = .ptr (.st (s.length + 1)) 0 := a3.2
  obtain ⟨env2, b1, b2, b3, b4⟩ := r1 (how := how) cx env1 σ1 fa0 fa1 fa2 fa3 fa4 s.length a2 f1 g1 pfa3 pfa4 (wokst hro' (by rw [l1]; exact Nat.le_add_right _ _)) (by rw [l1]; exact Nat.le_add_right _ _) hcx
  have x1 := execW_plain (P := Tryz.prog) (tails := []) (id := 1) (ops := q1.toArray) b1
  rw [← cq1] at x1
  have g1 := get_push' (ob' := .cells [.int .i64 fa0, .int .u64 fa1, .bool fa2, .nils, .nils]) g1
  have g2 := get_push' (ob' := .cells [.int .i64 fa0, .int .u64 fa1, .bool fa2, .nils, .nils]) g2
  have g3 : (σ1.push false (.cells [.int .i64 fa0, .int .u64 fa1, .bool fa2, .nils, .nils])).get (.st (s.length + 2)) = some (.cells [.int .i64 fa0, .int .u64 fa1, .bool fa2, .nils, .nils]) := AS.get_push_at l1.symm
  have o2 := o1.push (ob := .cells [.int .i64 fa0, .int .u64 fa1, .bool fa2, .nils, .nils])
  have f3 : Env.get env2 3 = .ptr (.st (s.length + 2)) 0 := by rw [← l1]; exact b3
  have f1 := (b4 1 (by decide)).trans f1
  have f2 := (b4 2 (by decide)).trans f2
  generalize σ1.push false (.cells [.int .i64 fa0, .int .u64 fa1, .bool fa2, .nils, .nils]) = σ2 at x1 g1 g2 g3 o2
  have W0 : W s.length ⟨hp, s⟩ s.length (s.length + 1) (s.length + 2) fa0 fa1 fa2 fa3 fa4 0 0 σ2 :=
    ⟨.nils, [], .nils, [], g1, g2, g3, ⟨by intro e he; simp only [List.mem_cons, List.not_mem_nil, or_false] at he; rcases he with rfl | rfl <;> exact .inl ⟨rfl, rfl⟩, by simp [Sep2]⟩, o2, ⟨by omega, by omega, by omega, by omega, by omega, by omega⟩, by simp, by simp⟩
  obtain ⟨envL0, σL0, m0, d01, d02, d03, W1⟩ := part0 cx ⟨hp, s⟩ s.length (s.length + 1) (s.length + 2) fa0 fa1 fa2 fa3 fa4 0 hcx hro' hfa3 env2 σ2 b2 f1 f3 W0
  have f1 := (d03 1 (by simp)).trans f1
  have f2 := (d03 2 (by simp)).trans f2
  have f3 := (d03 3 (by simp)).trans f3
  obtain ⟨envL1, σL1, m1, d11, d12, d13, W2⟩ := part1 cx ⟨hp, s⟩ s.length (s.length + 1) (s.length + 2) fa0 fa1 fa2 fa3 fa4 m0 hcx hro' hfa4 envL0 σL0 d02 f1 f3 W1
  have f1 := (d13 1 (by simp)).trans f1
  have f2 := (d13 2 (by simp)).trans f2
  have f3 := (d13 3 (by simp)).trans f3
  obtain ⟨R0, l0, R1, l1, w1, w2, w3, w4, w5, w6, _⟩ := W2
  have k0 := w4.1 (2, R0, l0) (by simp)
  have k1 := w4.1 (3, R1, l1) (by simp)
  obtain ⟨envE, e1, e2, _, e4⟩ := rF (how := how) cx envL1 σL1 fa0 fa1 fa2 fa3 fa4 R0 R1 (s.length + 1) (s.length + 2) d12 f2 f3 w3 w2 (wokst hro' (Nat.le_add_right _ _)) (Nat.le_add_right _ _) k0.one k1.one hcx
  have xF := execW_plain (P := Tryz.prog) (tails := []) (id := 14) (ops := qF.toArray) e1
  rw [← cqF] at xF
  have f2 := (e4 2 (by decide)).trans f2
  have gE := get_set_at (ob' := .cells [.int .i64 fa0, .int .u64 fa1, .bool fa2, R0, R1]) w2
  have oE := w5.set (ob := .cells [.int .i64 fa0, .int .u64 fa1, .bool fa2, R0, R1]) (L := .st (s.length + 1)) ⟨_, rfl, Nat.le_add_right _ _⟩
  have w4 := w4.setc (ob := .cells [.int .i64 fa0, .int .u64 fa1, .bool fa2, R0, R1]) w2
  have hb0 := (w4.1 (2, R0, l0) (by simp)).back
  simp only at hb0
  have hb1 := (w4.1 (3, R1, l1) (by simp)).back
  simp only at hb1
  have pl : ∀ (sz : Nat) (l : List AV), Plain (slV sz l) := fun sz l => slV_plain
  generalize σL1.set (.st (s.length + 1)) (.cells [.int .i64 fa0, .int .u64 fa1, .bool fa2, R0, R1]) = σE at xF gE oE hb0 hb1
  have q0 := pl 2 l0
  generalize slV 2 l0 = y0 at hb0 q0
  have hb0 : AV.back s.length σE R0 = some y0 := hb0
  have q1 := pl 3 l1
  generalize slV 3 l1 = y1 at hb1 q1
  have hb1 : AV.back s.length σE R1 = some y1 := hb1
  refine ⟨y0, y1, callW_body hh31 Tryz.func31 body ?_, q0, q1⟩
  have run := (execW_seq_of x0 (execW_seq_of x1 (execW_seq_of d01 (execW_seq_of d11 (execW_seq_of (b := .ret) xF rfl)))))
  have e2 : finishA Tryz.prog {} Tryz.f31 s.length (some (.ret, (envE, σE))) = some (.agg [.int .i64 fa0, .int .u64 fa1, .bool fa2, y0, y1], ⟨hp, s⟩) := by
    obtain ⟨oq1, oq2, _⟩ := oE
    have q2' : List.take s.length σE.st = s := by rw [oq2]; exact List.take_length
    have q1' : σE.hp = hp := oq1
    simp -implicitDefEqProofs [finishA, resA, Tryz.f31, loadA, partA, aggA, isAggD, f2, gE, oneA, AV.back, AVs.back, AV.inb, AVs.inb, q1', q2', hb0, q0.inb, hb1, q1.inb, pfa3.inb, pfa3.back, pfa4.inb, pfa4.back]
  rw [← e2]
  rw [← henv]
  exact congrArg _ run
end F31
theorem f31_ok (hh31 : how 31 = some (.body {})) (hp s : List AObj) (ro : Option Nat) (fa0 : Int) (fa1 : Int) (fa2 : Bool) (fa3 : AV) (fa4 : AV) (hfa3 : isSl 2 isT177 fa3) (hfa4 : isSl 3 isT180 fa4) (hro : ∀ k, ro = some k → k ≤ s.length) :
    ∃ y0 y1, callW Tryz.prog how 31 [.agg [.int .i64 fa0, .int .u64 fa1, .bool fa2, fa3, fa4]] ⟨hp, s⟩ ro = some (.agg [.int .i64 fa0, .int .u64 fa1, .bool fa2, y0, y1], ⟨hp, s⟩) ∧ Plain y0 ∧ Plain y1 := F31.ok hh31 hp s ro fa0 fa1 fa2 fa3 fa4 hfa3 hfa4 hro
