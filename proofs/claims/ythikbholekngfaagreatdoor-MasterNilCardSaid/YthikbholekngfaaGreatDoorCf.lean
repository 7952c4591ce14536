/- What an entry is turned into. -/
import Derived.Test.YthikbholekngfaaGreatDoorCe
open Go Go.Abs Go.Proofs
set_option maxRecDepth 100000
set_option maxHeartbeats 4000000
set_option linter.unusedSimpArgs false
set_option linter.unusedVariables false
variable {how : FuncId → Option How}


/-! function 33: "sautoir/sautoirlaw12.Ours" -/
@[simp] theorem s107 : sizeA Tryz.prog 107 = some 10 := by kernel_rfl
attribute [simp] Tryz.underlying107
@[simp] theorem s36 : sizeA Tryz.prog 36 = some 1 := by kernel_rfl
attribute [simp] Tryz.underlying36
@[simp] theorem s109 : sizeA Tryz.prog 109 = some 10 := by kernel_rfl
attribute [simp] Tryz.underlying109
@[simp] theorem z109 : zeroA Tryz.prog 109 = some (.agg [.int .u64 0, .int .i64 0, .int .i64 0, .int .u64 0, .bool false, .nils, .nils, .int .i64 0, .int .u64 0, .int .i64 0]) := by kernel_rfl
namespace F33
noncomputable def cr (p : List Dir) : Code := sub p (bodyOf Tryz.f33)
noncomputable def q0 : List Oper := opsOf (sub [.l] (bodyOf Tryz.f33))
theorem cq0 : cr [.l] = .region 0 q0.toArray false := by kernel_rfl
theorem r0 (cx : Cx) (env : Env) (σ : AS) (fa0 : Int) (fa1 : Int) (fa2 : Int) (fa3 : Int) (fa4 : Bool) (fa5 : AV) (fa6 : AV) (fa7 : Int) (fa8 : Int) (fa9 : Int) (hlen : env.length = 15) (f0 : Env.get env 0 = .agg [.int .u64 fa0, .int .i64 fa1, .int .i64 fa2, .int .u64 fa3, .bool fa4, fa5, fa6, .int .i64 fa7, .int .u64 fa8, .int .i64 fa9])    (hcx : cx.esc = []) :
    ∃ env', seqA Tryz.prog cx (callW Tryz.prog how) q0 (q0) env σ = some (env', (σ.push false (.cells [.int .u64 fa0, .int .i64 fa1, .int .i64 fa2, .int .u64 fa3, .bool fa4, fa5, fa6, .int .i64 fa7, .int .u64 fa8, .int .i64 fa9])).push false (.cells [.int .u64 0, .int .i64 0, .int .i64 0, .int .u64 0, .bool false, .nils, .nils, .int .i64 0, .int .u64 0, .int .i64 0])) ∧ env'.length = 15 ∧ (Env.get env' 1 = .ptr (.st σ.st.length) 0 ∧ Env.get env' 2 = .ptr (.st (σ.st.length + 1)) 0) ∧ (∀ i, i ∉ [1, 2] → Env.get env' i = Env.get env i) := by
  suffices h : ∀ r, seqA Tryz.prog cx (callW Tryz.prog how) q0 (q0) env σ = r → ∃ env', r = some (env', (σ.push false (.cells [.int .u64 fa0, .int .i64 fa1, .int .i64 fa2, .int .u64 fa3, .bool fa4, fa5, fa6, .int .i64 fa7, .int .u64 fa8, .int .i64 fa9])).push false (.cells [.int .u64 0, .int .i64 0, .int .i64 0, .int .u64 0, .bool false, .nils, .nils, .int .i64 0, .int .u64 0, .int .i64 0])) ∧ env'.length = 15 ∧ (Env.get env' 1 = .ptr (.st σ.st.length) 0 ∧ Env.get env' 2 = .ptr (.st (σ.st.length + 1)) 0) ∧ (∀ i, i ∉ [1, 2] → Env.get env' i = Env.get env i) from h _ rfl
  intro r hr
  simp -implicitDefEqProofs [ofV, ofCell, ofCells, seqA_nil, seqA_cons, seqVK_eq, seqEK_eq, wantedA, yieldedA, isVal, effA, ev, evs, evps, putE, optsA, optsOk, valA, fieldAddrA, fieldA, loadA, partA, aggA, isAggD, buildA, placesA, fillA, lay, storeA, AV.withCells, buildSliceA, elemsA, rowParts, fzL, promL, okE, isSrc, bytesOk, pushA, cxOf, lenA, binA, intBinA, strBinA, unA, indexAddrA, eqA, AVs.inb, AV.inb, Loc.inb, calleeA, opsOf, sub, bodyOf, Env.get_set, AS.get_push_at, AS.get_push_old, AS.push_len, AS.set_st_len, AS.next_st', AS.set_push_at, AS.get_set_self, AS.get_set_other, q0, Tryz.f33, hlen, hcx, f0] at hr
  subst hr
  refine ⟨_, rfl, by simp [hlen], by simp [Env.get_set, hlen, f0], fun i hi => ?_⟩
  simp only [List.mem_cons, List.not_mem_nil, or_false, not_or] at hi
  obtain ⟨x0, x1⟩ := hi
  simp [Env.get_set, hlen, Ne.symm x0, Ne.symm x1]
noncomputable def q1 : List Oper := opsOf (sub [.r, .l] (bodyOf Tryz.f33))
theorem cq1 : cr [.r, .l] = .region 1 q1.toArray true := by kernel_rfl
theorem n1 : quietN Tryz.prog 0 q1 = 12 := by kernel_rfl
theorem t1 : q1.drop 12 = [q1.getD 12 default] := by kernel_rfl
theorem r1q (cx : Cx) (env : Env) (σ : AS) (fa0 : Int) (fa1 : Int) (fa2 : Int) (fa3 : Int) (fa4 : Bool) (fa5 : AV) (fa6 : AV) (fa7 : Int) (fa8 : Int) (fa9 : Int) (i1 : Nat) (y9_0 : AV) (y9_1 : AV) (hlen : env.length = 15) (f1 : Env.get env 1 = .ptr (.st i1) 0) (g0 : σ.get (.st i1) = some (.cells [.int .u64 fa0, .int .i64 fa1, .int .i64 fa2, .int .u64 fa3, .bool fa4, fa5, fa6, .int .i64 fa7, .int .u64 fa8, .int .i64 fa9]))   (pfa5 : Plain fa5) (pfa6 : Plain fa6) (hc9 : callW Tryz.prog how 31 [.agg [.int .i64 fa2, .int .u64 fa3, .bool fa4, fa5, fa6]] σ (some σ.st.length) = some (.agg [.int .i64 fa2, .int .u64 fa3, .bool fa4, y9_0, y9_1], σ)) (py9_0 : Plain y9_0) (py9_1 : Plain y9_1) (hcx : cx.esc = []) :
    ∃ env', quietA Tryz.prog cx (callW Tryz.prog how) σ q1 (q1.take 12) env [] [] = some (env', [], []) ∧ env'.length = 15 ∧ (Env.get env' 14 = .agg [.int .u64 fa0, .int .i64 fa1, .int .i64 fa2, .int .u64 fa3, .bool fa4, y9_0, y9_1, .int .i64 fa7, .int .u64 fa8, .int .i64 fa9]) ∧ (∀ i, i ∉ [3, 4, 5, 6, 7, 8, 9, 10, 11, 12, 13, 14] → Env.get env' i = Env.get env i) := by
  suffices h : ∀ r, quietA Tryz.prog cx (callW Tryz.prog how) σ q1 (q1.take 12) env [] [] = r → ∃ env', r = some (env', [], []) ∧ env'.length = 15 ∧ (Env.get env' 14 = .agg [.int .u64 fa0, .int .i64 fa1, .int .i64 fa2, .int .u64 fa3, .bool fa4, y9_0, y9_1, .int .i64 fa7, .int .u64 fa8, .int .i64 fa9]) ∧ (∀ i, i ∉ [3, 4, 5, 6, 7, 8, 9, 10, 11, 12, 13, 14] → Env.get env' i = Env.get env i) from h _ rfl
  intro r hr
  simp -implicitDefEqProofs [quietA_nil, quietA_cons, quietK_none, quietK_some, qstep, newA, isNew, escNew, boxOk, newLoc, flat, rowPartsQ, ofV, ofCell, ofCells, seqA_nil, seqA_cons, seqVK_eq, seqEK_eq, wantedA, yieldedA, isVal, effA, ev, evs, evps, putE, optsA, optsOk, valA, fieldAddrA, fieldA, loadA, partA, aggA, isAggD, buildA, placesA, fillA, lay, storeA, AV.withCells, buildSliceA, elemsA, rowParts, fzL, promL, okE, isSrc, bytesOk, pushA, cxOf, lenA, binA, intBinA, strBinA, unA, indexAddrA, eqA, AVs.inb, AV.inb, Loc.inb, calleeA, opsOf, sub, bodyOf, Env.get_set, AS.get_push_at, AS.get_push_old, AS.push_len, AS.set_st_len, AS.next_st', AS.set_push_at, AS.get_set_self, AS.get_set_other, q1, Tryz.f33, hlen, hcx, f1, g0, pfa5.one, pfa5.inb, pfa5.row, pfa6.one, pfa6.inb, pfa6.row, hc9, py9_0.one, py9_0.inb, py9_0.row, py9_1.one, py9_1.inb, py9_1.row] at hr
  subst hr
  refine ⟨_, rfl, by simp [hlen], by simp [Env.get_set, hlen, f1, g0, pfa5.one, pfa5.inb, pfa5.row, pfa6.one, pfa6.inb, pfa6.row, hc9, py9_0.one, py9_0.inb, py9_0.row, py9_1.one, py9_1.inb, py9_1.row], fun i hi => ?_⟩
  simp only [List.mem_cons, List.not_mem_nil, or_false, not_or] at hi
  obtain ⟨x0, x1, x2, x3, x4, x5, x6, x7, x8, x9, x10, x11⟩ := hi
  simp [Env.get_set, hlen, Ne.symm x0, Ne.symm x1, Ne.symm x2, Ne.symm x3, Ne.symm x4, Ne.symm x5, Ne.symm x6, Ne.symm x7, Ne.symm x8, Ne.symm x9, Ne.symm x10, Ne.symm x11]
theorem r1t (cx : Cx) (env : Env) (σ : AS) (fa0 : Int) (fa1 : Int) (fa2 : Int) (fa3 : Int) (fa4 : Bool) (fa5 : AV) (fa6 : AV) (fa7 : Int) (fa8 : Int) (fa9 : Int) (i : Nat) (y9_0 : AV) (y9_1 : AV) (hlen : env.length = 15) (f2 : Env.get env 2 = .ptr (.st i) 0) (f14 : Env.get env 14 = .agg [.int .u64 fa0, .int .i64 fa1, .int .i64 fa2, .int .u64 fa3, .bool fa4, y9_0, y9_1, .int .i64 fa7, .int .u64 fa8, .int .i64 fa9]) (g0 : σ.get (.st i) = some (.cells [.int .u64 0, .int .i64 0, .int .i64 0, .int .u64 0, .bool false, .nils, .nils, .int .i64 0, .int .u64 0, .int .i64 0])) (w0 : wok cx.ro (.st i) = true) (h0 : cx.h ≤ i)  (pfa5 : Plain fa5) (pfa6 : Plain fa6) (py9_0 : Plain y9_0) (py9_1 : Plain y9_1) (hcx : cx.esc = []) :
    ∃ env', seqA Tryz.prog cx (callW Tryz.prog how) q1 (q1.drop 12) env σ = some (env', σ.set (.st i) (.cells [.int .u64 fa0, .int .i64 fa1, .int .i64 fa2, .int .u64 fa3, .bool fa4, y9_0, y9_1, .int .i64 fa7, .int .u64 fa8, .int .i64 fa9])) ∧ env'.length = 15 ∧ (True) ∧ (∀ i, i ∉ [] → Env.get env' i = Env.get env i) := by
  suffices h : ∀ r, seqA Tryz.prog cx (callW Tryz.prog how) q1 (q1.drop 12) env σ = r → ∃ env', r = some (env', σ.set (.st i) (.cells [.int .u64 fa0, .int .i64 fa1, .int .i64 fa2, .int .u64 fa3, .bool fa4, y9_0, y9_1, .int .i64 fa7, .int .u64 fa8, .int .i64 fa9])) ∧ env'.length = 15 ∧ (True) ∧ (∀ i, i ∉ [] → Env.get env' i = Env.get env i) from h _ rfl
  intro r hr
  simp -implicitDefEqProofs [ofV, ofCell, ofCells, seqA_nil, seqA_cons, seqVK_eq, seqEK_eq, wantedA, yieldedA, isVal, effA, ev, evs, evps, putE, optsA, optsOk, valA, fieldAddrA, fieldA, loadA, partA, aggA, isAggD, buildA, placesA, fillA, lay, storeA, AV.withCells, buildSliceA, elemsA, rowParts, fzL, promL, okE, isSrc, bytesOk, pushA, cxOf, lenA, binA, intBinA, strBinA, unA, indexAddrA, eqA, AVs.inb, AV.inb, Loc.inb, calleeA, opsOf, sub, bodyOf, Env.get_set, AS.get_push_at, AS.get_push_old, AS.push_len, AS.set_st_len, AS.next_st', AS.set_push_at, AS.get_set_self, AS.get_set_other, q1, Tryz.f33, hlen, hcx, f2, f14, g0, w0, h0, pfa5.one, pfa5.inb, pfa5.row, pfa6.one, pfa6.inb, pfa6.row, py9_0.one, py9_1.one] at hr
  subst hr
  refine ⟨_, rfl, by simp [hlen], by simp [Env.get_set, hlen, f2, f14, g0, w0, h0, pfa5.one, pfa5.inb, pfa5.row, pfa6.one, pfa6.inb, pfa6.row, py9_0.one, py9_1.one], fun i hi => ?_⟩
  
  
  simp [Env.get_set, hlen]
theorem body : Tryz.f33.body = some (((cr [.l])).seq ((cr [.r, .l]).seq .ret)) := by kernel_rfl
theorem ok (hh33 : how 33 = some (.body {})) (hh31 : how 31 = some (.body {})) (hp s : List AObj) (ro : Option Nat) (fa0 : Int) (fa1 : Int) (fa2 : Int) (fa3 : Int) (fa4 : Bool) (fa5 : AV) (fa6 : AV) (fa7 : Int) (fa8 : Int) (fa9 : Int) (hfa5 : isSl 2 isT177 fa5) (hfa6 : isSl 3 isT180 fa6) (hro : ∀ k, ro = some k → k ≤ s.length) :
    ∃ y9_0 y9_1, callW Tryz.prog how 33 [.agg [.int .u64 fa0, .int .i64 fa1, .int .i64 fa2, .int .u64 fa3, .bool fa4, fa5, fa6, .int .i64 fa7, .int .u64 fa8, .int .i64 fa9]] ⟨hp, s⟩ ro = some (.agg [.int .u64 fa0, .int .i64 fa1, .int .i64 fa2, .int .u64 fa3, .bool fa4, y9_0, y9_1, .int .i64 fa7, .int .u64 fa8, .int .i64 fa9], ⟨hp, s⟩) ∧ Plain y9_0 ∧ Plain y9_1 := by
  let cx : Cx := { h := s.length, ro := ro, esc := [] }
  have hcx : cx.esc = [] := rfl
  have hro' : ∀ k, cx.ro = some k → k ≤ cx.h := hro
  have pfa5 := hfa5.plain
  have pfa6 := hfa6.plain
  have henv : ∃ e, e = frameA Tryz.f33 [.agg [.int .u64 fa0, .int .i64 fa1, .int .i64 fa2, .int .u64 fa3, .bool fa4, fa5, fa6, .int .i64 fa7, .int .u64 fa8, .int .i64 fa9]] := ⟨_, rfl⟩
  obtain ⟨env0, henv⟩ := henv
  have hfl : env0.length = 15 := by rw [henv]; rfl
  have hf0 : Env.get env0 0 = .agg [.int .u64 fa0, .int .i64 fa1, .int .i64 fa2, .int .u64 fa3, .bool fa4, fa5, fa6, .int .i64 fa7, .int .u64 fa8, .int .i64 fa9] := by rw [henv]; rfl
  obtain ⟨env1, a1, a2, a3, a4⟩ := r0 (how := how) cx env0 ⟨hp, s⟩ fa0 fa1 fa2 fa3 fa4 fa5 fa6 fa7 fa8 fa9 hfl hf0 hcx
  have x0 := execW_plain (P := Tryz.prog) (tails := []) (id := 0) (ops := q0.toArray) a1
  rw [← cq0] at x0
  have w0 : ∃ σ1, σ1 = ((AS.mk hp s).push false (.cells [.int .u64 fa0, .int .i64 fa1, .int .i64 fa2, .int .u64 fa3, .bool fa4, fa5, fa6, .int .i64 fa7, .int .u64 fa8, .int .i64 fa9])).push false (.cells [.int .u64 0, .int .i64 0, .int .i64 0, .int .u64 0, .bool false, .nils, .nils, .int .i64 0, .int .u64 0, .int .i64 0]) := ⟨_, rfl⟩
  obtain ⟨σ1, w0⟩ := w0
  rw [← w0] at x0
  have l1 : σ1.st.length = s.length + 2 := by rw [w0, AS.push_len, AS.push_len]
  have g1 : σ1.get (.st s.length) = some (.cells [.int .u64 fa0, .int .i64 fa1, .int .i64 fa2, .int .u64 fa3, .bool fa4, fa5, fa6, .int .i64 fa7, .int .u64 fa8, .int .i64 fa9]) := by rw [w0]; exact get_push' (AS.get_push_at rfl)
  have g2 : σ1.get (.st (s.length + 1)) = some (.cells [.int .u64 0, .int .i64 0, .int .i64 0, .int .u64 0, .bool false, .nils, .nils, .int .i64 0, .int .u64 0, .int .i64 0]) := by rw [w0]; exact AS.get_push_at (by rw [AS.push_len])
  have o1 : Outside s.length ⟨hp, s⟩ σ1 := by rw [w0]; exact ((Outside.refl (Nat.le_refl _)).push).push
  clear w0
  have f1 : Env.get env1 1 = .ptr (.st s.length) 0 := a3.1
  have f2 : Env.get env1 2 = .ptr (.st (s.length + 1)) 0 := a3.2
  obtain ⟨y9_0, y9_1, hc9, py9_0, py9_1⟩ := f31_ok hh31 σ1.hp σ1.st (some σ1.st.length) fa2 fa3 fa4 fa5 fa6 hfa5 hfa6 (by intro k hk; cases hk; exact Nat.le_refl _)
  have hc9 : callW Tryz.prog how 31 [.agg [.int .i64 fa2, .int .u64 fa3, .bool fa4, fa5, fa6]] σ1 (some σ1.st.length) = some (.agg [.int .i64 fa2, .int .u64 fa3, .bool fa4, y9_0, y9_1], σ1) := hc9
  obtain ⟨env1q, b1q, b2q, b3q, b4q⟩ := r1q (how := how) cx env1 σ1 fa0 fa1 fa2 fa3 fa4 fa5 fa6 fa7 fa8 fa9 s.length y9_0 y9_1 a2 f1 g1 pfa5 pfa6 hc9 py9_0 py9_1 hcx
  have f2 := (b4q 2 (by decide)).trans f2
  have fv : Env.get env1q 14 = .agg [.int .u64 fa0, .int .i64 fa1, .int .i64 fa2, .int .u64 fa3, .bool fa4, y9_0, y9_1, .int .i64 fa7, .int .u64 fa8, .int .i64 fa9] := b3q
  obtain ⟨env2, b1, b2, b3, b4⟩ := r1t (how := how) cx env1q σ1 fa0 fa1 fa2 fa3 fa4 fa5 fa6 fa7 fa8 fa9 (s.length + 1) y9_0 y9_1 b2q f2 fv g2 (wokst hro' (Nat.le_add_right _ _)) (Nat.le_add_right _ _) pfa5 pfa6 py9_0 py9_1 hcx
  have x1 := execW_quiet (P := Tryz.prog) (tails := []) (id := 1) (ops := q1.toArray) (σ := σ1) (ns := []) (nh := []) rfl rfl (by rw [show tmode [] 1 = 0 from rfl, show quietN Tryz.prog 0 q1.toArray.toList = 12 from n1]; exact b1q) rfl (by rw [show tmode [] 1 = 0 from rfl, show quietN Tryz.prog 0 q1.toArray.toList = 12 from n1]; rw [same_eq]; exact b1)
  rw [← cq1] at x1
  have f2 := (b4 2 (by decide)).trans f2
  have oE := o1.set (ob := .cells [.int .u64 fa0, .int .i64 fa1, .int .i64 fa2, .int .u64 fa3, .bool fa4, y9_0, y9_1, .int .i64 fa7, .int .u64 fa8, .int .i64 fa9]) (L := .st (s.length + 1)) ⟨_, rfl, Nat.le_add_right _ _⟩
  have gE := get_set_at (ob' := .cells [.int .u64 fa0, .int .i64 fa1, .int .i64 fa2, .int .u64 fa3, .bool fa4, y9_0, y9_1, .int .i64 fa7, .int .u64 fa8, .int .i64 fa9]) g2
  generalize σ1.set (.st (s.length + 1)) (.cells [.int .u64 fa0, .int .i64 fa1, .int .i64 fa2, .int .u64 fa3, .bool fa4, y9_0, y9_1, .int .i64 fa7, .int .u64 fa8, .int .i64 fa9]) = σE at x1 gE oE
  refine ⟨y9_0, y9_1, callW_body hh33 Tryz.func33 body ?_, py9_0, py9_1⟩
  have run := (execW_seq_of x0 (execW_seq_of (b := .ret) x1 rfl))
  have e2 : finishA Tryz.prog {} Tryz.f33 s.length (some (.ret, (env2, σE))) = some (.agg [.int .u64 fa0, .int .i64 fa1, .int .i64 fa2, .int .u64 fa3, .bool fa4, y9_0, y9_1, .int .i64 fa7, .int .u64 fa8, .int .i64 fa9], ⟨hp, s⟩) := by
    obtain ⟨oq1, oq2, _⟩ := oE
    have q2' : List.take s.length σE.st = s := by rw [oq2]; exact List.take_length
    have q1' : σE.hp = hp := oq1
    simp -implicitDefEqProofs [finishA, resA, Tryz.f33, loadA, partA, aggA, isAggD, f2, gE, oneA, AV.back, AVs.back, AV.inb, AVs.inb, q1', q2', py9_0.inb, py9_0.back, py9_1.inb, py9_1.back, pfa5.inb, pfa5.back, pfa6.inb, pfa6.back]
  rw [← e2]
  rw [← henv]
  exact congrArg _ run
end F33
theorem f33_ok (hh33 : how 33 = some (.body {})) (hh31 : how 31 = some (.body {})) (hp s : List AObj) (ro : Option Nat) (fa0 : Int) (fa1 : Int) (fa2 : Int) (fa3 : Int) (fa4 : Bool) (fa5 : AV) (fa6 : AV) (fa7 : Int) (fa8 : Int) (fa9 : Int) (hfa5 : isSl 2 isT177 fa5) (hfa6 : isSl 3 isT180 fa6) (hro : ∀ k, ro = some k → k ≤ s.length) :
    ∃ y9_0 y9_1, callW Tryz.prog how 33 [.agg [.int .u64 fa0, .int .i64 fa1, .int .i64 fa2, .int .u64 fa3, .bool fa4, fa5, fa6, .int .i64 fa7, .int .u64 fa8, .int .i64 fa9]] ⟨hp, s⟩ ro = some (.agg [.int .u64 fa0, .int .i64 fa1, .int .i64 fa2, .int .u64 fa3, .bool fa4, y9_0, y9_1, .int .i64 fa7, .int .u64 fa8, .int .i64 fa9], ⟨hp, s⟩) ∧ Plain y9_0 ∧ Plain y9_1 := F33.ok hh33 hh31 hp s ro fa0 fa1 fa2 fa3 fa4 fa5 fa6 fa7 fa8 fa9 hfa5 hfa6 hro
