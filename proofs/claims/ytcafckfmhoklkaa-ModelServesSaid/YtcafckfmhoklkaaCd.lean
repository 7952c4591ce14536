/- A transaction as the document's; clones. -/

import Derived.Test.YtcafckfmhoklkaaCc
open Go Go.Abs Go.Proofs
set_option maxRecDepth 100000
set_option maxHeartbeats 4000000
set_option linter.unusedSimpArgs false
set_option linter.unusedVariables false

namespace F16
noncomputable def cr (p : List Dir) : Code := sub p (bodyOf Try.f16)

section
attribute [local simp] ofV ofCell ofCells seqA_nil seqA_cons seqVK_eq seqEK_eq wantedA yieldedA isVal effA ev evs evps putE optsA optsOk valA fieldAddrA fieldA loadA partA aggA isAggD buildA placesA fillA lay storeA AV.withCells buildSliceA elemsA rowParts fzL promL okE isSrc bytesOk pushA cxOf lenA binA intBinA strBinA unA indexAddrA eqA AVs.inb AV.inb Loc.inb calleeA opsOf sub bodyOf Env.get_set quietA_nil quietA_cons quietK_none quietK_some qstep newA isNew escNew boxOk newLoc flat rowPartsQ quietN quietOp isBS List.takeWhile finishA_eq finK_ret finK_normal retK backK resA oneA AV.back AVs.back execW_seq_eq seqK_normal seqK_ret seqK_exit execW_cond_eq condK_true condK_false execW_block_eq blockK_exit blockK_normal blockK_ret execW_region_eq regK_eq execW_skip execW_exit execW_ret regionA_plain regionA_quiet0 tailK_eq nilCheckA guardOk isConst lookupA keyFits mapUpdateA beqI bneI
theorem rA (cx : Cx) (env : Env) (σ : AS) (cl sq : Int) (pl : Bool) (X Y : AV) (hp s : List AObj) (hlen : env.length = 52) (hcx : cx.esc = []) (f0 : Env.get env 0 = .agg [.int .i64 cl, .int .u64 sq, .bool pl, X, Y]) (hσ : σ = ⟨hp, s⟩) (hX : Plain X) (hY : Plain Y) (hw : wok cx.ro (.st s.length) = true) (hw2 : wok cx.ro (.st (s.length + 1)) = true) (hh : cx.h ≤ s.length) (hh2 : cx.h ≤ s.length + 1) :
    Pc Try.prog how cx [] 52 [1, 2] (cr [.l]) env σ (.normal) (AS.mk hp (s ++ [.cells [.int .i64 cl, .int .u64 sq, .bool pl, X, Y], .cells [.int .i64 0, .int .u64 0, .bool false, .nils, .nils]])) (fun env' => Env.get env' 1 = .ptr (.st s.length) 0 ∧ Env.get env' 2 = .ptr (.st (s.length + 1)) 0) := by
  refine pc_of fun res hr => ?_
  simp -implicitDefEqProofs [-lenA, -indexAddrA, -loadA, AS.get_push_at, AS.get_push_old, AS.push_len, AS.set_st_len, AS.next_st', AS.set_push_at, AS.get_set_self, AS.get_set_other, cr, Try.f16, hlen, hcx, f0, hσ, hX.one, hX.inb, hX.row, hY.one, hY.inb, hY.row, hw, hw2, hh, hh2] at hr
  subst hr
  refine ⟨_, rfl, by simp [hlen], by simp [Env.get_set, hlen, f0, hσ, hX.one, hX.inb, hX.row, hY.one, hY.inb, hY.row, hw, hw2, hh, hh2], fun i hi => ?_⟩
  simp only [List.mem_cons, List.not_mem_nil, or_false, not_or] at hi
  simp only [get_set2, hi, false_and, if_false]

theorem rB (cx : Cx) (env : Env) (σ : AS) (a : Nat) (cl sq : Int) (pl : Bool) (X Y : AV) (hlen : env.length = 52) (hcx : cx.esc = []) (f1 : Env.get env 1 = .ptr (.st a) 0) (g1 : σ.get (.st a) = some (.cells [.int .i64 cl, .int .u64 sq, .bool pl, X, Y])) (hw : wok cx.ro (.st σ.st.length) = true) (hh : cx.h ≤ σ.st.length) :
    Pc Try.prog how cx [] 52 [3, 8, 9, 10, 11, 12] (cr [.r, .l]) env σ (.normal) (σ.push false (.cells [.int .i64 cl, .int .u64 sq, .bool pl, .nils, .nils])) (fun env' => Env.get env' 3 = .ptr (.st σ.st.length) 0) := by
  refine pc_of fun res hr => ?_
  simp -implicitDefEqProofs [AS.get_push_at, AS.get_push_old, AS.push_len, AS.set_st_len, AS.next_st', AS.set_push_at, AS.get_set_self, AS.get_set_other, cr, Try.f16, hlen, hcx, f1, g1, hw, hh] at hr
  subst hr
  refine ⟨_, rfl, by simp [hlen], by simp [Env.get_set, hlen, f1, g1, hw, hh], fun i hi => ?_⟩
  simp only [List.mem_cons, List.not_mem_nil, or_false, not_or] at hi
  simp only [get_set2, hi, false_and, if_false]

theorem rH1 (cx : Cx) (env : Env) (σ : AS) (a n : Nat) (cl sq : Int) (pl : Bool) (X Y : AV) (hlen : env.length = 52) (hcx : cx.esc = []) (f1 : Env.get env 1 = .ptr (.st a) 0) (g1 : σ.get (.st a) = some (.cells [.int .i64 cl, .int .u64 sq, .bool pl, X, Y])) (hl : lenA Try.prog σ 33 X = some n) (hX : Plain X) (hY : Plain Y) :
    Pc Try.prog how cx [] 52 [13, 14, 15, 16] (cr [.r, .r, .l, .l]) env σ (.normal) (σ) (fun env' => Env.get env' 14 = X ∧ Env.get env' 15 = .int .i64 (n : Int) ∧ Env.get env' 16 = .int .i64 0) := by
  refine pc_of fun res hr => ?_
  simp -implicitDefEqProofs [-lenA, AS.get_push_at, AS.get_push_old, AS.push_len, AS.set_st_len, AS.next_st', AS.set_push_at, AS.get_set_self, AS.get_set_other, cr, Try.f16, hlen, hcx, f1, g1, hl, hX.one, hX.inb, hX.row, hY.one, hY.inb, hY.row] at hr
  subst hr
  refine ⟨_, rfl, by simp [hlen], by simp [Env.get_set, hlen, f1, g1, hl, hX.one, hX.inb, hX.row, hY.one, hY.inb, hY.row], fun i hi => ?_⟩
  simp only [List.mem_cons, List.not_mem_nil, or_false, not_or] at hi
  simp only [get_set2, hi, false_and, if_false]

theorem rE1 (cx : Cx) (env : Env) (σ : AS) (k : Nat) (Z p : AV) (key : ByteArray) (num : Int) (hlen : env.length = 52) (hcx : cx.esc = []) (f14 : Env.get env 14 = Z) (f16 : Env.get env 16 = .int .i64 (k : Int)) (hia : indexAddrA Try.prog σ 33 Z (.int .i64 (k : Int)) = some p) (hpa : loadA Try.prog σ 84 p = some (.agg [.str key, .int .u64 num])) (hw : wok cx.ro (.st σ.st.length) = true) (hh : cx.h ≤ σ.st.length) :
    Pc Try.prog how cx [] 52 [5, 18, 19] (cr [.r, .r, .l, .r, .i, .i, .r, .r, .l, .i, .l]) env σ (.normal) (σ.push false (.cells [.str key, .int .u64 num])) (fun env' => Env.get env' 5 = .ptr (.st σ.st.length) 0) := by
  refine pc_of fun res hr => ?_
  simp -implicitDefEqProofs [-lenA, -indexAddrA, -loadA, AS.get_push_at, AS.get_push_old, AS.push_len, AS.set_st_len, AS.next_st', AS.set_push_at, AS.get_set_self, AS.get_set_other, cr, Try.f16, hlen, hcx, f14, f16, hia, hpa, hw, hh] at hr
  subst hr
  refine ⟨_, rfl, by simp [hlen], by simp [Env.get_set, hlen, f14, f16, hia, hpa, hw, hh], fun i hi => ?_⟩
  simp only [List.mem_cons, List.not_mem_nil, or_false, not_or] at hi
  simp only [get_set2, hi, false_and, if_false]

theorem rP1 (cx : Cx) (env : Env) (σ : AS) (c e : Nat) (cl sq : Int) (pl : Bool) (Q R R' : AV) (key : ByteArray) (num : Int) (σ' : AS) (hlen : env.length = 52) (hcx : cx.esc = []) (f3 : Env.get env 3 = .ptr (.st c) 0) (f5 : Env.get env 5 = .ptr (.st e) 0) (g3 : σ.get (.st c) = some (.cells [.int .i64 cl, .int .u64 sq, .bool pl, R, .nils])) (g5 : σ.get (.st e) = some (.cells [.str key, .int .u64 num])) (h1 : R.one = true) (h2 : R'.one = true) (h2c : R'.cells = [R']) (hq : Q.one = true) (hap : appendA Try.prog cx (σ.push false (.row [.agg [.str key, .int .u64 num]] 2 0 false)) [29, 29] R (.row (.st σ.st.length) 0 0 1) = some (R', σ')) (g3b : σ'.get (.st c) = some (.cells [.int .i64 cl, .int .u64 sq, .bool pl, R, .nils])) (hw : wok cx.ro (.st c) = true) (hh : cx.h ≤ c) :
    Pc Try.prog how cx [] 52 [20, 21, 22, 23, 24, 25, 26, 27, 28, 29] (cr [.r, .r, .l, .r, .i, .i, .r, .r, .l, .i, .r]) env σ (.normal) (σ'.set (.st c) (.cells [.int .i64 cl, .int .u64 sq, .bool pl, R', .nils])) (fun _ => True) := by
  refine pc_of fun res hr => ?_
  simp -implicitDefEqProofs [-lenA, -indexAddrA, AS.get_push_at, AS.get_push_old, AS.push_len, AS.set_st_len, AS.next_st', AS.set_push_at, AS.get_set_self, AS.get_set_other, cr, Try.f16, hlen, hcx, f3, f5, g3, g5, h1, h2, h2c, hq, hap, g3b, hw, hh, elemA] at hr
  subst hr
  refine ⟨_, rfl, by simp [hlen], by simp [Env.get_set, hlen, f3, f5, g3, g5, h1, h2, h2c, hq, hap, g3b, hw, hh, elemA], fun i hi => ?_⟩
  simp only [List.mem_cons, List.not_mem_nil, or_false, not_or] at hi
  simp only [get_set2, hi, false_and, if_false]

theorem rH2 (cx : Cx) (env : Env) (σ : AS) (a n : Nat) (cl sq : Int) (pl : Bool) (X Y : AV) (hlen : env.length = 52) (hcx : cx.esc = []) (f1 : Env.get env 1 = .ptr (.st a) 0) (g1 : σ.get (.st a) = some (.cells [.int .i64 cl, .int .u64 sq, .bool pl, X, Y])) (hl : lenA Try.prog σ 34 Y = some n) (hX : Plain X) (hY : Plain Y) :
    Pc Try.prog how cx [] 52 [31, 32, 33, 34] (cr [.r, .r, .r, .l, .l]) env σ (.normal) (σ) (fun env' => Env.get env' 32 = Y ∧ Env.get env' 33 = .int .i64 (n : Int) ∧ Env.get env' 34 = .int .i64 0) := by
  refine pc_of fun res hr => ?_
  simp -implicitDefEqProofs [-lenA, AS.get_push_at, AS.get_push_old, AS.push_len, AS.set_st_len, AS.next_st', AS.set_push_at, AS.get_set_self, AS.get_set_other, cr, Try.f16, hlen, hcx, f1, g1, hl, hX.one, hX.inb, hX.row, hY.one, hY.inb, hY.row] at hr
  subst hr
  refine ⟨_, rfl, by simp [hlen], by simp [Env.get_set, hlen, f1, g1, hl, hX.one, hX.inb, hX.row, hY.one, hY.inb, hY.row], fun i hi => ?_⟩
  simp only [List.mem_cons, List.not_mem_nil, or_false, not_or] at hi
  simp only [get_set2, hi, false_and, if_false]

theorem rE2 (cx : Cx) (env : Env) (σ : AS) (k : Nat) (Z p : AV) (key : ByteArray) (val : ByteArray) (gone : Bool) (hlen : env.length = 52) (hcx : cx.esc = []) (f32 : Env.get env 32 = Z) (f34 : Env.get env 34 = .int .i64 (k : Int)) (hia : indexAddrA Try.prog σ 34 Z (.int .i64 (k : Int)) = some p) (hpa : loadA Try.prog σ 85 p = some (.agg [.str key, .str val, .bool gone])) (hw : wok cx.ro (.st σ.st.length) = true) (hh : cx.h ≤ σ.st.length) :
    Pc Try.prog how cx [] 52 [7, 36, 37] (cr [.r, .r, .r, .l, .r, .i, .i, .r, .r, .l, .i, .l]) env σ (.normal) (σ.push false (.cells [.str key, .str val, .bool gone])) (fun env' => Env.get env' 7 = .ptr (.st σ.st.length) 0) := by
  refine pc_of fun res hr => ?_
  simp -implicitDefEqProofs [-lenA, -indexAddrA, -loadA, AS.get_push_at, AS.get_push_old, AS.push_len, AS.set_st_len, AS.next_st', AS.set_push_at, AS.get_set_self, AS.get_set_other, cr, Try.f16, hlen, hcx, f32, f34, hia, hpa, hw, hh] at hr
  subst hr
  refine ⟨_, rfl, by simp [hlen], by simp [Env.get_set, hlen, f32, f34, hia, hpa, hw, hh], fun i hi => ?_⟩
  simp only [List.mem_cons, List.not_mem_nil, or_false, not_or] at hi
  simp only [get_set2, hi, false_and, if_false]

theorem rP2 (cx : Cx) (env : Env) (σ : AS) (c e : Nat) (cl sq : Int) (pl : Bool) (Q R R' : AV) (key : ByteArray) (val : ByteArray) (gone : Bool) (σ' : AS) (hlen : env.length = 52) (hcx : cx.esc = []) (f3 : Env.get env 3 = .ptr (.st c) 0) (f7 : Env.get env 7 = .ptr (.st e) 0) (g3 : σ.get (.st c) = some (.cells [.int .i64 cl, .int .u64 sq, .bool pl, Q, R])) (g5 : σ.get (.st e) = some (.cells [.str key, .str val, .bool gone])) (h1 : R.one = true) (h2 : R'.one = true) (h2c : R'.cells = [R']) (hq : Q.one = true) (hap : appendA Try.prog cx (σ.push false (.row [.agg [.str key, .str val, .bool gone]] 3 0 false)) [30, 30] R (.row (.st σ.st.length) 0 0 1) = some (R', σ')) (g3b : σ'.get (.st c) = some (.cells [.int .i64 cl, .int .u64 sq, .bool pl, Q, R])) (hw : wok cx.ro (.st c) = true) (hh : cx.h ≤ c) :
    Pc Try.prog how cx [] 52 [38, 39, 40, 41, 42, 43, 44, 45, 46, 47, 48, 49] (cr [.r, .r, .r, .l, .r, .i, .i, .r, .r, .l, .i, .r]) env σ (.normal) (σ'.set (.st c) (.cells [.int .i64 cl, .int .u64 sq, .bool pl, Q, R'])) (fun _ => True) := by
  refine pc_of fun res hr => ?_
  simp -implicitDefEqProofs [-lenA, -indexAddrA, AS.get_push_at, AS.get_push_old, AS.push_len, AS.set_st_len, AS.next_st', AS.set_push_at, AS.get_set_self, AS.get_set_other, cr, Try.f16, hlen, hcx, f3, f7, g3, g5, h1, h2, h2c, hq, hap, g3b, hw, hh, elemA] at hr
  subst hr
  refine ⟨_, rfl, by simp [hlen], by simp [Env.get_set, hlen, f3, f7, g3, g5, h1, h2, h2c, hq, hap, g3b, hw, hh, elemA], fun i hi => ?_⟩
  simp only [List.mem_cons, List.not_mem_nil, or_false, not_or] at hi
  simp only [get_set2, hi, false_and, if_false]

end
/-- What holds ahead of round k. -/
def J1 (h : Nat) (σ0 : AS) (a b c : Nat) (cl sq : Int) (pl : Bool) (X Y : AV) (Q : AV) (rs : List RdI) (ws : List WrI) (k : Nat) (env : Env) (σ : AS) : Prop :=
  Env.get env 1 = .ptr (.st a) 0 ∧ Env.get env 2 = .ptr (.st b) 0 ∧ Env.get env 3 = .ptr (.st c) 0 ∧ Env.get env 14 = X ∧ (σ.get (.st a) = some (.cells [.int .i64 cl, .int .u64 sq, .bool pl, X, Y])) ∧ (σ.get (.st b) = some (.cells [.int .i64 0, .int .u64 0, .bool false, .nils, .nils])) ∧ (∃ R, σ.get (.st c) = some (.cells [.int .i64 cl, .int .u64 sq, .bool pl, R, .nils]) ∧ Rows h σ [(2, R, (rs.take (k)).map encRd)]) ∧ Outside h σ0 σ
def Ex1 (h : Nat) (σ0 : AS) (a b c : Nat) (cl sq : Int) (pl : Bool) (X Y : AV) (Q : AV) (rs : List RdI) (ws : List WrI) (e : AExit) (env : Env) (σ : AS) : Prop := False
theorem J1_stable {h : Nat} {σ0 : AS} {a b c : Nat} {cl sq : Int} {pl : Bool} {X Y : AV} {Q : AV} {rs : List RdI} {ws : List WrI} : ∀ k env env' σ, env.length = 52 → env'.length = 52 → (∀ i, i ≠ 17 → i ≠ 30 → i ≠ 16 → Env.get env' i = Env.get env i) → J1 h σ0 a b c cl sq pl X Y Q rs ws k env σ → J1 h σ0 a b c cl sq pl X Y Q rs ws k env' σ := by
  rintro k env env' σ _ _ hf ⟨j1, j2, j3, j14, q0, q1, q2, ho⟩
  exact ⟨(hf 1 (by decide) (by decide) (by decide)).trans j1, (hf 2 (by decide) (by decide) (by decide)).trans j2, (hf 3 (by decide) (by decide) (by decide)).trans j3, (hf 14 (by decide) (by decide) (by decide)).trans j14, q0, q1, q2, ho⟩
noncomputable def oT1 : Oper := (opsOf (cr [.r, .r, .l, .r, .i, .i, .l])).headD default
noncomputable def oI1 : List Oper := opsOf (cr [.r, .r, .l, .r, .i, .i, .r, .r, .r])
theorem loop_eq1 : (cr [.r, .r, .l, .r]) = .block 0 (.loop (.seq (.region 3 #[oT1] false) (.seq (.cond (.tmp 17) .skip (.exit 0)) (.seq (.block 1 (.seq (cr [.r, .r, .l, .r, .i, .i, .r, .r, .l, .i, .l]) (cr [.r, .r, .l, .r, .i, .i, .r, .r, .l, .i, .r]))) (.region 6 #[oI1.headD default, (oI1.drop 1).headD default] false))))) := by kernel_rfl
theorem step1 (cx : Cx) (hcx : cx.esc = []) (hro : ∀ k, cx.ro = some k → k ≤ cx.h) (σ0 : AS) (a b c : Nat) (cl sq : Int) (pl : Bool) (X Y : AV) (Q : AV) (rs : List RdI) (ws : List WrI) (hac : a < c) (hbc : b < c) (hh : cx.h ≤ c) (hS : SlOf 2 X (rs.map encRd)) (hq : Q.one = true) (hrl : rs.length ≤ 900) :
    ∀ k env σ, k < rs.length → env.length = 52 → Env.get env 16 = .int .i64 (k : Int) → Env.get env 15 = .int .i64 ((rs.length : Nat) : Int) → J1 cx.h σ0 a b c cl sq pl X Y Q rs ws k env σ → ∃ e env' σ', execW Try.prog cx [] (callW Try.prog how) (.block 1 (.seq (cr [.r, .r, .l, .r, .i, .i, .r, .r, .l, .i, .l]) (cr [.r, .r, .l, .r, .i, .i, .r, .r, .l, .i, .r]))) (env, σ) = some (e, (env', σ')) ∧
      ((e = .normal ∧ env'.length = 52 ∧ Env.get env' 16 = .int .i64 (k : Int) ∧ Env.get env' 15 = .int .i64 ((rs.length : Nat) : Int) ∧ J1 cx.h σ0 a b c cl sq pl X Y Q rs ws (k + 1) env' σ') ∨ (e ≠ .normal ∧ Ex1 cx.h σ0 a b c cl sq pl X Y Q rs ws e env' σ')) := by
  rintro k env σ hk hlen f16 f15 ⟨f1, f2, f3, f14, q0, q1, q2, ho⟩
  obtain ⟨R, g3, hR⟩ := q2
  obtain ⟨p, hia, hpa⟩ := (rd33 (σ := σ) hS).2 k (encRd rs[k]) (get_el hk)
  obtain ⟨env1, x1a, x1b, x1c, x1d⟩ := rE1 cx env σ k X p (rs[k].1) (rs[k].2) hlen hcx f14 f16 hia hpa (wokst hro ho.2.2) ho.2.2
  have f1 := (x1d 1 (by decide)).trans f1
  have f2 := (x1d 2 (by decide)).trans f2
  have f3 := (x1d 3 (by decide)).trans f3
  have f14 := (x1d 14 (by decide)).trans f14
  have f15 := (x1d 15 (by decide)).trans f15
  have f16 := (x1d 16 (by decide)).trans f16
  have f5 := x1c
  have g1 : ((σ : AS).push false (.cells [.str rs[k].1, .int .u64 rs[k].2])).get (.st (σ : AS).st.length) = some (.cells [.str rs[k].1, .int .u64 rs[k].2]) := AS.get_push_at rfl
  have q0 := get_push' (ob' := .cells [.str rs[k].1, .int .u64 rs[k].2]) q0
  have q1 := get_push' (ob' := .cells [.str rs[k].1, .int .u64 rs[k].2]) q1
  have g3 := get_push' (ob' := .cells [.str rs[k].1, .int .u64 rs[k].2]) g3
  have hR := hR.push (ob := .cells [.str rs[k].1, .int .u64 rs[k].2])
  have ho := ho.push (ob := .cells [.str rs[k].1, .int .u64 rs[k].2])
  generalize hib1 : (σ : AS).st.length = ib1 at g1 f5
  generalize (σ : AS).push false (.cells [.str rs[k].1, .int .u64 rs[k].2]) = σ1 at x1a g1 q0 q1 g3 hR ho
  have hw : wok cx.ro (.st c) = true := wokst hro hh
  obtain ⟨R2, τ2, y2a, y2b, y2c, y2d, y2e⟩ := append_one (cx := cx) (x := encRd rs[k]) (j := 0) app29 hR rfl (by rw [List.length_map, List.length_take]; omega) (by decide) hro ho.2.2
  have hRo : R.one = true := (hR.1 _ (List.mem_of_getElem? (i := 0) rfl)).one
  obtain ⟨env2, x2a, x2b, x2c, x2d⟩ := rP1 cx env1 σ1 c _ cl sq pl Q R R2 (rs[k].1) (rs[k].2) τ2 x1b hcx f3 f5 g3 g1 hRo y2b (one_cells y2b) hq y2a (y2d _ _ g3) hw hh 
  have f1 := (x2d 1 (by decide)).trans f1
  have f2 := (x2d 2 (by decide)).trans f2
  have f3 := (x2d 3 (by decide)).trans f3
  have f5 := (x2d 5 (by decide)).trans f5
  have f14 := (x2d 14 (by decide)).trans f14
  have f15 := (x2d 15 (by decide)).trans f15
  have f16 := (x2d 16 (by decide)).trans f16
  have q0 := get_set' (ob' := .cells [.int .i64 cl, .int .u64 sq, .bool pl, R2, .nils]) (y2d _ _ q0) (Nat.ne_of_lt hac)
  have q1 := get_set' (ob' := .cells [.int .i64 cl, .int .u64 sq, .bool pl, R2, .nils]) (y2d _ _ q1) (Nat.ne_of_lt hbc)
  have g3n := get_set_at (ob' := .cells [.int .i64 cl, .int .u64 sq, .bool pl, R2, .nils]) (y2d _ _ g3)
  have hRn := y2c.setc (ob := .cells [.int .i64 cl, .int .u64 sq, .bool pl, R2, .nils]) (y2d _ _ g3)
  have hon := (y2e _ ho).set (ob := .cells [.int .i64 cl, .int .u64 sq, .bool pl, R2, .nils]) (L := .st c) ⟨c, rfl, hh⟩
  exact ⟨.normal, env2, _, (execW_block_of (execW_seq_of x1a x2a)), .inl ⟨rfl, x2b, f16, f15, f1, f2, f3, f14, q0, q1, ⟨R2, g3n, by rw [List.take_succ_eq_append_getElem hk, List.map_append]; exact hRn⟩, hon⟩⟩
theorem loop1 (cx : Cx) (hcx : cx.esc = []) (hro : ∀ k, cx.ro = some k → k ≤ cx.h) (σ0 : AS) (a b c : Nat) (cl sq : Int) (pl : Bool) (X Y : AV) (Q : AV) (rs : List RdI) (ws : List WrI) (hac : a < c) (hbc : b < c) (hh : cx.h ≤ c) (hS : SlOf 2 X (rs.map encRd)) (hq : Q.one = true) (hrl : rs.length ≤ 900) (hnn : rs.length ≤ 9223372036854775807) {env : Env} {σ : AS} (hl : env.length = 52) (h1 : Env.get env 16 = .int .i64 0) (h2 : Env.get env 15 = .int .i64 ((rs.length : Nat) : Int)) (h0 : J1 cx.h σ0 a b c cl sq pl X Y Q rs ws 0 env σ) :
    ∃ e env' σ', execW Try.prog cx [] (callW Try.prog how) (cr [.r, .r, .l, .r]) (env, σ) = some (e, (env', σ')) ∧ ((e = .normal ∧ ((env'.length = 52 ∧ J1 cx.h σ0 a b c cl sq pl X Y Q rs ws (rs.length) env' σ') ∨ Ex1 cx.h σ0 a b c cl sq pl X Y Q rs ws (.exit 0) env' σ')) ∨ (e ≠ .normal ∧ e ≠ .exit 0 ∧ Ex1 cx.h σ0 a b c cl sq pl X Y Q rs ws e env' σ')) := by
  rw [loop_eq1]
  exact range_std (Ex := Ex1 cx.h σ0 a b c cl sq pl X Y Q rs ws) (N := 52) (tc := 17) (ti := 16) (tl := 15) (tx := 30) (ty1 := 3) (ty2 := 3) (ty3 := 3) (ty4 := 3) ⟨by kernel_rfl, by kernel_rfl, by kernel_rfl⟩ ⟨by kernel_rfl, by kernel_rfl, by kernel_rfl⟩ ⟨by kernel_rfl, by kernel_rfl, by kernel_rfl⟩ (by decide) hnn J1_stable (step1 cx hcx hro σ0 a b c cl sq pl X Y Q rs ws hac hbc hh hS hq hrl) hl h1 h2 h0
/-- What holds ahead of round k. -/
def J2 (h : Nat) (σ0 : AS) (a b c : Nat) (cl sq : Int) (pl : Bool) (X Y : AV) (Q : AV) (rs : List RdI) (ws : List WrI) (k : Nat) (env : Env) (σ : AS) : Prop :=
  Env.get env 1 = .ptr (.st a) 0 ∧ Env.get env 2 = .ptr (.st b) 0 ∧ Env.get env 3 = .ptr (.st c) 0 ∧ Env.get env 32 = Y ∧ (σ.get (.st a) = some (.cells [.int .i64 cl, .int .u64 sq, .bool pl, X, Y])) ∧ (σ.get (.st b) = some (.cells [.int .i64 0, .int .u64 0, .bool false, .nils, .nils])) ∧ (∃ R, σ.get (.st c) = some (.cells [.int .i64 cl, .int .u64 sq, .bool pl, Q, R]) ∧ Rows h σ [(2, Q, rs.map encRd), (3, R, (ws.take (k)).map encWr)]) ∧ Outside h σ0 σ
def Ex2 (h : Nat) (σ0 : AS) (a b c : Nat) (cl sq : Int) (pl : Bool) (X Y : AV) (Q : AV) (rs : List RdI) (ws : List WrI) (e : AExit) (env : Env) (σ : AS) : Prop := False
theorem J2_stable {h : Nat} {σ0 : AS} {a b c : Nat} {cl sq : Int} {pl : Bool} {X Y : AV} {Q : AV} {rs : List RdI} {ws : List WrI} : ∀ k env env' σ, env.length = 52 → env'.length = 52 → (∀ i, i ≠ 35 → i ≠ 50 → i ≠ 34 → Env.get env' i = Env.get env i) → J2 h σ0 a b c cl sq pl X Y Q rs ws k env σ → J2 h σ0 a b c cl sq pl X Y Q rs ws k env' σ := by
  rintro k env env' σ _ _ hf ⟨j1, j2, j3, j32, q0, q1, q2, ho⟩
  exact ⟨(hf 1 (by decide) (by decide) (by decide)).trans j1, (hf 2 (by decide) (by decide) (by decide)).trans j2, (hf 3 (by decide) (by decide) (by decide)).trans j3, (hf 32 (by decide) (by decide) (by decide)).trans j32, q0, q1, q2, ho⟩
noncomputable def oT2 : Oper := (opsOf (cr [.r, .r, .r, .l, .r, .i, .i, .l])).headD default
noncomputable def oI2 : List Oper := opsOf (cr [.r, .r, .r, .l, .r, .i, .i, .r, .r, .r])
theorem loop_eq2 : (cr [.r, .r, .r, .l, .r]) = .block 2 (.loop (.seq (.region 8 #[oT2] false) (.seq (.cond (.tmp 35) .skip (.exit 2)) (.seq (.block 3 (.seq (cr [.r, .r, .r, .l, .r, .i, .i, .r, .r, .l, .i, .l]) (cr [.r, .r, .r, .l, .r, .i, .i, .r, .r, .l, .i, .r]))) (.region 11 #[oI2.headD default, (oI2.drop 1).headD default] false))))) := by kernel_rfl
theorem step2 (cx : Cx) (hcx : cx.esc = []) (hro : ∀ k, cx.ro = some k → k ≤ cx.h) (σ0 : AS) (a b c : Nat) (cl sq : Int) (pl : Bool) (X Y : AV) (Q : AV) (rs : List RdI) (ws : List WrI) (hac : a < c) (hbc : b < c) (hh : cx.h ≤ c) (hS : SlOf 3 Y (ws.map encWr)) (hq : Q.one = true) (hwl : ws.length ≤ 900) :
    ∀ k env σ, k < ws.length → env.length = 52 → Env.get env 34 = .int .i64 (k : Int) → Env.get env 33 = .int .i64 ((ws.length : Nat) : Int) → J2 cx.h σ0 a b c cl sq pl X Y Q rs ws k env σ → ∃ e env' σ', execW Try.prog cx [] (callW Try.prog how) (.block 3 (.seq (cr [.r, .r, .r, .l, .r, .i, .i, .r, .r, .l, .i, .l]) (cr [.r, .r, .r, .l, .r, .i, .i, .r, .r, .l, .i, .r]))) (env, σ) = some (e, (env', σ')) ∧
      ((e = .normal ∧ env'.length = 52 ∧ Env.get env' 34 = .int .i64 (k : Int) ∧ Env.get env' 33 = .int .i64 ((ws.length : Nat) : Int) ∧ J2 cx.h σ0 a b c cl sq pl X Y Q rs ws (k + 1) env' σ') ∨ (e ≠ .normal ∧ Ex2 cx.h σ0 a b c cl sq pl X Y Q rs ws e env' σ')) := by
  rintro k env σ hk hlen f34 f33 ⟨f1, f2, f3, f32, q0, q1, q2, ho⟩
  obtain ⟨R, g3, hR⟩ := q2
  obtain ⟨p, hia, hpa⟩ := (rd34 (σ := σ) hS).2 k (encWr ws[k]) (get_el hk)
  obtain ⟨env1, x1a, x1b, x1c, x1d⟩ := rE2 cx env σ k Y p (ws[k].1) (ws[k].2.1) (ws[k].2.2) hlen hcx f32 f34 hia hpa (wokst hro ho.2.2) ho.2.2
  have f1 := (x1d 1 (by decide)).trans f1
  have f2 := (x1d 2 (by decide)).trans f2
  have f3 := (x1d 3 (by decide)).trans f3
  have f32 := (x1d 32 (by decide)).trans f32
  have f33 := (x1d 33 (by decide)).trans f33
  have f34 := (x1d 34 (by decide)).trans f34
  have f7 := x1c
  have g1 : ((σ : AS).push false (.cells [.str ws[k].1, .str ws[k].2.1, .bool ws[k].2.2])).get (.st (σ : AS).st.length) = some (.cells [.str ws[k].1, .str ws[k].2.1, .bool ws[k].2.2]) := AS.get_push_at rfl
  have q0 := get_push' (ob' := .cells [.str ws[k].1, .str ws[k].2.1, .bool ws[k].2.2]) q0
  have q1 := get_push' (ob' := .cells [.str ws[k].1, .str ws[k].2.1, .bool ws[k].2.2]) q1
  have g3 := get_push' (ob' := .cells [.str ws[k].1, .str ws[k].2.1, .bool ws[k].2.2]) g3
  have hR := hR.push (ob := .cells [.str ws[k].1, .str ws[k].2.1, .bool ws[k].2.2])
  have ho := ho.push (ob := .cells [.str ws[k].1, .str ws[k].2.1, .bool ws[k].2.2])
  generalize hib1 : (σ : AS).st.length = ib1 at g1 f7
  generalize (σ : AS).push false (.cells [.str ws[k].1, .str ws[k].2.1, .bool ws[k].2.2]) = σ1 at x1a g1 q0 q1 g3 hR ho
  have hw : wok cx.ro (.st c) = true := wokst hro hh
  obtain ⟨R2, τ2, y2a, y2b, y2c, y2d, y2e⟩ := append_one (cx := cx) (x := encWr ws[k]) (j := 1) app30 hR rfl (by rw [List.length_map, List.length_take]; omega) (by decide) hro ho.2.2
  have hRo : R.one = true := (hR.1 _ (List.mem_of_getElem? (i := 1) rfl)).one
  obtain ⟨env2, x2a, x2b, x2c, x2d⟩ := rP2 cx env1 σ1 c _ cl sq pl Q R R2 (ws[k].1) (ws[k].2.1) (ws[k].2.2) τ2 x1b hcx f3 f7 g3 g1 hRo y2b (one_cells y2b) hq y2a (y2d _ _ g3) hw hh 
  have f1 := (x2d 1 (by decide)).trans f1
  have f2 := (x2d 2 (by decide)).trans f2
  have f3 := (x2d 3 (by decide)).trans f3
  have f7 := (x2d 7 (by decide)).trans f7
  have f32 := (x2d 32 (by decide)).trans f32
  have f33 := (x2d 33 (by decide)).trans f33
  have f34 := (x2d 34 (by decide)).trans f34
  have q0 := get_set' (ob' := .cells [.int .i64 cl, .int .u64 sq, .bool pl, Q, R2]) (y2d _ _ q0) (Nat.ne_of_lt hac)
  have q1 := get_set' (ob' := .cells [.int .i64 cl, .int .u64 sq, .bool pl, Q, R2]) (y2d _ _ q1) (Nat.ne_of_lt hbc)
  have g3n := get_set_at (ob' := .cells [.int .i64 cl, .int .u64 sq, .bool pl, Q, R2]) (y2d _ _ g3)
  have hRn := y2c.setc (ob := .cells [.int .i64 cl, .int .u64 sq, .bool pl, Q, R2]) (y2d _ _ g3)
  have hon := (y2e _ ho).set (ob := .cells [.int .i64 cl, .int .u64 sq, .bool pl, Q, R2]) (L := .st c) ⟨c, rfl, hh⟩
  exact ⟨.normal, env2, _, (execW_block_of (execW_seq_of x1a x2a)), .inl ⟨rfl, x2b, f34, f33, f1, f2, f3, f32, q0, q1, ⟨R2, g3n, by rw [List.take_succ_eq_append_getElem hk, List.map_append]; exact hRn⟩, hon⟩⟩
theorem loop2 (cx : Cx) (hcx : cx.esc = []) (hro : ∀ k, cx.ro = some k → k ≤ cx.h) (σ0 : AS) (a b c : Nat) (cl sq : Int) (pl : Bool) (X Y : AV) (Q : AV) (rs : List RdI) (ws : List WrI) (hac : a < c) (hbc : b < c) (hh : cx.h ≤ c) (hS : SlOf 3 Y (ws.map encWr)) (hq : Q.one = true) (hwl : ws.length ≤ 900) (hnn : ws.length ≤ 9223372036854775807) {env : Env} {σ : AS} (hl : env.length = 52) (h1 : Env.get env 34 = .int .i64 0) (h2 : Env.get env 33 = .int .i64 ((ws.length : Nat) : Int)) (h0 : J2 cx.h σ0 a b c cl sq pl X Y Q rs ws 0 env σ) :
    ∃ e env' σ', execW Try.prog cx [] (callW Try.prog how) (cr [.r, .r, .r, .l, .r]) (env, σ) = some (e, (env', σ')) ∧ ((e = .normal ∧ ((env'.length = 52 ∧ J2 cx.h σ0 a b c cl sq pl X Y Q rs ws (ws.length) env' σ') ∨ Ex2 cx.h σ0 a b c cl sq pl X Y Q rs ws (.exit 2) env' σ')) ∨ (e ≠ .normal ∧ e ≠ .exit 2 ∧ Ex2 cx.h σ0 a b c cl sq pl X Y Q rs ws e env' σ')) := by
  rw [loop_eq2]
  exact range_std (Ex := Ex2 cx.h σ0 a b c cl sq pl X Y Q rs ws) (N := 52) (tc := 35) (ti := 34) (tl := 33) (tx := 50) (ty1 := 3) (ty2 := 3) (ty3 := 3) (ty4 := 3) ⟨by kernel_rfl, by kernel_rfl, by kernel_rfl⟩ ⟨by kernel_rfl, by kernel_rfl, by kernel_rfl⟩ ⟨by kernel_rfl, by kernel_rfl, by kernel_rfl⟩ (by decide) hnn J2_stable (step2 cx hcx hro σ0 a b c cl sq pl X Y Q rs ws hac hbc hh hS hq hwl) hl h1 h2 h0
section
attribute [local simp] ofV ofCell ofCells seqA_nil seqA_cons seqVK_eq seqEK_eq wantedA yieldedA isVal effA ev evs evps putE optsA optsOk valA fieldAddrA fieldA loadA partA aggA isAggD buildA placesA fillA lay storeA AV.withCells buildSliceA elemsA rowParts fzL promL okE isSrc bytesOk pushA cxOf lenA binA intBinA strBinA unA indexAddrA eqA AVs.inb AV.inb Loc.inb calleeA opsOf sub bodyOf Env.get_set quietA_nil quietA_cons quietK_none quietK_some qstep newA isNew escNew boxOk newLoc flat rowPartsQ quietN quietOp isBS List.takeWhile finishA_eq finK_ret finK_normal retK backK resA oneA AV.back AVs.back execW_seq_eq seqK_normal seqK_ret seqK_exit execW_cond_eq condK_true condK_false execW_block_eq blockK_exit blockK_normal blockK_ret execW_region_eq regK_eq execW_skip execW_exit execW_ret regionA_plain regionA_quiet0 tailK_eq nilCheckA guardOk isConst lookupA keyFits mapUpdateA beqI bneI
theorem rZ (cx : Cx) (env : Env) (σ : AS) (b c : Nat) (cl sq : Int) (pl : Bool) (Q R : AV) (hlen : env.length = 52) (hcx : cx.esc = []) (f2 : Env.get env 2 = .ptr (.st b) 0) (f3 : Env.get env 3 = .ptr (.st c) 0) (g3 : σ.get (.st c) = some (.cells [.int .i64 cl, .int .u64 sq, .bool pl, Q, R])) (g2 : σ.get (.st b) = some (.cells [.int .i64 0, .int .u64 0, .bool false, .nils, .nils])) (hq : Q.one = true) (hq2 : R.one = true) (hw : wok cx.ro (.st b) = true) (hh : cx.h ≤ b) :
    Pc Try.prog how cx [] 52 [51] (cr [.r, .r, .r, .r, .l]) env σ (.normal) (σ.set (.st b) (.cells [.int .i64 cl, .int .u64 sq, .bool pl, Q, R])) (fun _ => True) := by
  refine pc_of fun res hr => ?_
  simp -implicitDefEqProofs [-lenA, -indexAddrA, AS.get_push_at, AS.get_push_old, AS.push_len, AS.set_st_len, AS.next_st', AS.set_push_at, AS.get_set_self, AS.get_set_other, cr, Try.f16, hlen, hcx, f2, f3, g3, g2, hq, hq2, hw, hh] at hr
  subst hr
  refine ⟨_, rfl, by simp [hlen], by simp [Env.get_set, hlen, f2, f3, g3, g2, hq, hq2, hw, hh], fun i hi => ?_⟩
  simp only [List.mem_cons, List.not_mem_nil, or_false, not_or] at hi
  simp only [get_set2, hi, false_and, if_false]

end
noncomputable def bodyC : Code := (.seq (cr [.l]) (.seq (cr [.r, .l]) (.seq (.seq (cr [.r, .r, .l, .l]) (cr [.r, .r, .l, .r])) (.seq (.seq (cr [.r, .r, .r, .l, .l]) (cr [.r, .r, .r, .l, .r])) (.seq (cr [.r, .r, .r, .r, .l]) .ret)))))
theorem body : Try.f16.body = some bodyC := by kernel_rfl
theorem ok (hp s : List AObj) (ro : Option Nat) (cl sq : Int) (pl : Bool) (X Y : AV) (rs : List RdI) (ws : List WrI) (hro' : ∀ k, ro = some k → k ≤ s.length) (hX : SlOf 2 X (rs.map encRd)) (hY : SlOf 3 Y (ws.map encWr)) (hn1 : rs.length ≤ 900) (hn2 : ws.length ≤ 900) :
    callW Try.prog how 16 [.agg [.int .i64 cl, .int .u64 sq, .bool pl, X, Y]] ⟨hp, s⟩ ro = some (.agg [.int .i64 cl, .int .u64 sq, .bool pl, slV 2 (rs.map encRd), slV 3 (ws.map encWr)], ⟨hp, s⟩) := by
  let cx : Cx := { h := s.length, ro := ro, esc := [] }
  have hcx : cx.esc = [] := rfl
  have hro : ∀ k, cx.ro = some k → k ≤ cx.h := hro'
  obtain ⟨env, henv⟩ : ∃ e, e = frameA Try.f16 [.agg [.int .i64 cl, .int .u64 sq, .bool pl, X, Y]] := ⟨_, rfl⟩
  have hlen : env.length = 52 := by rw [henv]; rfl
  have f0 : Env.get env 0 = .agg [.int .i64 cl, .int .u64 sq, .bool pl, X, Y] := by rw [henv]; rfl
  have ho : Outside s.length (AS.mk hp s) (AS.mk hp s) := Outside.refl (Nat.le_refl _)
  obtain ⟨env1, x1a, x1b, x1c, x1d⟩ := rA cx env (AS.mk hp s) cl sq pl X Y hp s hlen hcx f0 rfl hX.plain hY.plain (wokst hro (Nat.le_refl _)) (wokst hro (Nat.le_succ _)) (Nat.le_refl _) (Nat.le_succ _) 
  have f0 := (x1d 0 (by decide)).trans f0
  have f1 := x1c.1
  have f2 := x1c.2
  have ga : (AS.mk hp (s ++ [AObj.cells [.int .i64 cl, .int .u64 sq, .bool pl, X, Y], AObj.cells [.int .i64 0, .int .u64 0, .bool false, .nils, .nils]])).get (.st s.length) = some (.cells [.int .i64 cl, .int .u64 sq, .bool pl, X, Y]) := by simp [AS.get]
  have gb : (AS.mk hp (s ++ [AObj.cells [.int .i64 cl, .int .u64 sq, .bool pl, X, Y], AObj.cells [.int .i64 0, .int .u64 0, .bool false, .nils, .nils]])).get (.st (s.length + 1)) = some (.cells [.int .i64 0, .int .u64 0, .bool false, .nils, .nils]) := by simp [AS.get]
  have ho : Outside s.length (AS.mk hp s) (AS.mk hp (s ++ [AObj.cells [.int .i64 cl, .int .u64 sq, .bool pl, X, Y], AObj.cells [.int .i64 0, .int .u64 0, .bool false, .nils, .nils]])) := ⟨rfl, by simp, by simp⟩
  have hlt1 : s.length < (AS.mk hp (s ++ [AObj.cells [.int .i64 cl, .int .u64 sq, .bool pl, X, Y], AObj.cells [.int .i64 0, .int .u64 0, .bool false, .nils, .nils]])).st.length := by simp
  have hlt2 : s.length + 1 < (AS.mk hp (s ++ [AObj.cells [.int .i64 cl, .int .u64 sq, .bool pl, X, Y], AObj.cells [.int .i64 0, .int .u64 0, .bool false, .nils, .nils]])).st.length := by simp
  obtain ⟨env2, x2a, x2b, x2c, x2d⟩ := rB cx env1 (AS.mk hp (s ++ [AObj.cells [.int .i64 cl, .int .u64 sq, .bool pl, X, Y], AObj.cells [.int .i64 0, .int .u64 0, .bool false, .nils, .nils]])) s.length cl sq pl X Y x1b hcx f1 ga (wokst hro ho.2.2) ho.2.2
  have f0 := (x2d 0 (by decide)).trans f0
  have f1 := (x2d 1 (by decide)).trans f1
  have f2 := (x2d 2 (by decide)).trans f2
  have f3 := x2c
  have g2 : ((AS.mk hp (s ++ [AObj.cells [.int .i64 cl, .int .u64 sq, .bool pl, X, Y], AObj.cells [.int .i64 0, .int .u64 0, .bool false, .nils, .nils]]) : AS).push false (.cells [.int .i64 cl, .int .u64 sq, .bool pl, .nils, .nils])).get (.st (AS.mk hp (s ++ [AObj.cells [.int .i64 cl, .int .u64 sq, .bool pl, X, Y], AObj.cells [.int .i64 0, .int .u64 0, .bool false, .nils, .nils]]) : AS).st.length) = some (.cells [.int .i64 cl, .int .u64 sq, .bool pl, .nils, .nils]) := AS.get_push_at rfl
  have ga := get_push' (ob' := .cells [.int .i64 cl, .int .u64 sq, .bool pl, .nils, .nils]) ga
  have gb := get_push' (ob' := .cells [.int .i64 cl, .int .u64 sq, .bool pl, .nils, .nils]) gb
  have ho := ho.push (ob := .cells [.int .i64 cl, .int .u64 sq, .bool pl, .nils, .nils])
  generalize hib2 : (AS.mk hp (s ++ [AObj.cells [.int .i64 cl, .int .u64 sq, .bool pl, X, Y], AObj.cells [.int .i64 0, .int .u64 0, .bool false, .nils, .nils]]) : AS).st.length = ib2 at g2 f3
  generalize (AS.mk hp (s ++ [AObj.cells [.int .i64 cl, .int .u64 sq, .bool pl, X, Y], AObj.cells [.int .i64 0, .int .u64 0, .bool false, .nils, .nils]]) : AS).push false (.cells [.int .i64 cl, .int .u64 sq, .bool pl, .nils, .nils]) = σ2 at x2a g2 ga gb ho
  rw [hib2] at hlt1 hlt2
  have hl_1 := (rd33 (σ := σ2) hX).1
  rw [List.length_map] at hl_1
  obtain ⟨env3, x3a, x3b, x3c, x3d⟩ := rH1 cx env2 σ2 s.length rs.length cl sq pl X Y x2b hcx f1 ga hl_1 hX.plain hY.plain 
  have f0 := (x3d 0 (by decide)).trans f0
  have f1 := (x3d 1 (by decide)).trans f1
  have f2 := (x3d 2 (by decide)).trans f2
  have f3 := (x3d 3 (by decide)).trans f3
  have f14 := x3c.1
  have f15 := x3c.2.1
  have f16 := x3c.2.2
  have hh2 : cx.h ≤ ib2 := by have := hlt1; show s.length ≤ _; omega
  obtain ⟨e4, env4, σ4, x4a, x4p⟩ := loop1 cx hcx hro ⟨hp, s⟩ s.length (s.length + 1) ib2 cl sq pl X Y .nils rs ws hlt1 hlt2 hh2 hX rfl hn1 (by omega) (σ := σ2) x3b f16 f15 (⟨f1, f2, f3, f14, ga, gb, ⟨.nils, g2, Rows0N⟩, ho⟩)
  rcases x4p with ⟨rfl, ⟨x4b, f1, f2, f3, f14, q0, q1, q2, ho⟩ | x4p⟩ | ⟨x4q, x4r, x4p⟩
  · skip
    obtain ⟨R1, g3, hR⟩ := q2
    have hR1o : R1.one = true := (hR.1 _ (List.mem_of_getElem? (i := 0) rfl)).one
    have hl_2 := (rd34 (σ := σ4) hY).1
    rw [List.length_map] at hl_2
    obtain ⟨env5, x5a, x5b, x5c, x5d⟩ := rH2 cx env4 σ4 s.length ws.length cl sq pl X Y x4b hcx f1 q0 hl_2 hX.plain hY.plain 
    have f1 := (x5d 1 (by decide)).trans f1
    have f2 := (x5d 2 (by decide)).trans f2
    have f3 := (x5d 3 (by decide)).trans f3
    have f14 := (x5d 14 (by decide)).trans f14
    have f32 := x5c.1
    have f33 := x5c.2.1
    have f34 := x5c.2.2
    obtain ⟨e6, env6, σ6, x6a, x6p⟩ := loop2 cx hcx hro ⟨hp, s⟩ s.length (s.length + 1) ib2 cl sq pl X Y R1 rs ws hlt1 hlt2 hh2 hY hR1o hn2 (by omega) (σ := σ4) x5b f34 f33 (⟨f1, f2, f3, f32, q0, q1, ⟨.nils, g3, Rows1N hR (List.take_of_length_le (Nat.le_refl _))⟩, ho⟩)
    rcases x6p with ⟨rfl, ⟨x6b, f1, f2, f3, f32, q0, q1, q2, ho⟩ | x6p⟩ | ⟨x6q, x6r, x6p⟩
    · skip
      obtain ⟨R2, g3, hR⟩ := q2
      have hB1 : Built cx.h σ6 2 R1 (rs.map encRd) := hR.1 _ (List.mem_of_getElem? (i := 0) rfl)
      have hB2 : Built cx.h σ6 3 R2 _ := hR.1 _ (List.mem_of_getElem? (i := 1) rfl)
      rw [List.take_of_length_le (Nat.le_refl _)] at hB2
      obtain ⟨env7, x7a, x7b, x7c, x7d⟩ := rZ cx env6 σ6 ((s.length + 1)) ib2 cl sq pl R1 R2 x6b hcx f2 f3 g3 q1 hB1.one hB2.one (wokst hro (Nat.le_succ _)) (Nat.le_succ _) 
      have f1 := (x7d 1 (by decide)).trans f1
      have f2 := (x7d 2 (by decide)).trans f2
      have f3 := (x7d 3 (by decide)).trans f3
      have f32 := (x7d 32 (by decide)).trans f32
      have g4 := get_set_at (ob' := (.cells [.int .i64 cl, .int .u64 sq, .bool pl, R1, R2])) q1
      have ho := ho.set (ob := (.cells [.int .i64 cl, .int .u64 sq, .bool pl, R1, R2])) (L := .st (s.length + 1)) ⟨s.length + 1, rfl, Nat.le_succ _⟩
      have hbk : (AV.agg [.int .i64 cl, .int .u64 sq, .bool pl, R1, R2]).back s.length (σ6.set (.st (s.length + 1)) (.cells [.int .i64 cl, .int .u64 sq, .bool pl, R1, R2])) = some (.agg [.int .i64 cl, .int .u64 sq, .bool pl, slV 2 (rs.map encRd), slV 3 (ws.map encWr)]) := by
        have b1 := (Built.setc hB1 q1 (.cells [.int .i64 cl, .int .u64 sq, .bool pl, R1, R2])).back
        have b2 := (Built.setc hB2 q1 (.cells [.int .i64 cl, .int .u64 sq, .bool pl, R1, R2])).back
        have b1 : AV.back s.length _ R1 = some _ := b1
        have b2 : AV.back s.length _ R2 = some _ := b2
        simp [AV.back, AVs.back, b1, b2]
      have hin : (.agg [.int .i64 cl, .int .u64 sq, .bool pl, slV 2 (rs.map encRd), slV 3 (ws.map encWr)] : AV).inb s.length = true := by simp [AV.inb, AVs.inb, slV_inb]
      have hre : resA Try.prog (σ6.set (.st (s.length + 1)) (.cells [.int .i64 cl, .int .u64 sq, .bool pl, R1, R2])) env7 Try.f16.results.toList = some [.agg [.int .i64 cl, .int .u64 sq, .bool pl, R1, R2]] := by
        have hrs : Try.f16.results.toList = [.cell 2 52] := by kernel_rfl
        rw [hrs]; simp [resA, f2, loadA, g4, partA, aggA, isAggD]
      exact call_of (fl := {}) (fn := Try.f16) (c := bodyC) (env := env) (e := (.ret, (env7, σ6.set (.st (s.length + 1)) (.cells [.int .i64 cl, .int .u64 sq, .bool pl, R1, R2])))) rfl Try.func16 body henv (by unfold bodyC; exact (execW_seq_of x1a (execW_seq_of x2a (execW_seq_of (execW_seq_of x3a x4a) (execW_seq_of (execW_seq_of x5a x6a) (execW_seq_of x7a (by rfl))))))) ((fin_one (.inl rfl) rfl hre hbk hin).trans (congrArg (fun x => some (_, x)) (outside_st ho)))
    · exact x6p.elim
    · exact x6p.elim
  · exact x4p.elim
  · exact x4p.elim
end F16

section
attribute [local simp] ofV ofCell ofCells seqA_nil seqA_cons seqVK_eq seqEK_eq wantedA yieldedA isVal effA ev evs evps putE optsA optsOk valA fieldAddrA fieldA loadA partA aggA isAggD buildA placesA fillA lay storeA AV.withCells buildSliceA elemsA rowParts fzL promL okE isSrc bytesOk pushA cxOf lenA binA intBinA strBinA unA indexAddrA eqA AVs.inb AV.inb Loc.inb calleeA opsOf sub bodyOf Env.get_set quietA_nil quietA_cons quietK_none quietK_some qstep newA isNew escNew boxOk newLoc flat rowPartsQ quietN quietOp isBS List.takeWhile finishA_eq finK_ret finK_normal retK backK resA oneA AV.back AVs.back execW_seq_eq seqK_normal seqK_ret seqK_exit execW_cond_eq condK_true condK_false execW_block_eq blockK_exit blockK_normal blockK_ret execW_region_eq regK_eq execW_skip execW_exit execW_ret regionA_plain regionA_quiet0 tailK_eq nilCheckA guardOk isConst lookupA keyFits mapUpdateA beqI bneI
theorem f26_ok (hp s : List AObj) (ro : Option Nat) (l : List AV) (hro : ∀ k, ro = some k → k ≤ s.length) (hl : l.length ≤ 900) :
    callW Try.prog how 26 [slV 2 l] ⟨hp, s⟩ ro = some (slV 2 l, ⟨hp, s⟩) := by
  refine callW_body (fl := {}) (fn := Try.f26) (c := bodyOf Try.f26) rfl Try.func26 rfl ?_
  have henv : ∃ e, e = frameA Try.f26 [slV 2 l] := ⟨_, rfl⟩
  obtain ⟨env, henv⟩ := henv
  have hlen : env.length = 8 := by rw [henv]; rfl
  have h0 : Env.get env 0 = slV 2 l := by rw [henv]; rfl
  rw [← henv]
  clear henv
  cases l with
  | nil =>
    have h0 : Env.get env 0 = .nils := h0
    show _ = some (AV.nils, _)
    simp -implicitDefEqProofs [Try.f26, hlen, h0, wok_le hro, wok_le' hro]
  | cons x l =>
    have h0 : Env.get env 0 = .sl false 2 (x :: l) := h0
    show _ = some (AV.sl false 2 (x :: l), _)
    have hb : bytesA Try.prog 84 = some 24 := by kernel_rfl
    have hk : (l.length + 1) * 24 ≤ 17592186044416 ∧ l.length ≤ 17592186044415 := by simp only [List.length_cons] at hl; omega
    simp -implicitDefEqProofs [Try.f26, hlen, h0, wok_le hro, wok_le' hro, appendA, elemA, hb, hk.1, hk.2]
theorem f27_ok (hp s : List AObj) (ro : Option Nat) (l : List AV) (hro : ∀ k, ro = some k → k ≤ s.length) (hl : l.length ≤ 900) :
    callW Try.prog how 27 [slV 3 l] ⟨hp, s⟩ ro = some (slV 3 l, ⟨hp, s⟩) := by
  refine callW_body (fl := {}) (fn := Try.f27) (c := bodyOf Try.f27) rfl Try.func27 rfl ?_
  have henv : ∃ e, e = frameA Try.f27 [slV 3 l] := ⟨_, rfl⟩
  obtain ⟨env, henv⟩ := henv
  have hlen : env.length = 8 := by rw [henv]; rfl
  have h0 : Env.get env 0 = slV 3 l := by rw [henv]; rfl
  rw [← henv]
  clear henv
  cases l with
  | nil =>
    have h0 : Env.get env 0 = .nils := h0
    show _ = some (AV.nils, _)
    simp -implicitDefEqProofs [Try.f27, hlen, h0, wok_le hro, wok_le' hro]
  | cons x l =>
    have h0 : Env.get env 0 = .sl false 3 (x :: l) := h0
    show _ = some (AV.sl false 3 (x :: l), _)
    have hb : bytesA Try.prog 85 = some 40 := by kernel_rfl
    have hk : (l.length + 1) * 40 ≤ 17592186044416 ∧ l.length ≤ 17592186044415 := by simp only [List.length_cons] at hl; omega
    simp -implicitDefEqProofs [Try.f27, hlen, h0, wok_le hro, wok_le' hro, appendA, elemA, hb, hk.1, hk.2]
end