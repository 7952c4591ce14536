/- Whether both maps have the same of six keys. -/

import Derived.Test.YtcafckfmhoklkaaCv
open Go Go.Abs Go.Proofs
set_option maxRecDepth 100000
set_option maxHeartbeats 4000000
set_option linter.unusedSimpArgs false
set_option linter.unusedVariables false

def likeKeys : List ByteArray := ["a".toUTF8, "b".toUTF8, "c".toUTF8, "d".toUTF8, "e".toUTF8, "g".toUTF8]
namespace F12
noncomputable def cr (p : List Dir) : Code := sub p (bodyOf Try.f12)

section
attribute [local simp] ofV ofCell ofCells seqA_nil seqA_cons seqVK_eq seqEK_eq wantedA yieldedA isVal effA ev evs evps putE optsA optsOk valA fieldAddrA fieldA loadA partA aggA isAggD buildA placesA fillA lay storeA AV.withCells buildSliceA elemsA rowParts fzL promL okE isSrc bytesOk pushA cxOf lenA binA intBinA strBinA unA indexAddrA eqA AVs.inb AV.inb Loc.inb calleeA opsOf sub bodyOf Env.get_set quietA_nil quietA_cons quietK_none quietK_some qstep newA isNew escNew boxOk newLoc flat rowPartsQ quietN quietOp isBS List.takeWhile finishA_eq finK_ret finK_normal retK backK resA oneA AV.back AVs.back execW_seq_eq seqK_normal seqK_ret seqK_exit execW_cond_eq condK_true condK_false execW_block_eq blockK_exit blockK_normal blockK_ret execW_region_eq regK_eq execW_skip execW_exit execW_ret regionA_plain regionA_quiet0 tailK_eq nilCheckA guardOk isConst lookupA keyFits mapUpdateA beqI bneI
theorem rA (cx : Cx) (env : Env) (σ : AS)  (hlen : env.length = 44) (hcx : cx.esc = [])  :
    Pc Try.prog how cx [] 44 [4] (cr [.l]) env σ (.normal) (σ) (fun env' => Env.get env' 4 = .bool false) := by
  refine pc_of fun res hr => ?_
  simp -implicitDefEqProofs [-lenA, -indexAddrA, -loadA, AS.get_push_at, AS.get_push_old, AS.push_len, AS.set_st_len, AS.next_st', AS.set_push_at, AS.get_set_self, AS.get_set_other, cr, Try.f12, hlen, hcx] at hr
  subst hr
  refine ⟨_, rfl, by simp [hlen], by simp [Env.get_set, hlen], fun i hi => ?_⟩
  simp only [List.mem_cons, List.not_mem_nil, or_false, not_or] at hi
  simp only [get_set2, hi, false_and, if_false]

theorem rB (cx : Cx) (env : Env) (σ : AS)  (hlen : env.length = 44) (hcx : cx.esc = [])  (hw : wok cx.ro (.st σ.st.length) = true) (hh : cx.h ≤ σ.st.length) :
    Pc Try.prog how cx [] 44 [11, 12, 13] (cr [.r, .l, .l]) env σ (.normal) (σ.push false (.row [.str ⟨#[97]⟩, .str ⟨#[98]⟩, .str ⟨#[99]⟩, .str ⟨#[100]⟩, .str ⟨#[101]⟩, .str ⟨#[103]⟩] 1 0 false)) (fun env' => Env.get env' 11 = .row (.st σ.st.length) 0 0 6 ∧ Env.get env' 12 = .int .i64 6 ∧ Env.get env' 13 = .int .i64 0) := by
  refine pc_of fun res hr => ?_
  simp -implicitDefEqProofs [AS.get_push_at, AS.get_push_old, AS.push_len, AS.set_st_len, AS.next_st', AS.set_push_at, AS.get_set_self, AS.get_set_other, cr, Try.f12, hlen, hcx, hw, hh, elemA] at hr
  subst hr
  refine ⟨_, rfl, by simp [hlen], by simp [Env.get_set, hlen, hw, hh, elemA], fun i hi => ?_⟩
  simp only [List.mem_cons, List.not_mem_nil, or_false, not_or] at hi
  simp only [get_set2, hi, false_and, if_false]

theorem rE (cx : Cx) (env : Env) (σ : AS) (k : Nat) (Z p : AV) (key : ByteArray) (hlen : env.length = 44) (hcx : cx.esc = []) (f11 : Env.get env 11 = Z) (f13 : Env.get env 13 = .int .i64 (k : Int)) (hia : indexAddrA Try.prog σ 81 Z (.int .i64 (k : Int)) = some p) (hpa : loadA Try.prog σ 9 p = some (.str key)) :
    Pc Try.prog how cx [] 44 [6, 15, 16] (cr [.r, .l, .r, .i, .i, .r, .r, .l, .i, .l]) env σ (.normal) (σ) (fun env' => Env.get env' 6 = .str key) := by
  refine pc_of fun res hr => ?_
  simp -implicitDefEqProofs [-lenA, -indexAddrA, -loadA, AS.get_push_at, AS.get_push_old, AS.push_len, AS.set_st_len, AS.next_st', AS.set_push_at, AS.get_set_self, AS.get_set_other, cr, Try.f12, hlen, hcx, f11, f13, hia, hpa] at hr
  subst hr
  refine ⟨_, rfl, by simp [hlen], by simp [Env.get_set, hlen, f11, f13, hia, hpa], fun i hi => ?_⟩
  simp only [List.mem_cons, List.not_mem_nil, or_false, not_or] at hi
  simp only [get_set2, hi, false_and, if_false]

theorem rG (cx : Cx) (env : Env) (σ : AS) (a : Nat) (key : ByteArray) (v : Vl) (hlen : env.length = 44) (hcx : cx.esc = []) (f0 : Env.get env 0 = .ptr (.hp a) 0) (f6 : Env.get env 6 = .str key) (h25 : callW Try.prog how 25 [.ptr (.hp a) 0, .str key] σ cx.ro = some (.tup [.str v.2.1, .int .u64 v.1, .bool v.2.2], σ)) :
    Pc Try.prog how cx [] 44 [7, 8, 9, 17, 18, 19, 20, 21, 22, 23] (cr [.r, .l, .r, .i, .i, .r, .r, .l, .i, .r, .l]) env σ (.normal) (σ) (fun env' => Env.get env' 7 = .str v.2.1 ∧ Env.get env' 8 = .int .u64 v.1 ∧ Env.get env' 9 = .bool v.2.2) := by
  refine pc_of fun res hr => ?_
  simp -implicitDefEqProofs [-lenA, -indexAddrA, -loadA, AS.get_push_at, AS.get_push_old, AS.push_len, AS.set_st_len, AS.next_st', AS.set_push_at, AS.get_set_self, AS.get_set_other, cr, Try.f12, hlen, hcx, f0, f6, h25] at hr
  subst hr
  refine ⟨_, rfl, by simp [hlen], by simp [Env.get_set, hlen, f0, f6, h25], fun i hi => ?_⟩
  simp only [List.mem_cons, List.not_mem_nil, or_false, not_or] at hi
  simp only [get_set2, hi, false_and, if_false]

theorem rH (cx : Cx) (env : Env) (σ : AS) (b : Nat) (key : ByteArray) (v : Vl) (hlen : env.length = 44) (hcx : cx.esc = []) (f1 : Env.get env 1 = .ptr (.hp b) 0) (f6 : Env.get env 6 = .str key) (h7 : callW Try.prog how 7 [.ptr (.hp b) 0, .str key] σ cx.ro = some (.agg [.str key, .int .u64 v.1, .str v.2.1, .bool v.2.2], σ)) (hw : wok cx.ro (.st σ.st.length) = true) (hh : cx.h ≤ σ.st.length) :
    Pc Try.prog how cx [] 44 [10, 24, 25, 26] (cr [.r, .l, .r, .i, .i, .r, .r, .l, .i, .r, .r, .l]) env σ (.normal) (σ.push false (.cells [.str key, .int .u64 v.1, .str v.2.1, .bool v.2.2])) (fun env' => Env.get env' 10 = .ptr (.st σ.st.length) 0) := by
  refine pc_of fun res hr => ?_
  simp -implicitDefEqProofs [-lenA, -indexAddrA, -loadA, AS.get_push_at, AS.get_push_old, AS.push_len, AS.set_st_len, AS.next_st', AS.set_push_at, AS.get_set_self, AS.get_set_other, cr, Try.f12, hlen, hcx, f1, f6, h7, hw, hh] at hr
  subst hr
  refine ⟨_, rfl, by simp [hlen], by simp [Env.get_set, hlen, f1, f6, h7, hw, hh], fun i hi => ?_⟩
  simp only [List.mem_cons, List.not_mem_nil, or_false, not_or] at hi
  simp only [get_set2, hi, false_and, if_false]

theorem rI (cx : Cx) (env : Env) (σ : AS) (c : Nat) (key : ByteArray) (v : Vl) (hlen : env.length = 44) (hcx : cx.esc = []) (f7 : Env.get env 7 = .str v.2.1) (f8 : Env.get env 8 = .int .u64 v.1) (f9 : Env.get env 9 = .bool v.2.2) (f10 : Env.get env 10 = .ptr (.st c) 0) (gc : σ.get (.st c) = some (.cells [.str key, .int .u64 v.1, .str v.2.1, .bool v.2.2])) (hb : beqS v.2.1 v.2.1 = true) :
    Pc Try.prog how cx [] 44 [27, 28, 29, 30, 31, 32, 33, 34, 35, 36, 37, 38, 39, 40, 41, 42] (cr [.r, .l, .r, .i, .i, .r, .r, .l, .i, .r, .r, .r, .l]) env σ (.normal) (σ) (fun env' => Env.get env' 42 = .bool false) := by
  refine pc_of fun res hr => ?_
  simp -implicitDefEqProofs [AS.get_push_at, AS.get_push_old, AS.push_len, AS.set_st_len, AS.next_st', AS.set_push_at, AS.get_set_self, AS.get_set_other, cr, Try.f12, hlen, hcx, f7, f8, f9, f10, gc, hb] at hr
  subst hr
  refine ⟨_, rfl, by simp [hlen], by simp [Env.get_set, hlen, f7, f8, f9, f10, gc, hb], fun i hi => ?_⟩
  simp only [List.mem_cons, List.not_mem_nil, or_false, not_or] at hi
  simp only [get_set2, hi, false_and, if_false]

theorem rZ (cx : Cx) (env : Env) (σ : AS)  (hlen : env.length = 44) (hcx : cx.esc = [])  :
    Pc Try.prog how cx [] 44 [4] (cr [.r, .r, .l]) env σ (.normal) (σ) (fun env' => Env.get env' 4 = .bool true) := by
  refine pc_of fun res hr => ?_
  simp -implicitDefEqProofs [-lenA, -indexAddrA, -loadA, AS.get_push_at, AS.get_push_old, AS.push_len, AS.set_st_len, AS.next_st', AS.set_push_at, AS.get_set_self, AS.get_set_other, cr, Try.f12, hlen, hcx] at hr
  subst hr
  refine ⟨_, rfl, by simp [hlen], by simp [Env.get_set, hlen], fun i hi => ?_⟩
  simp only [List.mem_cons, List.not_mem_nil, or_false, not_or] at hi
  simp only [get_set2, hi, false_and, if_false]

end
noncomputable def bodyC : Code := (.seq (cr [.l]) (.seq (.seq (cr [.r, .l, .l]) (cr [.r, .l, .r])) (.seq (cr [.r, .r, .l]) .ret)))
theorem body : Try.f12.body = some bodyC := by kernel_rfl
/-- What holds ahead of round k. -/
def J (h : Nat) (σ0 : AS) (a b i : Nat) (ks : List ByteArray) (k : Nat) (env : Env) (σ : AS) : Prop :=
  Env.get env 0 = .ptr (.hp a) 0 ∧ Env.get env 1 = .ptr (.hp b) 0 ∧ Env.get env 11 = .row (.st i) 0 0 ks.length ∧ (σ.get (.st i) = some (.row (ks.map AV.str) 1 0 false)) ∧ Outside h σ0 σ
def Ex (h : Nat) (σ0 : AS) (a b i : Nat) (ks : List ByteArray) (e : AExit) (env : Env) (σ : AS) : Prop := False
theorem J_stable {h : Nat} {σ0 : AS} {a b i : Nat} {ks : List ByteArray} : ∀ k env env' σ, env.length = 44 → env'.length = 44 → (∀ i, i ≠ 14 → i ≠ 43 → i ≠ 13 → Env.get env' i = Env.get env i) → J h σ0 a b i ks k env σ → J h σ0 a b i ks k env' σ := by
  rintro k env env' σ _ _ hf ⟨j0, j1, j11, q0, ho⟩
  exact ⟨(hf 0 (by decide) (by decide) (by decide)).trans j0, (hf 1 (by decide) (by decide) (by decide)).trans j1, (hf 11 (by decide) (by decide) (by decide)).trans j11, q0, ho⟩
noncomputable def oT : Oper := (opsOf (cr [.r, .l, .r, .i, .i, .l])).headD default
noncomputable def oI : List Oper := opsOf (cr [.r, .l, .r, .i, .i, .r, .r, .r])
theorem loop_eq : (cr [.r, .l, .r]) = .block 0 (.loop (.seq (.region 2 #[oT] false) (.seq (.cond (.tmp 14) .skip (.exit 0)) (.seq (.block 1 (.seq (cr [.r, .l, .r, .i, .i, .r, .r, .l, .i, .l]) (.seq (cr [.r, .l, .r, .i, .i, .r, .r, .l, .i, .r, .l]) (.seq (cr [.r, .l, .r, .i, .i, .r, .r, .l, .i, .r, .r, .l]) (.seq (cr [.r, .l, .r, .i, .i, .r, .r, .l, .i, .r, .r, .r, .l]) (cr [.r, .l, .r, .i, .i, .r, .r, .l, .i, .r, .r, .r, .r])))))) (.region 8 #[oI.headD default, (oI.drop 1).headD default] false))))) := by kernel_rfl
theorem step (cx : Cx) (hcx : cx.esc = []) (hro : ∀ k, cx.ro = some k → k ≤ cx.h) (σ0 : AS) (a b i : Nat) (ks : List ByteArray) (mm : Nat) (M S : List KeyD) (X : AV) (hP : PM σ0.hp a mm M) (hA : σ0.hp[b]? = some (.cells [X])) (hX : HRow σ0.hp X (S.map encK)) (hlen2 : S.length ≤ 1000) (hMS : ∀ key, ofK M key = ofK S key) :
    ∀ k env σ, k < ks.length → env.length = 44 → Env.get env 13 = .int .i64 (k : Int) → Env.get env 12 = .int .i64 ((ks.length : Nat) : Int) → J cx.h σ0 a b i ks k env σ → ∃ e env' σ', execW Try.prog cx [] (callW Try.prog how) (.block 1 (.seq (cr [.r, .l, .r, .i, .i, .r, .r, .l, .i, .l]) (.seq (cr [.r, .l, .r, .i, .i, .r, .r, .l, .i, .r, .l]) (.seq (cr [.r, .l, .r, .i, .i, .r, .r, .l, .i, .r, .r, .l]) (.seq (cr [.r, .l, .r, .i, .i, .r, .r, .l, .i, .r, .r, .r, .l]) (cr [.r, .l, .r, .i, .i, .r, .r, .l, .i, .r, .r, .r, .r])))))) (env, σ) = some (e, (env', σ')) ∧
      ((e = .normal ∧ env'.length = 44 ∧ Env.get env' 13 = .int .i64 (k : Int) ∧ Env.get env' 12 = .int .i64 ((ks.length : Nat) : Int) ∧ J cx.h σ0 a b i ks (k + 1) env' σ') ∨ (e ≠ .normal ∧ Ex cx.h σ0 a b i ks e env' σ')) := by
  rintro k env σ hk hlen f13 f12 ⟨f0, f1, f11, q0, ho⟩
  have hrd := rd_row (P := Try.prog) (σ := σ) (fr := false) Try.underlying81 s9 (by decide) q0 (fun c hc => by obtain ⟨r, _, rfl⟩ := List.mem_map.1 hc; rfl)
  rw [List.length_map] at hrd
  obtain ⟨p, hia, hpa⟩ := hrd.2 k (AV.str ks[k]) (get_el hk)
  obtain ⟨env1, x1a, x1b, x1c, x1d⟩ := rE cx env σ k _ p (ks[k]) hlen hcx f11 f13 hia hpa 
  have f0 := (x1d 0 (by decide)).trans f0
  have f1 := (x1d 1 (by decide)).trans f1
  have f11 := (x1d 11 (by decide)).trans f11
  have f12 := (x1d 12 (by decide)).trans f12
  have f13 := (x1d 13 (by decide)).trans f13
  have f6 := x1c
  have hhp : σ.hp = σ0.hp := ho.1
  rw [← hhp] at hP hA hX
  have hb : ∀ y : ByteArray, beqS y y = true := fun y => by rw [beqS_dec]; exact decide_eq_true rfl
  have h25 := f25_c σ.hp σ.st cx.ro a mm ks[k] (ofK S ks[k]) (lt_of_out hro ho) (fun s => hP.oA) (fun s => by rw [← hMS]; exact hP.look s ks[k])
  obtain ⟨env2, x2a, x2b, x2c, x2d⟩ := rG cx env1 σ a (ks[k]) ((ofK S ks[k])) x1b hcx f0 f6 h25 
  have f0 := (x2d 0 (by decide)).trans f0
  have f1 := (x2d 1 (by decide)).trans f1
  have f6 := (x2d 6 (by decide)).trans f6
  have f11 := (x2d 11 (by decide)).trans f11
  have f12 := (x2d 12 (by decide)).trans f12
  have f13 := (x2d 13 (by decide)).trans f13
  have f7 := x2c.1
  have f8 := x2c.2.1
  have f9 := x2c.2.2
  have h7 := F7.ok σ.hp σ.st cx.ro b ks[k] X S (lt_of_out hro ho) hA hX hlen2
  obtain ⟨env3, x3a, x3b, x3c, x3d⟩ := rH cx env2 σ b (ks[k]) ((ofK S ks[k])) x2b hcx f1 f6 h7 (wokst hro ho.2.2) ho.2.2
  have f0 := (x3d 0 (by decide)).trans f0
  have f1 := (x3d 1 (by decide)).trans f1
  have f6 := (x3d 6 (by decide)).trans f6
  have f7 := (x3d 7 (by decide)).trans f7
  have f8 := (x3d 8 (by decide)).trans f8
  have f9 := (x3d 9 (by decide)).trans f9
  have f11 := (x3d 11 (by decide)).trans f11
  have f12 := (x3d 12 (by decide)).trans f12
  have f13 := (x3d 13 (by decide)).trans f13
  have f10 := x3c
  have g3 : ((σ : AS).push false (.cells [.str ks[k], .int .u64 (ofK S ks[k]).1, .str (ofK S ks[k]).2.1, .bool (ofK S ks[k]).2.2])).get (.st (σ : AS).st.length) = some (.cells [.str ks[k], .int .u64 (ofK S ks[k]).1, .str (ofK S ks[k]).2.1, .bool (ofK S ks[k]).2.2]) := AS.get_push_at rfl
  have q0 := get_push' (ob' := .cells [.str ks[k], .int .u64 (ofK S ks[k]).1, .str (ofK S ks[k]).2.1, .bool (ofK S ks[k]).2.2]) q0
  have ho := ho.push (ob := .cells [.str ks[k], .int .u64 (ofK S ks[k]).1, .str (ofK S ks[k]).2.1, .bool (ofK S ks[k]).2.2])
  generalize hib3 : (σ : AS).st.length = ib3 at g3 f10
  generalize (σ : AS).push false (.cells [.str ks[k], .int .u64 (ofK S ks[k]).1, .str (ofK S ks[k]).2.1, .bool (ofK S ks[k]).2.2]) = σ3 at x3a g3 q0 ho
  obtain ⟨env4, x4a, x4b, x4c, x4d⟩ := rI cx env3 σ3 _ (ks[k]) ((ofK S ks[k])) x3b hcx f7 f8 f9 f10 g3 (hb _) 
  have f0 := (x4d 0 (by decide)).trans f0
  have f1 := (x4d 1 (by decide)).trans f1
  have f6 := (x4d 6 (by decide)).trans f6
  have f7 := (x4d 7 (by decide)).trans f7
  have f8 := (x4d 8 (by decide)).trans f8
  have f9 := (x4d 9 (by decide)).trans f9
  have f10 := (x4d 10 (by decide)).trans f10
  have f11 := (x4d 11 (by decide)).trans f11
  have f12 := (x4d 12 (by decide)).trans f12
  have f13 := (x4d 13 (by decide)).trans f13
  have f42 := x4c
  have ev1 := ev_tmp f42
  exact ⟨.normal, env4, _, (execW_block_of (execW_seq_of x1a (execW_seq_of x2a (execW_seq_of x3a (execW_seq_of x4a (execW_cond_f ev1 (by rfl))))))), .inl ⟨rfl, x4b, f13, f12, f0, f1, f11, q0, ho⟩⟩
theorem loop (cx : Cx) (hcx : cx.esc = []) (hro : ∀ k, cx.ro = some k → k ≤ cx.h) (σ0 : AS) (a b i : Nat) (ks : List ByteArray) (mm : Nat) (M S : List KeyD) (X : AV) (hP : PM σ0.hp a mm M) (hA : σ0.hp[b]? = some (.cells [X])) (hX : HRow σ0.hp X (S.map encK)) (hlen2 : S.length ≤ 1000) (hMS : ∀ key, ofK M key = ofK S key) (hnn : ks.length ≤ 9223372036854775807) {env : Env} {σ : AS} (hl : env.length = 44) (h1 : Env.get env 13 = .int .i64 0) (h2 : Env.get env 12 = .int .i64 ((ks.length : Nat) : Int)) (h0 : J cx.h σ0 a b i ks 0 env σ) :
    ∃ e env' σ', execW Try.prog cx [] (callW Try.prog how) (cr [.r, .l, .r]) (env, σ) = some (e, (env', σ')) ∧ ((e = .normal ∧ ((env'.length = 44 ∧ J cx.h σ0 a b i ks (ks.length) env' σ') ∨ Ex cx.h σ0 a b i ks (.exit 0) env' σ')) ∨ (e ≠ .normal ∧ e ≠ .exit 0 ∧ Ex cx.h σ0 a b i ks e env' σ')) := by
  rw [loop_eq]
  exact range_std (Ex := Ex cx.h σ0 a b i ks) (N := 44) (tc := 14) (ti := 13) (tl := 12) (tx := 43) (ty1 := 3) (ty2 := 3) (ty3 := 3) (ty4 := 3) ⟨by kernel_rfl, by kernel_rfl, by kernel_rfl⟩ ⟨by kernel_rfl, by kernel_rfl, by kernel_rfl⟩ ⟨by kernel_rfl, by kernel_rfl, by kernel_rfl⟩ (by decide) hnn J_stable (step cx hcx hro σ0 a b i ks mm M S X hP hA hX hlen2 hMS) hl h1 h2 h0
theorem ok (hp s : List AObj) (ro : Option Nat) (a b mm : Nat) (M S : List KeyD) (X : AV) (hro' : ∀ k, ro = some k → k ≤ s.length) (hP : PM hp a mm M) (hA : hp[b]? = some (.cells [X])) (hX : HRow hp X (S.map encK)) (hlen2 : S.length ≤ 1000) (hMS : ∀ key, ofK M key = ofK S key) :
    callW Try.prog how 12 [.ptr (.hp a) 0, .ptr (.hp b) 0] ⟨hp, s⟩ ro = some (.bool true, ⟨hp, s⟩) := by
  let cx : Cx := { h := s.length, ro := ro, esc := [] }
  have hcx : cx.esc = [] := rfl
  have hro : ∀ k, cx.ro = some k → k ≤ cx.h := hro'
  obtain ⟨env, henv⟩ : ∃ e, e = frameA Try.f12 [.ptr (.hp a) 0, .ptr (.hp b) 0] := ⟨_, rfl⟩
  have hlen : env.length = 44 := by rw [henv]; rfl
  have f0 : Env.get env 0 = .ptr (.hp a) 0 := by rw [henv]; rfl
  have f1 : Env.get env 1 = .ptr (.hp b) 0 := by rw [henv]; rfl
  have ho : Outside s.length (AS.mk hp s) (AS.mk hp s) := Outside.refl (Nat.le_refl _)
  obtain ⟨env1, x1a, x1b, x1c, x1d⟩ := rA cx env (AS.mk hp s)  hlen hcx   
  have f0 := (x1d 0 (by decide)).trans f0
  have f1 := (x1d 1 (by decide)).trans f1
  have f4 := x1c
  obtain ⟨ks, hks, hkl⟩ : ∃ ks : List ByteArray, ks.map AV.str = [.str ⟨#[97]⟩, .str ⟨#[98]⟩, .str ⟨#[99]⟩, .str ⟨#[100]⟩, .str ⟨#[101]⟩, .str ⟨#[103]⟩] ∧ ks.length = 6 := ⟨[⟨#[97]⟩, ⟨#[98]⟩, ⟨#[99]⟩, ⟨#[100]⟩, ⟨#[101]⟩, ⟨#[103]⟩], rfl, rfl⟩
  obtain ⟨env2, x2a, x2b, ⟨f11, f12, f13⟩, x2d⟩ := rB cx env1 (AS.mk hp s) x1b hcx (wokst hro (Nat.le_refl _)) (Nat.le_refl _)
  have f0 := (x2d 0 (by decide)).trans f0
  have f1 := (x2d 1 (by decide)).trans f1
  have f4 := (x2d 4 (by decide)).trans f4
  rw [← hks] at x2a
  have g9 : ((AS.mk hp s).push false (.row (ks.map AV.str) 1 0 false)).get (.st s.length) = some (.row (ks.map AV.str) 1 0 false) := AS.get_push_at rfl
  have ho : Outside s.length (AS.mk hp s) ((AS.mk hp s).push false (.row (ks.map AV.str) 1 0 false)) := ho.push
  have f12 : Env.get env2 12 = .int .i64 ((ks.length : Nat) : Int) := by rw [hkl]; exact f12
  have f11 : Env.get env2 11 = .row (.st s.length) 0 0 ks.length := by rw [hkl]; exact f11
  obtain ⟨e3, env3, σ3, x3a, x3p⟩ := loop cx hcx hro ⟨hp, s⟩ a b s.length ks mm M S X hP hA hX hlen2 hMS (by omega) (σ := ((AS.mk hp s).push false (.row (ks.map AV.str) 1 0 false))) x2b f13 f12 (⟨f0, f1, f11, g9, ho⟩)
  rcases x3p with ⟨rfl, ⟨x3b, f0, f1, f11, q0, ho⟩ | x3p⟩ | ⟨x3q, x3r, x3p⟩
  · skip
    obtain ⟨env4, x4a, x4b, x4c, x4d⟩ := rZ cx env3 σ3  x3b hcx   
    have f0 := (x4d 0 (by decide)).trans f0
    have f1 := (x4d 1 (by decide)).trans f1
    have f11 := (x4d 11 (by decide)).trans f11
    have f4 := x4c
    exact call_of (fl := {}) (fn := Try.f12) (c := bodyC) (env := env) (e := (.ret, (env4, σ3))) rfl Try.func12 body henv (by unfold bodyC; exact (execW_seq_of x1a (execW_seq_of (execW_seq_of x2a x3a) (execW_seq_of x4a (by rfl))))) ((fin_tmp (k := 4) (.inl rfl) rfl rfl f4 (by simp [AV.back]) (by simp [AV.inb])).trans (congrArg (fun x => some (_, x)) (outside_st ho)))
  · cases x3p
  · cases x3p
end F12
