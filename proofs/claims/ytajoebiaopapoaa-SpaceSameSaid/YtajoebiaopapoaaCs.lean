/- The document's dirty keys; the keys of a map, sorted. -/

import Derived.Test.YtajoebiaopapoaaCr
open Go Go.Abs Go.Proofs
set_option maxRecDepth 100000
set_option maxHeartbeats 4000000
set_option linter.unusedSimpArgs false
set_option linter.unusedVariables false

def dirtyP (m : Int) (r : Rw) : Bool := decide (uptoN r.2 m < r.2.length)
def dirtyS (S : List Rw) (m : Int) : List ByteArray := (S.filter (dirtyP m)).map (·.1)
namespace F14
noncomputable def cr (p : List Dir) : Code := sub p (bodyOf Try.f14)

section
attribute [local simp] ofV ofCell ofCells seqA_nil seqA_cons seqVK_eq seqEK_eq wantedA yieldedA isVal effA ev evs evps putE optsA optsOk valA fieldAddrA fieldA loadA partA aggA isAggD buildA placesA fillA lay storeA AV.withCells buildSliceA elemsA rowParts fzL promL okE isSrc bytesOk pushA cxOf lenA binA intBinA strBinA unA indexAddrA eqA AVs.inb AV.inb Loc.inb calleeA opsOf sub bodyOf Env.get_set quietA_nil quietA_cons quietK_none quietK_some qstep newA isNew escNew boxOk newLoc flat rowPartsQ quietN quietOp isBS List.takeWhile finishA_eq finK_ret finK_normal retK backK resA oneA AV.back AVs.back execW_seq_eq seqK_normal seqK_ret seqK_exit execW_cond_eq condK_true condK_false execW_block_eq blockK_exit blockK_normal blockK_ret execW_region_eq regK_eq execW_skip execW_exit execW_ret regionA_plain regionA_quiet0 tailK_eq nilCheckA guardOk isConst lookupA keyFits mapUpdateA beqI bneI
theorem rA (cx : Cx) (env : Env) (σ : AS)  (hlen : env.length = 33) (hcx : cx.esc = [])  :
    Pc Try.prog how cx [] 33 [4] (cr [.l]) env σ (.normal) (σ) (fun env' => Env.get env' 4 = .nils) := by
  refine pc_of fun res hr => ?_
  simp -implicitDefEqProofs [-indexAddrA, AS.get_push_at, AS.get_push_old, AS.push_len, AS.set_st_len, AS.next_st', AS.set_push_at, AS.get_set_self, AS.get_set_other, cr, Try.f14, hlen, hcx] at hr
  subst hr
  refine ⟨_, rfl, by simp [hlen], by simp [Env.get_set, hlen], fun i hi => ?_⟩
  simp only [List.mem_cons, List.not_mem_nil, or_false, not_or] at hi
  simp only [get_set2, hi, false_and, if_false]

theorem rB (cx : Cx) (env : Env) (σ : AS)  (hlen : env.length = 33) (hcx : cx.esc = [])  :
    Pc Try.prog how cx [] 33 [5] (cr [.r, .l]) env σ (.normal) (σ) (fun env' => Env.get env' 5 = .nils) := by
  refine pc_of fun res hr => ?_
  simp -implicitDefEqProofs [-indexAddrA, AS.get_push_at, AS.get_push_old, AS.push_len, AS.set_st_len, AS.next_st', AS.set_push_at, AS.get_set_self, AS.get_set_other, cr, Try.f14, hlen, hcx] at hr
  subst hr
  refine ⟨_, rfl, by simp [hlen], by simp [Env.get_set, hlen], fun i hi => ?_⟩
  simp only [List.mem_cons, List.not_mem_nil, or_false, not_or] at hi
  simp only [get_set2, hi, false_and, if_false]

theorem rC (cx : Cx) (env : Env) (σ : AS) (b n : Nat) (X : AV) (hlen : env.length = 33) (hcx : cx.esc = []) (f0 : Env.get env 0 = .ptr (.hp b) 0) (hA : σ.get (.hp b) = some (.cells [X])) (hX : lenA Try.prog σ 26 X = some n) :
    Pc Try.prog how cx [] 33 [8, 9, 10, 11, 12, 13] (cr [.r, .r, .l, .l]) env σ (.normal) (σ) (fun env' => Env.get env' 11 = X ∧ Env.get env' 12 = .int .i64 (n : Int) ∧ Env.get env' 13 = .int .i64 0) := by
  refine pc_of fun res hr => ?_
  simp -implicitDefEqProofs [-lenA, AS.get_push_at, AS.get_push_old, AS.push_len, AS.set_st_len, AS.next_st', AS.set_push_at, AS.get_set_self, AS.get_set_other, cr, Try.f14, hlen, hcx, f0, hA, hX] at hr
  subst hr
  refine ⟨_, rfl, by simp [hlen], by simp [Env.get_set, hlen, f0, hA, hX], fun i hi => ?_⟩
  simp only [List.mem_cons, List.not_mem_nil, or_false, not_or] at hi
  simp only [get_set2, hi, false_and, if_false]

theorem rE (cx : Cx) (env : Env) (σ : AS) (k : Nat) (X p Y0 : AV) (k0 : ByteArray) (hlen : env.length = 33) (hcx : cx.esc = []) (f11 : Env.get env 11 = X) (f13 : Env.get env 13 = .int .i64 (k : Int)) (hia : indexAddrA Try.prog σ 26 X (.int .i64 (k : Int)) = some p) (hpa : loadA Try.prog σ 36 p = some (.agg [.str k0, Y0])) (hY : Plain Y0) (hw : wok cx.ro (.st σ.st.length) = true) (hh : cx.h ≤ σ.st.length) :
    Pc Try.prog how cx [] 33 [7, 15, 16] (cr [.r, .r, .l, .r, .i, .i, .r, .r, .l, .i, .l]) env σ (.normal) (σ.push false (.cells [.str k0, Y0])) (fun env' => Env.get env' 7 = .ptr (.st σ.st.length) 0) := by
  refine pc_of fun res hr => ?_
  simp -implicitDefEqProofs [-lenA, -indexAddrA, -loadA, AS.get_push_at, AS.get_push_old, AS.push_len, AS.set_st_len, AS.next_st', AS.set_push_at, AS.get_set_self, AS.get_set_other, cr, Try.f14, hlen, hcx, f11, f13, hia, hpa, hY.one, hY.inb, hY.row, hw, hh] at hr
  subst hr
  refine ⟨_, rfl, by simp [hlen], by simp [Env.get_set, hlen, f11, f13, hia, hpa, hY.one, hY.inb, hY.row, hw, hh], fun i hi => ?_⟩
  simp only [List.mem_cons, List.not_mem_nil, or_false, not_or] at hi
  simp only [get_set2, hi, false_and, if_false]

theorem rN (cx : Cx) (env : Env) (σ : AS) (c u n : Nat) (m : Int) (k0 : ByteArray) (Y0 Y2 : AV) (hlen : env.length = 33) (hcx : cx.esc = []) (f1 : Env.get env 1 = .int .i64 m) (f7 : Env.get env 7 = .ptr (.st c) 0) (gc : σ.get (.st c) = some (.cells [.str k0, Y0])) (hY : Plain Y0) (hY2 : Plain Y2) (h36 : callW Try.prog how 36 [Y0, .int .i64 m] σ (some σ.st.length) = some (Y2, σ)) (hl0 : lenA Try.prog σ 34 Y0 = some n) (hl2 : lenA Try.prog σ 34 Y2 = some u) (q : ¬ u < n) (q2 : ¬ (u : Int) < (n : Int)) :
    Pc Try.prog how cx [] 33 [17, 18, 19, 20, 21, 22, 23, 24, 25] (cr [.r, .r, .l, .r, .i, .i, .r, .r, .l, .i, .r]) env σ (.normal) (σ) (fun _ => True) := by
  refine pc_of fun res hr => ?_
  simp -implicitDefEqProofs [-lenA, AS.get_push_at, AS.get_push_old, AS.push_len, AS.set_st_len, AS.next_st', AS.set_push_at, AS.get_set_self, AS.get_set_other, cr, Try.f14, hlen, hcx, f1, f7, gc, hY.one, hY.inb, hY.row, hY2.one, hY2.inb, hY2.row, h36, hl0, hl2, q, q2] at hr
  subst hr
  refine ⟨_, rfl, by simp [hlen], by simp [Env.get_set, hlen, f1, f7, gc, hY.one, hY.inb, hY.row, hY2.one, hY2.inb, hY2.row, h36, hl0, hl2, q, q2], fun i hi => ?_⟩
  simp only [List.mem_cons, List.not_mem_nil, or_false, not_or] at hi
  simp only [get_set2, hi, false_and, if_false]

theorem rY (cx : Cx) (env : Env) (σ : AS) (c u n : Nat) (m : Int) (k0 : ByteArray) (Y0 Y2 : AV) (R' : AV) (R : AV) (σ' : AS) (hlen : env.length = 33) (hcx : cx.esc = []) (f1 : Env.get env 1 = .int .i64 m) (f5 : Env.get env 5 = R) (f7 : Env.get env 7 = .ptr (.st c) 0) (gc : σ.get (.st c) = some (.cells [.str k0, Y0])) (hY : Plain Y0) (hY2 : Plain Y2) (h36 : callW Try.prog how 36 [Y0, .int .i64 m] σ (some σ.st.length) = some (Y2, σ)) (hl0 : lenA Try.prog σ 34 Y0 = some n) (hl2 : lenA Try.prog σ 34 Y2 = some u) (q : u < n) (q2 : (u : Int) < (n : Int)) (hap : appendA Try.prog cx (AS.mk σ.hp (σ.st ++ [.row [.str k0] 1 0 false])) [33, 33] R (.row (.st σ.st.length) 0 0 1) = some (R', σ')) :
    Pc Try.prog how cx [] 33 [5, 17, 18, 19, 20, 21, 22, 23, 24, 25, 26, 27, 28, 29, 30] (cr [.r, .r, .l, .r, .i, .i, .r, .r, .l, .i, .r]) env σ (.normal) (σ') (fun env' => Env.get env' 5 = R') := by
  refine pc_of fun res hr => ?_
  simp -implicitDefEqProofs [-lenA, AS.get_push_at, AS.get_push_old, AS.push_len, AS.set_st_len, AS.next_st', AS.set_push_at, AS.get_set_self, AS.get_set_other, cr, Try.f14, hlen, hcx, f1, f5, f7, gc, hY.one, hY.inb, hY.row, hY2.one, hY2.inb, hY2.row, h36, hl0, hl2, q, q2, hap, elemA] at hr
  subst hr
  refine ⟨_, rfl, by simp [hlen], by simp [Env.get_set, hlen, f1, f5, f7, gc, hY.one, hY.inb, hY.row, hY2.one, hY2.inb, hY2.row, h36, hl0, hl2, q, q2, hap, elemA], fun i hi => ?_⟩
  simp only [List.mem_cons, List.not_mem_nil, or_false, not_or] at hi
  simp only [get_set2, hi, false_and, if_false]

theorem rD (cx : Cx) (env : Env) (σ : AS) (R : AV) (hlen : env.length = 33) (hcx : cx.esc = []) (f5 : Env.get env 5 = R) :
    Pc Try.prog how cx [] 33 [4, 32] (cr [.r, .r, .r, .l]) env σ (.normal) (σ) (fun env' => Env.get env' 4 = R) := by
  refine pc_of fun res hr => ?_
  simp -implicitDefEqProofs [-indexAddrA, AS.get_push_at, AS.get_push_old, AS.push_len, AS.set_st_len, AS.next_st', AS.set_push_at, AS.get_set_self, AS.get_set_other, cr, Try.f14, hlen, hcx, f5] at hr
  subst hr
  refine ⟨_, rfl, by simp [hlen], by simp [Env.get_set, hlen, f5], fun i hi => ?_⟩
  simp only [List.mem_cons, List.not_mem_nil, or_false, not_or] at hi
  simp only [get_set2, hi, false_and, if_false]

end
noncomputable def bodyC : Code := (.seq (cr [.l]) (.seq (cr [.r, .l]) (.seq (.seq (cr [.r, .r, .l, .l]) (cr [.r, .r, .l, .r])) (.seq (cr [.r, .r, .r, .l]) .ret))))
theorem body : Try.f14.body = some bodyC := by kernel_rfl
/-- What holds ahead of round k. -/
def J (h : Nat) (σ0 : AS) (m : Int) (X : AV) (S : List Rw) (k : Nat) (env : Env) (σ : AS) : Prop :=
  Env.get env 1 = .int .i64 m ∧ Env.get env 11 = X ∧ (∃ R0, Env.get env 5 = R0 ∧ Rows h σ [(1, R0, ((S.take k).filter (dirtyP m)).map (fun r => AV.str r.1))]) ∧ Outside h σ0 σ
def Ex (h : Nat) (σ0 : AS) (m : Int) (X : AV) (S : List Rw) (e : AExit) (env : Env) (σ : AS) : Prop := False
theorem J_stable {h : Nat} {σ0 : AS} {m : Int} {X : AV} {S : List Rw} : ∀ k env env' σ, env.length = 33 → env'.length = 33 → (∀ i, i ≠ 14 → i ≠ 31 → i ≠ 13 → Env.get env' i = Env.get env i) → J h σ0 m X S k env σ → J h σ0 m X S k env' σ := by
  rintro k env env' σ _ _ hf ⟨j1, j11, ⟨R0, r0, hR⟩, ho⟩
  exact ⟨(hf 1 (by decide) (by decide) (by decide)).trans j1, (hf 11 (by decide) (by decide) (by decide)).trans j11, ⟨R0, (hf 5 (by decide) (by decide) (by decide)).trans r0, hR⟩, ho⟩
noncomputable def oT : Oper := (opsOf (cr [.r, .r, .l, .r, .i, .i, .l])).headD default
noncomputable def oI : List Oper := opsOf (cr [.r, .r, .l, .r, .i, .i, .r, .r, .r])
theorem loop_eq : (cr [.r, .r, .l, .r]) = .block 0 (.loop (.seq (.region 3 #[oT] false) (.seq (.cond (.tmp 14) .skip (.exit 0)) (.seq (.block 1 (.seq (cr [.r, .r, .l, .r, .i, .i, .r, .r, .l, .i, .l]) (cr [.r, .r, .l, .r, .i, .i, .r, .r, .l, .i, .r]))) (.region 7 #[oI.headD default, (oI.drop 1).headD default] false))))) := by kernel_rfl
theorem step (cx : Cx) (hcx : cx.esc = []) (hro : ∀ k, cx.ro = some k → k ≤ cx.h) (σ0 : AS) (m : Int) (X : AV) (S : List Rw) (hX : HRow σ0.hp X (S.map encRow)) (hlen2 : S.length ≤ 1000) (hG : ∀ r ∈ S, GoodO r.2) :
    ∀ k env σ, k < S.length → env.length = 33 → Env.get env 13 = .int .i64 (k : Int) → Env.get env 12 = .int .i64 ((S.length : Nat) : Int) → J cx.h σ0 m X S k env σ → ∃ e env' σ', execW Try.prog cx [] (callW Try.prog how) (.block 1 (.seq (cr [.r, .r, .l, .r, .i, .i, .r, .r, .l, .i, .l]) (cr [.r, .r, .l, .r, .i, .i, .r, .r, .l, .i, .r]))) (env, σ) = some (e, (env', σ')) ∧
      ((e = .normal ∧ env'.length = 33 ∧ Env.get env' 13 = .int .i64 (k : Int) ∧ Env.get env' 12 = .int .i64 ((S.length : Nat) : Int) ∧ J cx.h σ0 m X S (k + 1) env' σ') ∨ (e ≠ .normal ∧ Ex cx.h σ0 m X S e env' σ')) := by
  rintro k env σ hk hlen f13 f12 ⟨f1, f11, ⟨R0, f5, hR⟩, ho⟩
  have hXσ : Rd Try.prog σ 26 36 X (S.map encRow) := by have := hX.rd σ.st; rw [← ho.1] at this; exact this
  obtain ⟨p, hia, hpa⟩ := hXσ.2 k (encRow S[k]) (by rw [List.getElem?_map, List.getElem?_eq_getElem hk]; rfl)
  have hs := filter_succ (p := dirtyP m) hk
  have hGk := hG S[k] (List.getElem_mem hk)
  obtain ⟨env1, x1a, x1b, x1c, x1d⟩ := rE cx env σ k X p (slV 4 (S[k].2.map encVn)) (S[k].1) hlen hcx f11 f13 hia hpa slV_plain (wokst hro ho.2.2) ho.2.2
  have f1 := (x1d 1 (by decide)).trans f1
  have f5 := (x1d 5 (by decide)).trans f5
  have f11 := (x1d 11 (by decide)).trans f11
  have f12 := (x1d 12 (by decide)).trans f12
  have f13 := (x1d 13 (by decide)).trans f13
  have f7 := x1c
  have g1 : ((σ : AS).push false (.cells [.str S[k].1, slV 4 (S[k].2.map encVn)])).get (.st (σ : AS).st.length) = some (.cells [.str S[k].1, slV 4 (S[k].2.map encVn)]) := AS.get_push_at rfl
  have hR := hR.push (ob := .cells [.str S[k].1, slV 4 (S[k].2.map encVn)])
  have ho := ho.push (ob := .cells [.str S[k].1, slV 4 (S[k].2.map encVn)])
  generalize hib1 : (σ : AS).st.length = ib1 at g1 f7
  generalize (σ : AS).push false (.cells [.str S[k].1, slV 4 (S[k].2.map encVn)]) = σ1 at x1a g1 hR ho
  have h36 := F36.ok σ1.hp σ1.st (some σ1.st.length) S[k].2 m (hq1 (Nat.le_refl _)) (Nat.le_trans hGk.len (by decide))
  have hl2 := lenL' (S[k].2.filter (fun v => decide (v.a ≤ m))) σ1
  rw [show (S[k].2.filter (fun v => decide (v.a ≤ m))).length = uptoN S[k].2 m from rfl] at hl2
  by_cases q : uptoN S[k].2 m < S[k].2.length
  · skip
    rw [if_pos (show dirtyP m S[k] = true from decide_eq_true q)] at hs
    obtain ⟨R2, τ2, y2a, y2b, y2c, y2d, y2e⟩ := append_one (cx := cx) (x := AV.str S[k].1) (j := 0) app33 hR rfl (by rw [List.length_map]; exact Nat.le_trans (List.length_filter_le _ _) (by rw [List.length_take]; omega)) (by decide) hro ho.2.2
    obtain ⟨env2, x2a, x2b, x2c, x2d⟩ := rY cx env1 σ1 _ _ _ m (S[k].1) (slV 4 (S[k].2.map encVn)) _ R2 _ τ2 x1b hcx f1 f5 f7 g1 slV_plain slV_plain h36 (lenL' _ _) hl2 q (by omega) y2a 
    have f1 := (x2d 1 (by decide)).trans f1
    have f7 := (x2d 7 (by decide)).trans f7
    have f11 := (x2d 11 (by decide)).trans f11
    have f12 := (x2d 12 (by decide)).trans f12
    have f13 := (x2d 13 (by decide)).trans f13
    have f5 := x2c
    have hR := y2c
    have ho := y2e _ ho
    have g1 := y2d _ _ g1
    exact ⟨.normal, env2, _, (execW_block_of (execW_seq_of x1a x2a)), .inl ⟨rfl, x2b, f13, f12, f1, f11, ⟨_, f5, (by rw [hs, List.map_append]; exact hR)⟩, ho⟩⟩
  · skip
    rw [if_neg (show ¬ dirtyP m S[k] = true by unfold dirtyP; rw [decide_eq_false q]; simp), List.append_nil] at hs
    obtain ⟨env2, x2a, x2b, x2c, x2d⟩ := rN cx env1 σ1 _ _ _ m (S[k].1) (slV 4 (S[k].2.map encVn)) _ x1b hcx f1 f7 g1 slV_plain slV_plain h36 (lenL' _ _) hl2 q (by omega) 
    have f1 := (x2d 1 (by decide)).trans f1
    have f5 := (x2d 5 (by decide)).trans f5
    have f7 := (x2d 7 (by decide)).trans f7
    have f11 := (x2d 11 (by decide)).trans f11
    have f12 := (x2d 12 (by decide)).trans f12
    have f13 := (x2d 13 (by decide)).trans f13
    exact ⟨.normal, env2, _, (execW_block_of (execW_seq_of x1a x2a)), .inl ⟨rfl, x2b, f13, f12, f1, f11, ⟨_, f5, (by rw [hs]; exact hR)⟩, ho⟩⟩
theorem loop (cx : Cx) (hcx : cx.esc = []) (hro : ∀ k, cx.ro = some k → k ≤ cx.h) (σ0 : AS) (m : Int) (X : AV) (S : List Rw) (hX : HRow σ0.hp X (S.map encRow)) (hlen2 : S.length ≤ 1000) (hG : ∀ r ∈ S, GoodO r.2) (hnn : S.length ≤ 9223372036854775807) {env : Env} {σ : AS} (hl : env.length = 33) (h1 : Env.get env 13 = .int .i64 0) (h2 : Env.get env 12 = .int .i64 ((S.length : Nat) : Int)) (h0 : J cx.h σ0 m X S 0 env σ) :
    ∃ e env' σ', execW Try.prog cx [] (callW Try.prog how) (cr [.r, .r, .l, .r]) (env, σ) = some (e, (env', σ')) ∧ ((e = .normal ∧ ((env'.length = 33 ∧ J cx.h σ0 m X S (S.length) env' σ') ∨ Ex cx.h σ0 m X S (.exit 0) env' σ')) ∨ (e ≠ .normal ∧ e ≠ .exit 0 ∧ Ex cx.h σ0 m X S e env' σ')) := by
  rw [loop_eq]
  exact range_std (Ex := Ex cx.h σ0 m X S) (N := 33) (tc := 14) (ti := 13) (tl := 12) (tx := 31) (ty1 := 3) (ty2 := 3) (ty3 := 3) (ty4 := 3) ⟨by kernel_rfl, by kernel_rfl, by kernel_rfl⟩ ⟨by kernel_rfl, by kernel_rfl, by kernel_rfl⟩ ⟨by kernel_rfl, by kernel_rfl, by kernel_rfl⟩ (by decide) hnn J_stable (step cx hcx hro σ0 m X S hX hlen2 hG) hl h1 h2 h0
theorem ok (hp s : List AObj) (ro : Option Nat) (b : Nat) (m : Int) (X : AV) (S : List Rw) (hro' : ∀ k, ro = some k → k ≤ s.length) (hA : hp[b]? = some (.cells [X])) (hX : HRow hp X (S.map encRow)) (hlen2 : S.length ≤ 1000) (hG : ∀ r ∈ S, GoodO r.2) :
    callW Try.prog how 14 [.ptr (.hp b) 0, .int .i64 m] ⟨hp, s⟩ ro = some (slV 1 ((dirtyS S m).map .str), ⟨hp, s⟩) := by
  let cx : Cx := { h := s.length, ro := ro, esc := [] }
  have hcx : cx.esc = [] := rfl
  have hro : ∀ k, cx.ro = some k → k ≤ cx.h := hro'
  obtain ⟨env, henv⟩ : ∃ e, e = frameA Try.f14 [.ptr (.hp b) 0, .int .i64 m] := ⟨_, rfl⟩
  have hlen : env.length = 33 := by rw [henv]; rfl
  have f0 : Env.get env 0 = .ptr (.hp b) 0 := by rw [henv]; rfl
  have f1 : Env.get env 1 = .int .i64 m := by rw [henv]; rfl
  have ho : Outside s.length (AS.mk hp s) (AS.mk hp s) := Outside.refl (Nat.le_refl _)
  obtain ⟨env1, x1a, x1b, x1c, x1d⟩ := rA cx env (AS.mk hp s)  hlen hcx   
  have f0 := (x1d 0 (by decide)).trans f0
  have f1 := (x1d 1 (by decide)).trans f1
  have f4 := x1c
  obtain ⟨env2, x2a, x2b, x2c, x2d⟩ := rB cx env1 (AS.mk hp s)  x1b hcx   
  have f0 := (x2d 0 (by decide)).trans f0
  have f1 := (x2d 1 (by decide)).trans f1
  have f4 := (x2d 4 (by decide)).trans f4
  have f5 := x2c
  have hlx := (hX.rd s).1
  rw [List.length_map] at hlx
  obtain ⟨env3, x3a, x3b, x3c, x3d⟩ := rC cx env2 (AS.mk hp s) b S.length X x2b hcx f0 hA hlx 
  have f0 := (x3d 0 (by decide)).trans f0
  have f1 := (x3d 1 (by decide)).trans f1
  have f4 := (x3d 4 (by decide)).trans f4
  have f5 := (x3d 5 (by decide)).trans f5
  have f11 := x3c.1
  have f12 := x3c.2.1
  have f13 := x3c.2.2
  obtain ⟨e4, env4, σ4, x4a, x4p⟩ := loop cx hcx hro ⟨hp, s⟩ m X S hX hlen2 hG (by omega) (σ := AS.mk hp s) x3b f13 f12 (⟨f1, f11, ⟨.nils, f5, Rows0⟩, ho⟩)
  rcases x4p with ⟨rfl, ⟨x4b, f1, f11, ⟨R0, f5, hR⟩, ho⟩ | x4p⟩ | ⟨x4q, x4r, x4p⟩
  · skip
    rw [List.take_length] at hR
    rw [show (dirtyS S m).map AV.str = (S.filter (dirtyP m)).map (fun r => AV.str r.1) by unfold dirtyS; rw [List.map_map]; rfl]
    obtain ⟨env5, x5a, x5b, x5c, x5d⟩ := rD cx env4 σ4 R0 x4b hcx f5  
    have f1 := (x5d 1 (by decide)).trans f1
    have f5 := (x5d 5 (by decide)).trans f5
    have f11 := (x5d 11 (by decide)).trans f11
    have f4 := x5c
    exact call_of (fl := {}) (fn := Try.f14) (c := bodyC) (env := env) (e := (.ret, (env5, σ4))) rfl Try.func14 body henv (by unfold bodyC; exact (execW_seq_of x1a (execW_seq_of x2a (execW_seq_of (execW_seq_of x3a x4a) (execW_seq_of x5a (by rfl)))))) ((fin_tmp (k := 4) (.inl rfl) rfl rfl f4 (by exact (hR.1 _ (List.mem_singleton_self _)).back) (by exact slV_inb _)).trans (congrArg (fun x => some (_, x)) (outside_st ho)))
  · cases x4p
  · cases x4p
end F14

/-- An entry of the program's map. -/
def entS (r : Rw) : AV × AV := (.str r.1, .agg [slV 4 (r.2.map encVn)])
structure GoodS (S : List Rw) : Prop where
  so : SortedS S
  ok : ∀ r ∈ S, keyOk r.1 = true
  ne : ∀ r ∈ S, r.2 ≠ []
  go : ∀ r ∈ S, GoodO r.2
  len : S.length ≤ 100
theorem key_size {k : ByteArray} (h : keyOk k = true) : k.size ≤ 32 := by
  simp only [keyOk, Bool.and_eq_true, decide_eq_true_eq] at h
  omega
theorem keys_ofS : ∀ {M : List Rw}, (∀ r ∈ M, keyOk r.1 = true) → keyListA kindS (M.map entS) = some (M.map fun r => r.1.data.toList)
  | [], _ => rfl
  | r :: M, h => by
    have h1 := key_size (h r (by simp))
    have h2 : r.1.data.toList.length ≤ maxLen := Nat.le_trans (show r.1.data.toList.length ≤ 32 by simpa using h1) (by decide)
    have h3 : kindS.at? (AV.str r.1) = some r.1.data.toList := if_pos h2
    have ih := keys_ofS (M := M) fun x hx => h x (by simp [hx])
    simp only [List.map_cons, keyListA, entS, h3]
    rw [ih]
theorem sorted_ofS {M S : List Rw} (hM : M.Perm S) (hS : SortedS S) : isortB kindS.le (M.map fun r => r.1.data.toList) = S.map fun r => r.1.data.toList := by
  have tr : ∀ a b c : List UInt8, kindS.le a b = true → kindS.le b c = true → kindS.le a c = true := fun a b c h1 h2 => by
    simp only [kindS, leB, decide_eq_true_eq] at *
    exact List.le_trans h1 h2
  have to : ∀ a b : List UInt8, (kindS.le a b || kindS.le b a) = true := fun a b => by
    simp only [kindS, leB, Bool.or_eq_true, decide_eq_true_eq]
    exact List.le_total a b
  refine List.Perm.eq_of_pairwise (le := fun a b => kindS.le a b = true) (fun a b _ _ h1 h2 => ?_) (isortB_sorted tr to _) ?_ ((isortB_perm _).trans (hM.map _))
  · simp only [kindS, leB, decide_eq_true_eq] at h1 h2
    exact List.le_antisymm h1 h2
  · rw [List.pairwise_map]
    refine hS.imp fun {a b} h => ?_
    rw [ltS_dec] at h
    simp only [kindS, leB, decide_eq_true_eq]
    exact List.le_of_lt (of_decide_eq_true h)
theorem f33_ok (hp s : List AObj) (mm i : Nat) (M S : List Rw) (hM : M.Perm S) (hS : SortedS S) (hok : ∀ r ∈ M, keyOk r.1 = true) (hlen : S.length ≤ 1000) (h1 : hp[i]? = some (.cells [.map (.hp mm)])) (h2 : hp[mm]? = some (.map (M.map entS))) (ro : Option Nat) :
    callW Try.prog how 33 [.fn (.func 61) [] [.ptr (.hp i) 0]] ⟨hp, s⟩ ro = some (slV 1 (S.map fun r => AV.str r.1), ⟨hp, s⟩) := by
  refine callW_prim (p := sortedA kindS 61) rfl ?_
  have hle : (M.map (fun r : Rw => r.1.data.toList)).length ≤ kindS.most := by
    rw [List.length_map, hM.length_eq]
    exact Nat.le_trans hlen (by decide)
  simp only [sortedA, AS.get, h1, h2, keys_ofS hok, if_true, hle]
  rw [sorted_ofS hM hS, slK_eq, List.map_map]
  rfl