/- Whether an object is right. -/

import Derived.Test.YtajoebiaopapoaaCe
open Go Go.Abs Go.Proofs
set_option maxRecDepth 100000
set_option maxHeartbeats 4000000
set_option linter.unusedSimpArgs false
set_option linter.unusedVariables false

namespace F58
noncomputable def cr (p : List Dir) : Code := sub p (bodyOf Try.f58)

section
attribute [local simp] ofV ofCell ofCells seqA_nil seqA_cons seqVK_eq seqEK_eq wantedA yieldedA isVal effA ev evs evps putE optsA optsOk valA fieldAddrA fieldA loadA partA aggA isAggD buildA placesA fillA lay storeA AV.withCells buildSliceA elemsA rowParts fzL promL okE isSrc bytesOk pushA cxOf lenA binA intBinA strBinA unA indexAddrA eqA AVs.inb AV.inb Loc.inb calleeA opsOf sub bodyOf Env.get_set quietA_nil quietA_cons quietK_none quietK_some qstep newA isNew escNew boxOk newLoc flat rowPartsQ quietN quietOp isBS List.takeWhile finishA_eq finK_ret finK_normal retK backK resA oneA AV.back AVs.back execW_seq_eq seqK_normal seqK_ret seqK_exit execW_cond_eq condK_true condK_false execW_block_eq blockK_exit blockK_normal blockK_ret execW_region_eq regK_eq execW_skip execW_exit execW_ret regionA_plain regionA_quiet0 tailK_eq nilCheckA guardOk isConst lookupA keyFits mapUpdateA beqI bneI
theorem rA (cx : Cx) (env : Env) (σ : AS) (X : AV) (hlen : env.length = 57) (hcx : cx.esc = []) (f0 : Env.get env 0 = .agg [X]) (hw : wok cx.ro (.st σ.st.length) = true) (hh : cx.h ≤ σ.st.length) :
    Pc Try.prog how cx [] 57 [1, 2] (cr [.l]) env σ (.normal) (σ.push false (.cells [X])) (fun env' => Env.get env' 1 = .ptr (.st σ.st.length) 0 ∧ Env.get env' 2 = .bool false) := by
  refine pc_of fun res hr => ?_
  simp -implicitDefEqProofs [-lenA, -indexAddrA, AS.get_push_at, AS.get_push_old, AS.push_len, AS.set_st_len, AS.next_st', AS.set_push_at, AS.get_set_self, AS.get_set_other, cr, Try.f58, hlen, hcx, f0, hw, hh] at hr
  subst hr
  refine ⟨_, rfl, by simp [hlen], by simp [Env.get_set, hlen, f0, hw, hh], fun i hi => ?_⟩
  simp only [List.mem_cons, List.not_mem_nil, or_false, not_or] at hi
  simp only [get_set2, hi, false_and, if_false]

theorem rB (cx : Cx) (env : Env) (σ : AS) (b n : Nat) (X : AV) (hlen : env.length = 57) (hcx : cx.esc = []) (f1 : Env.get env 1 = .ptr (.st b) 0) (g1 : σ.get (.st b) = some (.cells [X])) (hX : lenA Try.prog σ 72 X = some n) :
    Pc Try.prog how cx [] 57 [5, 6, 7, 8] (cr [.r, .l, .l]) env σ (.normal) (σ) (fun env' => Env.get env' 6 = X ∧ Env.get env' 7 = .int .i64 (n : Int) ∧ Env.get env' 8 = .int .i64 0) := by
  refine pc_of fun res hr => ?_
  simp -implicitDefEqProofs [-lenA, -indexAddrA, AS.get_push_at, AS.get_push_old, AS.push_len, AS.set_st_len, AS.next_st', AS.set_push_at, AS.get_set_self, AS.get_set_other, cr, Try.f58, hlen, hcx, f1, g1, hX] at hr
  subst hr
  refine ⟨_, rfl, by simp [hlen], by simp [Env.get_set, hlen, f1, g1, hX], fun i hi => ?_⟩
  simp only [List.mem_cons, List.not_mem_nil, or_false, not_or] at hi
  simp only [get_set2, hi, false_and, if_false]

theorem rE (cx : Cx) (env : Env) (σ : AS) (k : Nat) (X : AV) (v : Vn) (hlen : env.length = 57) (hcx : cx.esc = []) (f6 : Env.get env 6 = X) (f8 : Env.get env 8 = .int .i64 (k : Int)) (hia : indexAddrA Try.prog σ 72 X (.int .i64 (k : Int)) = some (.rptr [.int .i64 v.a, .int .u64 v.n, .str v.v, .bool v.g] 0)) (hw : wok cx.ro (.st σ.st.length) = true) (hh : cx.h ≤ σ.st.length) :
    Pc Try.prog how cx [] 57 [3, 4, 10, 11, 12] (cr [.r, .l, .r, .i, .i, .r, .r, .l, .i, .l]) env σ (.normal) (σ.push false (.cells [.int .i64 v.a, .int .u64 v.n, .str v.v, .bool v.g])) (fun env' => Env.get env' 3 = .int .i64 (k : Int) ∧ Env.get env' 4 = .ptr (.st σ.st.length) 0) := by
  refine pc_of fun res hr => ?_
  simp -implicitDefEqProofs [-lenA, -indexAddrA, AS.get_push_at, AS.get_push_old, AS.push_len, AS.set_st_len, AS.next_st', AS.set_push_at, AS.get_set_self, AS.get_set_other, cr, Try.f58, hlen, hcx, f6, f8, hia, hw, hh] at hr
  subst hr
  refine ⟨_, rfl, by simp [hlen], by simp [Env.get_set, hlen, f6, f8, hia, hw, hh], fun i hi => ?_⟩
  simp only [List.mem_cons, List.not_mem_nil, or_false, not_or] at hi
  simp only [get_set2, hi, false_and, if_false]

theorem rG (cx : Cx) (env : Env) (σ : AS) (c : Nat) (v : Vn) (hlen : env.length = 57) (hcx : cx.esc = []) (f4 : Env.get env 4 = .ptr (.st c) 0) (gc : σ.get (.st c) = some (.cells [.int .i64 v.a, .int .u64 v.n, .str v.v, .bool v.g])) (ha : ¬ v.a < 1) (hn : ¬ v.n < 1) (hc : callW Try.prog how 64 [.str v.v, .bool v.g] σ cx.ro = some (.bool true, σ)) :
    Pc Try.prog how cx [] 57 [13, 14, 15, 16, 17, 18, 19, 20, 21, 22, 23, 24, 25, 26, 27, 28] (cr [.r, .l, .r, .i, .i, .r, .r, .l, .i, .r, .l]) env σ (.normal) (σ) (fun _ => True) := by
  refine pc_of fun res hr => ?_
  simp -implicitDefEqProofs [-lenA, -indexAddrA, AS.get_push_at, AS.get_push_old, AS.push_len, AS.set_st_len, AS.next_st', AS.set_push_at, AS.get_set_self, AS.get_set_other, cr, Try.f58, hlen, hcx, f4, gc, ha, hn, hc] at hr
  subst hr
  refine ⟨_, rfl, by simp [hlen], by simp [Env.get_set, hlen, f4, gc, ha, hn, hc], fun i hi => ?_⟩
  simp only [List.mem_cons, List.not_mem_nil, or_false, not_or] at hi
  simp only [get_set2, hi, false_and, if_false]

theorem rH0 (cx : Cx) (env : Env) (σ : AS)  (hlen : env.length = 57) (hcx : cx.esc = []) (f3 : Env.get env 3 = .int .i64 0) :
    Pc Try.prog how cx [] 57 [29, 30, 31, 32, 33, 34, 35, 36, 37, 38, 39, 40, 41, 42, 43, 44, 45, 46, 47, 48, 49, 50, 51, 52, 53, 54, 55] (cr [.r, .l, .r, .i, .i, .r, .r, .l, .i, .r, .r]) env σ (.normal) (σ) (fun _ => True) := by
  refine pc_of fun res hr => ?_
  simp -implicitDefEqProofs [-lenA, -indexAddrA, AS.get_push_at, AS.get_push_old, AS.push_len, AS.set_st_len, AS.next_st', AS.set_push_at, AS.get_set_self, AS.get_set_other, cr, Try.f58, hlen, hcx, f3] at hr
  subst hr
  refine ⟨_, rfl, by simp [hlen], by simp [Env.get_set, hlen, f3], fun i hi => ?_⟩
  simp only [List.mem_cons, List.not_mem_nil, or_false, not_or] at hi
  simp only [get_set2, hi, false_and, if_false]

theorem rH1 (cx : Cx) (env : Env) (σ : AS) (b c j : Nat) (X : AV) (v w : Vn) (hlen : env.length = 57) (hcx : cx.esc = []) (f1 : Env.get env 1 = .ptr (.st b) 0) (f3 : Env.get env 3 = .int .i64 ((j : Int) + 1)) (f4 : Env.get env 4 = .ptr (.st c) 0) (gb : σ.get (.st b) = some (.cells [X])) (gc : σ.get (.st c) = some (.cells [.int .i64 v.a, .int .u64 v.n, .str v.v, .bool v.g])) (hia : indexAddrA Try.prog σ 72 X (.int .i64 (j : Int)) = some (.rptr [.int .i64 w.a, .int .u64 w.n, .str w.v, .bool w.g] 0)) (hj : (0 : Int) < (j : Int) + 1) (hw : wr .i64 ((j : Int) + 1 - 1) = (j : Int)) (hw2 : wr .i64 (j : Int) = (j : Int)) (ha : ¬ v.a ≤ w.a) (hu : wr .u64 (v.n - 1) = w.n) :
    Pc Try.prog how cx [] 57 [29, 30, 31, 32, 33, 34, 35, 36, 37, 38, 39, 40, 41, 42, 43, 44, 45, 46, 47, 48, 49, 50, 51, 52, 53, 54, 55] (cr [.r, .l, .r, .i, .i, .r, .r, .l, .i, .r, .r]) env σ (.normal) (σ) (fun _ => True) := by
  refine pc_of fun res hr => ?_
  simp -implicitDefEqProofs [-lenA, -indexAddrA, AS.get_push_at, AS.get_push_old, AS.push_len, AS.set_st_len, AS.next_st', AS.set_push_at, AS.get_set_self, AS.get_set_other, cr, Try.f58, hlen, hcx, f1, f3, f4, gb, gc, hia, hj, hw, hw2, ha, hu] at hr
  subst hr
  refine ⟨_, rfl, by simp [hlen], by simp [Env.get_set, hlen, f1, f3, f4, gb, gc, hia, hj, hw, hw2, ha, hu], fun i hi => ?_⟩
  simp only [List.mem_cons, List.not_mem_nil, or_false, not_or] at hi
  simp only [get_set2, hi, false_and, if_false]

theorem rD (cx : Cx) (env : Env) (σ : AS)  (hlen : env.length = 57) (hcx : cx.esc = [])  :
    Pc Try.prog how cx [] 57 [2] (cr [.r, .r, .l]) env σ (.normal) (σ) (fun env' => Env.get env' 2 = .bool true) := by
  refine pc_of fun res hr => ?_
  simp -implicitDefEqProofs [-lenA, -indexAddrA, AS.get_push_at, AS.get_push_old, AS.push_len, AS.set_st_len, AS.next_st', AS.set_push_at, AS.get_set_self, AS.get_set_other, cr, Try.f58, hlen, hcx] at hr
  subst hr
  refine ⟨_, rfl, by simp [hlen], by simp [Env.get_set, hlen], fun i hi => ?_⟩
  simp only [List.mem_cons, List.not_mem_nil, or_false, not_or] at hi
  simp only [get_set2, hi, false_and, if_false]

end
noncomputable def bodyC : Code := (.seq (cr [.l]) (.seq (.seq (cr [.r, .l, .l]) (cr [.r, .l, .r])) (.seq (cr [.r, .r, .l]) .ret)))
theorem body : Try.f58.body = some bodyC := by kernel_rfl
/-- What holds ahead of round k. -/
def J (h : Nat) (σ0 : AS) (b : Nat) (L : List Vn) (k : Nat) (env : Env) (σ : AS) : Prop :=
  Env.get env 1 = .ptr (.st b) 0 ∧ Env.get env 6 = slV 4 (L.map encVn) ∧ (σ.get (.st b) = some (.cells [slV 4 (L.map encVn)])) ∧ Outside h σ0 σ
def Ex (h : Nat) (σ0 : AS) (b : Nat) (L : List Vn) (e : AExit) (env : Env) (σ : AS) : Prop := False
theorem J_stable {h : Nat} {σ0 : AS} {b : Nat} {L : List Vn} : ∀ k env env' σ, env.length = 57 → env'.length = 57 → (∀ i, i ≠ 9 → i ≠ 56 → i ≠ 8 → Env.get env' i = Env.get env i) → J h σ0 b L k env σ → J h σ0 b L k env' σ := by
  rintro k env env' σ _ _ hf ⟨j1, j6, q0, ho⟩
  exact ⟨(hf 1 (by decide) (by decide) (by decide)).trans j1, (hf 6 (by decide) (by decide) (by decide)).trans j6, q0, ho⟩
noncomputable def oT : Oper := (opsOf (cr [.r, .l, .r, .i, .i, .l])).headD default
noncomputable def oI : List Oper := opsOf (cr [.r, .l, .r, .i, .i, .r, .r, .r])
theorem loop_eq : (cr [.r, .l, .r]) = .block 0 (.loop (.seq (.region 2 #[oT] false) (.seq (.cond (.tmp 9) .skip (.exit 0)) (.seq (.block 1 (.seq (cr [.r, .l, .r, .i, .i, .r, .r, .l, .i, .l]) (.seq (cr [.r, .l, .r, .i, .i, .r, .r, .l, .i, .r, .l]) (cr [.r, .l, .r, .i, .i, .r, .r, .l, .i, .r, .r])))) (.region 8 #[oI.headD default, (oI.drop 1).headD default] false))))) := by kernel_rfl
theorem step (cx : Cx) (hcx : cx.esc = []) (hro : ∀ k, cx.ro = some k → k ≤ cx.h) (σ0 : AS) (b : Nat) (L : List Vn) (hG : GoodO L) :
    ∀ k env σ, k < L.length → env.length = 57 → Env.get env 8 = .int .i64 (k : Int) → Env.get env 7 = .int .i64 ((L.length : Nat) : Int) → J cx.h σ0 b L k env σ → ∃ e env' σ', execW Try.prog cx [] (callW Try.prog how) (.block 1 (.seq (cr [.r, .l, .r, .i, .i, .r, .r, .l, .i, .l]) (.seq (cr [.r, .l, .r, .i, .i, .r, .r, .l, .i, .r, .l]) (cr [.r, .l, .r, .i, .i, .r, .r, .l, .i, .r, .r])))) (env, σ) = some (e, (env', σ')) ∧
      ((e = .normal ∧ env'.length = 57 ∧ Env.get env' 8 = .int .i64 (k : Int) ∧ Env.get env' 7 = .int .i64 ((L.length : Nat) : Int) ∧ J cx.h σ0 b L (k + 1) env' σ') ∨ (e ≠ .normal ∧ Ex cx.h σ0 b L e env' σ')) := by
  rintro k env σ hk hlen f8 f7 ⟨f1, f6, q0, ho⟩
  have hv := hG.el L[k] (List.getElem_mem hk)
  have hia := fun σ => idx_slV Try.prog σ 72 46 4 Try.underlying72 (L.map encVn) k (encVn L[k]) s46 (by decide) (by rw [List.getElem?_map, List.getElem?_eq_getElem hk]; rfl)
  obtain ⟨env1, x1a, x1b, x1c, x1d⟩ := rE cx env σ k (slV 4 (L.map encVn)) (L[k]) hlen hcx f6 f8 (hia _) (wokst hro ho.2.2) ho.2.2
  have f1 := (x1d 1 (by decide)).trans f1
  have f6 := (x1d 6 (by decide)).trans f6
  have f7 := (x1d 7 (by decide)).trans f7
  have f8 := (x1d 8 (by decide)).trans f8
  have f3 := x1c.1
  have f4 := x1c.2
  have g1 : ((σ : AS).push false (.cells [.int .i64 L[k].a, .int .u64 L[k].n, .str L[k].v, .bool L[k].g])).get (.st (σ : AS).st.length) = some (.cells [.int .i64 L[k].a, .int .u64 L[k].n, .str L[k].v, .bool L[k].g]) := AS.get_push_at rfl
  have q0 := get_push' (ob' := .cells [.int .i64 L[k].a, .int .u64 L[k].n, .str L[k].v, .bool L[k].g]) q0
  have ho := ho.push (ob := .cells [.int .i64 L[k].a, .int .u64 L[k].n, .str L[k].v, .bool L[k].g])
  generalize hib1 : (σ : AS).st.length = ib1 at g1 f4
  generalize (σ : AS).push false (.cells [.int .i64 L[k].a, .int .u64 L[k].n, .str L[k].v, .bool L[k].g]) = σ1 at x1a g1 q0 ho
  have hc := f64_ok σ1.hp σ1.st cx.ro L[k].v L[k].g (fun j hj => Nat.le_trans (hro j hj) ho.2.2) (may_size hv.2.2.2)
  rw [hv.2.2.2] at hc
  obtain ⟨env2, x2a, x2b, x2c, x2d⟩ := rG cx env1 σ1 _ (L[k]) x1b hcx f4 g1 (by omega) (by omega) hc 
  have f1 := (x2d 1 (by decide)).trans f1
  have f3 := (x2d 3 (by decide)).trans f3
  have f4 := (x2d 4 (by decide)).trans f4
  have f6 := (x2d 6 (by decide)).trans f6
  have f7 := (x2d 7 (by decide)).trans f7
  have f8 := (x2d 8 (by decide)).trans f8
  rcases Nat.eq_zero_or_pos k with h0 | h0
  · subst h0
    have f3 : Env.get env2 3 = .int .i64 0 := f3
    obtain ⟨env3, x3a, x3b, x3c, x3d⟩ := rH0 cx env2 σ1  x2b hcx f3  
    have f1 := (x3d 1 (by decide)).trans f1
    have f3 := (x3d 3 (by decide)).trans f3
    have f4 := (x3d 4 (by decide)).trans f4
    have f6 := (x3d 6 (by decide)).trans f6
    have f7 := (x3d 7 (by decide)).trans f7
    have f8 := (x3d 8 (by decide)).trans f8
    exact ⟨.normal, env3, _, (execW_block_of (execW_seq_of x1a (execW_seq_of x2a x3a))), .inl ⟨rfl, x3b, f8, f7, f1, f6, q0, ho⟩⟩
  · obtain ⟨j, rfl⟩ : ∃ j, k = j + 1 := ⟨k - 1, by omega⟩
    have hia2 := idx_slV Try.prog σ1 72 46 4 Try.underlying72 (L.map encVn) j (encVn L[j]) s46 (by decide) (by rw [List.getElem?_map, List.getElem?_eq_getElem (by omega)]; rfl)
    have hup := hG.up j hk
    have f3 : Env.get env2 3 = .int .i64 ((j : Int) + 1) := f3
    obtain ⟨env3, x3a, x3b, x3c, x3d⟩ := rH1 cx env2 σ1 b _ j (slV 4 (L.map encVn)) (L[j + 1]) (L[j]) x2b hcx f1 f3 f4 q0 g1 hia2 (by omega) (by rw [wr_ok (by omega) (by have := hG.len; omega)]; omega) (wr_ok (by omega) (by have := hG.len; omega)) (by omega) (by rw [wr_u64 (by omega) (by omega)]; omega) 
    have f1 := (x3d 1 (by decide)).trans f1
    have f3 := (x3d 3 (by decide)).trans f3
    have f4 := (x3d 4 (by decide)).trans f4
    have f6 := (x3d 6 (by decide)).trans f6
    have f7 := (x3d 7 (by decide)).trans f7
    have f8 := (x3d 8 (by decide)).trans f8
    exact ⟨.normal, env3, _, (execW_block_of (execW_seq_of x1a (execW_seq_of x2a x3a))), .inl ⟨rfl, x3b, f8, f7, f1, f6, q0, ho⟩⟩
theorem loop (cx : Cx) (hcx : cx.esc = []) (hro : ∀ k, cx.ro = some k → k ≤ cx.h) (σ0 : AS) (b : Nat) (L : List Vn) (hG : GoodO L) (hnn : L.length ≤ 9223372036854775807) {env : Env} {σ : AS} (hl : env.length = 57) (h1 : Env.get env 8 = .int .i64 0) (h2 : Env.get env 7 = .int .i64 ((L.length : Nat) : Int)) (h0 : J cx.h σ0 b L 0 env σ) :
    ∃ e env' σ', execW Try.prog cx [] (callW Try.prog how) (cr [.r, .l, .r]) (env, σ) = some (e, (env', σ')) ∧ ((e = .normal ∧ ((env'.length = 57 ∧ J cx.h σ0 b L (L.length) env' σ') ∨ Ex cx.h σ0 b L (.exit 0) env' σ')) ∨ (e ≠ .normal ∧ e ≠ .exit 0 ∧ Ex cx.h σ0 b L e env' σ')) := by
  rw [loop_eq]
  exact range_std (Ex := Ex cx.h σ0 b L) (N := 57) (tc := 9) (ti := 8) (tl := 7) (tx := 56) (ty1 := 3) (ty2 := 3) (ty3 := 3) (ty4 := 3) ⟨by kernel_rfl, by kernel_rfl, by kernel_rfl⟩ ⟨by kernel_rfl, by kernel_rfl, by kernel_rfl⟩ ⟨by kernel_rfl, by kernel_rfl, by kernel_rfl⟩ (by decide) hnn J_stable (step cx hcx hro σ0 b L hG) hl h1 h2 h0
theorem ok (hp s : List AObj) (ro : Option Nat) (L : List Vn) (hro' : ∀ k, ro = some k → k ≤ s.length) (hG : GoodO L) :
    callW Try.prog how 58 [.agg [slV 4 (L.map encVn)]] ⟨hp, s⟩ ro = some (.bool true, ⟨hp, s⟩) := by
  let cx : Cx := { h := s.length, ro := ro, esc := [] }
  have hcx : cx.esc = [] := rfl
  have hro : ∀ k, cx.ro = some k → k ≤ cx.h := hro'
  obtain ⟨env, henv⟩ : ∃ e, e = frameA Try.f58 [.agg [slV 4 (L.map encVn)]] := ⟨_, rfl⟩
  have hlen : env.length = 57 := by rw [henv]; rfl
  have f0 : Env.get env 0 = .agg [slV 4 (L.map encVn)] := by rw [henv]; rfl
  have ho : Outside s.length (AS.mk hp s) (AS.mk hp s) := Outside.refl (Nat.le_refl _)
  obtain ⟨env1, x1a, x1b, x1c, x1d⟩ := rA cx env (AS.mk hp s) (slV 4 (L.map encVn)) hlen hcx f0  (wokst hro (Nat.le_refl _)) (Nat.le_refl _)
  have f0 := (x1d 0 (by decide)).trans f0
  have f1 := x1c.1
  have f2 := x1c.2
  have g1 : ((AS.mk hp s : AS).push false (.cells [slV 4 (L.map encVn)])).get (.st (AS.mk hp s : AS).st.length) = some (.cells [slV 4 (L.map encVn)]) := AS.get_push_at rfl
  have ho := ho.push (ob := .cells [slV 4 (L.map encVn)])
  generalize hib1 : (AS.mk hp s : AS).st.length = ib1 at g1 f1
  generalize (AS.mk hp s : AS).push false (.cells [slV 4 (L.map encVn)]) = σ1 at x1a g1 ho
  have hla := len_slV Try.prog σ1 72 46 4 Try.underlying72 (L.map encVn)
  rw [List.length_map] at hla
  obtain ⟨env2, x2a, x2b, x2c, x2d⟩ := rB cx env1 σ1 _ L.length (slV 4 (L.map encVn)) x1b hcx f1 g1 hla 
  have f0 := (x2d 0 (by decide)).trans f0
  have f1 := (x2d 1 (by decide)).trans f1
  have f2 := (x2d 2 (by decide)).trans f2
  have f6 := x2c.1
  have f7 := x2c.2.1
  have f8 := x2c.2.2
  obtain ⟨e3, env3, σ3, x3a, x3p⟩ := loop cx hcx hro ⟨hp, s⟩ _ L hG (by have := hG.len; omega) (σ := σ1) x2b f8 f7 (⟨f1, f6, g1, ho⟩)
  rcases x3p with ⟨rfl, ⟨x3b, f1, f6, q0, ho⟩ | x3p⟩ | ⟨x3q, x3r, x3p⟩
  · skip
    obtain ⟨env4, x4a, x4b, x4c, x4d⟩ := rD cx env3 σ3  x3b hcx   
    have f1 := (x4d 1 (by decide)).trans f1
    have f6 := (x4d 6 (by decide)).trans f6
    have f2 := x4c
    exact call_of (fl := {}) (fn := Try.f58) (c := bodyC) (env := env) (e := (.ret, (env4, σ3))) rfl Try.func58 body henv (by unfold bodyC; exact (execW_seq_of x1a (execW_seq_of (execW_seq_of x2a x3a) (execW_seq_of x4a (by rfl))))) ((fin_tmp (k := 2) (.inl rfl) rfl rfl f2 (by simp [AV.back]) (by simp [AV.inb])).trans (congrArg (fun x => some (_, x)) (outside_st ho)))
  · cases x3p
  · cases x3p
end F58
