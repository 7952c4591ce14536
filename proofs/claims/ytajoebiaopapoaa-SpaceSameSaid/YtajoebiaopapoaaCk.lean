/- The document's versions up to a number. -/

import Derived.Test.YtajoebiaopapoaaCj
open Go Go.Abs Go.Proofs
set_option maxRecDepth 100000
set_option maxHeartbeats 4000000
set_option linter.unusedSimpArgs false
set_option linter.unusedVariables false

theorem app34 : AppOk Try.prog 34 4 40 := ⟨40, .slice 40, by simp [elemA], by simp, by simp, by kernel_rfl, rfl, by decide, by simp [AV.cells]⟩
theorem app33 : AppOk Try.prog 33 1 16 := ⟨9, .slice 9, by simp [elemA], by simp, by simp, by kernel_rfl, rfl, by decide, by simp [AV.cells]⟩
theorem app26 : AppOk Try.prog 26 2 40 := ⟨36, .slice 36, by simp [elemA], by simp, by simp, by kernel_rfl, rfl, by decide, by simp [AV.cells]⟩
theorem filter_succ {α : Type} {p : α → Bool} {l : List α} {k : Nat} (hk : k < l.length) : (l.take (k + 1)).filter p = (l.take k).filter p ++ (if p l[k] then [l[k]] else []) := by
  rw [List.take_succ_eq_append_getElem hk, List.filter_append]
  congr 1
  cases h : p l[k] <;> simp [h]
theorem Rows0 {h : Nat} {σ : AS} {sz : Nat} : Rows h σ [(sz, .nils, [])] := ⟨fun e he => by
    simp only [List.mem_cons, List.not_mem_nil, or_false] at he
    subst he
    exact .inl ⟨rfl, rfl⟩, by simp⟩
namespace F36
noncomputable def cr (p : List Dir) : Code := sub p (bodyOf Try.f36)

section
attribute [local simp] ofV ofCell ofCells seqA_nil seqA_cons seqVK_eq seqEK_eq wantedA yieldedA isVal effA ev evs evps putE optsA optsOk valA fieldAddrA fieldA loadA partA aggA isAggD buildA placesA fillA lay storeA AV.withCells buildSliceA elemsA rowParts fzL promL okE isSrc bytesOk pushA cxOf lenA binA intBinA strBinA unA indexAddrA eqA AVs.inb AV.inb Loc.inb calleeA opsOf sub bodyOf Env.get_set quietA_nil quietA_cons quietK_none quietK_some qstep newA isNew escNew boxOk newLoc flat rowPartsQ quietN quietOp isBS List.takeWhile finishA_eq finK_ret finK_normal retK backK resA oneA AV.back AVs.back execW_seq_eq seqK_normal seqK_ret seqK_exit execW_cond_eq condK_true condK_false execW_block_eq blockK_exit blockK_normal blockK_ret execW_region_eq regK_eq execW_skip execW_exit execW_ret regionA_plain regionA_quiet0 tailK_eq nilCheckA guardOk isConst lookupA keyFits mapUpdateA beqI bneI
theorem rA (cx : Cx) (env : Env) (σ : AS)  (hlen : env.length = 24) (hcx : cx.esc = [])  :
    Pc Try.prog how cx [] 24 [4] (cr [.l]) env σ (.normal) (σ) (fun env' => Env.get env' 4 = .nils) := by
  refine pc_of fun res hr => ?_
  simp -implicitDefEqProofs [-lenA, -indexAddrA, AS.get_push_at, AS.get_push_old, AS.push_len, AS.set_st_len, AS.next_st', AS.set_push_at, AS.get_set_self, AS.get_set_other, cr, Try.f36, hlen, hcx] at hr
  subst hr
  refine ⟨_, rfl, by simp [hlen], by simp [Env.get_set, hlen], fun i hi => ?_⟩
  simp only [List.mem_cons, List.not_mem_nil, or_false, not_or] at hi
  simp only [get_set2, hi, false_and, if_false]

theorem rB (cx : Cx) (env : Env) (σ : AS)  (hlen : env.length = 24) (hcx : cx.esc = [])  :
    Pc Try.prog how cx [] 24 [5] (cr [.r, .l]) env σ (.normal) (σ) (fun env' => Env.get env' 5 = .nils) := by
  refine pc_of fun res hr => ?_
  simp -implicitDefEqProofs [-lenA, -indexAddrA, AS.get_push_at, AS.get_push_old, AS.push_len, AS.set_st_len, AS.next_st', AS.set_push_at, AS.get_set_self, AS.get_set_other, cr, Try.f36, hlen, hcx] at hr
  subst hr
  refine ⟨_, rfl, by simp [hlen], by simp [Env.get_set, hlen], fun i hi => ?_⟩
  simp only [List.mem_cons, List.not_mem_nil, or_false, not_or] at hi
  simp only [get_set2, hi, false_and, if_false]

theorem rC (cx : Cx) (env : Env) (σ : AS) (X : AV) (n : Nat) (hlen : env.length = 24) (hcx : cx.esc = []) (f0 : Env.get env 0 = X) (hX : lenA Try.prog σ 34 X = some n) :
    Pc Try.prog how cx [] 24 [8, 9, 10] (cr [.r, .r, .l, .l]) env σ (.normal) (σ) (fun env' => Env.get env' 8 = X ∧ Env.get env' 9 = .int .i64 (n : Int) ∧ Env.get env' 10 = .int .i64 0) := by
  refine pc_of fun res hr => ?_
  simp -implicitDefEqProofs [-lenA, -indexAddrA, AS.get_push_at, AS.get_push_old, AS.push_len, AS.set_st_len, AS.next_st', AS.set_push_at, AS.get_set_self, AS.get_set_other, cr, Try.f36, hlen, hcx, f0, hX] at hr
  subst hr
  refine ⟨_, rfl, by simp [hlen], by simp [Env.get_set, hlen, f0, hX], fun i hi => ?_⟩
  simp only [List.mem_cons, List.not_mem_nil, or_false, not_or] at hi
  simp only [get_set2, hi, false_and, if_false]

theorem rE (cx : Cx) (env : Env) (σ : AS) (k : Nat) (X : AV) (v : Vn) (hlen : env.length = 24) (hcx : cx.esc = []) (f8 : Env.get env 8 = X) (f10 : Env.get env 10 = .int .i64 (k : Int)) (hia : indexAddrA Try.prog σ 34 X (.int .i64 (k : Int)) = some (.rptr [.int .i64 v.a, .int .u64 v.n, .str v.v, .bool v.g] 0)) (hw : wok cx.ro (.st σ.st.length) = true) (hh : cx.h ≤ σ.st.length) :
    Pc Try.prog how cx [] 24 [7, 12, 13] (cr [.r, .r, .l, .r, .i, .i, .r, .r, .l, .i, .l]) env σ (.normal) (σ.push false (.cells [.int .i64 v.a, .int .u64 v.n, .str v.v, .bool v.g])) (fun env' => Env.get env' 7 = .ptr (.st σ.st.length) 0) := by
  refine pc_of fun res hr => ?_
  simp -implicitDefEqProofs [-lenA, -indexAddrA, AS.get_push_at, AS.get_push_old, AS.push_len, AS.set_st_len, AS.next_st', AS.set_push_at, AS.get_set_self, AS.get_set_other, cr, Try.f36, hlen, hcx, f8, f10, hia, hw, hh] at hr
  subst hr
  refine ⟨_, rfl, by simp [hlen], by simp [Env.get_set, hlen, f8, f10, hia, hw, hh], fun i hi => ?_⟩
  simp only [List.mem_cons, List.not_mem_nil, or_false, not_or] at hi
  simp only [get_set2, hi, false_and, if_false]

theorem rN (cx : Cx) (env : Env) (σ : AS) (c : Nat) (m : Int) (v : Vn) (hlen : env.length = 24) (hcx : cx.esc = []) (f1 : Env.get env 1 = .int .i64 m) (f7 : Env.get env 7 = .ptr (.st c) 0) (gc : σ.get (.st c) = some (.cells [.int .i64 v.a, .int .u64 v.n, .str v.v, .bool v.g])) (q : ¬ v.a ≤ m) :
    Pc Try.prog how cx [] 24 [14, 15, 16, 17] (cr [.r, .r, .l, .r, .i, .i, .r, .r, .l, .i, .r]) env σ (.normal) (σ) (fun _ => True) := by
  refine pc_of fun res hr => ?_
  simp -implicitDefEqProofs [-lenA, -indexAddrA, AS.get_push_at, AS.get_push_old, AS.push_len, AS.set_st_len, AS.next_st', AS.set_push_at, AS.get_set_self, AS.get_set_other, cr, Try.f36, hlen, hcx, f1, f7, gc, q] at hr
  subst hr
  refine ⟨_, rfl, by simp [hlen], by simp [Env.get_set, hlen, f1, f7, gc, q], fun i hi => ?_⟩
  simp only [List.mem_cons, List.not_mem_nil, or_false, not_or] at hi
  simp only [get_set2, hi, false_and, if_false]

theorem rY (cx : Cx) (env : Env) (σ : AS) (c : Nat) (m : Int) (v : Vn) (R' : AV) (R : AV) (σ' : AS) (hlen : env.length = 24) (hcx : cx.esc = []) (f1 : Env.get env 1 = .int .i64 m) (f5 : Env.get env 5 = R) (f7 : Env.get env 7 = .ptr (.st c) 0) (gc : σ.get (.st c) = some (.cells [.int .i64 v.a, .int .u64 v.n, .str v.v, .bool v.g])) (q : v.a ≤ m) (hap : appendA Try.prog cx (σ.push false (.row [.agg [.int .i64 v.a, .int .u64 v.n, .str v.v, .bool v.g]] 4 0 false)) [34, 34] R (.row (.st σ.st.length) 0 0 1) = some (R', σ')) :
    Pc Try.prog how cx [] 24 [5, 14, 15, 16, 17, 18, 19, 20, 21] (cr [.r, .r, .l, .r, .i, .i, .r, .r, .l, .i, .r]) env σ (.normal) (σ') (fun env' => Env.get env' 5 = R') := by
  refine pc_of fun res hr => ?_
  simp -implicitDefEqProofs [-lenA, -indexAddrA, AS.get_push_at, AS.get_push_old, AS.push_len, AS.set_st_len, AS.next_st', AS.set_push_at, AS.get_set_self, AS.get_set_other, cr, Try.f36, hlen, hcx, f1, f5, f7, gc, q, hap, elemA] at hr
  subst hr
  refine ⟨_, rfl, by simp [hlen], by simp [Env.get_set, hlen, f1, f5, f7, gc, q, hap, elemA], fun i hi => ?_⟩
  simp only [List.mem_cons, List.not_mem_nil, or_false, not_or] at hi
  simp only [get_set2, hi, false_and, if_false]

theorem rD (cx : Cx) (env : Env) (σ : AS) (R : AV) (hlen : env.length = 24) (hcx : cx.esc = []) (f5 : Env.get env 5 = R) :
    Pc Try.prog how cx [] 24 [4, 23] (cr [.r, .r, .r, .l]) env σ (.normal) (σ) (fun env' => Env.get env' 4 = R) := by
  refine pc_of fun res hr => ?_
  simp -implicitDefEqProofs [-lenA, -indexAddrA, AS.get_push_at, AS.get_push_old, AS.push_len, AS.set_st_len, AS.next_st', AS.set_push_at, AS.get_set_self, AS.get_set_other, cr, Try.f36, hlen, hcx, f5] at hr
  subst hr
  refine ⟨_, rfl, by simp [hlen], by simp [Env.get_set, hlen, f5], fun i hi => ?_⟩
  simp only [List.mem_cons, List.not_mem_nil, or_false, not_or] at hi
  simp only [get_set2, hi, false_and, if_false]

end
noncomputable def bodyC : Code := (.seq (cr [.l]) (.seq (cr [.r, .l]) (.seq (.seq (cr [.r, .r, .l, .l]) (cr [.r, .r, .l, .r])) (.seq (cr [.r, .r, .r, .l]) .ret))))
theorem body : Try.f36.body = some bodyC := by kernel_rfl
/-- What holds ahead of round k. -/
def J (h : Nat) (σ0 : AS) (m : Int) (L : List Vn) (k : Nat) (env : Env) (σ : AS) : Prop :=
  Env.get env 1 = .int .i64 m ∧ Env.get env 8 = slV 4 (L.map encVn) ∧ (∃ R0, Env.get env 5 = R0 ∧ Rows h σ [(4, R0, ((L.take k).filter (fun v => decide (v.a ≤ m))).map encVn)]) ∧ Outside h σ0 σ
def Ex (h : Nat) (σ0 : AS) (m : Int) (L : List Vn) (e : AExit) (env : Env) (σ : AS) : Prop := False
theorem J_stable {h : Nat} {σ0 : AS} {m : Int} {L : List Vn} : ∀ k env env' σ, env.length = 24 → env'.length = 24 → (∀ i, i ≠ 11 → i ≠ 22 → i ≠ 10 → Env.get env' i = Env.get env i) → J h σ0 m L k env σ → J h σ0 m L k env' σ := by
  rintro k env env' σ _ _ hf ⟨j1, j8, ⟨R0, r0, hR⟩, ho⟩
  exact ⟨(hf 1 (by decide) (by decide) (by decide)).trans j1, (hf 8 (by decide) (by decide) (by decide)).trans j8, ⟨R0, (hf 5 (by decide) (by decide) (by decide)).trans r0, hR⟩, ho⟩
noncomputable def oT : Oper := (opsOf (cr [.r, .r, .l, .r, .i, .i, .l])).headD default
noncomputable def oI : List Oper := opsOf (cr [.r, .r, .l, .r, .i, .i, .r, .r, .r])
theorem loop_eq : (cr [.r, .r, .l, .r]) = .block 0 (.loop (.seq (.region 3 #[oT] false) (.seq (.cond (.tmp 11) .skip (.exit 0)) (.seq (.block 1 (.seq (cr [.r, .r, .l, .r, .i, .i, .r, .r, .l, .i, .l]) (cr [.r, .r, .l, .r, .i, .i, .r, .r, .l, .i, .r]))) (.region 7 #[oI.headD default, (oI.drop 1).headD default] false))))) := by kernel_rfl
theorem step (cx : Cx) (hcx : cx.esc = []) (hro : ∀ k, cx.ro = some k → k ≤ cx.h) (σ0 : AS) (m : Int) (L : List Vn) (hlen2 : L.length ≤ 1000) :
    ∀ k env σ, k < L.length → env.length = 24 → Env.get env 10 = .int .i64 (k : Int) → Env.get env 9 = .int .i64 ((L.length : Nat) : Int) → J cx.h σ0 m L k env σ → ∃ e env' σ', execW Try.prog cx [] (callW Try.prog how) (.block 1 (.seq (cr [.r, .r, .l, .r, .i, .i, .r, .r, .l, .i, .l]) (cr [.r, .r, .l, .r, .i, .i, .r, .r, .l, .i, .r]))) (env, σ) = some (e, (env', σ')) ∧
      ((e = .normal ∧ env'.length = 24 ∧ Env.get env' 10 = .int .i64 (k : Int) ∧ Env.get env' 9 = .int .i64 ((L.length : Nat) : Int) ∧ J cx.h σ0 m L (k + 1) env' σ') ∨ (e ≠ .normal ∧ Ex cx.h σ0 m L e env' σ')) := by
  rintro k env σ hk hlen f10 f9 ⟨f1, f8, ⟨R0, f5, hR⟩, ho⟩
  have hia := idxL' L k hk
  have hs := filter_succ (p := fun v : Vn => decide (v.a ≤ m)) hk
  obtain ⟨env1, x1a, x1b, x1c, x1d⟩ := rE cx env σ k (slV 4 (L.map encVn)) (L[k]) hlen hcx f8 f10 (hia _) (wokst hro ho.2.2) ho.2.2
  have f1 := (x1d 1 (by decide)).trans f1
  have f5 := (x1d 5 (by decide)).trans f5
  have f8 := (x1d 8 (by decide)).trans f8
  have f9 := (x1d 9 (by decide)).trans f9
  have f10 := (x1d 10 (by decide)).trans f10
  have f7 := x1c
  have g1 : ((σ : AS).push false (.cells [.int .i64 L[k].a, .int .u64 L[k].n, .str L[k].v, .bool L[k].g])).get (.st (σ : AS).st.length) = some (.cells [.int .i64 L[k].a, .int .u64 L[k].n, .str L[k].v, .bool L[k].g]) := AS.get_push_at rfl
  have hR := hR.push (ob := .cells [.int .i64 L[k].a, .int .u64 L[k].n, .str L[k].v, .bool L[k].g])
  have ho := ho.push (ob := .cells [.int .i64 L[k].a, .int .u64 L[k].n, .str L[k].v, .bool L[k].g])
  generalize hib1 : (σ : AS).st.length = ib1 at g1 f7
  generalize (σ : AS).push false (.cells [.int .i64 L[k].a, .int .u64 L[k].n, .str L[k].v, .bool L[k].g]) = σ1 at x1a g1 hR ho
  by_cases q : L[k].a ≤ m
  · skip
    rw [decide_eq_true q, if_pos rfl] at hs
    obtain ⟨R2, τ2, y2a, y2b, y2c, y2d, y2e⟩ := append_one (cx := cx) (x := encVn L[k]) (j := 0) app34 hR rfl (by rw [List.length_map]; exact Nat.le_trans (List.length_filter_le _ _) (by rw [List.length_take]; omega)) (by decide) hro ho.2.2
    obtain ⟨env2, x2a, x2b, x2c, x2d⟩ := rY cx env1 σ1 _ m (L[k]) R2 _ τ2 x1b hcx f1 f5 f7 g1 q y2a 
    have f1 := (x2d 1 (by decide)).trans f1
    have f7 := (x2d 7 (by decide)).trans f7
    have f8 := (x2d 8 (by decide)).trans f8
    have f9 := (x2d 9 (by decide)).trans f9
    have f10 := (x2d 10 (by decide)).trans f10
    have f5 := x2c
    have hR := y2c
    have ho := y2e _ ho
    have g1 := y2d _ _ g1
    exact ⟨.normal, env2, _, (execW_block_of (execW_seq_of x1a x2a)), .inl ⟨rfl, x2b, f10, f9, f1, f8, ⟨_, f5, (by rw [hs, List.map_append]; exact hR)⟩, ho⟩⟩
  · skip
    rw [decide_eq_false q, if_neg (by simp), List.append_nil] at hs
    obtain ⟨env2, x2a, x2b, x2c, x2d⟩ := rN cx env1 σ1 _ m (L[k]) x1b hcx f1 f7 g1 q 
    have f1 := (x2d 1 (by decide)).trans f1
    have f5 := (x2d 5 (by decide)).trans f5
    have f7 := (x2d 7 (by decide)).trans f7
    have f8 := (x2d 8 (by decide)).trans f8
    have f9 := (x2d 9 (by decide)).trans f9
    have f10 := (x2d 10 (by decide)).trans f10
    exact ⟨.normal, env2, _, (execW_block_of (execW_seq_of x1a x2a)), .inl ⟨rfl, x2b, f10, f9, f1, f8, ⟨_, f5, (by rw [hs]; exact hR)⟩, ho⟩⟩
theorem loop (cx : Cx) (hcx : cx.esc = []) (hro : ∀ k, cx.ro = some k → k ≤ cx.h) (σ0 : AS) (m : Int) (L : List Vn) (hlen2 : L.length ≤ 1000) (hnn : L.length ≤ 9223372036854775807) {env : Env} {σ : AS} (hl : env.length = 24) (h1 : Env.get env 10 = .int .i64 0) (h2 : Env.get env 9 = .int .i64 ((L.length : Nat) : Int)) (h0 : J cx.h σ0 m L 0 env σ) :
    ∃ e env' σ', execW Try.prog cx [] (callW Try.prog how) (cr [.r, .r, .l, .r]) (env, σ) = some (e, (env', σ')) ∧ ((e = .normal ∧ ((env'.length = 24 ∧ J cx.h σ0 m L (L.length) env' σ') ∨ Ex cx.h σ0 m L (.exit 0) env' σ')) ∨ (e ≠ .normal ∧ e ≠ .exit 0 ∧ Ex cx.h σ0 m L e env' σ')) := by
  rw [loop_eq]
  exact range_std (Ex := Ex cx.h σ0 m L) (N := 24) (tc := 11) (ti := 10) (tl := 9) (tx := 22) (ty1 := 3) (ty2 := 3) (ty3 := 3) (ty4 := 3) ⟨by kernel_rfl, by kernel_rfl, by kernel_rfl⟩ ⟨by kernel_rfl, by kernel_rfl, by kernel_rfl⟩ ⟨by kernel_rfl, by kernel_rfl, by kernel_rfl⟩ (by decide) hnn J_stable (step cx hcx hro σ0 m L hlen2) hl h1 h2 h0
theorem ok (hp s : List AObj) (ro : Option Nat) (L : List Vn) (m : Int) (hro' : ∀ k, ro = some k → k ≤ s.length) (hlen2 : L.length ≤ 1000) :
    callW Try.prog how 36 [slV 4 (L.map encVn), .int .i64 m] ⟨hp, s⟩ ro = some (slV 4 ((L.filter (fun v => decide (v.a ≤ m))).map encVn), ⟨hp, s⟩) := by
  let cx : Cx := { h := s.length, ro := ro, esc := [] }
  have hcx : cx.esc = [] := rfl
  have hro : ∀ k, cx.ro = some k → k ≤ cx.h := hro'
  obtain ⟨env, henv⟩ : ∃ e, e = frameA Try.f36 [slV 4 (L.map encVn), .int .i64 m] := ⟨_, rfl⟩
  have hlen : env.length = 24 := by rw [henv]; rfl
  have f0 : Env.get env 0 = slV 4 (L.map encVn) := by rw [henv]; rfl
  have f1 : Env.get env 1 = .int .i64 m := by rw [henv]; rfl
  have ho : Outside s.length (AS.mk hp s) (AS.mk hp s) := Outside.refl (Nat.le_refl _)
  obtain ⟨env1, x1a, x1b, x1c, x1d⟩ := rA cx env (AS.mk hp s)  hlen hcx   
  have f0 := (x1d 0 (by decide)).trans f0
  have f1 := (x1d 1 (by decide)).trans f1
  have f4 := x1c
  obtain ⟨env2, x2a, x2b, x2c, x2d⟩ := rB cx env1 (AS.mk hp s)  x1b hcx   
  have f0 := (x2d 0 (by decide)).trans f0
  have f1 := (x2d 1 (by decide)).trans f1
  have f4 := (x2d 4 (by decide)).trans f4
  have f5 := x2c
  obtain ⟨env3, x3a, x3b, x3c, x3d⟩ := rC cx env2 (AS.mk hp s) (slV 4 (L.map encVn)) L.length x2b hcx f0 (lenL' L _) 
  have f0 := (x3d 0 (by decide)).trans f0
  have f1 := (x3d 1 (by decide)).trans f1
  have f4 := (x3d 4 (by decide)).trans f4
  have f5 := (x3d 5 (by decide)).trans f5
  have f8 := x3c.1
  have f9 := x3c.2.1
  have f10 := x3c.2.2
  obtain ⟨e4, env4, σ4, x4a, x4p⟩ := loop cx hcx hro ⟨hp, s⟩ m L hlen2 (by omega) (σ := AS.mk hp s) x3b f10 f9 (⟨f1, f8, ⟨.nils, f5, Rows0⟩, ho⟩)
  rcases x4p with ⟨rfl, ⟨x4b, f1, f8, ⟨R0, f5, hR⟩, ho⟩ | x4p⟩ | ⟨x4q, x4r, x4p⟩
  · skip
    rw [List.take_length] at hR
    obtain ⟨env5, x5a, x5b, x5c, x5d⟩ := rD cx env4 σ4 R0 x4b hcx f5  
    have f1 := (x5d 1 (by decide)).trans f1
    have f5 := (x5d 5 (by decide)).trans f5
    have f8 := (x5d 8 (by decide)).trans f8
    have f4 := x5c
    exact call_of (fl := {}) (fn := Try.f36) (c := bodyC) (env := env) (e := (.ret, (env5, σ4))) rfl Try.func36 body henv (by unfold bodyC; exact (execW_seq_of x1a (execW_seq_of x2a (execW_seq_of (execW_seq_of x3a x4a) (execW_seq_of x5a (by rfl)))))) ((fin_tmp (k := 4) (.inl rfl) rfl rfl f4 (by exact (hR.1 _ (List.mem_singleton_self _)).back) (by exact slV_inb _)).trans (congrArg (fun x => some (_, x)) (outside_st ho)))
  · cases x4p
  · cases x4p
end F36
