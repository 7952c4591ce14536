/- The program's dirty keys; whether two spaces are the same. -/

import Derived.Test.YtajoebiaopapoaaCt
open Go Go.Abs Go.Proofs
set_option maxRecDepth 100000
set_option maxHeartbeats 4000000
set_option linter.unusedSimpArgs false
set_option linter.unusedVariables false

theorem rdK (σ : AS) (S : List Rw) : Rd Try.prog σ 33 9 (slV 1 (keysS S)) (keysS S) := rd_slV Try.underlying33 s9 (by decide) (fun c hc => by
  obtain ⟨r, _, rfl⟩ := List.mem_map.1 hc
  exact el9 r.1)
theorem keysS_len (S : List Rw) : (keysS S).length = S.length := by simp [keysS]
theorem keysS_at {S : List Rw} {k : Nat} (hk : k < S.length) : (keysS S)[k]? = some (.str S[k].1) := by
  unfold keysS
  rw [List.getElem?_map, List.getElem?_eq_getElem hk]
  rfl
theorem GoodS.at {S : List Rw} (h : GoodS S) {k : Nat} (hk : k < S.length) : ofS S S[k].1 = S[k].2 := ofS_mem h.so.uniq (List.getElem_mem hk)
namespace F13
noncomputable def cr (p : List Dir) : Code := sub p (bodyOf Try.f13)

section
attribute [local simp] ofV ofCell ofCells seqA_nil seqA_cons seqVK_eq seqEK_eq wantedA yieldedA isVal effA ev evs evps putE optsA optsOk valA fieldAddrA fieldA loadA partA aggA isAggD buildA placesA fillA lay storeA AV.withCells buildSliceA elemsA rowParts fzL promL okE isSrc bytesOk pushA cxOf lenA binA intBinA strBinA unA indexAddrA eqA AVs.inb AV.inb Loc.inb calleeA opsOf sub bodyOf Env.get_set quietA_nil quietA_cons quietK_none quietK_some qstep newA isNew escNew boxOk newLoc flat rowPartsQ quietN quietOp isBS List.takeWhile finishA_eq finK_ret finK_normal retK backK resA oneA AV.back AVs.back execW_seq_eq seqK_normal seqK_ret seqK_exit execW_cond_eq condK_true condK_false execW_block_eq blockK_exit blockK_normal blockK_ret execW_region_eq regK_eq execW_skip execW_exit execW_ret regionA_plain regionA_quiet0 tailK_eq nilCheckA guardOk isConst lookupA keyFits mapUpdateA beqI bneI
theorem rA (cx : Cx) (env : Env) (σ : AS)  (hlen : env.length = 29) (hcx : cx.esc = [])  :
    Pc Try.prog how cx [] 29 [4] (cr [.l]) env σ (.normal) (σ) (fun env' => Env.get env' 4 = .nils) := by
  refine pc_of fun res hr => ?_
  simp -implicitDefEqProofs [-lenA, -indexAddrA, -lookupA, AS.get_push_at, AS.get_push_old, AS.push_len, AS.set_st_len, AS.next_st', AS.set_push_at, AS.get_set_self, AS.get_set_other, cr, Try.f13, hlen, hcx] at hr
  subst hr
  refine ⟨_, rfl, by simp [hlen], by simp [Env.get_set, hlen], fun i hi => ?_⟩
  simp only [List.mem_cons, List.not_mem_nil, or_false, not_or] at hi
  simp only [get_set2, hi, false_and, if_false]

theorem rB (cx : Cx) (env : Env) (σ : AS)  (hlen : env.length = 29) (hcx : cx.esc = [])  :
    Pc Try.prog how cx [] 29 [5] (cr [.r, .l]) env σ (.normal) (σ) (fun env' => Env.get env' 5 = .nils) := by
  refine pc_of fun res hr => ?_
  simp -implicitDefEqProofs [-lenA, -indexAddrA, -lookupA, AS.get_push_at, AS.get_push_old, AS.push_len, AS.set_st_len, AS.next_st', AS.set_push_at, AS.get_set_self, AS.get_set_other, cr, Try.f13, hlen, hcx] at hr
  subst hr
  refine ⟨_, rfl, by simp [hlen], by simp [Env.get_set, hlen], fun i hi => ?_⟩
  simp only [List.mem_cons, List.not_mem_nil, or_false, not_or] at hi
  simp only [get_set2, hi, false_and, if_false]

theorem rC (cx : Cx) (env : Env) (σ : AS) (a n : Nat) (K : AV) (σ' : AS) (hlen : env.length = 29) (hcx : cx.esc = []) (f0 : Env.get env 0 = .ptr (.hp a) 0) (hc : callW Try.prog how 12 [.ptr (.hp a) 0] σ cx.ro = some (K, σ')) (hX : lenA Try.prog σ' 33 K = some n) :
    Pc Try.prog how cx [] 29 [8, 9, 10, 11] (cr [.r, .r, .l, .l]) env σ (.normal) (σ') (fun env' => Env.get env' 9 = K ∧ Env.get env' 10 = .int .i64 (n : Int) ∧ Env.get env' 11 = .int .i64 0) := by
  refine pc_of fun res hr => ?_
  simp -implicitDefEqProofs [-lenA, -indexAddrA, -lookupA, AS.get_push_at, AS.get_push_old, AS.push_len, AS.set_st_len, AS.next_st', AS.set_push_at, AS.get_set_self, AS.get_set_other, cr, Try.f13, hlen, hcx, f0, hc, hX] at hr
  subst hr
  refine ⟨_, rfl, by simp [hlen], by simp [Env.get_set, hlen, f0, hc, hX], fun i hi => ?_⟩
  simp only [List.mem_cons, List.not_mem_nil, or_false, not_or] at hi
  simp only [get_set2, hi, false_and, if_false]

theorem rE (cx : Cx) (env : Env) (σ : AS) (k : Nat) (K p : AV) (k0 : ByteArray) (hlen : env.length = 29) (hcx : cx.esc = []) (f9 : Env.get env 9 = K) (f11 : Env.get env 11 = .int .i64 (k : Int)) (hia : indexAddrA Try.prog σ 33 K (.int .i64 (k : Int)) = some p) (hpa : loadA Try.prog σ 9 p = some (.str k0)) :
    Pc Try.prog how cx [] 29 [7, 13, 14] (cr [.r, .r, .l, .r, .i, .i, .r, .r, .l, .i, .l]) env σ (.normal) (σ) (fun env' => Env.get env' 7 = .str k0) := by
  refine pc_of fun res hr => ?_
  simp -implicitDefEqProofs [-lenA, -indexAddrA, -loadA, AS.get_push_at, AS.get_push_old, AS.push_len, AS.set_st_len, AS.next_st', AS.set_push_at, AS.get_set_self, AS.get_set_other, cr, Try.f13, hlen, hcx, f9, f11, hia, hpa] at hr
  subst hr
  refine ⟨_, rfl, by simp [hlen], by simp [Env.get_set, hlen, f9, f11, hia, hpa], fun i hi => ?_⟩
  simp only [List.mem_cons, List.not_mem_nil, or_false, not_or] at hi
  simp only [get_set2, hi, false_and, if_false]

theorem rN (cx : Cx) (env : Env) (σ : AS) (a mm : Nat) (m : Int) (k0 : ByteArray) (Y : AV) (hlen : env.length = 29) (hcx : cx.esc = []) (f0 : Env.get env 0 = .ptr (.hp a) 0) (f1 : Env.get env 1 = .int .i64 m) (f7 : Env.get env 7 = .str k0) (hA : σ.get (.hp a) = some (.cells [.map (.hp mm)])) (hlk : lookupA Try.prog σ 65 (.map (.hp mm)) (.str k0) false = some (.agg [Y])) (h35 : callW Try.prog how 35 [.agg [Y], .int .i64 m] σ cx.ro = some (.bool false, σ)) (hY : Plain Y) :
    Pc Try.prog how cx [] 29 [15, 16, 17, 18, 19, 20, 21, 22] (cr [.r, .r, .l, .r, .i, .i, .r, .r, .l, .i, .r]) env σ (.normal) (σ) (fun _ => True) := by
  refine pc_of fun res hr => ?_
  simp -implicitDefEqProofs [-lenA, -indexAddrA, -lookupA, AS.get_push_at, AS.get_push_old, AS.push_len, AS.set_st_len, AS.next_st', AS.set_push_at, AS.get_set_self, AS.get_set_other, cr, Try.f13, hlen, hcx, f0, f1, f7, hA, hlk, h35, hY.one, hY.inb, hY.row] at hr
  subst hr
  refine ⟨_, rfl, by simp [hlen], by simp [Env.get_set, hlen, f0, f1, f7, hA, hlk, h35, hY.one, hY.inb, hY.row], fun i hi => ?_⟩
  simp only [List.mem_cons, List.not_mem_nil, or_false, not_or] at hi
  simp only [get_set2, hi, false_and, if_false]

theorem rY (cx : Cx) (env : Env) (σ : AS) (a mm : Nat) (m : Int) (k0 : ByteArray) (Y : AV) (R' : AV) (R : AV) (σ' : AS) (hlen : env.length = 29) (hcx : cx.esc = []) (f0 : Env.get env 0 = .ptr (.hp a) 0) (f1 : Env.get env 1 = .int .i64 m) (f7 : Env.get env 7 = .str k0) (f5 : Env.get env 5 = R) (hA : σ.get (.hp a) = some (.cells [.map (.hp mm)])) (hlk : lookupA Try.prog σ 65 (.map (.hp mm)) (.str k0) false = some (.agg [Y])) (h35 : callW Try.prog how 35 [.agg [Y], .int .i64 m] σ cx.ro = some (.bool true, σ)) (hY : Plain Y) (hap : appendA Try.prog cx (σ.push false (.row [.str k0] 1 0 false)) [33, 33] R (.row (.st σ.st.length) 0 0 1) = some (R', σ')) :
    Pc Try.prog how cx [] 29 [5, 15, 16, 17, 18, 19, 20, 21, 22, 23, 24, 25, 26] (cr [.r, .r, .l, .r, .i, .i, .r, .r, .l, .i, .r]) env σ (.normal) (σ') (fun env' => Env.get env' 5 = R') := by
  refine pc_of fun res hr => ?_
  simp -implicitDefEqProofs [-lenA, -indexAddrA, -lookupA, AS.get_push_at, AS.get_push_old, AS.push_len, AS.set_st_len, AS.next_st', AS.set_push_at, AS.get_set_self, AS.get_set_other, cr, Try.f13, hlen, hcx, f0, f1, f7, f5, hA, hlk, h35, hY.one, hY.inb, hY.row, hap, elemA] at hr
  subst hr
  refine ⟨_, rfl, by simp [hlen], by simp [Env.get_set, hlen, f0, f1, f7, f5, hA, hlk, h35, hY.one, hY.inb, hY.row, hap, elemA], fun i hi => ?_⟩
  simp only [List.mem_cons, List.not_mem_nil, or_false, not_or] at hi
  simp only [get_set2, hi, false_and, if_false]

theorem rD (cx : Cx) (env : Env) (σ : AS) (R : AV) (hlen : env.length = 29) (hcx : cx.esc = []) (f5 : Env.get env 5 = R) :
    Pc Try.prog how cx [] 29 [4, 28] (cr [.r, .r, .r, .l]) env σ (.normal) (σ) (fun env' => Env.get env' 4 = R) := by
  refine pc_of fun res hr => ?_
  simp -implicitDefEqProofs [-lenA, -indexAddrA, -lookupA, AS.get_push_at, AS.get_push_old, AS.push_len, AS.set_st_len, AS.next_st', AS.set_push_at, AS.get_set_self, AS.get_set_other, cr, Try.f13, hlen, hcx, f5] at hr
  subst hr
  refine ⟨_, rfl, by simp [hlen], by simp [Env.get_set, hlen, f5], fun i hi => ?_⟩
  simp only [List.mem_cons, List.not_mem_nil, or_false, not_or] at hi
  simp only [get_set2, hi, false_and, if_false]

end
noncomputable def bodyC : Code := (.seq (cr [.l]) (.seq (cr [.r, .l]) (.seq (.seq (cr [.r, .r, .l, .l]) (cr [.r, .r, .l, .r])) (.seq (cr [.r, .r, .r, .l]) .ret))))
theorem body : Try.f13.body = some bodyC := by kernel_rfl
/-- What holds ahead of round k. -/
def J (h : Nat) (σ0 : AS) (a : Nat) (m : Int) (S : List Rw) (k : Nat) (env : Env) (σ : AS) : Prop :=
  Env.get env 0 = .ptr (.hp a) 0 ∧ Env.get env 1 = .int .i64 m ∧ Env.get env 9 = slV 1 (keysS S) ∧ (∃ R0, Env.get env 5 = R0 ∧ Rows h σ [(1, R0, ((S.take k).filter (dirtyP m)).map (fun r => AV.str r.1))]) ∧ Outside h σ0 σ
def Ex (h : Nat) (σ0 : AS) (a : Nat) (m : Int) (S : List Rw) (e : AExit) (env : Env) (σ : AS) : Prop := False
theorem J_stable {h : Nat} {σ0 : AS} {a : Nat} {m : Int} {S : List Rw} : ∀ k env env' σ, env.length = 29 → env'.length = 29 → (∀ i, i ≠ 12 → i ≠ 27 → i ≠ 11 → Env.get env' i = Env.get env i) → J h σ0 a m S k env σ → J h σ0 a m S k env' σ := by
  rintro k env env' σ _ _ hf ⟨j0, j1, j9, ⟨R0, r0, hR⟩, ho⟩
  exact ⟨(hf 0 (by decide) (by decide) (by decide)).trans j0, (hf 1 (by decide) (by decide) (by decide)).trans j1, (hf 9 (by decide) (by decide) (by decide)).trans j9, ⟨R0, (hf 5 (by decide) (by decide) (by decide)).trans r0, hR⟩, ho⟩
noncomputable def oT : Oper := (opsOf (cr [.r, .r, .l, .r, .i, .i, .l])).headD default
noncomputable def oI : List Oper := opsOf (cr [.r, .r, .l, .r, .i, .i, .r, .r, .r])
theorem loop_eq : (cr [.r, .r, .l, .r]) = .block 0 (.loop (.seq (.region 3 #[oT] false) (.seq (.cond (.tmp 12) .skip (.exit 0)) (.seq (.block 1 (.seq (cr [.r, .r, .l, .r, .i, .i, .r, .r, .l, .i, .l]) (cr [.r, .r, .l, .r, .i, .i, .r, .r, .l, .i, .r]))) (.region 7 #[oI.headD default, (oI.drop 1).headD default] false))))) := by kernel_rfl
theorem step (cx : Cx) (hcx : cx.esc = []) (hro : ∀ k, cx.ro = some k → k ≤ cx.h) (σ0 : AS) (a : Nat) (m : Int) (S : List Rw) (mm : Nat) (M : List Rw) (h : PS σ0.hp a mm M S) (hS : GoodS S) :
    ∀ k env σ, k < S.length → env.length = 29 → Env.get env 11 = .int .i64 (k : Int) → Env.get env 10 = .int .i64 ((S.length : Nat) : Int) → J cx.h σ0 a m S k env σ → ∃ e env' σ', execW Try.prog cx [] (callW Try.prog how) (.block 1 (.seq (cr [.r, .r, .l, .r, .i, .i, .r, .r, .l, .i, .l]) (cr [.r, .r, .l, .r, .i, .i, .r, .r, .l, .i, .r]))) (env, σ) = some (e, (env', σ')) ∧
      ((e = .normal ∧ env'.length = 29 ∧ Env.get env' 11 = .int .i64 (k : Int) ∧ Env.get env' 10 = .int .i64 ((S.length : Nat) : Int) ∧ J cx.h σ0 a m S (k + 1) env' σ') ∨ (e ≠ .normal ∧ Ex cx.h σ0 a m S e env' σ')) := by
  rintro k env σ hk hlen f11 f10 ⟨f0, f1, f9, ⟨R0, f5, hR⟩, ho⟩
  obtain ⟨p, hia, hpa⟩ := (rdK σ S).2 k _ (keysS_at hk)
  have hs := filter_succ (p := dirtyP m) hk
  have hl9 := hS.len
  obtain ⟨env1, x1a, x1b, x1c, x1d⟩ := rE cx env σ k _ p (S[k].1) hlen hcx f9 f11 hia hpa 
  have f0 := (x1d 0 (by decide)).trans f0
  have f1 := (x1d 1 (by decide)).trans f1
  have f5 := (x1d 5 (by decide)).trans f5
  have f9 := (x1d 9 (by decide)).trans f9
  have f10 := (x1d 10 (by decide)).trans f10
  have f11 := (x1d 11 (by decide)).trans f11
  have f7 := x1c
  have hhp : σ.hp = σ0.hp := ho.1
  rw [← hhp] at h
  have hlk := h.look hS σ.st S[k].1
  rw [hS.at hk] at hlk
  have h35 := f35_ok σ.hp σ.st cx.ro S[k].2 m (fun j hj => Nat.le_trans (hro j hj) ho.2.2) (hS.go _ (List.getElem_mem hk))
  by_cases q : uptoN S[k].2 m < S[k].2.length
  · skip
    rw [decide_eq_true q] at h35
    rw [if_pos (show dirtyP m S[k] = true from decide_eq_true q)] at hs
    obtain ⟨R2, τ2, y2a, y2b, y2c, y2d, y2e⟩ := append_one (cx := cx) (x := AV.str S[k].1) (j := 0) app33 hR rfl (by rw [List.length_map]; exact Nat.le_trans (List.length_filter_le _ _) (by rw [List.length_take]; omega)) (by decide) hro ho.2.2
    obtain ⟨env2, x2a, x2b, x2c, x2d⟩ := rY cx env1 σ a mm m (S[k].1) _ R2 _ τ2 x1b hcx f0 f1 f7 f5 h.oA hlk h35 slV_plain y2a 
    have f0 := (x2d 0 (by decide)).trans f0
    have f1 := (x2d 1 (by decide)).trans f1
    have f7 := (x2d 7 (by decide)).trans f7
    have f9 := (x2d 9 (by decide)).trans f9
    have f10 := (x2d 10 (by decide)).trans f10
    have f11 := (x2d 11 (by decide)).trans f11
    have f5 := x2c
    have hR := y2c
    have ho := y2e _ ho
    exact ⟨.normal, env2, _, (execW_block_of (execW_seq_of x1a x2a)), .inl ⟨rfl, x2b, f11, f10, f0, f1, f9, ⟨_, f5, (by rw [hs, List.map_append]; exact hR)⟩, ho⟩⟩
  · skip
    rw [decide_eq_false q] at h35
    rw [if_neg (show ¬ dirtyP m S[k] = true by unfold dirtyP; rw [decide_eq_false q]; simp), List.append_nil] at hs
    obtain ⟨env2, x2a, x2b, x2c, x2d⟩ := rN cx env1 σ a mm m (S[k].1) _ x1b hcx f0 f1 f7 h.oA hlk h35 slV_plain 
    have f0 := (x2d 0 (by decide)).trans f0
    have f1 := (x2d 1 (by decide)).trans f1
    have f5 := (x2d 5 (by decide)).trans f5
    have f7 := (x2d 7 (by decide)).trans f7
    have f9 := (x2d 9 (by decide)).trans f9
    have f10 := (x2d 10 (by decide)).trans f10
    have f11 := (x2d 11 (by decide)).trans f11
    exact ⟨.normal, env2, _, (execW_block_of (execW_seq_of x1a x2a)), .inl ⟨rfl, x2b, f11, f10, f0, f1, f9, ⟨_, f5, (by rw [hs]; exact hR)⟩, ho⟩⟩
theorem loop (cx : Cx) (hcx : cx.esc = []) (hro : ∀ k, cx.ro = some k → k ≤ cx.h) (σ0 : AS) (a : Nat) (m : Int) (S : List Rw) (mm : Nat) (M : List Rw) (h : PS σ0.hp a mm M S) (hS : GoodS S) (hnn : S.length ≤ 9223372036854775807) {env : Env} {σ : AS} (hl : env.length = 29) (h1 : Env.get env 11 = .int .i64 0) (h2 : Env.get env 10 = .int .i64 ((S.length : Nat) : Int)) (h0 : J cx.h σ0 a m S 0 env σ) :
    ∃ e env' σ', execW Try.prog cx [] (callW Try.prog how) (cr [.r, .r, .l, .r]) (env, σ) = some (e, (env', σ')) ∧ ((e = .normal ∧ ((env'.length = 29 ∧ J cx.h σ0 a m S (S.length) env' σ') ∨ Ex cx.h σ0 a m S (.exit 0) env' σ')) ∨ (e ≠ .normal ∧ e ≠ .exit 0 ∧ Ex cx.h σ0 a m S e env' σ')) := by
  rw [loop_eq]
  exact range_std (Ex := Ex cx.h σ0 a m S) (N := 29) (tc := 12) (ti := 11) (tl := 10) (tx := 27) (ty1 := 3) (ty2 := 3) (ty3 := 3) (ty4 := 3) ⟨by kernel_rfl, by kernel_rfl, by kernel_rfl⟩ ⟨by kernel_rfl, by kernel_rfl, by kernel_rfl⟩ ⟨by kernel_rfl, by kernel_rfl, by kernel_rfl⟩ (by decide) hnn J_stable (step cx hcx hro σ0 a m S mm M h hS) hl h1 h2 h0
theorem ok (hp s : List AObj) (a : Nat) (m : Int) (mm : Nat) (M S : List Rw) (h : PS hp a mm M S) (hS : GoodS S) :
    callW Try.prog how 13 [.ptr (.hp a) 0, .int .i64 m] ⟨hp, s⟩ none = some (slV 1 ((dirtyS S m).map .str), ⟨hp ++ [.cells [.map (.hp mm)]], s⟩) := by
  let cx : Cx := { h := s.length, ro := none, esc := [] }
  have hcx : cx.esc = [] := rfl
  have hro : ∀ k, cx.ro = some k → k ≤ cx.h := fun k hk => by cases hk
  obtain ⟨env, henv⟩ : ∃ e, e = frameA Try.f13 [.ptr (.hp a) 0, .int .i64 m] := ⟨_, rfl⟩
  have hlen : env.length = 29 := by rw [henv]; rfl
  have f0 : Env.get env 0 = .ptr (.hp a) 0 := by rw [henv]; rfl
  have f1 : Env.get env 1 = .int .i64 m := by rw [henv]; rfl
  have ho : Outside s.length (AS.mk hp s) (AS.mk hp s) := Outside.refl (Nat.le_refl _)
  obtain ⟨env1, x1a, x1b, x1c, x1d⟩ := rA cx env (AS.mk hp s)  hlen hcx   
  have f0 := (x1d 0 (by decide)).trans f0
  have f1 := (x1d 1 (by decide)).trans f1
  have f4 := x1c
  obtain ⟨env2, x2a, x2b, x2c, x2d⟩ := rB cx env1 (AS.mk hp s)  x1b hcx   
  have f0 := (x2d 0 (by decide)).trans f0
  have f1 := (x2d 1 (by decide)).trans f1
  have f4 := (x2d 4 (by decide)).trans f4
  have f5 := x2c
  have hc := f12_ok hp s a mm M S h hS
  have hl9 := hS.len
  have hlx := (rdK ⟨hp ++ [.cells [.map (.hp mm)]], s⟩ S).1
  rw [keysS_len] at hlx
  obtain ⟨env3, x3a, x3b, x3c, x3d⟩ := rC cx env2 (AS.mk hp s) a S.length _ _ x2b hcx f0 hc hlx 
  have f0 := (x3d 0 (by decide)).trans f0
  have f1 := (x3d 1 (by decide)).trans f1
  have f4 := (x3d 4 (by decide)).trans f4
  have f5 := (x3d 5 (by decide)).trans f5
  have f9 := x3c.1
  have f10 := x3c.2.1
  have f11 := x3c.2.2
  have ho : Outside s.length (AS.mk (hp ++ [AObj.cells [.map (.hp mm)]]) s) (AS.mk (hp ++ [AObj.cells [.map (.hp mm)]]) s) := Outside.refl (Nat.le_refl _)
  obtain ⟨e4, env4, σ4, x4a, x4p⟩ := loop cx hcx hro ⟨hp ++ [.cells [.map (.hp mm)]], s⟩ a m S mm M (h.app _) hS (by omega) (σ := AS.mk (hp ++ [AObj.cells [.map (.hp mm)]]) s) x3b f11 f10 (⟨f0, f1, f9, ⟨.nils, f5, Rows0⟩, ho⟩)
  rcases x4p with ⟨rfl, ⟨x4b, f0, f1, f9, ⟨R0, f5, hR⟩, ho⟩ | x4p⟩ | ⟨x4q, x4r, x4p⟩
  · skip
    rw [List.take_length] at hR
    rw [show (dirtyS S m).map AV.str = (S.filter (dirtyP m)).map (fun r => AV.str r.1) by unfold dirtyS; rw [List.map_map]; rfl]
    obtain ⟨env5, x5a, x5b, x5c, x5d⟩ := rD cx env4 σ4 R0 x4b hcx f5  
    have f0 := (x5d 0 (by decide)).trans f0
    have f1 := (x5d 1 (by decide)).trans f1
    have f5 := (x5d 5 (by decide)).trans f5
    have f9 := (x5d 9 (by decide)).trans f9
    have f4 := x5c
    exact call_of (fl := {}) (fn := Try.f13) (c := bodyC) (env := env) (e := (.ret, (env5, σ4))) rfl Try.func13 body henv (by unfold bodyC; exact (execW_seq_of x1a (execW_seq_of x2a (execW_seq_of (execW_seq_of x3a x4a) (execW_seq_of x5a (by rfl)))))) ((fin_tmp (k := 4) (.inl rfl) rfl rfl f4 (by exact (hR.1 _ (List.mem_singleton_self _)).back) (by exact slV_inb _)).trans (congrArg (fun x => some (_, x)) (outside_st ho)))
  · cases x4p
  · cases x4p
end F13

section
attribute [local simp] ofV ofCell ofCells seqA_nil seqA_cons seqVK_eq seqEK_eq wantedA yieldedA isVal effA ev evs evps putE optsA optsOk valA fieldAddrA fieldA loadA partA aggA isAggD buildA placesA fillA lay storeA AV.withCells buildSliceA elemsA rowParts fzL promL okE isSrc bytesOk pushA cxOf lenA binA intBinA strBinA unA indexAddrA eqA AVs.inb AV.inb Loc.inb calleeA opsOf sub bodyOf Env.get_set quietA_nil quietA_cons quietK_none quietK_some qstep newA isNew escNew boxOk newLoc flat rowPartsQ quietN quietOp isBS List.takeWhile finishA_eq finK_ret finK_normal retK backK resA oneA AV.back AVs.back execW_seq_eq seqK_normal seqK_ret seqK_exit execW_cond_eq condK_true condK_false execW_block_eq blockK_exit blockK_normal blockK_ret execW_region_eq regK_eq execW_skip execW_exit execW_ret regionA_plain regionA_quiet0 tailK_eq nilCheckA guardOk isConst lookupA keyFits mapUpdateA beqI bneI
theorem f41_raw (hp s : List AObj) (ro : Option Nat) (X Y : AV) (b : Bool) (hro : ∀ k, ro = some k → k ≤ s.length) (hX : Plain X) (hY : Plain Y) (h66 : callW Try.prog how 66 [X, Y] ⟨hp, s ++ [.cells [X], .cells [Y]]⟩ ro = some (.bool b, ⟨hp, s ++ [.cells [X], .cells [Y]]⟩)) :
    callW Try.prog how 41 [.agg [X], .agg [Y]] ⟨hp, s⟩ ro = some (.bool b, ⟨hp, s⟩) := by
  refine callW_body (fl := {}) (fn := Try.f41) (c := bodyOf Try.f41) rfl Try.func41 rfl ?_
  have henv : ∃ e, e = frameA Try.f41 [.agg [X], .agg [Y]] := ⟨_, rfl⟩
  obtain ⟨env, henv⟩ := henv
  have hl : env.length = 10 := by rw [henv]; rfl
  have h0 : Env.get env 0 = .agg [X] := by rw [henv]; rfl
  have h1 : Env.get env 1 = .agg [Y] := by rw [henv]; rfl
  rw [← henv]
  clear henv
  simp -implicitDefEqProofs [Try.f41, hl, h0, h1, wok_le hro, wok_le' hro, h66, hX.one, hX.inb, hX.row, hY.one, hY.inb, hY.row]

end
theorem rdV (σ : AS) (L : List Vn) : Rd Try.prog σ 72 46 (slV 4 (L.map encVn)) (L.map encVn) := rd_slV Try.underlying72 s46 (by decide) (fun c hc => by
  obtain ⟨r, _, rfl⟩ := List.mem_map.1 hc
  exact el46 r)
theorem f41_ok (hp s : List AObj) (ro : Option Nat) (A B : List Vn) (hro : ∀ k, ro = some k → k ≤ s.length) (hA : A.length ≤ 1000) (hB : B.length ≤ 1000) : callW Try.prog how 41 [.agg [slV 4 (A.map encVn)], .agg [slV 4 (B.map encVn)]] ⟨hp, s⟩ ro = some (.bool (decide (A = B)), ⟨hp, s⟩) :=
  f41_raw hp s ro _ _ _ hro slV_plain slV_plain (F66.ok hp _ ro _ _ A B (lt_app hro _) (rdV _ _) (rdV _ _) ⟨by omega, by omega⟩)
namespace F19
noncomputable def cr (p : List Dir) : Code := sub p (bodyOf Try.f19)

section
attribute [local simp] ofV ofCell ofCells seqA_nil seqA_cons seqVK_eq seqEK_eq wantedA yieldedA isVal effA ev evs evps putE optsA optsOk valA fieldAddrA fieldA loadA partA aggA isAggD buildA placesA fillA lay storeA AV.withCells buildSliceA elemsA rowParts fzL promL okE isSrc bytesOk pushA cxOf lenA binA intBinA strBinA unA indexAddrA eqA AVs.inb AV.inb Loc.inb calleeA opsOf sub bodyOf Env.get_set quietA_nil quietA_cons quietK_none quietK_some qstep newA isNew escNew boxOk newLoc flat rowPartsQ quietN quietOp isBS List.takeWhile finishA_eq finK_ret finK_normal retK backK resA oneA AV.back AVs.back execW_seq_eq seqK_normal seqK_ret seqK_exit execW_cond_eq condK_true condK_false execW_block_eq blockK_exit blockK_normal blockK_ret execW_region_eq regK_eq execW_skip execW_exit execW_ret regionA_plain regionA_quiet0 tailK_eq nilCheckA guardOk isConst lookupA keyFits mapUpdateA beqI bneI
theorem rA (cx : Cx) (env : Env) (σ : AS)  (hlen : env.length = 36) (hcx : cx.esc = [])  :
    Pc Try.prog how cx [] 36 [4] (cr [.l]) env σ (.normal) (σ) (fun env' => Env.get env' 4 = .bool false) := by
  refine pc_of fun res hr => ?_
  simp -implicitDefEqProofs [-lenA, -indexAddrA, -lookupA, AS.get_push_at, AS.get_push_old, AS.push_len, AS.set_st_len, AS.next_st', AS.set_push_at, AS.get_set_self, AS.get_set_other, cr, Try.f19, hlen, hcx] at hr
  subst hr
  refine ⟨_, rfl, by simp [hlen], by simp [Env.get_set, hlen], fun i hi => ?_⟩
  simp only [List.mem_cons, List.not_mem_nil, or_false, not_or] at hi
  simp only [get_set2, hi, false_and, if_false]

theorem rB (cx : Cx) (env : Env) (σ : AS) (P K : AV) (σ' : AS) (hlen : env.length = 36) (hcx : cx.esc = []) (f0 : Env.get env 0 = P) (hP : P.one = true) (hc : callW Try.prog how 12 [P] σ cx.ro = some (K, σ')) (hin : ∀ n, P.inb n = true) :
    Pc Try.prog how cx [] 36 [5, 8, 9] (cr [.r, .l]) env σ (.normal) (σ') (fun env' => Env.get env' 5 = K) := by
  refine pc_of fun res hr => ?_
  simp -implicitDefEqProofs [-lenA, -indexAddrA, -lookupA, AS.get_push_at, AS.get_push_old, AS.push_len, AS.set_st_len, AS.next_st', AS.set_push_at, AS.get_set_self, AS.get_set_other, cr, Try.f19, hlen, hcx, f0, hP, hc, hin] at hr
  subst hr
  refine ⟨_, rfl, by simp [hlen], by simp [Env.get_set, hlen, f0, hP, hc, hin], fun i hi => ?_⟩
  simp only [List.mem_cons, List.not_mem_nil, or_false, not_or] at hi
  simp only [get_set2, hi, false_and, if_false]

theorem rC (cx : Cx) (env : Env) (σ : AS) (P K K2 : AV) (σ' : AS) (hlen : env.length = 36) (hcx : cx.esc = []) (f1 : Env.get env 1 = P) (f5 : Env.get env 5 = K) (hin : ∀ n, P.inb n = true) (hK : Plain K) (hK2 : Plain K2) (hc : callW Try.prog how 12 [P] σ cx.ro = some (K2, σ')) (h40 : callW Try.prog how 40 [K, K2] σ' cx.ro = some (.bool true, σ')) :
    Pc Try.prog how cx [] 36 [10, 11, 12, 13, 14] (cr [.r, .r, .l]) env σ (.normal) (σ') (fun _ => True) := by
  refine pc_of fun res hr => ?_
  simp -implicitDefEqProofs [-lenA, -indexAddrA, -lookupA, AS.get_push_at, AS.get_push_old, AS.push_len, AS.set_st_len, AS.next_st', AS.set_push_at, AS.get_set_self, AS.get_set_other, cr, Try.f19, hlen, hcx, f1, f5, hin, hK.one, hK.inb, hK.row, hK2.one, hK2.inb, hK2.row, hc, h40] at hr
  subst hr
  refine ⟨_, rfl, by simp [hlen], by simp [Env.get_set, hlen, f1, f5, hin, hK.one, hK.inb, hK.row, hK2.one, hK2.inb, hK2.row, hc, h40], fun i hi => ?_⟩
  simp only [List.mem_cons, List.not_mem_nil, or_false, not_or] at hi
  simp only [get_set2, hi, false_and, if_false]

theorem rX (cx : Cx) (env : Env) (σ : AS) (P K K2 : AV) (σ' : AS) (hlen : env.length = 36) (hcx : cx.esc = []) (f1 : Env.get env 1 = P) (f5 : Env.get env 5 = K) (hin : ∀ n, P.inb n = true) (hK : Plain K) (hK2 : Plain K2) (hc : callW Try.prog how 12 [P] σ cx.ro = some (K2, σ')) (h40 : callW Try.prog how 40 [K, K2] σ' cx.ro = some (.bool false, σ')) :
    Pc Try.prog how cx [] 36 [4, 10, 11, 12, 13, 14] (cr [.r, .r, .l]) env σ (.ret) (σ') (fun env' => Env.get env' 4 = .bool false) := by
  refine pc_of fun res hr => ?_
  simp -implicitDefEqProofs [-lenA, -indexAddrA, -lookupA, AS.get_push_at, AS.get_push_old, AS.push_len, AS.set_st_len, AS.next_st', AS.set_push_at, AS.get_set_self, AS.get_set_other, cr, Try.f19, hlen, hcx, f1, f5, hin, hK.one, hK.inb, hK.row, hK2.one, hK2.inb, hK2.row, hc, h40] at hr
  subst hr
  refine ⟨_, rfl, by simp [hlen], by simp [Env.get_set, hlen, f1, f5, hin, hK.one, hK.inb, hK.row, hK2.one, hK2.inb, hK2.row, hc, h40], fun i hi => ?_⟩
  simp only [List.mem_cons, List.not_mem_nil, or_false, not_or] at hi
  simp only [get_set2, hi, false_and, if_false]

theorem rL (cx : Cx) (env : Env) (σ : AS) (n : Nat) (K : AV) (hlen : env.length = 36) (hcx : cx.esc = []) (f5 : Env.get env 5 = K) (hX : lenA Try.prog σ 33 K = some n) :
    Pc Try.prog how cx [] 36 [15, 16, 17] (cr [.r, .r, .r, .l, .l]) env σ (.normal) (σ) (fun env' => Env.get env' 15 = K ∧ Env.get env' 16 = .int .i64 (n : Int) ∧ Env.get env' 17 = .int .i64 0) := by
  refine pc_of fun res hr => ?_
  simp -implicitDefEqProofs [-lenA, -indexAddrA, -lookupA, AS.get_push_at, AS.get_push_old, AS.push_len, AS.set_st_len, AS.next_st', AS.set_push_at, AS.get_set_self, AS.get_set_other, cr, Try.f19, hlen, hcx, f5, hX] at hr
  subst hr
  refine ⟨_, rfl, by simp [hlen], by simp [Env.get_set, hlen, f5, hX], fun i hi => ?_⟩
  simp only [List.mem_cons, List.not_mem_nil, or_false, not_or] at hi
  simp only [get_set2, hi, false_and, if_false]

theorem rE (cx : Cx) (env : Env) (σ : AS) (k : Nat) (K p : AV) (k0 : ByteArray) (hlen : env.length = 36) (hcx : cx.esc = []) (f15 : Env.get env 15 = K) (f17 : Env.get env 17 = .int .i64 (k : Int)) (hia : indexAddrA Try.prog σ 33 K (.int .i64 (k : Int)) = some p) (hpa : loadA Try.prog σ 9 p = some (.str k0)) :
    Pc Try.prog how cx [] 36 [7, 19, 20] (cr [.r, .r, .r, .l, .r, .i, .i, .r, .r, .l, .i, .l]) env σ (.normal) (σ) (fun env' => Env.get env' 7 = .str k0) := by
  refine pc_of fun res hr => ?_
  simp -implicitDefEqProofs [-lenA, -indexAddrA, -loadA, AS.get_push_at, AS.get_push_old, AS.push_len, AS.set_st_len, AS.next_st', AS.set_push_at, AS.get_set_self, AS.get_set_other, cr, Try.f19, hlen, hcx, f15, f17, hia, hpa] at hr
  subst hr
  refine ⟨_, rfl, by simp [hlen], by simp [Env.get_set, hlen, f15, f17, hia, hpa], fun i hi => ?_⟩
  simp only [List.mem_cons, List.not_mem_nil, or_false, not_or] at hi
  simp only [get_set2, hi, false_and, if_false]

theorem rN (cx : Cx) (env : Env) (σ : AS) (a mm b nn : Nat) (k0 : ByteArray) (Y Z : AV) (hlen : env.length = 36) (hcx : cx.esc = []) (f0 : Env.get env 0 = .ptr (.hp a) 0) (f1 : Env.get env 1 = .ptr (.hp b) 0) (f7 : Env.get env 7 = .str k0) (hA : σ.get (.hp a) = some (.cells [.map (.hp mm)])) (hlk : lookupA Try.prog σ 65 (.map (.hp mm)) (.str k0) false = some (.agg [Y])) (hB : σ.get (.hp b) = some (.cells [.map (.hp nn)])) (hlk2 : lookupA Try.prog σ 65 (.map (.hp nn)) (.str k0) false = some (.agg [Z])) (h41 : callW Try.prog how 41 [.agg [Y], .agg [Z]] σ (some σ.st.length) = some (.bool true, σ)) (hY : Plain Y) (hZ : Plain Z) :
    Pc Try.prog how cx [] 36 [21, 22, 23, 24, 25, 26, 27, 28, 29, 30, 31, 32, 33, 34] (cr [.r, .r, .r, .l, .r, .i, .i, .r, .r, .l, .i, .r]) env σ (.normal) (σ) (fun _ => True) := by
  refine pc_of fun res hr => ?_
  simp -implicitDefEqProofs [-lenA, -indexAddrA, -lookupA, AS.get_push_at, AS.get_push_old, AS.push_len, AS.set_st_len, AS.next_st', AS.set_push_at, AS.get_set_self, AS.get_set_other, cr, Try.f19, hlen, hcx, f0, f1, f7, hA, hlk, hB, hlk2, h41, hY.one, hY.inb, hY.row, hZ.one, hZ.inb, hZ.row] at hr
  subst hr
  refine ⟨_, rfl, by simp [hlen], by simp [Env.get_set, hlen, f0, f1, f7, hA, hlk, hB, hlk2, h41, hY.one, hY.inb, hY.row, hZ.one, hZ.inb, hZ.row], fun i hi => ?_⟩
  simp only [List.mem_cons, List.not_mem_nil, or_false, not_or] at hi
  simp only [get_set2, hi, false_and, if_false]

theorem rY (cx : Cx) (env : Env) (σ : AS) (a mm b nn : Nat) (k0 : ByteArray) (Y Z : AV) (hlen : env.length = 36) (hcx : cx.esc = []) (f0 : Env.get env 0 = .ptr (.hp a) 0) (f1 : Env.get env 1 = .ptr (.hp b) 0) (f7 : Env.get env 7 = .str k0) (hA : σ.get (.hp a) = some (.cells [.map (.hp mm)])) (hlk : lookupA Try.prog σ 65 (.map (.hp mm)) (.str k0) false = some (.agg [Y])) (hB : σ.get (.hp b) = some (.cells [.map (.hp nn)])) (hlk2 : lookupA Try.prog σ 65 (.map (.hp nn)) (.str k0) false = some (.agg [Z])) (h41 : callW Try.prog how 41 [.agg [Y], .agg [Z]] σ (some σ.st.length) = some (.bool false, σ)) (hY : Plain Y) (hZ : Plain Z) :
    Pc Try.prog how cx [] 36 [4, 21, 22, 23, 24, 25, 26, 27, 28, 29, 30, 31, 32, 33, 34] (cr [.r, .r, .r, .l, .r, .i, .i, .r, .r, .l, .i, .r]) env σ (.ret) (σ) (fun env' => Env.get env' 4 = .bool false) := by
  refine pc_of fun res hr => ?_
  simp -implicitDefEqProofs [-lenA, -indexAddrA, -lookupA, AS.get_push_at, AS.get_push_old, AS.push_len, AS.set_st_len, AS.next_st', AS.set_push_at, AS.get_set_self, AS.get_set_other, cr, Try.f19, hlen, hcx, f0, f1, f7, hA, hlk, hB, hlk2, h41, hY.one, hY.inb, hY.row, hZ.one, hZ.inb, hZ.row] at hr
  subst hr
  refine ⟨_, rfl, by simp [hlen], by simp [Env.get_set, hlen, f0, f1, f7, hA, hlk, hB, hlk2, h41, hY.one, hY.inb, hY.row, hZ.one, hZ.inb, hZ.row], fun i hi => ?_⟩
  simp only [List.mem_cons, List.not_mem_nil, or_false, not_or] at hi
  simp only [get_set2, hi, false_and, if_false]

theorem rD (cx : Cx) (env : Env) (σ : AS)  (hlen : env.length = 36) (hcx : cx.esc = [])  :
    Pc Try.prog how cx [] 36 [4] (cr [.r, .r, .r, .r, .l]) env σ (.normal) (σ) (fun env' => Env.get env' 4 = .bool true) := by
  refine pc_of fun res hr => ?_
  simp -implicitDefEqProofs [-lenA, -indexAddrA, -lookupA, AS.get_push_at, AS.get_push_old, AS.push_len, AS.set_st_len, AS.next_st', AS.set_push_at, AS.get_set_self, AS.get_set_other, cr, Try.f19, hlen, hcx] at hr
  subst hr
  refine ⟨_, rfl, by simp [hlen], by simp [Env.get_set, hlen], fun i hi => ?_⟩
  simp only [List.mem_cons, List.not_mem_nil, or_false, not_or] at hi
  simp only [get_set2, hi, false_and, if_false]

end
noncomputable def bodyC : Code := (.seq (cr [.l]) (.seq (cr [.r, .l]) (.seq (cr [.r, .r, .l]) (.seq (.seq (cr [.r, .r, .r, .l, .l]) (cr [.r, .r, .r, .l, .r])) (.seq (cr [.r, .r, .r, .r, .l]) .ret)))))
theorem body : Try.f19.body = some bodyC := by kernel_rfl
/-- What holds ahead of round k. -/
def J (h : Nat) (σ0 : AS) (a b : Nat) (S T : List Rw) (k : Nat) (env : Env) (σ : AS) : Prop :=
  Env.get env 0 = .ptr (.hp a) 0 ∧ Env.get env 1 = .ptr (.hp b) 0 ∧ Env.get env 15 = slV 1 (keysS S) ∧ (S.take k = T.take k) ∧ σ = σ0
def Ex (h : Nat) (σ0 : AS) (a b : Nat) (S T : List Rw) (e : AExit) (env : Env) (σ : AS) : Prop := e = .ret ∧ Env.get env 4 = .bool false ∧ σ = σ0 ∧ S ≠ T ∧ env.length = 36
theorem J_stable {h : Nat} {σ0 : AS} {a b : Nat} {S T : List Rw} : ∀ k env env' σ, env.length = 36 → env'.length = 36 → (∀ i, i ≠ 18 → i ≠ 35 → i ≠ 17 → Env.get env' i = Env.get env i) → J h σ0 a b S T k env σ → J h σ0 a b S T k env' σ := by
  rintro k env env' σ _ _ hf ⟨j0, j1, j15, q0, ho⟩
  exact ⟨(hf 0 (by decide) (by decide) (by decide)).trans j0, (hf 1 (by decide) (by decide) (by decide)).trans j1, (hf 15 (by decide) (by decide) (by decide)).trans j15, q0, ho⟩
noncomputable def oT : Oper := (opsOf (cr [.r, .r, .r, .l, .r, .i, .i, .l])).headD default
noncomputable def oI : List Oper := opsOf (cr [.r, .r, .r, .l, .r, .i, .i, .r, .r, .r])
theorem loop_eq : (cr [.r, .r, .r, .l, .r]) = .block 0 (.loop (.seq (.region 5 #[oT] false) (.seq (.cond (.tmp 18) .skip (.exit 0)) (.seq (.block 1 (.seq (cr [.r, .r, .r, .l, .r, .i, .i, .r, .r, .l, .i, .l]) (cr [.r, .r, .r, .l, .r, .i, .i, .r, .r, .l, .i, .r]))) (.region 9 #[oI.headD default, (oI.drop 1).headD default] false))))) := by kernel_rfl
theorem step (cx : Cx) (hcx : cx.esc = []) (hro : ∀ k, cx.ro = some k → k ≤ cx.h) (σ0 : AS) (a b : Nat) (S T : List Rw) (mm nn : Nat) (M N : List Rw) (h : PS σ0.hp a mm M S) (hS : GoodS S) (hP2 : PS σ0.hp b nn N T) (hT : GoodS T) (hk2 : keysS S = keysS T) :
    ∀ k env σ, k < S.length → env.length = 36 → Env.get env 17 = .int .i64 (k : Int) → Env.get env 16 = .int .i64 ((S.length : Nat) : Int) → J cx.h σ0 a b S T k env σ → ∃ e env' σ', execW Try.prog cx [] (callW Try.prog how) (.block 1 (.seq (cr [.r, .r, .r, .l, .r, .i, .i, .r, .r, .l, .i, .l]) (cr [.r, .r, .r, .l, .r, .i, .i, .r, .r, .l, .i, .r]))) (env, σ) = some (e, (env', σ')) ∧
      ((e = .normal ∧ env'.length = 36 ∧ Env.get env' 17 = .int .i64 (k : Int) ∧ Env.get env' 16 = .int .i64 ((S.length : Nat) : Int) ∧ J cx.h σ0 a b S T (k + 1) env' σ') ∨ (e ≠ .normal ∧ Ex cx.h σ0 a b S T e env' σ')) := by
  rintro k env σ hk hlen f17 f16 ⟨f0, f1, f15, q0, rfl⟩
  have hln : S.length = T.length := by rw [← keysS_len S, hk2, keysS_len]
  have hkT : k < T.length := by omega
  obtain ⟨p, hia, hpa⟩ := (rdK σ S).2 k _ (keysS_at hk)
  have hke : S[k].1 = T[k].1 := by have e1 := keysS_at hk; rw [hk2, keysS_at hkT, Option.some.injEq, AV.str.injEq] at e1; exact e1.symm
  obtain ⟨env1, x1a, x1b, x1c, x1d⟩ := rE cx env σ k _ p (S[k].1) hlen hcx f15 f17 hia hpa 
  have f0 := (x1d 0 (by decide)).trans f0
  have f1 := (x1d 1 (by decide)).trans f1
  have f15 := (x1d 15 (by decide)).trans f15
  have f16 := (x1d 16 (by decide)).trans f16
  have f17 := (x1d 17 (by decide)).trans f17
  have f7 := x1c
  have hlk := h.look hS σ.st S[k].1
  rw [hS.at hk] at hlk
  have hlk2 := hP2.look hT σ.st T[k].1
  rw [hT.at hkT, ← hke] at hlk2
  have h41 := f41_ok σ.hp σ.st (some σ.st.length) S[k].2 T[k].2 (hq1 (Nat.le_refl _)) (Nat.le_trans (hS.go _ (List.getElem_mem hk)).len (by decide)) (Nat.le_trans (hT.go _ (List.getElem_mem hkT)).len (by decide))
  by_cases q : S[k].2 = T[k].2
  · skip
    rw [decide_eq_true q] at h41
    obtain ⟨env2, x2a, x2b, x2c, x2d⟩ := rN cx env1 σ a mm b nn (S[k].1) _ _ x1b hcx f0 f1 f7 h.oA hlk hP2.oA hlk2 h41 slV_plain slV_plain 
    have f0 := (x2d 0 (by decide)).trans f0
    have f1 := (x2d 1 (by decide)).trans f1
    have f7 := (x2d 7 (by decide)).trans f7
    have f15 := (x2d 15 (by decide)).trans f15
    have f16 := (x2d 16 (by decide)).trans f16
    have f17 := (x2d 17 (by decide)).trans f17
    exact ⟨.normal, env2, _, (execW_block_of (execW_seq_of x1a x2a)), .inl ⟨rfl, x2b, f17, f16, f0, f1, f15, (take_eq_succ hk hkT q0 (Prod.ext hke q)), rfl⟩⟩
  · skip
    rw [decide_eq_false q] at h41
    obtain ⟨env2, x2a, x2b, x2c, x2d⟩ := rY cx env1 σ a mm b nn (S[k].1) _ _ x1b hcx f0 f1 f7 h.oA hlk hP2.oA hlk2 h41 slV_plain slV_plain 
    have f0 := (x2d 0 (by decide)).trans f0
    have f1 := (x2d 1 (by decide)).trans f1
    have f7 := (x2d 7 (by decide)).trans f7
    have f15 := (x2d 15 (by decide)).trans f15
    have f16 := (x2d 16 (by decide)).trans f16
    have f17 := (x2d 17 (by decide)).trans f17
    have f4 := x2c
    exact ⟨.ret, env2, _, (block_exit (execW_seq_of x1a x2a) (by simp)), .inr ⟨by simp, rfl, f4, rfl, (by rintro rfl; exact q rfl), x2b⟩⟩
theorem loop (cx : Cx) (hcx : cx.esc = []) (hro : ∀ k, cx.ro = some k → k ≤ cx.h) (σ0 : AS) (a b : Nat) (S T : List Rw) (mm nn : Nat) (M N : List Rw) (h : PS σ0.hp a mm M S) (hS : GoodS S) (hP2 : PS σ0.hp b nn N T) (hT : GoodS T) (hk2 : keysS S = keysS T) (hnn : S.length ≤ 9223372036854775807) {env : Env} {σ : AS} (hl : env.length = 36) (h1 : Env.get env 17 = .int .i64 0) (h2 : Env.get env 16 = .int .i64 ((S.length : Nat) : Int)) (h0 : J cx.h σ0 a b S T 0 env σ) :
    ∃ e env' σ', execW Try.prog cx [] (callW Try.prog how) (cr [.r, .r, .r, .l, .r]) (env, σ) = some (e, (env', σ')) ∧ ((e = .normal ∧ ((env'.length = 36 ∧ J cx.h σ0 a b S T (S.length) env' σ') ∨ Ex cx.h σ0 a b S T (.exit 0) env' σ')) ∨ (e ≠ .normal ∧ e ≠ .exit 0 ∧ Ex cx.h σ0 a b S T e env' σ')) := by
  rw [loop_eq]
  exact range_std (Ex := Ex cx.h σ0 a b S T) (N := 36) (tc := 18) (ti := 17) (tl := 16) (tx := 35) (ty1 := 3) (ty2 := 3) (ty3 := 3) (ty4 := 3) ⟨by kernel_rfl, by kernel_rfl, by kernel_rfl⟩ ⟨by kernel_rfl, by kernel_rfl, by kernel_rfl⟩ ⟨by kernel_rfl, by kernel_rfl, by kernel_rfl⟩ (by decide) hnn J_stable (step cx hcx hro σ0 a b S T mm nn M N h hS hP2 hT hk2) hl h1 h2 h0
theorem ok (hp s : List AObj) (a b mm nn : Nat) (M S N T : List Rw) (h : PS hp a mm M S) (hS : GoodS S) (hP2 : PS hp b nn N T) (hT : GoodS T) :
    callW Try.prog how 19 [.ptr (.hp a) 0, .ptr (.hp b) 0] ⟨hp, s⟩ none = some (.bool (decide (S = T)), ⟨hp ++ [AObj.cells [.map (.hp mm)], AObj.cells [.map (.hp nn)]], s⟩) := by
  let cx : Cx := { h := s.length, ro := none, esc := [] }
  have hcx : cx.esc = [] := rfl
  have hro : ∀ k, cx.ro = some k → k ≤ cx.h := fun k hk => by cases hk
  obtain ⟨env, henv⟩ : ∃ e, e = frameA Try.f19 [.ptr (.hp a) 0, .ptr (.hp b) 0] := ⟨_, rfl⟩
  have hlen : env.length = 36 := by rw [henv]; rfl
  have f0 : Env.get env 0 = .ptr (.hp a) 0 := by rw [henv]; rfl
  have f1 : Env.get env 1 = .ptr (.hp b) 0 := by rw [henv]; rfl
  have ho : Outside s.length (AS.mk hp s) (AS.mk hp s) := Outside.refl (Nat.le_refl _)
  have hl9 := hS.len
  have hl8 := hT.len
  obtain ⟨env1, x1a, x1b, x1c, x1d⟩ := rA cx env (AS.mk hp s)  hlen hcx   
  have f0 := (x1d 0 (by decide)).trans f0
  have f1 := (x1d 1 (by decide)).trans f1
  have f4 := x1c
  obtain ⟨env2, x2a, x2b, x2c, x2d⟩ := rB cx env1 (AS.mk hp s) _ _ _ x1b hcx f0 rfl (f12_ok hp s a mm M S h hS) (fun n => rfl) 
  have f0 := (x2d 0 (by decide)).trans f0
  have f1 := (x2d 1 (by decide)).trans f1
  have f4 := (x2d 4 (by decide)).trans f4
  have f5 := x2c
  have e2 : hp ++ [AObj.cells [.map (.hp mm)]] ++ [AObj.cells [.map (.hp nn)]] = hp ++ [AObj.cells [.map (.hp mm)], AObj.cells [.map (.hp nn)]] := by simp
  have hc2 := f12_ok (hp ++ [AObj.cells [.map (.hp mm)]]) s b nn N T (hP2.app _) hT
  rw [e2] at hc2
  have h40 := F40.ok (hp ++ [AObj.cells [.map (.hp mm)], AObj.cells [.map (.hp nn)]]) s none (slV 1 (keysS S)) (slV 1 (keysS T)) (S.map (·.1)) (T.map (·.1)) (fun k hk => by cases hk) (by have := rdK (AS.mk (hp ++ [AObj.cells [.map (.hp mm)], AObj.cells [.map (.hp nn)]]) s) S; rw [List.map_map]; exact this) (by have := rdK (AS.mk (hp ++ [AObj.cells [.map (.hp mm)], AObj.cells [.map (.hp nn)]]) s) T; rw [List.map_map]; exact this) (by simp; omega)
  have ho : Outside s.length (AS.mk (hp ++ [AObj.cells [.map (.hp mm)], AObj.cells [.map (.hp nn)]]) s) (AS.mk (hp ++ [AObj.cells [.map (.hp mm)], AObj.cells [.map (.hp nn)]]) s) := Outside.refl (Nat.le_refl _)
  by_cases q : S.map (·.1) = T.map (·.1)
  · skip
    rw [decide_eq_true q] at h40
    obtain ⟨env3, x3a, x3b, x3c, x3d⟩ := rC cx env2 (AS.mk (hp ++ [AObj.cells [.map (.hp mm)]]) s) _ _ _ _ x2b hcx f1 f5 (fun n => rfl) slV_plain slV_plain hc2 h40 
    have f0 := (x3d 0 (by decide)).trans f0
    have f1 := (x3d 1 (by decide)).trans f1
    have f4 := (x3d 4 (by decide)).trans f4
    have f5 := (x3d 5 (by decide)).trans f5
    have hlx := (rdK (AS.mk (hp ++ [AObj.cells [.map (.hp mm)], AObj.cells [.map (.hp nn)]]) s) S).1
    rw [keysS_len] at hlx
    obtain ⟨env4, x4a, x4b, x4c, x4d⟩ := rL cx env3 (AS.mk (hp ++ [AObj.cells [.map (.hp mm)], AObj.cells [.map (.hp nn)]]) s) S.length _ x3b hcx f5 hlx 
    have f0 := (x4d 0 (by decide)).trans f0
    have f1 := (x4d 1 (by decide)).trans f1
    have f4 := (x4d 4 (by decide)).trans f4
    have f5 := (x4d 5 (by decide)).trans f5
    have f15 := x4c.1
    have f16 := x4c.2.1
    have f17 := x4c.2.2
    have hkk : keysS S = keysS T := by have := congrArg (List.map AV.str) q; rw [List.map_map, List.map_map] at this; exact this
    obtain ⟨e5, env5, σ5, x5a, x5p⟩ := loop cx hcx hro ⟨hp ++ [AObj.cells [.map (.hp mm)], AObj.cells [.map (.hp nn)]], s⟩ a b S T mm nn M N (h.app _) hS (hP2.app _) hT hkk (by omega) (σ := AS.mk (hp ++ [AObj.cells [.map (.hp mm)], AObj.cells [.map (.hp nn)]]) s) x4b f17 f16 (⟨f0, f1, f15, rfl, rfl⟩)
    rcases x5p with ⟨rfl, ⟨x5b, f0, f1, f15, q0, rfl⟩ | x5p⟩ | ⟨x5q, x5r, x5p⟩
    · skip
      have hln : S.length = T.length := by rw [← keysS_len S, hkk, keysS_len]
      have he : S = T := by rw [List.take_of_length_le (by omega), List.take_of_length_le (by omega)] at q0; exact q0
      rw [decide_eq_true he]
      obtain ⟨env6, x6a, x6b, x6c, x6d⟩ := rD cx env5 (AS.mk (hp ++ [AObj.cells [.map (.hp mm)], AObj.cells [.map (.hp nn)]]) s)  x5b hcx   
      have f0 := (x6d 0 (by decide)).trans f0
      have f1 := (x6d 1 (by decide)).trans f1
      have f15 := (x6d 15 (by decide)).trans f15
      have f4 := x6c
      exact call_of (fl := {}) (fn := Try.f19) (c := bodyC) (env := env) (e := (.ret, (env6, AS.mk (hp ++ [AObj.cells [.map (.hp mm)], AObj.cells [.map (.hp nn)]]) s))) rfl Try.func19 body henv (by unfold bodyC; exact (execW_seq_of x1a (execW_seq_of x2a (execW_seq_of x3a (execW_seq_of (execW_seq_of x4a x5a) (execW_seq_of x6a (by rfl))))))) ((fin_tmp (k := 4) (.inl rfl) rfl rfl f4 (by simp [AV.back]) (by simp [AV.inb])).trans (congrArg (fun x => some (_, x)) (outside_st ho)))
    · cases x5p.1
    · obtain ⟨rfl, f4, rfl, q1, x5b⟩ := x5p
      rw [decide_eq_false q1]
      exact call_of (fl := {}) (fn := Try.f19) (c := bodyC) (env := env) (e := (.ret, (env5, AS.mk (hp ++ [AObj.cells [.map (.hp mm)], AObj.cells [.map (.hp nn)]]) s))) rfl Try.func19 body henv (by unfold bodyC; exact (execW_seq_of x1a (execW_seq_of x2a (execW_seq_of x3a (execW_seq_ret (execW_seq_of x4a x5a)))))) ((fin_tmp (k := 4) (.inl rfl) rfl rfl f4 (by simp [AV.back]) (by simp [AV.inb])).trans (congrArg (fun x => some (_, x)) (outside_st ho)))
  · skip
    rw [decide_eq_false q] at h40
    obtain ⟨env3, x3a, x3b, x3c, x3d⟩ := rX cx env2 (AS.mk (hp ++ [AObj.cells [.map (.hp mm)]]) s) _ _ _ _ x2b hcx f1 f5 (fun n => rfl) slV_plain slV_plain hc2 h40 
    have f0 := (x3d 0 (by decide)).trans f0
    have f1 := (x3d 1 (by decide)).trans f1
    have f5 := (x3d 5 (by decide)).trans f5
    have f4 := x3c
    rw [decide_eq_false (fun e : S = T => q (by rw [e]))]
    exact call_of (fl := {}) (fn := Try.f19) (c := bodyC) (env := env) (e := (.ret, (env3, AS.mk (hp ++ [AObj.cells [.map (.hp mm)], AObj.cells [.map (.hp nn)]]) s))) rfl Try.func19 body henv (by unfold bodyC; exact (execW_seq_of x1a (execW_seq_of x2a (execW_seq_ret x3a)))) ((fin_tmp (k := 4) (.inl rfl) rfl rfl f4 (by simp [AV.back]) (by simp [AV.inb])).trans (congrArg (fun x => some (_, x)) (outside_st ho)))
end F19
