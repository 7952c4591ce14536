/- Whether two slices are the same. -/

import Derived.Test.YtajoebiaopapoaaCd
open Go Go.Abs Go.Proofs
set_option maxRecDepth 100000
set_option maxHeartbeats 4000000
set_option linter.unusedSimpArgs false
set_option linter.unusedVariables false

theorem beqBd (a b : Bool) : (a == b) = decide (a = b) := by cases a <;> cases b <;> rfl
theorem el9 (x : ByteArray) : partA Try.prog 9 (AV.str x).cells 0 = some (.str x) := by simp [partA, aggA, isAggD, AV.cells]
theorem el46 (x : Vn) : partA Try.prog 46 (encVn x).cells 0 = some (encVn x) := by simp [partA, aggA, isAggD, AV.cells, encVn]
theorem el40 (x : Vn) : partA Try.prog 40 (encVn x).cells 0 = some (encVn x) := by simp [partA, aggA, isAggD, AV.cells, encVn]
theorem gd46 : Try.prog.eqGuardType Try.prog.depth 46 = false := by kernel_rfl
theorem gd40 : Try.prog.eqGuardType Try.prog.depth 40 = false := by kernel_rfl
theorem st46 : Try.prog.stoodInHeld 46 = false := by kernel_rfl
theorem st40 : Try.prog.stoodInHeld 40 = false := by kernel_rfl
theorem eqVn (e : TypeId) (n : Nat) (x y : Vn) (he : e = 46 ∨ e = 40) : eqA Try.prog (n + 2) e (encVn x) (encVn y) = some (decide (x = y)) := by
  have h : decide (x = y) = (decide (x.a = y.a) && (decide (x.n = y.n) && (decide (x.v = y.v) && decide (x.g = y.g)))) := by
    obtain ⟨a, b, c, d⟩ := x
    obtain ⟨a', b', c', d'⟩ := y
    by_cases h1 : a = a' <;> by_cases h2 : b = b' <;> by_cases h3 : c = c' <;> by_cases h4 : d = d' <;> simp [h1, h2, h3, h4, beqS_dec, beqI, beqBd]
  rw [h]
  obtain ⟨a, b, c, d⟩ := x
  obtain ⟨a', b', c', d'⟩ := y
  have e1 := beqI a a'
  have e2 := beqI b b'
  have e3 := beqS_dec c c'
  have e4 : (d == d') = decide (d = d') := by cases d <;> cases d' <;> rfl
  rcases he with rfl | rfl
  · simp only [encVn, eqA, Try.underlying46, st46, Bool.false_eq_true, if_false, eqFieldsA, partA, aggA, Try.underlying3, Try.underlying37, Try.underlying9, Try.underlying4, isAggD, Option.map_some, e1, e2, e3, e4]
    by_cases h1 : a = a' <;> by_cases h2 : b = b' <;> by_cases h3 : c = c' <;> by_cases h4 : d = d' <;> simp [h1, h2, h3, h4, beqS_dec, beqI, beqBd]
  · simp only [encVn, eqA, Try.underlying40, st40, Bool.false_eq_true, if_false, eqFieldsA, partA, aggA, Try.underlying3, Try.underlying37, Try.underlying9, Try.underlying4, isAggD, Option.map_some, e1, e2, e3, e4]
    by_cases h1 : a = a' <;> by_cases h2 : b = b' <;> by_cases h3 : c = c' <;> by_cases h4 : d = d' <;> simp [h1, h2, h3, h4, beqS_dec, beqI, beqBd]

namespace F40
noncomputable def cr (p : List Dir) : Code := sub p (bodyOf Try.f40)

section
attribute [local simp] ofV ofCell ofCells seqA_nil seqA_cons seqVK_eq seqEK_eq wantedA yieldedA isVal effA ev evs evps putE optsA optsOk valA fieldAddrA fieldA loadA partA aggA isAggD buildA placesA fillA lay storeA AV.withCells buildSliceA elemsA rowParts fzL promL okE isSrc bytesOk pushA cxOf lenA binA intBinA strBinA unA indexAddrA eqA AVs.inb AV.inb Loc.inb calleeA opsOf sub bodyOf Env.get_set quietA_nil quietA_cons quietK_none quietK_some qstep newA isNew escNew boxOk newLoc flat rowPartsQ quietN quietOp isBS List.takeWhile finishA_eq finK_ret finK_normal retK backK resA oneA AV.back AVs.back execW_seq_eq seqK_normal seqK_ret seqK_exit execW_cond_eq condK_true condK_false execW_block_eq blockK_exit blockK_normal blockK_ret execW_region_eq regK_eq execW_skip execW_exit execW_ret regionA_plain regionA_quiet0 tailK_eq nilCheckA guardOk isConst lookupA keyFits mapUpdateA beqI bneI
theorem rA (cx : Cx) (env : Env) (σ : AS)  (hlen : env.length = 26) (hcx : cx.esc = [])  :
    Pc Try.prog how cx [] 26 [4] (cr [.l]) env σ (.normal) (σ) (fun env' => Env.get env' 4 = .bool false) := by
  refine pc_of fun res hr => ?_
  simp -implicitDefEqProofs [-lenA, -indexAddrA, -loadA, AS.get_push_at, AS.get_push_old, AS.push_len, AS.set_st_len, AS.next_st', AS.set_push_at, AS.get_set_self, AS.get_set_other, cr, Try.f40, hlen, hcx] at hr
  subst hr
  refine ⟨_, rfl, by simp [hlen], by simp [Env.get_set, hlen], fun i hi => ?_⟩
  simp only [List.mem_cons, List.not_mem_nil, or_false, not_or] at hi
  simp only [get_set2, hi, false_and, if_false]

theorem rN (cx : Cx) (env : Env) (σ : AS) (X Y : AV) (n : Nat) (hlen : env.length = 26) (hcx : cx.esc = []) (f0 : Env.get env 0 = X) (f1 : Env.get env 1 = Y) (hla : lenA Try.prog σ 33 X = some n) (hlb : lenA Try.prog σ 33 Y = some n) :
    Pc Try.prog how cx [] 26 [6, 7, 8, 9, 10] (cr [.r, .l]) env σ (.normal) (σ) (fun _ => True) := by
  refine pc_of fun res hr => ?_
  simp -implicitDefEqProofs [-lenA, -indexAddrA, -loadA, AS.get_push_at, AS.get_push_old, AS.push_len, AS.set_st_len, AS.next_st', AS.set_push_at, AS.get_set_self, AS.get_set_other, cr, Try.f40, hlen, hcx, f0, f1, hla, hlb] at hr
  subst hr
  refine ⟨_, rfl, by simp [hlen], by simp [Env.get_set, hlen, f0, f1, hla, hlb], fun i hi => ?_⟩
  simp only [List.mem_cons, List.not_mem_nil, or_false, not_or] at hi
  simp only [get_set2, hi, false_and, if_false]

theorem rX (cx : Cx) (env : Env) (σ : AS) (X Y : AV) (n m : Nat) (hlen : env.length = 26) (hcx : cx.esc = []) (f0 : Env.get env 0 = X) (f1 : Env.get env 1 = Y) (hla : lenA Try.prog σ 33 X = some n) (hlb : lenA Try.prog σ 33 Y = some m) (hne : ¬ n = m) (hne2 : ¬ (n : Int) = (m : Int)) :
    Pc Try.prog how cx [] 26 [4, 6, 7, 8, 9, 10] (cr [.r, .l]) env σ (.ret) (σ) (fun env' => Env.get env' 4 = .bool false) := by
  refine pc_of fun res hr => ?_
  simp -implicitDefEqProofs [-lenA, -indexAddrA, -loadA, AS.get_push_at, AS.get_push_old, AS.push_len, AS.set_st_len, AS.next_st', AS.set_push_at, AS.get_set_self, AS.get_set_other, cr, Try.f40, hlen, hcx, f0, f1, hla, hlb, hne, hne2] at hr
  subst hr
  refine ⟨_, rfl, by simp [hlen], by simp [Env.get_set, hlen, f0, f1, hla, hlb, hne, hne2], fun i hi => ?_⟩
  simp only [List.mem_cons, List.not_mem_nil, or_false, not_or] at hi
  simp only [get_set2, hi, false_and, if_false]

theorem rL (cx : Cx) (env : Env) (σ : AS) (X Y : AV) (n : Nat) (hlen : env.length = 26) (hcx : cx.esc = []) (f0 : Env.get env 0 = X) (f1 : Env.get env 1 = Y) (hla : lenA Try.prog σ 33 X = some n) :
    Pc Try.prog how cx [] 26 [11, 12, 13] (cr [.r, .r, .l, .l]) env σ (.normal) (σ) (fun env' => Env.get env' 12 = .int .i64 (n : Int) ∧ Env.get env' 13 = .int .i64 0) := by
  refine pc_of fun res hr => ?_
  simp -implicitDefEqProofs [-lenA, -indexAddrA, -loadA, AS.get_push_at, AS.get_push_old, AS.push_len, AS.set_st_len, AS.next_st', AS.set_push_at, AS.get_set_self, AS.get_set_other, cr, Try.f40, hlen, hcx, f0, f1, hla] at hr
  subst hr
  refine ⟨_, rfl, by simp [hlen], by simp [Env.get_set, hlen, f0, f1, hla], fun i hi => ?_⟩
  simp only [List.mem_cons, List.not_mem_nil, or_false, not_or] at hi
  simp only [get_set2, hi, false_and, if_false]

theorem rE (cx : Cx) (env : Env) (σ : AS) (k : Nat) (hlen : env.length = 26) (hcx : cx.esc = []) (f13 : Env.get env 13 = .int .i64 (k : Int)) :
    Pc Try.prog how cx [] 26 [5, 15] (cr [.r, .r, .l, .r, .i, .i, .r, .r, .l, .i, .l]) env σ (.normal) (σ) (fun env' => Env.get env' 5 = .int .i64 (k : Int)) := by
  refine pc_of fun res hr => ?_
  simp -implicitDefEqProofs [-lenA, -indexAddrA, -loadA, AS.get_push_at, AS.get_push_old, AS.push_len, AS.set_st_len, AS.next_st', AS.set_push_at, AS.get_set_self, AS.get_set_other, cr, Try.f40, hlen, hcx, f13] at hr
  subst hr
  refine ⟨_, rfl, by simp [hlen], by simp [Env.get_set, hlen, f13], fun i hi => ?_⟩
  simp only [List.mem_cons, List.not_mem_nil, or_false, not_or] at hi
  simp only [get_set2, hi, false_and, if_false]

theorem rS (cx : Cx) (env : Env) (σ : AS) (X Y : AV) (p q : AV) (k : Nat) (x y : ByteArray) (hlen : env.length = 26) (hcx : cx.esc = []) (f0 : Env.get env 0 = X) (f1 : Env.get env 1 = Y) (f5 : Env.get env 5 = .int .i64 (k : Int)) (hia : indexAddrA Try.prog σ 33 X (.int .i64 (k : Int)) = some p) (hpa : loadA Try.prog σ 9 p = some (.str x)) (hib : indexAddrA Try.prog σ 33 Y (.int .i64 (k : Int)) = some q) (hpb : loadA Try.prog σ 9 q = some (.str y)) (hq : beqS x y = true) :
    Pc Try.prog how cx [] 26 [16, 17, 18, 19, 20, 21, 22, 23, 24] (cr [.r, .r, .l, .r, .i, .i, .r, .r, .l, .i, .r]) env σ (.normal) (σ) (fun _ => True) := by
  refine pc_of fun res hr => ?_
  simp -implicitDefEqProofs [-lenA, -indexAddrA, -loadA, AS.get_push_at, AS.get_push_old, AS.push_len, AS.set_st_len, AS.next_st', AS.set_push_at, AS.get_set_self, AS.get_set_other, cr, Try.f40, hlen, hcx, f0, f1, f5, hia, hpa, hib, hpb, hq] at hr
  subst hr
  refine ⟨_, rfl, by simp [hlen], by simp [Env.get_set, hlen, f0, f1, f5, hia, hpa, hib, hpb, hq], fun i hi => ?_⟩
  simp only [List.mem_cons, List.not_mem_nil, or_false, not_or] at hi
  simp only [get_set2, hi, false_and, if_false]

theorem rF (cx : Cx) (env : Env) (σ : AS) (X Y : AV) (p q : AV) (k : Nat) (x y : ByteArray) (hlen : env.length = 26) (hcx : cx.esc = []) (f0 : Env.get env 0 = X) (f1 : Env.get env 1 = Y) (f5 : Env.get env 5 = .int .i64 (k : Int)) (hia : indexAddrA Try.prog σ 33 X (.int .i64 (k : Int)) = some p) (hpa : loadA Try.prog σ 9 p = some (.str x)) (hib : indexAddrA Try.prog σ 33 Y (.int .i64 (k : Int)) = some q) (hpb : loadA Try.prog σ 9 q = some (.str y)) (hq : beqS x y = false) :
    Pc Try.prog how cx [] 26 [4, 16, 17, 18, 19, 20, 21, 22, 23, 24] (cr [.r, .r, .l, .r, .i, .i, .r, .r, .l, .i, .r]) env σ (.ret) (σ) (fun env' => Env.get env' 4 = .bool false) := by
  refine pc_of fun res hr => ?_
  simp -implicitDefEqProofs [-lenA, -indexAddrA, -loadA, AS.get_push_at, AS.get_push_old, AS.push_len, AS.set_st_len, AS.next_st', AS.set_push_at, AS.get_set_self, AS.get_set_other, cr, Try.f40, hlen, hcx, f0, f1, f5, hia, hpa, hib, hpb, hq] at hr
  subst hr
  refine ⟨_, rfl, by simp [hlen], by simp [Env.get_set, hlen, f0, f1, f5, hia, hpa, hib, hpb, hq], fun i hi => ?_⟩
  simp only [List.mem_cons, List.not_mem_nil, or_false, not_or] at hi
  simp only [get_set2, hi, false_and, if_false]

theorem rD (cx : Cx) (env : Env) (σ : AS)  (hlen : env.length = 26) (hcx : cx.esc = [])  :
    Pc Try.prog how cx [] 26 [4] (cr [.r, .r, .r, .l]) env σ (.normal) (σ) (fun env' => Env.get env' 4 = .bool true) := by
  refine pc_of fun res hr => ?_
  simp -implicitDefEqProofs [-lenA, -indexAddrA, -loadA, AS.get_push_at, AS.get_push_old, AS.push_len, AS.set_st_len, AS.next_st', AS.set_push_at, AS.get_set_self, AS.get_set_other, cr, Try.f40, hlen, hcx] at hr
  subst hr
  refine ⟨_, rfl, by simp [hlen], by simp [Env.get_set, hlen], fun i hi => ?_⟩
  simp only [List.mem_cons, List.not_mem_nil, or_false, not_or] at hi
  simp only [get_set2, hi, false_and, if_false]

end
noncomputable def bodyC : Code := (.seq (cr [.l]) (.seq (cr [.r, .l]) (.seq (.seq (cr [.r, .r, .l, .l]) (cr [.r, .r, .l, .r])) (.seq (cr [.r, .r, .r, .l]) .ret))))
theorem body : Try.f40.body = some bodyC := by kernel_rfl
/-- What holds ahead of round k. -/
def J (h : Nat) (σ0 : AS) (X Y : AV) (LA LB : List ByteArray) (k : Nat) (env : Env) (σ : AS) : Prop :=
  Env.get env 0 = X ∧ Env.get env 1 = Y ∧ (LA.take k = LB.take k) ∧ σ = σ0
def Ex (h : Nat) (σ0 : AS) (X Y : AV) (LA LB : List ByteArray) (e : AExit) (env : Env) (σ : AS) : Prop := e = .ret ∧ Env.get env 4 = .bool false ∧ σ = σ0 ∧ LA ≠ LB ∧ env.length = 26
theorem J_stable {h : Nat} {σ0 : AS} {X Y : AV} {LA LB : List ByteArray} : ∀ k env env' σ, env.length = 26 → env'.length = 26 → (∀ i, i ≠ 14 → i ≠ 25 → i ≠ 13 → Env.get env' i = Env.get env i) → J h σ0 X Y LA LB k env σ → J h σ0 X Y LA LB k env' σ := by
  rintro k env env' σ _ _ hf ⟨j0, j1, q0, ho⟩
  exact ⟨(hf 0 (by decide) (by decide) (by decide)).trans j0, (hf 1 (by decide) (by decide) (by decide)).trans j1, q0, ho⟩
noncomputable def oT : Oper := (opsOf (cr [.r, .r, .l, .r, .i, .i, .l])).headD default
noncomputable def oI : List Oper := opsOf (cr [.r, .r, .l, .r, .i, .i, .r, .r, .r])
theorem loop_eq : (cr [.r, .r, .l, .r]) = .block 0 (.loop (.seq (.region 4 #[oT] false) (.seq (.cond (.tmp 14) .skip (.exit 0)) (.seq (.block 1 (.seq (cr [.r, .r, .l, .r, .i, .i, .r, .r, .l, .i, .l]) (cr [.r, .r, .l, .r, .i, .i, .r, .r, .l, .i, .r]))) (.region 8 #[oI.headD default, (oI.drop 1).headD default] false))))) := by kernel_rfl
theorem step (cx : Cx) (hcx : cx.esc = []) (hro : ∀ k, cx.ro = some k → k ≤ cx.h) (σ0 : AS) (X Y : AV) (LA LB : List ByteArray) (hX : Rd Try.prog σ0 33 9 X (LA.map AV.str)) (hY : Rd Try.prog σ0 33 9 Y (LB.map AV.str)) (hn : LA.length = LB.length) :
    ∀ k env σ, k < LA.length → env.length = 26 → Env.get env 13 = .int .i64 (k : Int) → Env.get env 12 = .int .i64 ((LA.length : Nat) : Int) → J cx.h σ0 X Y LA LB k env σ → ∃ e env' σ', execW Try.prog cx [] (callW Try.prog how) (.block 1 (.seq (cr [.r, .r, .l, .r, .i, .i, .r, .r, .l, .i, .l]) (cr [.r, .r, .l, .r, .i, .i, .r, .r, .l, .i, .r]))) (env, σ) = some (e, (env', σ')) ∧
      ((e = .normal ∧ env'.length = 26 ∧ Env.get env' 13 = .int .i64 (k : Int) ∧ Env.get env' 12 = .int .i64 ((LA.length : Nat) : Int) ∧ J cx.h σ0 X Y LA LB (k + 1) env' σ') ∨ (e ≠ .normal ∧ Ex cx.h σ0 X Y LA LB e env' σ')) := by
  rintro k env σ hk hlen f13 f12 ⟨f0, f1, q0, rfl⟩
  have hka : k < LA.length := by omega
  have hkb : k < LB.length := by omega
  obtain ⟨p, hia, hpa⟩ := hX.2 k (AV.str LA[k]) (by rw [List.getElem?_map, List.getElem?_eq_getElem hka]; rfl)
  obtain ⟨q, hib, hpb⟩ := hY.2 k (AV.str LB[k]) (by rw [List.getElem?_map, List.getElem?_eq_getElem hkb]; rfl)
  obtain ⟨env1, x1a, x1b, x1c, x1d⟩ := rE cx env σ k hlen hcx f13  
  have f0 := (x1d 0 (by decide)).trans f0
  have f1 := (x1d 1 (by decide)).trans f1
  have f12 := (x1d 12 (by decide)).trans f12
  have f13 := (x1d 13 (by decide)).trans f13
  have f5 := x1c
  have hq := beqS_dec LA[k] LB[k]
  by_cases he : LA[k] = LB[k]
  · rw [decide_eq_true he] at hq
    obtain ⟨env2, x2a, x2b, x2c, x2d⟩ := rS cx env1 σ X Y p q k _ _ x1b hcx f0 f1 f5 hia hpa hib hpb hq 
    have f0 := (x2d 0 (by decide)).trans f0
    have f1 := (x2d 1 (by decide)).trans f1
    have f5 := (x2d 5 (by decide)).trans f5
    have f12 := (x2d 12 (by decide)).trans f12
    have f13 := (x2d 13 (by decide)).trans f13
    exact ⟨.normal, env2, _, (execW_block_of (execW_seq_of x1a x2a)), .inl ⟨rfl, x2b, f13, f12, f0, f1, (take_eq_succ hka hkb q0 he), rfl⟩⟩
  · rw [decide_eq_false he] at hq
    obtain ⟨env2, x2a, x2b, x2c, x2d⟩ := rF cx env1 σ X Y p q k _ _ x1b hcx f0 f1 f5 hia hpa hib hpb hq 
    have f0 := (x2d 0 (by decide)).trans f0
    have f1 := (x2d 1 (by decide)).trans f1
    have f5 := (x2d 5 (by decide)).trans f5
    have f12 := (x2d 12 (by decide)).trans f12
    have f13 := (x2d 13 (by decide)).trans f13
    have f4 := x2c
    exact ⟨.ret, env2, _, (block_exit (execW_seq_of x1a x2a) (by simp)), .inr ⟨by simp, rfl, f4, rfl, (by rintro rfl; exact he rfl), x2b⟩⟩
theorem loop (cx : Cx) (hcx : cx.esc = []) (hro : ∀ k, cx.ro = some k → k ≤ cx.h) (σ0 : AS) (X Y : AV) (LA LB : List ByteArray) (hX : Rd Try.prog σ0 33 9 X (LA.map AV.str)) (hY : Rd Try.prog σ0 33 9 Y (LB.map AV.str)) (hn : LA.length = LB.length) (hnn : LA.length ≤ 9223372036854775807) {env : Env} {σ : AS} (hl : env.length = 26) (h1 : Env.get env 13 = .int .i64 0) (h2 : Env.get env 12 = .int .i64 ((LA.length : Nat) : Int)) (h0 : J cx.h σ0 X Y LA LB 0 env σ) :
    ∃ e env' σ', execW Try.prog cx [] (callW Try.prog how) (cr [.r, .r, .l, .r]) (env, σ) = some (e, (env', σ')) ∧ ((e = .normal ∧ ((env'.length = 26 ∧ J cx.h σ0 X Y LA LB (LA.length) env' σ') ∨ Ex cx.h σ0 X Y LA LB (.exit 0) env' σ')) ∨ (e ≠ .normal ∧ e ≠ .exit 0 ∧ Ex cx.h σ0 X Y LA LB e env' σ')) := by
  rw [loop_eq]
  exact range_std (Ex := Ex cx.h σ0 X Y LA LB) (N := 26) (tc := 14) (ti := 13) (tl := 12) (tx := 25) (ty1 := 3) (ty2 := 3) (ty3 := 3) (ty4 := 3) ⟨by kernel_rfl, by kernel_rfl, by kernel_rfl⟩ ⟨by kernel_rfl, by kernel_rfl, by kernel_rfl⟩ ⟨by kernel_rfl, by kernel_rfl, by kernel_rfl⟩ (by decide) hnn J_stable (step cx hcx hro σ0 X Y LA LB hX hY hn) hl h1 h2 h0
theorem ok (hp s : List AObj) (ro : Option Nat) (X Y : AV) (LA LB : List ByteArray) (hro' : ∀ k, ro = some k → k ≤ s.length) (hX : Rd Try.prog ⟨hp, s⟩ 33 9 X (LA.map AV.str)) (hY : Rd Try.prog ⟨hp, s⟩ 33 9 Y (LB.map AV.str)) (hs : LA.length ≤ 9223372036854775807 ∧ LB.length ≤ 9223372036854775807) :
    callW Try.prog how 40 [X, Y] ⟨hp, s⟩ ro = some (.bool (decide (LA = LB)), ⟨hp, s⟩) := by
  let cx : Cx := { h := s.length, ro := ro, esc := [] }
  have hcx : cx.esc = [] := rfl
  have hro : ∀ k, cx.ro = some k → k ≤ cx.h := hro'
  obtain ⟨env, henv⟩ : ∃ e, e = frameA Try.f40 [X, Y] := ⟨_, rfl⟩
  have hlen : env.length = 26 := by rw [henv]; rfl
  have f0 : Env.get env 0 = X := by rw [henv]; rfl
  have f1 : Env.get env 1 = Y := by rw [henv]; rfl
  have ho : Outside s.length (AS.mk hp s) (AS.mk hp s) := Outside.refl (Nat.le_refl _)
  have hla := hX.1
  have hlb := hY.1
  rw [List.length_map] at hla hlb
  obtain ⟨env1, x1a, x1b, x1c, x1d⟩ := rA cx env (AS.mk hp s)  hlen hcx   
  have f0 := (x1d 0 (by decide)).trans f0
  have f1 := (x1d 1 (by decide)).trans f1
  have f4 := x1c
  by_cases hn : LA.length = LB.length
  · skip
    obtain ⟨env2, x2a, x2b, x2c, x2d⟩ := rN cx env1 (AS.mk hp s) X Y LA.length x1b hcx f0 f1 hla (hn ▸ hlb) 
    have f0 := (x2d 0 (by decide)).trans f0
    have f1 := (x2d 1 (by decide)).trans f1
    have f4 := (x2d 4 (by decide)).trans f4
    obtain ⟨env3, x3a, x3b, x3c, x3d⟩ := rL cx env2 (AS.mk hp s) X Y LA.length x2b hcx f0 f1 hla 
    have f0 := (x3d 0 (by decide)).trans f0
    have f1 := (x3d 1 (by decide)).trans f1
    have f4 := (x3d 4 (by decide)).trans f4
    have f12 := x3c.1
    have f13 := x3c.2
    obtain ⟨e4, env4, σ4, x4a, x4p⟩ := loop cx hcx hro ⟨hp, s⟩ X Y LA LB hX hY hn (by omega) (σ := AS.mk hp s) x3b f13 f12 (⟨f0, f1, rfl, rfl⟩)
    rcases x4p with ⟨rfl, ⟨x4b, f0, f1, q0, rfl⟩ | x4p⟩ | ⟨x4q, x4r, x4p⟩
    · skip
      have he : LA = LB := by rw [List.take_of_length_le (by omega), List.take_of_length_le (by omega)] at q0; exact q0
      rw [decide_eq_true he]
      obtain ⟨env5, x5a, x5b, x5c, x5d⟩ := rD cx env4 (AS.mk hp s)  x4b hcx   
      have f0 := (x5d 0 (by decide)).trans f0
      have f1 := (x5d 1 (by decide)).trans f1
      have f4 := x5c
      exact call_of (fl := {}) (fn := Try.f40) (c := bodyC) (env := env) (e := (.ret, (env5, AS.mk hp s))) rfl Try.func40 body henv (by unfold bodyC; exact (execW_seq_of x1a (execW_seq_of x2a (execW_seq_of (execW_seq_of x3a x4a) (execW_seq_of x5a (by rfl)))))) ((fin_tmp (k := 4) (.inl rfl) rfl rfl f4 (by simp [AV.back]) (by simp [AV.inb])).trans (congrArg (fun x => some (_, x)) (outside_st ho)))
    · cases x4p.1
    · obtain ⟨rfl, f4, rfl, q1, x4b⟩ := x4p
      rw [decide_eq_false q1]
      exact call_of (fl := {}) (fn := Try.f40) (c := bodyC) (env := env) (e := (.ret, (env4, AS.mk hp s))) rfl Try.func40 body henv (by unfold bodyC; exact (execW_seq_of x1a (execW_seq_of x2a (execW_seq_ret (execW_seq_of x3a x4a))))) ((fin_tmp (k := 4) (.inl rfl) rfl rfl f4 (by simp [AV.back]) (by simp [AV.inb])).trans (congrArg (fun x => some (_, x)) (outside_st ho)))
  · skip
    obtain ⟨env2, x2a, x2b, x2c, x2d⟩ := rX cx env1 (AS.mk hp s) X Y LA.length LB.length x1b hcx f0 f1 hla hlb hn (by omega) 
    have f0 := (x2d 0 (by decide)).trans f0
    have f1 := (x2d 1 (by decide)).trans f1
    have f4 := x2c
    rw [decide_eq_false (by rintro rfl; exact hn rfl)]
    exact call_of (fl := {}) (fn := Try.f40) (c := bodyC) (env := env) (e := (.ret, (env2, AS.mk hp s))) rfl Try.func40 body henv (by unfold bodyC; exact (execW_seq_of x1a (execW_seq_ret x2a))) ((fin_tmp (k := 4) (.inl rfl) rfl rfl f4 (by simp [AV.back]) (by simp [AV.inb])).trans (congrArg (fun x => some (_, x)) (outside_st ho)))
end F40

namespace F11
noncomputable def cr (p : List Dir) : Code := sub p (bodyOf Try.f11)

section
attribute [local simp] ofV ofCell ofCells seqA_nil seqA_cons seqVK_eq seqEK_eq wantedA yieldedA isVal effA ev evs evps putE optsA optsOk valA fieldAddrA fieldA loadA partA aggA isAggD buildA placesA fillA lay storeA AV.withCells buildSliceA elemsA rowParts fzL promL okE isSrc bytesOk pushA cxOf lenA binA intBinA strBinA unA indexAddrA eqA AVs.inb AV.inb Loc.inb calleeA opsOf sub bodyOf Env.get_set quietA_nil quietA_cons quietK_none quietK_some qstep newA isNew escNew boxOk newLoc flat rowPartsQ quietN quietOp isBS List.takeWhile finishA_eq finK_ret finK_normal retK backK resA oneA AV.back AVs.back execW_seq_eq seqK_normal seqK_ret seqK_exit execW_cond_eq condK_true condK_false execW_block_eq blockK_exit blockK_normal blockK_ret execW_region_eq regK_eq execW_skip execW_exit execW_ret regionA_plain regionA_quiet0 tailK_eq nilCheckA guardOk isConst lookupA keyFits mapUpdateA beqI bneI
theorem rA (cx : Cx) (env : Env) (σ : AS)  (hlen : env.length = 26) (hcx : cx.esc = [])  :
    Pc Try.prog how cx [] 26 [4] (cr [.l]) env σ (.normal) (σ) (fun env' => Env.get env' 4 = .bool false) := by
  refine pc_of fun res hr => ?_
  simp -implicitDefEqProofs [-lenA, -indexAddrA, -loadA, AS.get_push_at, AS.get_push_old, AS.push_len, AS.set_st_len, AS.next_st', AS.set_push_at, AS.get_set_self, AS.get_set_other, cr, Try.f11, hlen, hcx] at hr
  subst hr
  refine ⟨_, rfl, by simp [hlen], by simp [Env.get_set, hlen], fun i hi => ?_⟩
  simp only [List.mem_cons, List.not_mem_nil, or_false, not_or] at hi
  simp only [get_set2, hi, false_and, if_false]

theorem rN (cx : Cx) (env : Env) (σ : AS) (X Y : AV) (n : Nat) (hlen : env.length = 26) (hcx : cx.esc = []) (f0 : Env.get env 0 = X) (f1 : Env.get env 1 = Y) (hla : lenA Try.prog σ 33 X = some n) (hlb : lenA Try.prog σ 33 Y = some n) :
    Pc Try.prog how cx [] 26 [6, 7, 8, 9, 10] (cr [.r, .l]) env σ (.normal) (σ) (fun _ => True) := by
  refine pc_of fun res hr => ?_
  simp -implicitDefEqProofs [-lenA, -indexAddrA, -loadA, AS.get_push_at, AS.get_push_old, AS.push_len, AS.set_st_len, AS.next_st', AS.set_push_at, AS.get_set_self, AS.get_set_other, cr, Try.f11, hlen, hcx, f0, f1, hla, hlb] at hr
  subst hr
  refine ⟨_, rfl, by simp [hlen], by simp [Env.get_set, hlen, f0, f1, hla, hlb], fun i hi => ?_⟩
  simp only [List.mem_cons, List.not_mem_nil, or_false, not_or] at hi
  simp only [get_set2, hi, false_and, if_false]

theorem rX (cx : Cx) (env : Env) (σ : AS) (X Y : AV) (n m : Nat) (hlen : env.length = 26) (hcx : cx.esc = []) (f0 : Env.get env 0 = X) (f1 : Env.get env 1 = Y) (hla : lenA Try.prog σ 33 X = some n) (hlb : lenA Try.prog σ 33 Y = some m) (hne : ¬ n = m) (hne2 : ¬ (n : Int) = (m : Int)) :
    Pc Try.prog how cx [] 26 [4, 6, 7, 8, 9, 10] (cr [.r, .l]) env σ (.ret) (σ) (fun env' => Env.get env' 4 = .bool false) := by
  refine pc_of fun res hr => ?_
  simp -implicitDefEqProofs [-lenA, -indexAddrA, -loadA, AS.get_push_at, AS.get_push_old, AS.push_len, AS.set_st_len, AS.next_st', AS.set_push_at, AS.get_set_self, AS.get_set_other, cr, Try.f11, hlen, hcx, f0, f1, hla, hlb, hne, hne2] at hr
  subst hr
  refine ⟨_, rfl, by simp [hlen], by simp [Env.get_set, hlen, f0, f1, hla, hlb, hne, hne2], fun i hi => ?_⟩
  simp only [List.mem_cons, List.not_mem_nil, or_false, not_or] at hi
  simp only [get_set2, hi, false_and, if_false]

theorem rL (cx : Cx) (env : Env) (σ : AS) (X Y : AV) (n : Nat) (hlen : env.length = 26) (hcx : cx.esc = []) (f0 : Env.get env 0 = X) (f1 : Env.get env 1 = Y) (hla : lenA Try.prog σ 33 Y = some n) :
    Pc Try.prog how cx [] 26 [11, 12, 13] (cr [.r, .r, .l, .l]) env σ (.normal) (σ) (fun env' => Env.get env' 12 = .int .i64 (n : Int) ∧ Env.get env' 13 = .int .i64 0) := by
  refine pc_of fun res hr => ?_
  simp -implicitDefEqProofs [-lenA, -indexAddrA, -loadA, AS.get_push_at, AS.get_push_old, AS.push_len, AS.set_st_len, AS.next_st', AS.set_push_at, AS.get_set_self, AS.get_set_other, cr, Try.f11, hlen, hcx, f0, f1, hla] at hr
  subst hr
  refine ⟨_, rfl, by simp [hlen], by simp [Env.get_set, hlen, f0, f1, hla], fun i hi => ?_⟩
  simp only [List.mem_cons, List.not_mem_nil, or_false, not_or] at hi
  simp only [get_set2, hi, false_and, if_false]

theorem rE (cx : Cx) (env : Env) (σ : AS) (k : Nat) (hlen : env.length = 26) (hcx : cx.esc = []) (f13 : Env.get env 13 = .int .i64 (k : Int)) :
    Pc Try.prog how cx [] 26 [5, 15] (cr [.r, .r, .l, .r, .i, .i, .r, .r, .l, .i, .l]) env σ (.normal) (σ) (fun env' => Env.get env' 5 = .int .i64 (k : Int)) := by
  refine pc_of fun res hr => ?_
  simp -implicitDefEqProofs [-lenA, -indexAddrA, -loadA, AS.get_push_at, AS.get_push_old, AS.push_len, AS.set_st_len, AS.next_st', AS.set_push_at, AS.get_set_self, AS.get_set_other, cr, Try.f11, hlen, hcx, f13] at hr
  subst hr
  refine ⟨_, rfl, by simp [hlen], by simp [Env.get_set, hlen, f13], fun i hi => ?_⟩
  simp only [List.mem_cons, List.not_mem_nil, or_false, not_or] at hi
  simp only [get_set2, hi, false_and, if_false]

theorem rS (cx : Cx) (env : Env) (σ : AS) (X Y : AV) (p q : AV) (k : Nat) (x y : ByteArray) (hlen : env.length = 26) (hcx : cx.esc = []) (f0 : Env.get env 0 = X) (f1 : Env.get env 1 = Y) (f5 : Env.get env 5 = .int .i64 (k : Int)) (hia : indexAddrA Try.prog σ 33 X (.int .i64 (k : Int)) = some p) (hpa : loadA Try.prog σ 9 p = some (.str x)) (hib : indexAddrA Try.prog σ 33 Y (.int .i64 (k : Int)) = some q) (hpb : loadA Try.prog σ 9 q = some (.str y)) (hq : beqS x y = true) :
    Pc Try.prog how cx [] 26 [16, 17, 18, 19, 20, 21, 22, 23, 24] (cr [.r, .r, .l, .r, .i, .i, .r, .r, .l, .i, .r]) env σ (.normal) (σ) (fun _ => True) := by
  refine pc_of fun res hr => ?_
  simp -implicitDefEqProofs [-lenA, -indexAddrA, -loadA, AS.get_push_at, AS.get_push_old, AS.push_len, AS.set_st_len, AS.next_st', AS.set_push_at, AS.get_set_self, AS.get_set_other, cr, Try.f11, hlen, hcx, f0, f1, f5, hia, hpa, hib, hpb, hq] at hr
  subst hr
  refine ⟨_, rfl, by simp [hlen], by simp [Env.get_set, hlen, f0, f1, f5, hia, hpa, hib, hpb, hq], fun i hi => ?_⟩
  simp only [List.mem_cons, List.not_mem_nil, or_false, not_or] at hi
  simp only [get_set2, hi, false_and, if_false]

theorem rF (cx : Cx) (env : Env) (σ : AS) (X Y : AV) (p q : AV) (k : Nat) (x y : ByteArray) (hlen : env.length = 26) (hcx : cx.esc = []) (f0 : Env.get env 0 = X) (f1 : Env.get env 1 = Y) (f5 : Env.get env 5 = .int .i64 (k : Int)) (hia : indexAddrA Try.prog σ 33 X (.int .i64 (k : Int)) = some p) (hpa : loadA Try.prog σ 9 p = some (.str x)) (hib : indexAddrA Try.prog σ 33 Y (.int .i64 (k : Int)) = some q) (hpb : loadA Try.prog σ 9 q = some (.str y)) (hq : beqS x y = false) :
    Pc Try.prog how cx [] 26 [4, 16, 17, 18, 19, 20, 21, 22, 23, 24] (cr [.r, .r, .l, .r, .i, .i, .r, .r, .l, .i, .r]) env σ (.ret) (σ) (fun env' => Env.get env' 4 = .bool false) := by
  refine pc_of fun res hr => ?_
  simp -implicitDefEqProofs [-lenA, -indexAddrA, -loadA, AS.get_push_at, AS.get_push_old, AS.push_len, AS.set_st_len, AS.next_st', AS.set_push_at, AS.get_set_self, AS.get_set_other, cr, Try.f11, hlen, hcx, f0, f1, f5, hia, hpa, hib, hpb, hq] at hr
  subst hr
  refine ⟨_, rfl, by simp [hlen], by simp [Env.get_set, hlen, f0, f1, f5, hia, hpa, hib, hpb, hq], fun i hi => ?_⟩
  simp only [List.mem_cons, List.not_mem_nil, or_false, not_or] at hi
  simp only [get_set2, hi, false_and, if_false]

theorem rD (cx : Cx) (env : Env) (σ : AS)  (hlen : env.length = 26) (hcx : cx.esc = [])  :
    Pc Try.prog how cx [] 26 [4] (cr [.r, .r, .r, .l]) env σ (.normal) (σ) (fun env' => Env.get env' 4 = .bool true) := by
  refine pc_of fun res hr => ?_
  simp -implicitDefEqProofs [-lenA, -indexAddrA, -loadA, AS.get_push_at, AS.get_push_old, AS.push_len, AS.set_st_len, AS.next_st', AS.set_push_at, AS.get_set_self, AS.get_set_other, cr, Try.f11, hlen, hcx] at hr
  subst hr
  refine ⟨_, rfl, by simp [hlen], by simp [Env.get_set, hlen], fun i hi => ?_⟩
  simp only [List.mem_cons, List.not_mem_nil, or_false, not_or] at hi
  simp only [get_set2, hi, false_and, if_false]

end
noncomputable def bodyC : Code := (.seq (cr [.l]) (.seq (cr [.r, .l]) (.seq (.seq (cr [.r, .r, .l, .l]) (cr [.r, .r, .l, .r])) (.seq (cr [.r, .r, .r, .l]) .ret))))
theorem body : Try.f11.body = some bodyC := by kernel_rfl
/-- What holds ahead of round k. -/
def J (h : Nat) (σ0 : AS) (X Y : AV) (LA LB : List ByteArray) (k : Nat) (env : Env) (σ : AS) : Prop :=
  Env.get env 0 = X ∧ Env.get env 1 = Y ∧ (LA.take k = LB.take k) ∧ σ = σ0
def Ex (h : Nat) (σ0 : AS) (X Y : AV) (LA LB : List ByteArray) (e : AExit) (env : Env) (σ : AS) : Prop := e = .ret ∧ Env.get env 4 = .bool false ∧ σ = σ0 ∧ LA ≠ LB ∧ env.length = 26
theorem J_stable {h : Nat} {σ0 : AS} {X Y : AV} {LA LB : List ByteArray} : ∀ k env env' σ, env.length = 26 → env'.length = 26 → (∀ i, i ≠ 14 → i ≠ 25 → i ≠ 13 → Env.get env' i = Env.get env i) → J h σ0 X Y LA LB k env σ → J h σ0 X Y LA LB k env' σ := by
  rintro k env env' σ _ _ hf ⟨j0, j1, q0, ho⟩
  exact ⟨(hf 0 (by decide) (by decide) (by decide)).trans j0, (hf 1 (by decide) (by decide) (by decide)).trans j1, q0, ho⟩
noncomputable def oT : Oper := (opsOf (cr [.r, .r, .l, .r, .i, .i, .l])).headD default
noncomputable def oI : List Oper := opsOf (cr [.r, .r, .l, .r, .i, .i, .r, .r, .r])
theorem loop_eq : (cr [.r, .r, .l, .r]) = .block 0 (.loop (.seq (.region 4 #[oT] false) (.seq (.cond (.tmp 14) .skip (.exit 0)) (.seq (.block 1 (.seq (cr [.r, .r, .l, .r, .i, .i, .r, .r, .l, .i, .l]) (cr [.r, .r, .l, .r, .i, .i, .r, .r, .l, .i, .r]))) (.region 8 #[oI.headD default, (oI.drop 1).headD default] false))))) := by kernel_rfl
theorem step (cx : Cx) (hcx : cx.esc = []) (hro : ∀ k, cx.ro = some k → k ≤ cx.h) (σ0 : AS) (X Y : AV) (LA LB : List ByteArray) (hX : Rd Try.prog σ0 33 9 X (LA.map AV.str)) (hY : Rd Try.prog σ0 33 9 Y (LB.map AV.str)) (hn : LA.length = LB.length) :
    ∀ k env σ, k < LB.length → env.length = 26 → Env.get env 13 = .int .i64 (k : Int) → Env.get env 12 = .int .i64 ((LB.length : Nat) : Int) → J cx.h σ0 X Y LA LB k env σ → ∃ e env' σ', execW Try.prog cx [] (callW Try.prog how) (.block 1 (.seq (cr [.r, .r, .l, .r, .i, .i, .r, .r, .l, .i, .l]) (cr [.r, .r, .l, .r, .i, .i, .r, .r, .l, .i, .r]))) (env, σ) = some (e, (env', σ')) ∧
      ((e = .normal ∧ env'.length = 26 ∧ Env.get env' 13 = .int .i64 (k : Int) ∧ Env.get env' 12 = .int .i64 ((LB.length : Nat) : Int) ∧ J cx.h σ0 X Y LA LB (k + 1) env' σ') ∨ (e ≠ .normal ∧ Ex cx.h σ0 X Y LA LB e env' σ')) := by
  rintro k env σ hk hlen f13 f12 ⟨f0, f1, q0, rfl⟩
  have hka : k < LA.length := by omega
  have hkb : k < LB.length := by omega
  obtain ⟨p, hia, hpa⟩ := hX.2 k (AV.str LA[k]) (by rw [List.getElem?_map, List.getElem?_eq_getElem hka]; rfl)
  obtain ⟨q, hib, hpb⟩ := hY.2 k (AV.str LB[k]) (by rw [List.getElem?_map, List.getElem?_eq_getElem hkb]; rfl)
  obtain ⟨env1, x1a, x1b, x1c, x1d⟩ := rE cx env σ k hlen hcx f13  
  have f0 := (x1d 0 (by decide)).trans f0
  have f1 := (x1d 1 (by decide)).trans f1
  have f12 := (x1d 12 (by decide)).trans f12
  have f13 := (x1d 13 (by decide)).trans f13
  have f5 := x1c
  have hq := beqS_dec LA[k] LB[k]
  by_cases he : LA[k] = LB[k]
  · rw [decide_eq_true he] at hq
    obtain ⟨env2, x2a, x2b, x2c, x2d⟩ := rS cx env1 σ X Y p q k _ _ x1b hcx f0 f1 f5 hia hpa hib hpb hq 
    have f0 := (x2d 0 (by decide)).trans f0
    have f1 := (x2d 1 (by decide)).trans f1
    have f5 := (x2d 5 (by decide)).trans f5
    have f12 := (x2d 12 (by decide)).trans f12
    have f13 := (x2d 13 (by decide)).trans f13
    exact ⟨.normal, env2, _, (execW_block_of (execW_seq_of x1a x2a)), .inl ⟨rfl, x2b, f13, f12, f0, f1, (take_eq_succ hka hkb q0 he), rfl⟩⟩
  · rw [decide_eq_false he] at hq
    obtain ⟨env2, x2a, x2b, x2c, x2d⟩ := rF cx env1 σ X Y p q k _ _ x1b hcx f0 f1 f5 hia hpa hib hpb hq 
    have f0 := (x2d 0 (by decide)).trans f0
    have f1 := (x2d 1 (by decide)).trans f1
    have f5 := (x2d 5 (by decide)).trans f5
    have f12 := (x2d 12 (by decide)).trans f12
    have f13 := (x2d 13 (by decide)).trans f13
    have f4 := x2c
    exact ⟨.ret, env2, _, (block_exit (execW_seq_of x1a x2a) (by simp)), .inr ⟨by simp, rfl, f4, rfl, (by rintro rfl; exact he rfl), x2b⟩⟩
theorem loop (cx : Cx) (hcx : cx.esc = []) (hro : ∀ k, cx.ro = some k → k ≤ cx.h) (σ0 : AS) (X Y : AV) (LA LB : List ByteArray) (hX : Rd Try.prog σ0 33 9 X (LA.map AV.str)) (hY : Rd Try.prog σ0 33 9 Y (LB.map AV.str)) (hn : LA.length = LB.length) (hnn : LB.length ≤ 9223372036854775807) {env : Env} {σ : AS} (hl : env.length = 26) (h1 : Env.get env 13 = .int .i64 0) (h2 : Env.get env 12 = .int .i64 ((LB.length : Nat) : Int)) (h0 : J cx.h σ0 X Y LA LB 0 env σ) :
    ∃ e env' σ', execW Try.prog cx [] (callW Try.prog how) (cr [.r, .r, .l, .r]) (env, σ) = some (e, (env', σ')) ∧ ((e = .normal ∧ ((env'.length = 26 ∧ J cx.h σ0 X Y LA LB (LB.length) env' σ') ∨ Ex cx.h σ0 X Y LA LB (.exit 0) env' σ')) ∨ (e ≠ .normal ∧ e ≠ .exit 0 ∧ Ex cx.h σ0 X Y LA LB e env' σ')) := by
  rw [loop_eq]
  exact range_std (Ex := Ex cx.h σ0 X Y LA LB) (N := 26) (tc := 14) (ti := 13) (tl := 12) (tx := 25) (ty1 := 3) (ty2 := 3) (ty3 := 3) (ty4 := 3) ⟨by kernel_rfl, by kernel_rfl, by kernel_rfl⟩ ⟨by kernel_rfl, by kernel_rfl, by kernel_rfl⟩ ⟨by kernel_rfl, by kernel_rfl, by kernel_rfl⟩ (by decide) hnn J_stable (step cx hcx hro σ0 X Y LA LB hX hY hn) hl h1 h2 h0
theorem ok (hp s : List AObj) (ro : Option Nat) (X Y : AV) (LA LB : List ByteArray) (hro' : ∀ k, ro = some k → k ≤ s.length) (hX : Rd Try.prog ⟨hp, s⟩ 33 9 X (LA.map AV.str)) (hY : Rd Try.prog ⟨hp, s⟩ 33 9 Y (LB.map AV.str)) (hs : LA.length ≤ 9223372036854775807 ∧ LB.length ≤ 9223372036854775807) :
    callW Try.prog how 11 [X, Y] ⟨hp, s⟩ ro = some (.bool (decide (LA = LB)), ⟨hp, s⟩) := by
  let cx : Cx := { h := s.length, ro := ro, esc := [] }
  have hcx : cx.esc = [] := rfl
  have hro : ∀ k, cx.ro = some k → k ≤ cx.h := hro'
  obtain ⟨env, henv⟩ : ∃ e, e = frameA Try.f11 [X, Y] := ⟨_, rfl⟩
  have hlen : env.length = 26 := by rw [henv]; rfl
  have f0 : Env.get env 0 = X := by rw [henv]; rfl
  have f1 : Env.get env 1 = Y := by rw [henv]; rfl
  have ho : Outside s.length (AS.mk hp s) (AS.mk hp s) := Outside.refl (Nat.le_refl _)
  have hla := hX.1
  have hlb := hY.1
  rw [List.length_map] at hla hlb
  obtain ⟨env1, x1a, x1b, x1c, x1d⟩ := rA cx env (AS.mk hp s)  hlen hcx   
  have f0 := (x1d 0 (by decide)).trans f0
  have f1 := (x1d 1 (by decide)).trans f1
  have f4 := x1c
  by_cases hn : LA.length = LB.length
  · skip
    obtain ⟨env2, x2a, x2b, x2c, x2d⟩ := rN cx env1 (AS.mk hp s) X Y LB.length x1b hcx f0 f1 (hn ▸ hla) hlb 
    have f0 := (x2d 0 (by decide)).trans f0
    have f1 := (x2d 1 (by decide)).trans f1
    have f4 := (x2d 4 (by decide)).trans f4
    obtain ⟨env3, x3a, x3b, x3c, x3d⟩ := rL cx env2 (AS.mk hp s) X Y LB.length x2b hcx f0 f1 hlb 
    have f0 := (x3d 0 (by decide)).trans f0
    have f1 := (x3d 1 (by decide)).trans f1
    have f4 := (x3d 4 (by decide)).trans f4
    have f12 := x3c.1
    have f13 := x3c.2
    obtain ⟨e4, env4, σ4, x4a, x4p⟩ := loop cx hcx hro ⟨hp, s⟩ X Y LA LB hX hY hn (by omega) (σ := AS.mk hp s) x3b f13 f12 (⟨f0, f1, rfl, rfl⟩)
    rcases x4p with ⟨rfl, ⟨x4b, f0, f1, q0, rfl⟩ | x4p⟩ | ⟨x4q, x4r, x4p⟩
    · skip
      have he : LA = LB := by rw [List.take_of_length_le (by omega), List.take_of_length_le (by omega)] at q0; exact q0
      rw [decide_eq_true he]
      obtain ⟨env5, x5a, x5b, x5c, x5d⟩ := rD cx env4 (AS.mk hp s)  x4b hcx   
      have f0 := (x5d 0 (by decide)).trans f0
      have f1 := (x5d 1 (by decide)).trans f1
      have f4 := x5c
      exact call_of (fl := {}) (fn := Try.f11) (c := bodyC) (env := env) (e := (.ret, (env5, AS.mk hp s))) rfl Try.func11 body henv (by unfold bodyC; exact (execW_seq_of x1a (execW_seq_of x2a (execW_seq_of (execW_seq_of x3a x4a) (execW_seq_of x5a (by rfl)))))) ((fin_tmp (k := 4) (.inl rfl) rfl rfl f4 (by simp [AV.back]) (by simp [AV.inb])).trans (congrArg (fun x => some (_, x)) (outside_st ho)))
    · cases x4p.1
    · obtain ⟨rfl, f4, rfl, q1, x4b⟩ := x4p
      rw [decide_eq_false q1]
      exact call_of (fl := {}) (fn := Try.f11) (c := bodyC) (env := env) (e := (.ret, (env4, AS.mk hp s))) rfl Try.func11 body henv (by unfold bodyC; exact (execW_seq_of x1a (execW_seq_of x2a (execW_seq_ret (execW_seq_of x3a x4a))))) ((fin_tmp (k := 4) (.inl rfl) rfl rfl f4 (by simp [AV.back]) (by simp [AV.inb])).trans (congrArg (fun x => some (_, x)) (outside_st ho)))
  · skip
    obtain ⟨env2, x2a, x2b, x2c, x2d⟩ := rX cx env1 (AS.mk hp s) X Y LA.length LB.length x1b hcx f0 f1 hla hlb hn (by omega) 
    have f0 := (x2d 0 (by decide)).trans f0
    have f1 := (x2d 1 (by decide)).trans f1
    have f4 := x2c
    rw [decide_eq_false (by rintro rfl; exact hn rfl)]
    exact call_of (fl := {}) (fn := Try.f11) (c := bodyC) (env := env) (e := (.ret, (env2, AS.mk hp s))) rfl Try.func11 body henv (by unfold bodyC; exact (execW_seq_of x1a (execW_seq_ret x2a))) ((fin_tmp (k := 4) (.inl rfl) rfl rfl f4 (by simp [AV.back]) (by simp [AV.inb])).trans (congrArg (fun x => some (_, x)) (outside_st ho)))
end F11

namespace F66
noncomputable def cr (p : List Dir) : Code := sub p (bodyOf Try.f66)

section
attribute [local simp] ofV ofCell ofCells seqA_nil seqA_cons seqVK_eq seqEK_eq wantedA yieldedA isVal effA ev evs evps putE optsA optsOk valA fieldAddrA fieldA loadA partA aggA isAggD buildA placesA fillA lay storeA AV.withCells buildSliceA elemsA rowParts fzL promL okE isSrc bytesOk pushA cxOf lenA binA intBinA strBinA unA indexAddrA eqA AVs.inb AV.inb Loc.inb calleeA opsOf sub bodyOf Env.get_set quietA_nil quietA_cons quietK_none quietK_some qstep newA isNew escNew boxOk newLoc flat rowPartsQ quietN quietOp isBS List.takeWhile finishA_eq finK_ret finK_normal retK backK resA oneA AV.back AVs.back execW_seq_eq seqK_normal seqK_ret seqK_exit execW_cond_eq condK_true condK_false execW_block_eq blockK_exit blockK_normal blockK_ret execW_region_eq regK_eq execW_skip execW_exit execW_ret regionA_plain regionA_quiet0 tailK_eq nilCheckA guardOk isConst lookupA keyFits mapUpdateA beqI bneI
theorem rA (cx : Cx) (env : Env) (σ : AS)  (hlen : env.length = 26) (hcx : cx.esc = [])  :
    Pc Try.prog how cx [] 26 [4] (cr [.l]) env σ (.normal) (σ) (fun env' => Env.get env' 4 = .bool false) := by
  refine pc_of fun res hr => ?_
  simp -implicitDefEqProofs [-lenA, -indexAddrA, -loadA, AS.get_push_at, AS.get_push_old, AS.push_len, AS.set_st_len, AS.next_st', AS.set_push_at, AS.get_set_self, AS.get_set_other, cr, Try.f66, hlen, hcx] at hr
  subst hr
  refine ⟨_, rfl, by simp [hlen], by simp [Env.get_set, hlen], fun i hi => ?_⟩
  simp only [List.mem_cons, List.not_mem_nil, or_false, not_or] at hi
  simp only [get_set2, hi, false_and, if_false]

theorem rN (cx : Cx) (env : Env) (σ : AS) (X Y : AV) (n : Nat) (hlen : env.length = 26) (hcx : cx.esc = []) (f0 : Env.get env 0 = X) (f1 : Env.get env 1 = Y) (hla : lenA Try.prog σ 72 X = some n) (hlb : lenA Try.prog σ 72 Y = some n) :
    Pc Try.prog how cx [] 26 [6, 7, 8, 9, 10] (cr [.r, .l]) env σ (.normal) (σ) (fun _ => True) := by
  refine pc_of fun res hr => ?_
  simp -implicitDefEqProofs [-lenA, -indexAddrA, -loadA, AS.get_push_at, AS.get_push_old, AS.push_len, AS.set_st_len, AS.next_st', AS.set_push_at, AS.get_set_self, AS.get_set_other, cr, Try.f66, hlen, hcx, f0, f1, hla, hlb] at hr
  subst hr
  refine ⟨_, rfl, by simp [hlen], by simp [Env.get_set, hlen, f0, f1, hla, hlb], fun i hi => ?_⟩
  simp only [List.mem_cons, List.not_mem_nil, or_false, not_or] at hi
  simp only [get_set2, hi, false_and, if_false]

theorem rX (cx : Cx) (env : Env) (σ : AS) (X Y : AV) (n m : Nat) (hlen : env.length = 26) (hcx : cx.esc = []) (f0 : Env.get env 0 = X) (f1 : Env.get env 1 = Y) (hla : lenA Try.prog σ 72 X = some n) (hlb : lenA Try.prog σ 72 Y = some m) (hne : ¬ n = m) (hne2 : ¬ (n : Int) = (m : Int)) :
    Pc Try.prog how cx [] 26 [4, 6, 7, 8, 9, 10] (cr [.r, .l]) env σ (.ret) (σ) (fun env' => Env.get env' 4 = .bool false) := by
  refine pc_of fun res hr => ?_
  simp -implicitDefEqProofs [-lenA, -indexAddrA, -loadA, AS.get_push_at, AS.get_push_old, AS.push_len, AS.set_st_len, AS.next_st', AS.set_push_at, AS.get_set_self, AS.get_set_other, cr, Try.f66, hlen, hcx, f0, f1, hla, hlb, hne, hne2] at hr
  subst hr
  refine ⟨_, rfl, by simp [hlen], by simp [Env.get_set, hlen, f0, f1, hla, hlb, hne, hne2], fun i hi => ?_⟩
  simp only [List.mem_cons, List.not_mem_nil, or_false, not_or] at hi
  simp only [get_set2, hi, false_and, if_false]

theorem rL (cx : Cx) (env : Env) (σ : AS) (X Y : AV) (n : Nat) (hlen : env.length = 26) (hcx : cx.esc = []) (f0 : Env.get env 0 = X) (f1 : Env.get env 1 = Y) (hla : lenA Try.prog σ 72 X = some n) :
    Pc Try.prog how cx [] 26 [11, 12, 13] (cr [.r, .r, .l, .l]) env σ (.normal) (σ) (fun env' => Env.get env' 12 = .int .i64 (n : Int) ∧ Env.get env' 13 = .int .i64 0) := by
  refine pc_of fun res hr => ?_
  simp -implicitDefEqProofs [-lenA, -indexAddrA, -loadA, AS.get_push_at, AS.get_push_old, AS.push_len, AS.set_st_len, AS.next_st', AS.set_push_at, AS.get_set_self, AS.get_set_other, cr, Try.f66, hlen, hcx, f0, f1, hla] at hr
  subst hr
  refine ⟨_, rfl, by simp [hlen], by simp [Env.get_set, hlen, f0, f1, hla], fun i hi => ?_⟩
  simp only [List.mem_cons, List.not_mem_nil, or_false, not_or] at hi
  simp only [get_set2, hi, false_and, if_false]

theorem rE (cx : Cx) (env : Env) (σ : AS) (k : Nat) (hlen : env.length = 26) (hcx : cx.esc = []) (f13 : Env.get env 13 = .int .i64 (k : Int)) :
    Pc Try.prog how cx [] 26 [5, 15] (cr [.r, .r, .l, .r, .i, .i, .r, .r, .l, .i, .l]) env σ (.normal) (σ) (fun env' => Env.get env' 5 = .int .i64 (k : Int)) := by
  refine pc_of fun res hr => ?_
  simp -implicitDefEqProofs [-lenA, -indexAddrA, -loadA, AS.get_push_at, AS.get_push_old, AS.push_len, AS.set_st_len, AS.next_st', AS.set_push_at, AS.get_set_self, AS.get_set_other, cr, Try.f66, hlen, hcx, f13] at hr
  subst hr
  refine ⟨_, rfl, by simp [hlen], by simp [Env.get_set, hlen, f13], fun i hi => ?_⟩
  simp only [List.mem_cons, List.not_mem_nil, or_false, not_or] at hi
  simp only [get_set2, hi, false_and, if_false]

theorem rS (cx : Cx) (env : Env) (σ : AS) (X Y : AV) (p q : AV) (k : Nat) (x y : Vn) (hlen : env.length = 26) (hcx : cx.esc = []) (f0 : Env.get env 0 = X) (f1 : Env.get env 1 = Y) (f5 : Env.get env 5 = .int .i64 (k : Int)) (hia : indexAddrA Try.prog σ 72 X (.int .i64 (k : Int)) = some p) (hpa : loadA Try.prog σ 46 p = some (.agg [.int .i64 x.a, .int .u64 x.n, .str x.v, .bool x.g])) (hib : indexAddrA Try.prog σ 72 Y (.int .i64 (k : Int)) = some q) (hpb : loadA Try.prog σ 46 q = some (.agg [.int .i64 y.a, .int .u64 y.n, .str y.v, .bool y.g])) (hq : eqA Try.prog 40 46 (.agg [.int .i64 x.a, .int .u64 x.n, .str x.v, .bool x.g]) (.agg [.int .i64 y.a, .int .u64 y.n, .str y.v, .bool y.g]) = some true) :
    Pc Try.prog how cx [] 26 [16, 17, 18, 19, 20, 21, 22, 23, 24] (cr [.r, .r, .l, .r, .i, .i, .r, .r, .l, .i, .r]) env σ (.normal) (σ) (fun _ => True) := by
  refine pc_of fun res hr => ?_
  simp -implicitDefEqProofs [-eqA, -lenA, -indexAddrA, -loadA, AS.get_push_at, AS.get_push_old, AS.push_len, AS.set_st_len, AS.next_st', AS.set_push_at, AS.get_set_self, AS.get_set_other, cr, Try.f66, hlen, hcx, f0, f1, f5, hia, hpa, hib, hpb, hq, gd46] at hr
  subst hr
  refine ⟨_, rfl, by simp [hlen], by simp [Env.get_set, hlen, f0, f1, f5, hia, hpa, hib, hpb, hq, gd46], fun i hi => ?_⟩
  simp only [List.mem_cons, List.not_mem_nil, or_false, not_or] at hi
  simp only [get_set2, hi, false_and, if_false]

theorem rF (cx : Cx) (env : Env) (σ : AS) (X Y : AV) (p q : AV) (k : Nat) (x y : Vn) (hlen : env.length = 26) (hcx : cx.esc = []) (f0 : Env.get env 0 = X) (f1 : Env.get env 1 = Y) (f5 : Env.get env 5 = .int .i64 (k : Int)) (hia : indexAddrA Try.prog σ 72 X (.int .i64 (k : Int)) = some p) (hpa : loadA Try.prog σ 46 p = some (.agg [.int .i64 x.a, .int .u64 x.n, .str x.v, .bool x.g])) (hib : indexAddrA Try.prog σ 72 Y (.int .i64 (k : Int)) = some q) (hpb : loadA Try.prog σ 46 q = some (.agg [.int .i64 y.a, .int .u64 y.n, .str y.v, .bool y.g])) (hq : eqA Try.prog 40 46 (.agg [.int .i64 x.a, .int .u64 x.n, .str x.v, .bool x.g]) (.agg [.int .i64 y.a, .int .u64 y.n, .str y.v, .bool y.g]) = some false) :
    Pc Try.prog how cx [] 26 [4, 16, 17, 18, 19, 20, 21, 22, 23, 24] (cr [.r, .r, .l, .r, .i, .i, .r, .r, .l, .i, .r]) env σ (.ret) (σ) (fun env' => Env.get env' 4 = .bool false) := by
  refine pc_of fun res hr => ?_
  simp -implicitDefEqProofs [-eqA, -lenA, -indexAddrA, -loadA, AS.get_push_at, AS.get_push_old, AS.push_len, AS.set_st_len, AS.next_st', AS.set_push_at, AS.get_set_self, AS.get_set_other, cr, Try.f66, hlen, hcx, f0, f1, f5, hia, hpa, hib, hpb, hq, gd46] at hr
  subst hr
  refine ⟨_, rfl, by simp [hlen], by simp [Env.get_set, hlen, f0, f1, f5, hia, hpa, hib, hpb, hq, gd46], fun i hi => ?_⟩
  simp only [List.mem_cons, List.not_mem_nil, or_false, not_or] at hi
  simp only [get_set2, hi, false_and, if_false]

theorem rD (cx : Cx) (env : Env) (σ : AS)  (hlen : env.length = 26) (hcx : cx.esc = [])  :
    Pc Try.prog how cx [] 26 [4] (cr [.r, .r, .r, .l]) env σ (.normal) (σ) (fun env' => Env.get env' 4 = .bool true) := by
  refine pc_of fun res hr => ?_
  simp -implicitDefEqProofs [-lenA, -indexAddrA, -loadA, AS.get_push_at, AS.get_push_old, AS.push_len, AS.set_st_len, AS.next_st', AS.set_push_at, AS.get_set_self, AS.get_set_other, cr, Try.f66, hlen, hcx] at hr
  subst hr
  refine ⟨_, rfl, by simp [hlen], by simp [Env.get_set, hlen], fun i hi => ?_⟩
  simp only [List.mem_cons, List.not_mem_nil, or_false, not_or] at hi
  simp only [get_set2, hi, false_and, if_false]

end
noncomputable def bodyC : Code := (.seq (cr [.l]) (.seq (cr [.r, .l]) (.seq (.seq (cr [.r, .r, .l, .l]) (cr [.r, .r, .l, .r])) (.seq (cr [.r, .r, .r, .l]) .ret))))
theorem body : Try.f66.body = some bodyC := by kernel_rfl
/-- What holds ahead of round k. -/
def J (h : Nat) (σ0 : AS) (X Y : AV) (LA LB : List Vn) (k : Nat) (env : Env) (σ : AS) : Prop :=
  Env.get env 0 = X ∧ Env.get env 1 = Y ∧ (LA.take k = LB.take k) ∧ σ = σ0
def Ex (h : Nat) (σ0 : AS) (X Y : AV) (LA LB : List Vn) (e : AExit) (env : Env) (σ : AS) : Prop := e = .ret ∧ Env.get env 4 = .bool false ∧ σ = σ0 ∧ LA ≠ LB ∧ env.length = 26
theorem J_stable {h : Nat} {σ0 : AS} {X Y : AV} {LA LB : List Vn} : ∀ k env env' σ, env.length = 26 → env'.length = 26 → (∀ i, i ≠ 14 → i ≠ 25 → i ≠ 13 → Env.get env' i = Env.get env i) → J h σ0 X Y LA LB k env σ → J h σ0 X Y LA LB k env' σ := by
  rintro k env env' σ _ _ hf ⟨j0, j1, q0, ho⟩
  exact ⟨(hf 0 (by decide) (by decide) (by decide)).trans j0, (hf 1 (by decide) (by decide) (by decide)).trans j1, q0, ho⟩
noncomputable def oT : Oper := (opsOf (cr [.r, .r, .l, .r, .i, .i, .l])).headD default
noncomputable def oI : List Oper := opsOf (cr [.r, .r, .l, .r, .i, .i, .r, .r, .r])
theorem loop_eq : (cr [.r, .r, .l, .r]) = .block 0 (.loop (.seq (.region 4 #[oT] false) (.seq (.cond (.tmp 14) .skip (.exit 0)) (.seq (.block 1 (.seq (cr [.r, .r, .l, .r, .i, .i, .r, .r, .l, .i, .l]) (cr [.r, .r, .l, .r, .i, .i, .r, .r, .l, .i, .r]))) (.region 8 #[oI.headD default, (oI.drop 1).headD default] false))))) := by kernel_rfl
theorem step (cx : Cx) (hcx : cx.esc = []) (hro : ∀ k, cx.ro = some k → k ≤ cx.h) (σ0 : AS) (X Y : AV) (LA LB : List Vn) (hX : Rd Try.prog σ0 72 46 X (LA.map encVn)) (hY : Rd Try.prog σ0 72 46 Y (LB.map encVn)) (hn : LA.length = LB.length) :
    ∀ k env σ, k < LA.length → env.length = 26 → Env.get env 13 = .int .i64 (k : Int) → Env.get env 12 = .int .i64 ((LA.length : Nat) : Int) → J cx.h σ0 X Y LA LB k env σ → ∃ e env' σ', execW Try.prog cx [] (callW Try.prog how) (.block 1 (.seq (cr [.r, .r, .l, .r, .i, .i, .r, .r, .l, .i, .l]) (cr [.r, .r, .l, .r, .i, .i, .r, .r, .l, .i, .r]))) (env, σ) = some (e, (env', σ')) ∧
      ((e = .normal ∧ env'.length = 26 ∧ Env.get env' 13 = .int .i64 (k : Int) ∧ Env.get env' 12 = .int .i64 ((LA.length : Nat) : Int) ∧ J cx.h σ0 X Y LA LB (k + 1) env' σ') ∨ (e ≠ .normal ∧ Ex cx.h σ0 X Y LA LB e env' σ')) := by
  rintro k env σ hk hlen f13 f12 ⟨f0, f1, q0, rfl⟩
  have hka : k < LA.length := by omega
  have hkb : k < LB.length := by omega
  obtain ⟨p, hia, hpa⟩ := hX.2 k (encVn LA[k]) (by rw [List.getElem?_map, List.getElem?_eq_getElem hka]; rfl)
  obtain ⟨q, hib, hpb⟩ := hY.2 k (encVn LB[k]) (by rw [List.getElem?_map, List.getElem?_eq_getElem hkb]; rfl)
  obtain ⟨env1, x1a, x1b, x1c, x1d⟩ := rE cx env σ k hlen hcx f13  
  have f0 := (x1d 0 (by decide)).trans f0
  have f1 := (x1d 1 (by decide)).trans f1
  have f12 := (x1d 12 (by decide)).trans f12
  have f13 := (x1d 13 (by decide)).trans f13
  have f5 := x1c
  have hq := eqVn 46 38 LA[k] LB[k] (by decide)
  by_cases he : LA[k] = LB[k]
  · rw [decide_eq_true he] at hq
    obtain ⟨env2, x2a, x2b, x2c, x2d⟩ := rS cx env1 σ X Y p q k _ _ x1b hcx f0 f1 f5 hia hpa hib hpb hq 
    have f0 := (x2d 0 (by decide)).trans f0
    have f1 := (x2d 1 (by decide)).trans f1
    have f5 := (x2d 5 (by decide)).trans f5
    have f12 := (x2d 12 (by decide)).trans f12
    have f13 := (x2d 13 (by decide)).trans f13
    exact ⟨.normal, env2, _, (execW_block_of (execW_seq_of x1a x2a)), .inl ⟨rfl, x2b, f13, f12, f0, f1, (take_eq_succ hka hkb q0 he), rfl⟩⟩
  · rw [decide_eq_false he] at hq
    obtain ⟨env2, x2a, x2b, x2c, x2d⟩ := rF cx env1 σ X Y p q k _ _ x1b hcx f0 f1 f5 hia hpa hib hpb hq 
    have f0 := (x2d 0 (by decide)).trans f0
    have f1 := (x2d 1 (by decide)).trans f1
    have f5 := (x2d 5 (by decide)).trans f5
    have f12 := (x2d 12 (by decide)).trans f12
    have f13 := (x2d 13 (by decide)).trans f13
    have f4 := x2c
    exact ⟨.ret, env2, _, (block_exit (execW_seq_of x1a x2a) (by simp)), .inr ⟨by simp, rfl, f4, rfl, (by rintro rfl; exact he rfl), x2b⟩⟩
theorem loop (cx : Cx) (hcx : cx.esc = []) (hro : ∀ k, cx.ro = some k → k ≤ cx.h) (σ0 : AS) (X Y : AV) (LA LB : List Vn) (hX : Rd Try.prog σ0 72 46 X (LA.map encVn)) (hY : Rd Try.prog σ0 72 46 Y (LB.map encVn)) (hn : LA.length = LB.length) (hnn : LA.length ≤ 9223372036854775807) {env : Env} {σ : AS} (hl : env.length = 26) (h1 : Env.get env 13 = .int .i64 0) (h2 : Env.get env 12 = .int .i64 ((LA.length : Nat) : Int)) (h0 : J cx.h σ0 X Y LA LB 0 env σ) :
    ∃ e env' σ', execW Try.prog cx [] (callW Try.prog how) (cr [.r, .r, .l, .r]) (env, σ) = some (e, (env', σ')) ∧ ((e = .normal ∧ ((env'.length = 26 ∧ J cx.h σ0 X Y LA LB (LA.length) env' σ') ∨ Ex cx.h σ0 X Y LA LB (.exit 0) env' σ')) ∨ (e ≠ .normal ∧ e ≠ .exit 0 ∧ Ex cx.h σ0 X Y LA LB e env' σ')) := by
  rw [loop_eq]
  exact range_std (Ex := Ex cx.h σ0 X Y LA LB) (N := 26) (tc := 14) (ti := 13) (tl := 12) (tx := 25) (ty1 := 3) (ty2 := 3) (ty3 := 3) (ty4 := 3) ⟨by kernel_rfl, by kernel_rfl, by kernel_rfl⟩ ⟨by kernel_rfl, by kernel_rfl, by kernel_rfl⟩ ⟨by kernel_rfl, by kernel_rfl, by kernel_rfl⟩ (by decide) hnn J_stable (step cx hcx hro σ0 X Y LA LB hX hY hn) hl h1 h2 h0
theorem ok (hp s : List AObj) (ro : Option Nat) (X Y : AV) (LA LB : List Vn) (hro' : ∀ k, ro = some k → k ≤ s.length) (hX : Rd Try.prog ⟨hp, s⟩ 72 46 X (LA.map encVn)) (hY : Rd Try.prog ⟨hp, s⟩ 72 46 Y (LB.map encVn)) (hs : LA.length ≤ 9223372036854775807 ∧ LB.length ≤ 9223372036854775807) :
    callW Try.prog how 66 [X, Y] ⟨hp, s⟩ ro = some (.bool (decide (LA = LB)), ⟨hp, s⟩) := by
  let cx : Cx := { h := s.length, ro := ro, esc := [] }
  have hcx : cx.esc = [] := rfl
  have hro : ∀ k, cx.ro = some k → k ≤ cx.h := hro'
  obtain ⟨env, henv⟩ : ∃ e, e = frameA Try.f66 [X, Y] := ⟨_, rfl⟩
  have hlen : env.length = 26 := by rw [henv]; rfl
  have f0 : Env.get env 0 = X := by rw [henv]; rfl
  have f1 : Env.get env 1 = Y := by rw [henv]; rfl
  have ho : Outside s.length (AS.mk hp s) (AS.mk hp s) := Outside.refl (Nat.le_refl _)
  have hla := hX.1
  have hlb := hY.1
  rw [List.length_map] at hla hlb
  obtain ⟨env1, x1a, x1b, x1c, x1d⟩ := rA cx env (AS.mk hp s)  hlen hcx   
  have f0 := (x1d 0 (by decide)).trans f0
  have f1 := (x1d 1 (by decide)).trans f1
  have f4 := x1c
  by_cases hn : LA.length = LB.length
  · skip
    obtain ⟨env2, x2a, x2b, x2c, x2d⟩ := rN cx env1 (AS.mk hp s) X Y LA.length x1b hcx f0 f1 hla (hn ▸ hlb) 
    have f0 := (x2d 0 (by decide)).trans f0
    have f1 := (x2d 1 (by decide)).trans f1
    have f4 := (x2d 4 (by decide)).trans f4
    obtain ⟨env3, x3a, x3b, x3c, x3d⟩ := rL cx env2 (AS.mk hp s) X Y LA.length x2b hcx f0 f1 hla 
    have f0 := (x3d 0 (by decide)).trans f0
    have f1 := (x3d 1 (by decide)).trans f1
    have f4 := (x3d 4 (by decide)).trans f4
    have f12 := x3c.1
    have f13 := x3c.2
    obtain ⟨e4, env4, σ4, x4a, x4p⟩ := loop cx hcx hro ⟨hp, s⟩ X Y LA LB hX hY hn (by omega) (σ := AS.mk hp s) x3b f13 f12 (⟨f0, f1, rfl, rfl⟩)
    rcases x4p with ⟨rfl, ⟨x4b, f0, f1, q0, rfl⟩ | x4p⟩ | ⟨x4q, x4r, x4p⟩
    · skip
      have he : LA = LB := by rw [List.take_of_length_le (by omega), List.take_of_length_le (by omega)] at q0; exact q0
      rw [decide_eq_true he]
      obtain ⟨env5, x5a, x5b, x5c, x5d⟩ := rD cx env4 (AS.mk hp s)  x4b hcx   
      have f0 := (x5d 0 (by decide)).trans f0
      have f1 := (x5d 1 (by decide)).trans f1
      have f4 := x5c
      exact call_of (fl := {}) (fn := Try.f66) (c := bodyC) (env := env) (e := (.ret, (env5, AS.mk hp s))) rfl Try.func66 body henv (by unfold bodyC; exact (execW_seq_of x1a (execW_seq_of x2a (execW_seq_of (execW_seq_of x3a x4a) (execW_seq_of x5a (by rfl)))))) ((fin_tmp (k := 4) (.inl rfl) rfl rfl f4 (by simp [AV.back]) (by simp [AV.inb])).trans (congrArg (fun x => some (_, x)) (outside_st ho)))
    · cases x4p.1
    · obtain ⟨rfl, f4, rfl, q1, x4b⟩ := x4p
      rw [decide_eq_false q1]
      exact call_of (fl := {}) (fn := Try.f66) (c := bodyC) (env := env) (e := (.ret, (env4, AS.mk hp s))) rfl Try.func66 body henv (by unfold bodyC; exact (execW_seq_of x1a (execW_seq_of x2a (execW_seq_ret (execW_seq_of x3a x4a))))) ((fin_tmp (k := 4) (.inl rfl) rfl rfl f4 (by simp [AV.back]) (by simp [AV.inb])).trans (congrArg (fun x => some (_, x)) (outside_st ho)))
  · skip
    obtain ⟨env2, x2a, x2b, x2c, x2d⟩ := rX cx env1 (AS.mk hp s) X Y LA.length LB.length x1b hcx f0 f1 hla hlb hn (by omega) 
    have f0 := (x2d 0 (by decide)).trans f0
    have f1 := (x2d 1 (by decide)).trans f1
    have f4 := x2c
    rw [decide_eq_false (by rintro rfl; exact hn rfl)]
    exact call_of (fl := {}) (fn := Try.f66) (c := bodyC) (env := env) (e := (.ret, (env2, AS.mk hp s))) rfl Try.func66 body henv (by unfold bodyC; exact (execW_seq_of x1a (execW_seq_ret x2a))) ((fin_tmp (k := 4) (.inl rfl) rfl rfl f4 (by simp [AV.back]) (by simp [AV.inb])).trans (congrArg (fun x => some (_, x)) (outside_st ho)))
end F66

namespace F18
noncomputable def cr (p : List Dir) : Code := sub p (bodyOf Try.f18)

section
attribute [local simp] ofV ofCell ofCells seqA_nil seqA_cons seqVK_eq seqEK_eq wantedA yieldedA isVal effA ev evs evps putE optsA optsOk valA fieldAddrA fieldA loadA partA aggA isAggD buildA placesA fillA lay storeA AV.withCells buildSliceA elemsA rowParts fzL promL okE isSrc bytesOk pushA cxOf lenA binA intBinA strBinA unA indexAddrA eqA AVs.inb AV.inb Loc.inb calleeA opsOf sub bodyOf Env.get_set quietA_nil quietA_cons quietK_none quietK_some qstep newA isNew escNew boxOk newLoc flat rowPartsQ quietN quietOp isBS List.takeWhile finishA_eq finK_ret finK_normal retK backK resA oneA AV.back AVs.back execW_seq_eq seqK_normal seqK_ret seqK_exit execW_cond_eq condK_true condK_false execW_block_eq blockK_exit blockK_normal blockK_ret execW_region_eq regK_eq execW_skip execW_exit execW_ret regionA_plain regionA_quiet0 tailK_eq nilCheckA guardOk isConst lookupA keyFits mapUpdateA beqI bneI
theorem rA (cx : Cx) (env : Env) (σ : AS)  (hlen : env.length = 26) (hcx : cx.esc = [])  :
    Pc Try.prog how cx [] 26 [4] (cr [.l]) env σ (.normal) (σ) (fun env' => Env.get env' 4 = .bool false) := by
  refine pc_of fun res hr => ?_
  simp -implicitDefEqProofs [-lenA, -indexAddrA, -loadA, AS.get_push_at, AS.get_push_old, AS.push_len, AS.set_st_len, AS.next_st', AS.set_push_at, AS.get_set_self, AS.get_set_other, cr, Try.f18, hlen, hcx] at hr
  subst hr
  refine ⟨_, rfl, by simp [hlen], by simp [Env.get_set, hlen], fun i hi => ?_⟩
  simp only [List.mem_cons, List.not_mem_nil, or_false, not_or] at hi
  simp only [get_set2, hi, false_and, if_false]

theorem rN (cx : Cx) (env : Env) (σ : AS) (X Y : AV) (n : Nat) (hlen : env.length = 26) (hcx : cx.esc = []) (f0 : Env.get env 0 = X) (f1 : Env.get env 1 = Y) (hla : lenA Try.prog σ 34 X = some n) (hlb : lenA Try.prog σ 34 Y = some n) :
    Pc Try.prog how cx [] 26 [6, 7, 8, 9, 10] (cr [.r, .l]) env σ (.normal) (σ) (fun _ => True) := by
  refine pc_of fun res hr => ?_
  simp -implicitDefEqProofs [-lenA, -indexAddrA, -loadA, AS.get_push_at, AS.get_push_old, AS.push_len, AS.set_st_len, AS.next_st', AS.set_push_at, AS.get_set_self, AS.get_set_other, cr, Try.f18, hlen, hcx, f0, f1, hla, hlb] at hr
  subst hr
  refine ⟨_, rfl, by simp [hlen], by simp [Env.get_set, hlen, f0, f1, hla, hlb], fun i hi => ?_⟩
  simp only [List.mem_cons, List.not_mem_nil, or_false, not_or] at hi
  simp only [get_set2, hi, false_and, if_false]

theorem rX (cx : Cx) (env : Env) (σ : AS) (X Y : AV) (n m : Nat) (hlen : env.length = 26) (hcx : cx.esc = []) (f0 : Env.get env 0 = X) (f1 : Env.get env 1 = Y) (hla : lenA Try.prog σ 34 X = some n) (hlb : lenA Try.prog σ 34 Y = some m) (hne : ¬ n = m) (hne2 : ¬ (n : Int) = (m : Int)) :
    Pc Try.prog how cx [] 26 [4, 6, 7, 8, 9, 10] (cr [.r, .l]) env σ (.ret) (σ) (fun env' => Env.get env' 4 = .bool false) := by
  refine pc_of fun res hr => ?_
  simp -implicitDefEqProofs [-lenA, -indexAddrA, -loadA, AS.get_push_at, AS.get_push_old, AS.push_len, AS.set_st_len, AS.next_st', AS.set_push_at, AS.get_set_self, AS.get_set_other, cr, Try.f18, hlen, hcx, f0, f1, hla, hlb, hne, hne2] at hr
  subst hr
  refine ⟨_, rfl, by simp [hlen], by simp [Env.get_set, hlen, f0, f1, hla, hlb, hne, hne2], fun i hi => ?_⟩
  simp only [List.mem_cons, List.not_mem_nil, or_false, not_or] at hi
  simp only [get_set2, hi, false_and, if_false]

theorem rL (cx : Cx) (env : Env) (σ : AS) (X Y : AV) (n : Nat) (hlen : env.length = 26) (hcx : cx.esc = []) (f0 : Env.get env 0 = X) (f1 : Env.get env 1 = Y) (hla : lenA Try.prog σ 34 X = some n) :
    Pc Try.prog how cx [] 26 [11, 12, 13] (cr [.r, .r, .l, .l]) env σ (.normal) (σ) (fun env' => Env.get env' 12 = .int .i64 (n : Int) ∧ Env.get env' 13 = .int .i64 0) := by
  refine pc_of fun res hr => ?_
  simp -implicitDefEqProofs [-lenA, -indexAddrA, -loadA, AS.get_push_at, AS.get_push_old, AS.push_len, AS.set_st_len, AS.next_st', AS.set_push_at, AS.get_set_self, AS.get_set_other, cr, Try.f18, hlen, hcx, f0, f1, hla] at hr
  subst hr
  refine ⟨_, rfl, by simp [hlen], by simp [Env.get_set, hlen, f0, f1, hla], fun i hi => ?_⟩
  simp only [List.mem_cons, List.not_mem_nil, or_false, not_or] at hi
  simp only [get_set2, hi, false_and, if_false]

theorem rE (cx : Cx) (env : Env) (σ : AS) (k : Nat) (hlen : env.length = 26) (hcx : cx.esc = []) (f13 : Env.get env 13 = .int .i64 (k : Int)) :
    Pc Try.prog how cx [] 26 [5, 15] (cr [.r, .r, .l, .r, .i, .i, .r, .r, .l, .i, .l]) env σ (.normal) (σ) (fun env' => Env.get env' 5 = .int .i64 (k : Int)) := by
  refine pc_of fun res hr => ?_
  simp -implicitDefEqProofs [-lenA, -indexAddrA, -loadA, AS.get_push_at, AS.get_push_old, AS.push_len, AS.set_st_len, AS.next_st', AS.set_push_at, AS.get_set_self, AS.get_set_other, cr, Try.f18, hlen, hcx, f13] at hr
  subst hr
  refine ⟨_, rfl, by simp [hlen], by simp [Env.get_set, hlen, f13], fun i hi => ?_⟩
  simp only [List.mem_cons, List.not_mem_nil, or_false, not_or] at hi
  simp only [get_set2, hi, false_and, if_false]

theorem rS (cx : Cx) (env : Env) (σ : AS) (X Y : AV) (p q : AV) (k : Nat) (x y : Vn) (hlen : env.length = 26) (hcx : cx.esc = []) (f0 : Env.get env 0 = X) (f1 : Env.get env 1 = Y) (f5 : Env.get env 5 = .int .i64 (k : Int)) (hia : indexAddrA Try.prog σ 34 X (.int .i64 (k : Int)) = some p) (hpa : loadA Try.prog σ 40 p = some (.agg [.int .i64 x.a, .int .u64 x.n, .str x.v, .bool x.g])) (hib : indexAddrA Try.prog σ 34 Y (.int .i64 (k : Int)) = some q) (hpb : loadA Try.prog σ 40 q = some (.agg [.int .i64 y.a, .int .u64 y.n, .str y.v, .bool y.g])) (hq : eqA Try.prog 40 40 (.agg [.int .i64 x.a, .int .u64 x.n, .str x.v, .bool x.g]) (.agg [.int .i64 y.a, .int .u64 y.n, .str y.v, .bool y.g]) = some true) :
    Pc Try.prog how cx [] 26 [16, 17, 18, 19, 20, 21, 22, 23, 24] (cr [.r, .r, .l, .r, .i, .i, .r, .r, .l, .i, .r]) env σ (.normal) (σ) (fun _ => True) := by
  refine pc_of fun res hr => ?_
  simp -implicitDefEqProofs [-eqA, -lenA, -indexAddrA, -loadA, AS.get_push_at, AS.get_push_old, AS.push_len, AS.set_st_len, AS.next_st', AS.set_push_at, AS.get_set_self, AS.get_set_other, cr, Try.f18, hlen, hcx, f0, f1, f5, hia, hpa, hib, hpb, hq, gd40] at hr
  subst hr
  refine ⟨_, rfl, by simp [hlen], by simp [Env.get_set, hlen, f0, f1, f5, hia, hpa, hib, hpb, hq, gd40], fun i hi => ?_⟩
  simp only [List.mem_cons, List.not_mem_nil, or_false, not_or] at hi
  simp only [get_set2, hi, false_and, if_false]

theorem rF (cx : Cx) (env : Env) (σ : AS) (X Y : AV) (p q : AV) (k : Nat) (x y : Vn) (hlen : env.length = 26) (hcx : cx.esc = []) (f0 : Env.get env 0 = X) (f1 : Env.get env 1 = Y) (f5 : Env.get env 5 = .int .i64 (k : Int)) (hia : indexAddrA Try.prog σ 34 X (.int .i64 (k : Int)) = some p) (hpa : loadA Try.prog σ 40 p = some (.agg [.int .i64 x.a, .int .u64 x.n, .str x.v, .bool x.g])) (hib : indexAddrA Try.prog σ 34 Y (.int .i64 (k : Int)) = some q) (hpb : loadA Try.prog σ 40 q = some (.agg [.int .i64 y.a, .int .u64 y.n, .str y.v, .bool y.g])) (hq : eqA Try.prog 40 40 (.agg [.int .i64 x.a, .int .u64 x.n, .str x.v, .bool x.g]) (.agg [.int .i64 y.a, .int .u64 y.n, .str y.v, .bool y.g]) = some false) :
    Pc Try.prog how cx [] 26 [4, 16, 17, 18, 19, 20, 21, 22, 23, 24] (cr [.r, .r, .l, .r, .i, .i, .r, .r, .l, .i, .r]) env σ (.ret) (σ) (fun env' => Env.get env' 4 = .bool false) := by
  refine pc_of fun res hr => ?_
  simp -implicitDefEqProofs [-eqA, -lenA, -indexAddrA, -loadA, AS.get_push_at, AS.get_push_old, AS.push_len, AS.set_st_len, AS.next_st', AS.set_push_at, AS.get_set_self, AS.get_set_other, cr, Try.f18, hlen, hcx, f0, f1, f5, hia, hpa, hib, hpb, hq, gd40] at hr
  subst hr
  refine ⟨_, rfl, by simp [hlen], by simp [Env.get_set, hlen, f0, f1, f5, hia, hpa, hib, hpb, hq, gd40], fun i hi => ?_⟩
  simp only [List.mem_cons, List.not_mem_nil, or_false, not_or] at hi
  simp only [get_set2, hi, false_and, if_false]

theorem rD (cx : Cx) (env : Env) (σ : AS)  (hlen : env.length = 26) (hcx : cx.esc = [])  :
    Pc Try.prog how cx [] 26 [4] (cr [.r, .r, .r, .l]) env σ (.normal) (σ) (fun env' => Env.get env' 4 = .bool true) := by
  refine pc_of fun res hr => ?_
  simp -implicitDefEqProofs [-lenA, -indexAddrA, -loadA, AS.get_push_at, AS.get_push_old, AS.push_len, AS.set_st_len, AS.next_st', AS.set_push_at, AS.get_set_self, AS.get_set_other, cr, Try.f18, hlen, hcx] at hr
  subst hr
  refine ⟨_, rfl, by simp [hlen], by simp [Env.get_set, hlen], fun i hi => ?_⟩
  simp only [List.mem_cons, List.not_mem_nil, or_false, not_or] at hi
  simp only [get_set2, hi, false_and, if_false]

end
noncomputable def bodyC : Code := (.seq (cr [.l]) (.seq (cr [.r, .l]) (.seq (.seq (cr [.r, .r, .l, .l]) (cr [.r, .r, .l, .r])) (.seq (cr [.r, .r, .r, .l]) .ret))))
theorem body : Try.f18.body = some bodyC := by kernel_rfl
/-- What holds ahead of round k. -/
def J (h : Nat) (σ0 : AS) (X Y : AV) (LA LB : List Vn) (k : Nat) (env : Env) (σ : AS) : Prop :=
  Env.get env 0 = X ∧ Env.get env 1 = Y ∧ (LA.take k = LB.take k) ∧ σ = σ0
def Ex (h : Nat) (σ0 : AS) (X Y : AV) (LA LB : List Vn) (e : AExit) (env : Env) (σ : AS) : Prop := e = .ret ∧ Env.get env 4 = .bool false ∧ σ = σ0 ∧ LA ≠ LB ∧ env.length = 26
theorem J_stable {h : Nat} {σ0 : AS} {X Y : AV} {LA LB : List Vn} : ∀ k env env' σ, env.length = 26 → env'.length = 26 → (∀ i, i ≠ 14 → i ≠ 25 → i ≠ 13 → Env.get env' i = Env.get env i) → J h σ0 X Y LA LB k env σ → J h σ0 X Y LA LB k env' σ := by
  rintro k env env' σ _ _ hf ⟨j0, j1, q0, ho⟩
  exact ⟨(hf 0 (by decide) (by decide) (by decide)).trans j0, (hf 1 (by decide) (by decide) (by decide)).trans j1, q0, ho⟩
noncomputable def oT : Oper := (opsOf (cr [.r, .r, .l, .r, .i, .i, .l])).headD default
noncomputable def oI : List Oper := opsOf (cr [.r, .r, .l, .r, .i, .i, .r, .r, .r])
theorem loop_eq : (cr [.r, .r, .l, .r]) = .block 0 (.loop (.seq (.region 4 #[oT] false) (.seq (.cond (.tmp 14) .skip (.exit 0)) (.seq (.block 1 (.seq (cr [.r, .r, .l, .r, .i, .i, .r, .r, .l, .i, .l]) (cr [.r, .r, .l, .r, .i, .i, .r, .r, .l, .i, .r]))) (.region 8 #[oI.headD default, (oI.drop 1).headD default] false))))) := by kernel_rfl
theorem step (cx : Cx) (hcx : cx.esc = []) (hro : ∀ k, cx.ro = some k → k ≤ cx.h) (σ0 : AS) (X Y : AV) (LA LB : List Vn) (hX : Rd Try.prog σ0 34 40 X (LA.map encVn)) (hY : Rd Try.prog σ0 34 40 Y (LB.map encVn)) (hn : LA.length = LB.length) :
    ∀ k env σ, k < LA.length → env.length = 26 → Env.get env 13 = .int .i64 (k : Int) → Env.get env 12 = .int .i64 ((LA.length : Nat) : Int) → J cx.h σ0 X Y LA LB k env σ → ∃ e env' σ', execW Try.prog cx [] (callW Try.prog how) (.block 1 (.seq (cr [.r, .r, .l, .r, .i, .i, .r, .r, .l, .i, .l]) (cr [.r, .r, .l, .r, .i, .i, .r, .r, .l, .i, .r]))) (env, σ) = some (e, (env', σ')) ∧
      ((e = .normal ∧ env'.length = 26 ∧ Env.get env' 13 = .int .i64 (k : Int) ∧ Env.get env' 12 = .int .i64 ((LA.length : Nat) : Int) ∧ J cx.h σ0 X Y LA LB (k + 1) env' σ') ∨ (e ≠ .normal ∧ Ex cx.h σ0 X Y LA LB e env' σ')) := by
  rintro k env σ hk hlen f13 f12 ⟨f0, f1, q0, rfl⟩
  have hka : k < LA.length := by omega
  have hkb : k < LB.length := by omega
  obtain ⟨p, hia, hpa⟩ := hX.2 k (encVn LA[k]) (by rw [List.getElem?_map, List.getElem?_eq_getElem hka]; rfl)
  obtain ⟨q, hib, hpb⟩ := hY.2 k (encVn LB[k]) (by rw [List.getElem?_map, List.getElem?_eq_getElem hkb]; rfl)
  obtain ⟨env1, x1a, x1b, x1c, x1d⟩ := rE cx env σ k hlen hcx f13  
  have f0 := (x1d 0 (by decide)).trans f0
  have f1 := (x1d 1 (by decide)).trans f1
  have f12 := (x1d 12 (by decide)).trans f12
  have f13 := (x1d 13 (by decide)).trans f13
  have f5 := x1c
  have hq := eqVn 40 38 LA[k] LB[k] (by decide)
  by_cases he : LA[k] = LB[k]
  · rw [decide_eq_true he] at hq
    obtain ⟨env2, x2a, x2b, x2c, x2d⟩ := rS cx env1 σ X Y p q k _ _ x1b hcx f0 f1 f5 hia hpa hib hpb hq 
    have f0 := (x2d 0 (by decide)).trans f0
    have f1 := (x2d 1 (by decide)).trans f1
    have f5 := (x2d 5 (by decide)).trans f5
    have f12 := (x2d 12 (by decide)).trans f12
    have f13 := (x2d 13 (by decide)).trans f13
    exact ⟨.normal, env2, _, (execW_block_of (execW_seq_of x1a x2a)), .inl ⟨rfl, x2b, f13, f12, f0, f1, (take_eq_succ hka hkb q0 he), rfl⟩⟩
  · rw [decide_eq_false he] at hq
    obtain ⟨env2, x2a, x2b, x2c, x2d⟩ := rF cx env1 σ X Y p q k _ _ x1b hcx f0 f1 f5 hia hpa hib hpb hq 
    have f0 := (x2d 0 (by decide)).trans f0
    have f1 := (x2d 1 (by decide)).trans f1
    have f5 := (x2d 5 (by decide)).trans f5
    have f12 := (x2d 12 (by decide)).trans f12
    have f13 := (x2d 13 (by decide)).trans f13
    have f4 := x2c
    exact ⟨.ret, env2, _, (block_exit (execW_seq_of x1a x2a) (by simp)), .inr ⟨by simp, rfl, f4, rfl, (by rintro rfl; exact he rfl), x2b⟩⟩
theorem loop (cx : Cx) (hcx : cx.esc = []) (hro : ∀ k, cx.ro = some k → k ≤ cx.h) (σ0 : AS) (X Y : AV) (LA LB : List Vn) (hX : Rd Try.prog σ0 34 40 X (LA.map encVn)) (hY : Rd Try.prog σ0 34 40 Y (LB.map encVn)) (hn : LA.length = LB.length) (hnn : LA.length ≤ 9223372036854775807) {env : Env} {σ : AS} (hl : env.length = 26) (h1 : Env.get env 13 = .int .i64 0) (h2 : Env.get env 12 = .int .i64 ((LA.length : Nat) : Int)) (h0 : J cx.h σ0 X Y LA LB 0 env σ) :
    ∃ e env' σ', execW Try.prog cx [] (callW Try.prog how) (cr [.r, .r, .l, .r]) (env, σ) = some (e, (env', σ')) ∧ ((e = .normal ∧ ((env'.length = 26 ∧ J cx.h σ0 X Y LA LB (LA.length) env' σ') ∨ Ex cx.h σ0 X Y LA LB (.exit 0) env' σ')) ∨ (e ≠ .normal ∧ e ≠ .exit 0 ∧ Ex cx.h σ0 X Y LA LB e env' σ')) := by
  rw [loop_eq]
  exact range_std (Ex := Ex cx.h σ0 X Y LA LB) (N := 26) (tc := 14) (ti := 13) (tl := 12) (tx := 25) (ty1 := 3) (ty2 := 3) (ty3 := 3) (ty4 := 3) ⟨by kernel_rfl, by kernel_rfl, by kernel_rfl⟩ ⟨by kernel_rfl, by kernel_rfl, by kernel_rfl⟩ ⟨by kernel_rfl, by kernel_rfl, by kernel_rfl⟩ (by decide) hnn J_stable (step cx hcx hro σ0 X Y LA LB hX hY hn) hl h1 h2 h0
theorem ok (hp s : List AObj) (ro : Option Nat) (X Y : AV) (LA LB : List Vn) (hro' : ∀ k, ro = some k → k ≤ s.length) (hX : Rd Try.prog ⟨hp, s⟩ 34 40 X (LA.map encVn)) (hY : Rd Try.prog ⟨hp, s⟩ 34 40 Y (LB.map encVn)) (hs : LA.length ≤ 9223372036854775807 ∧ LB.length ≤ 9223372036854775807) :
    callW Try.prog how 18 [X, Y] ⟨hp, s⟩ ro = some (.bool (decide (LA = LB)), ⟨hp, s⟩) := by
  let cx : Cx := { h := s.length, ro := ro, esc := [] }
  have hcx : cx.esc = [] := rfl
  have hro : ∀ k, cx.ro = some k → k ≤ cx.h := hro'
  obtain ⟨env, henv⟩ : ∃ e, e = frameA Try.f18 [X, Y] := ⟨_, rfl⟩
  have hlen : env.length = 26 := by rw [henv]; rfl
  have f0 : Env.get env 0 = X := by rw [henv]; rfl
  have f1 : Env.get env 1 = Y := by rw [henv]; rfl
  have ho : Outside s.length (AS.mk hp s) (AS.mk hp s) := Outside.refl (Nat.le_refl _)
  have hla := hX.1
  have hlb := hY.1
  rw [List.length_map] at hla hlb
  obtain ⟨env1, x1a, x1b, x1c, x1d⟩ := rA cx env (AS.mk hp s)  hlen hcx   
  have f0 := (x1d 0 (by decide)).trans f0
  have f1 := (x1d 1 (by decide)).trans f1
  have f4 := x1c
  by_cases hn : LA.length = LB.length
  · skip
    obtain ⟨env2, x2a, x2b, x2c, x2d⟩ := rN cx env1 (AS.mk hp s) X Y LA.length x1b hcx f0 f1 hla (hn ▸ hlb) 
    have f0 := (x2d 0 (by decide)).trans f0
    have f1 := (x2d 1 (by decide)).trans f1
    have f4 := (x2d 4 (by decide)).trans f4
    obtain ⟨env3, x3a, x3b, x3c, x3d⟩ := rL cx env2 (AS.mk hp s) X Y LA.length x2b hcx f0 f1 hla 
    have f0 := (x3d 0 (by decide)).trans f0
    have f1 := (x3d 1 (by decide)).trans f1
    have f4 := (x3d 4 (by decide)).trans f4
    have f12 := x3c.1
    have f13 := x3c.2
    obtain ⟨e4, env4, σ4, x4a, x4p⟩ := loop cx hcx hro ⟨hp, s⟩ X Y LA LB hX hY hn (by omega) (σ := AS.mk hp s) x3b f13 f12 (⟨f0, f1, rfl, rfl⟩)
    rcases x4p with ⟨rfl, ⟨x4b, f0, f1, q0, rfl⟩ | x4p⟩ | ⟨x4q, x4r, x4p⟩
    · skip
      have he : LA = LB := by rw [List.take_of_length_le (by omega), List.take_of_length_le (by omega)] at q0; exact q0
      rw [decide_eq_true he]
      obtain ⟨env5, x5a, x5b, x5c, x5d⟩ := rD cx env4 (AS.mk hp s)  x4b hcx   
      have f0 := (x5d 0 (by decide)).trans f0
      have f1 := (x5d 1 (by decide)).trans f1
      have f4 := x5c
      exact call_of (fl := {}) (fn := Try.f18) (c := bodyC) (env := env) (e := (.ret, (env5, AS.mk hp s))) rfl Try.func18 body henv (by unfold bodyC; exact (execW_seq_of x1a (execW_seq_of x2a (execW_seq_of (execW_seq_of x3a x4a) (execW_seq_of x5a (by rfl)))))) ((fin_tmp (k := 4) (.inl rfl) rfl rfl f4 (by simp [AV.back]) (by simp [AV.inb])).trans (congrArg (fun x => some (_, x)) (outside_st ho)))
    · cases x4p.1
    · obtain ⟨rfl, f4, rfl, q1, x4b⟩ := x4p
      rw [decide_eq_false q1]
      exact call_of (fl := {}) (fn := Try.f18) (c := bodyC) (env := env) (e := (.ret, (env4, AS.mk hp s))) rfl Try.func18 body henv (by unfold bodyC; exact (execW_seq_of x1a (execW_seq_of x2a (execW_seq_ret (execW_seq_of x3a x4a))))) ((fin_tmp (k := 4) (.inl rfl) rfl rfl f4 (by simp [AV.back]) (by simp [AV.inb])).trans (congrArg (fun x => some (_, x)) (outside_st ho)))
  · skip
    obtain ⟨env2, x2a, x2b, x2c, x2d⟩ := rX cx env1 (AS.mk hp s) X Y LA.length LB.length x1b hcx f0 f1 hla hlb hn (by omega) 
    have f0 := (x2d 0 (by decide)).trans f0
    have f1 := (x2d 1 (by decide)).trans f1
    have f4 := x2c
    rw [decide_eq_false (by rintro rfl; exact hn rfl)]
    exact call_of (fl := {}) (fn := Try.f18) (c := bodyC) (env := env) (e := (.ret, (env2, AS.mk hp s))) rfl Try.func18 body henv (by unfold bodyC; exact (execW_seq_of x1a (execW_seq_ret x2a))) ((fin_tmp (k := 4) (.inl rfl) rfl rfl f4 (by simp [AV.back]) (by simp [AV.inb])).trans (congrArg (fun x => some (_, x)) (outside_st ho)))
end F18
