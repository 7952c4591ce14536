/- What the document's Undo and Clean do. -/

import Derived.Test.YtajoebiaopapoaaCq
open Go Go.Abs Go.Proofs
set_option maxRecDepth 100000
set_option maxHeartbeats 4000000
set_option linter.unusedSimpArgs false
set_option linter.unusedVariables false

theorem b36 : bytesA Try.prog 36 = some 40 := by kernel_rfl
theorem app26c (cx : Cx) (hp s : List AObj) (X : AV) (es : List AV) (hl : es.length ≤ 1000) (hro : cx.ro = none) (hX : HRow hp X es) : appendA Try.prog cx ⟨hp, s ++ [.row [] 2 0 false]⟩ [26, 26] (.row (.st s.length) 0 0 0) X = some (.row (.st s.length) (isz es) 0 es.length, ⟨hp, s ++ [.row es 2 (isz es) false]⟩) := by
  have hw : wok cx.ro (.st s.length) = true := by rw [hro]; rfl
  have hg : (AS.mk hp (s ++ [.row [] 2 0 false])).get (.st s.length) = some (.row [] 2 0 false) := by simp [AS.get]
  rcases hX with ⟨rfl, rfl⟩ | ⟨j, w, f, rfl, hj⟩
  · simp [appendA, elemA, isSrc, elemsA, b36, hg, hw, lay, AS.set, isz]
  · have hg2 : (AS.mk hp (s ++ [.row [] 2 0 false])).get (.hp j) = some (.row es 2 w f) := hj
    cases es with
    | nil => simp [appendA, elemA, isSrc, elemsA, b36, hg, hg2, hw, lay, AS.set, isz]
    | cons x l =>
      have hby : bytesOk (l.length + 1) 40 = true := by simp only [bytesOk, decide_eq_true_eq]; simp at hl; omega
      simp [appendA, elemA, isSrc, elemsA, b36, hg, hg2, hw, hby, AS.set, isz]
namespace F27
noncomputable def cr (p : List Dir) : Code := sub p (bodyOf Try.f27)

section
attribute [local simp] ofV ofCell ofCells seqA_nil seqA_cons seqVK_eq seqEK_eq wantedA yieldedA isVal effA ev evs evps putE optsA optsOk valA fieldAddrA fieldA loadA partA aggA isAggD buildA placesA fillA lay storeA AV.withCells buildSliceA elemsA rowParts fzL promL okE isSrc bytesOk pushA cxOf lenA binA intBinA strBinA unA indexAddrA eqA AVs.inb AV.inb Loc.inb calleeA opsOf sub bodyOf Env.get_set quietA_nil quietA_cons quietK_none quietK_some qstep newA isNew escNew boxOk newLoc flat rowPartsQ quietN quietOp isBS List.takeWhile finishA_eq finK_ret finK_normal retK backK resA oneA AV.back AVs.back execW_seq_eq seqK_normal seqK_ret seqK_exit execW_cond_eq condK_true condK_false execW_block_eq blockK_exit blockK_normal blockK_ret execW_region_eq regK_eq execW_skip execW_exit execW_ret regionA_plain regionA_quiet0 tailK_eq nilCheckA guardOk isConst lookupA keyFits mapUpdateA beqI bneI mixL_nil mixL_cons mixK_eq tK_pre tK_eq vK_eq stepL_0 stepL_1n stepL_1s stepL_2 stepL_3 stepL_4 stepL_5 cutCall newL tchkL agreeB Op.operands sameO truncM beq_bool beq_int beq_str beq_nilp beq_ptr beq_eptr beq_nils beq_row beq_nilm beq_map beq_agg beq_sl beqs_nil beqs_cons
theorem rA (cx : Cx) (env : Env) (σ : AS) (hp s : List AObj) (b vv n : Nat) (X : AV) (es : List AV) (hlen : env.length = 26) (hcx : cx.esc = []) (f0 : Env.get env 0 = .ptr (.hp b) 0) (hσ : σ = ⟨hp, s⟩) (hA : ∀ s, (AS.mk hp s).get (.hp b) = some (.cells [X])) (hap : appendA Try.prog cx ⟨hp, s ++ [.row [] 2 0 false]⟩ [26, 26] (.row (.st s.length) 0 0 0) X = some (.row (.st s.length) vv 0 n, ⟨hp, s ++ [.row es 2 vv false]⟩)) :
    Pc Try.prog how cx [2000003] 26 [6, 7, 8, 9, 10, 11, 12, 13] (cr [.l]) env σ (.normal) (AS.mk hp (s ++ [.row es 2 vv false])) (fun env' => Env.get env' 11 = .row (.st s.length) vv 0 n ∧ Env.get env' 12 = .int .i64 (n : Int) ∧ Env.get env' 13 = .int .i64 0) := by
  refine pc_of fun res hr => ?_
  simp -implicitDefEqProofs [AS.get_push_at, AS.get_push_old, AS.push_len, AS.set_st_len, AS.next_st', AS.set_push_at, AS.get_set_self, AS.get_set_other, cr, Try.f27, hlen, hcx, f0, hσ, hA, hap, elemA] at hr
  subst hr
  refine ⟨_, rfl, by simp [hlen], by simp [Env.get_set, hlen, f0, hσ, hA, hap, elemA], fun i hi => ?_⟩
  simp only [List.mem_cons, List.not_mem_nil, or_false, not_or] at hi
  simp only [get_set2, hi, false_and, if_false]

theorem rE (cx : Cx) (env : Env) (σ : AS) (k : Nat) (X p Y0 : AV) (k0 : ByteArray) (hlen : env.length = 26) (hcx : cx.esc = []) (f11 : Env.get env 11 = X) (f13 : Env.get env 13 = .int .i64 (k : Int)) (hia : indexAddrA Try.prog σ 26 X (.int .i64 (k : Int)) = some p) (hpa : loadA Try.prog σ 36 p = some (.agg [.str k0, Y0])) (hY : Plain Y0) (hw : wok cx.ro (.st σ.st.length) = true) (hh : cx.h ≤ σ.st.length) :
    Pc Try.prog how cx [2000003] 26 [5, 15, 16] (cr [.r, .i, .i, .r, .r, .l, .i, .l]) env σ (.normal) (σ.push false (.cells [.str k0, Y0])) (fun env' => Env.get env' 5 = .ptr (.st σ.st.length) 0) := by
  refine pc_of fun res hr => ?_
  simp -implicitDefEqProofs [-lenA, -indexAddrA, -loadA, AS.get_push_at, AS.get_push_old, AS.push_len, AS.set_st_len, AS.next_st', AS.set_push_at, AS.get_set_self, AS.get_set_other, cr, Try.f27, hlen, hcx, f11, f13, hia, hpa, hY.one, hY.inb, hY.row, hw, hh] at hr
  subst hr
  refine ⟨_, rfl, by simp [hlen], by simp [Env.get_set, hlen, f11, f13, hia, hpa, hY.one, hY.inb, hY.row, hw, hh], fun i hi => ?_⟩
  simp only [List.mem_cons, List.not_mem_nil, or_false, not_or] at hi
  simp only [get_set2, hi, false_and, if_false]

noncomputable def mx_q : List Oper := opsOf (cr [.r, .i, .i, .r, .r, .l, .i, .r])
def mx_plan : List (Nat × List Nat) := [(0, []), (0, []), (1, []), (0, []), (2, []), (0, []), (4, [2]), (4, [])]
theorem mx_reg : (cr [.r, .i, .i, .r, .r, .l, .i, .r]) = .region 3 mx_q.toArray true := by kernel_rfl
theorem mx_ok (h : Nat) (ro : Option Nat) : planOk Try.prog (Cx.mk h ro []) mx_q mx_plan = true := by kernel_rfl
theorem mx_lt : anyLT Try.prog mx_q = true := by kernel_rfl
theorem mx_room (h : Nat) (ro : Option Nat) : roomL Try.prog (Cx.mk h ro []) mx_q = 0 := by kernel_rfl
theorem mx (h : Nat) (ro : Option Nat) (hp s : List AObj) (env : Env) (b c : Nat) (m : Int) (k0 : ByteArray) (Y0 Y2 : AV) (hp' : List AObj) (hlen : env.length = 26) (f0 : Env.get env 0 = .ptr (.hp b) 0) (f1 : Env.get env 1 = .int .i64 m) (f5 : Env.get env 5 = .ptr (.st c) 0) (gc : (AS.mk hp s).get (.st c) = some (.cells [.str k0, Y0])) (hY : Plain Y0) (hY2 : Plain Y2) (h36 : callW Try.prog how 36 [Y0, .int .i64 m] ⟨hp, s⟩ ro = some (Y2, ⟨hp, s⟩)) (h51 : callW Try.prog how 51 [.ptr (.hp b) 0, .str k0, Y2] ⟨hp, s⟩ ro = some (.tup [], ⟨hp', s⟩)) :
    Pc Try.prog how (Cx.mk h ro []) [2000003] 26 [17, 18, 19, 20, 21, 22, 23, 24] (cr [.r, .i, .i, .r, .r, .l, .i, .r]) env ⟨hp, s⟩ .normal ⟨hp', s⟩ (fun _ => True) := by
  refine pc_of fun res hr => ?_
  have hroom := mx_room h ro
  rw [mx_reg, execW_region_eq] at hr
  rw [show (mx_q.toArray).toList = mx_q from rfl, regionA_mix rfl rfl] at hr
  generalize h1 : mixL Try.prog (Cx.mk h ro []) (callW Try.prog how) ⟨hp, s⟩ mx_q true none (mx_q.zip mx_plan) env (layL Try.prog (Cx.mk h ro []) ⟨hp, s⟩ mx_q) = r1 at *
  have h1' := h1
  rw [layL0 hroom] at h1'
  simp -implicitDefEqProofs [mx_plan, mx_q, cr, Try.f27, hlen, f0, f1, f5, gc, hY.one, hY.inb, hY.row, hY2.one, hY2.inb, hY2.row, h36, h51] at h1'
  subst h1'
  rw [mixA_plan2 (mx_ok h ro) mx_lt h1, layL0 hroom] at hr
  simp -implicitDefEqProofs [mx_plan, mx_q, cr, Try.f27, hlen, f0, f1, f5, gc, hY.one, hY.inb, hY.row, hY2.one, hY2.inb, hY2.row, h36, h51] at hr
  subst hr
  refine ⟨_, rfl, by simp [hlen], by simp [Env.get_set, hlen, f0, f1, f5, gc, hY.one, hY.inb, hY.row, hY2.one, hY2.inb, hY2.row, h36, h51], fun i hi => ?_⟩
  simp only [List.mem_cons, List.not_mem_nil, or_false, not_or] at hi
  simp only [get_set2, hi, false_and, if_false]

end
noncomputable def bodyC : Code := (.seq (cr [.l]) (cr [.r]))
theorem body : Try.f27.body = some bodyC := by kernel_rfl
/-- What holds ahead of round k. -/
def J (h : Nat) (σ0 : AS) (i vv b : Nat) (m : Int) (S : List Rw) (k : Nat) (env : Env) (σ : AS) : Prop :=
  Env.get env 0 = .ptr (.hp b) 0 ∧ Env.get env 1 = .int .i64 m ∧ Env.get env 11 = .row (.st i) vv 0 S.length ∧ (σ.get (.st i) = some (.row (S.map encRow) 2 vv false)) ∧ (∃ X', σ.hp[b]? = some (.cells [X']) ∧ HRow σ.hp X' ((turnS (fun l : List Vn => l.filter (fun v => decide (v.a ≤ m))) (S.take k) ++ S.drop k).map encRow)) ∧ (σ0.hp.length ≤ σ.hp.length ∧ ∀ i, i ≠ b → i < σ0.hp.length → σ.hp[i]? = σ0.hp[i]?) ∧ Outside h (AS.mk σ.hp σ0.st) σ
def Ex (h : Nat) (σ0 : AS) (i vv b : Nat) (m : Int) (S : List Rw) (e : AExit) (env : Env) (σ : AS) : Prop := False
theorem J_stable {h : Nat} {σ0 : AS} {i vv b : Nat} {m : Int} {S : List Rw} : ∀ k env env' σ, env.length = 26 → env'.length = 26 → (∀ i, i ≠ 14 → i ≠ 25 → i ≠ 13 → Env.get env' i = Env.get env i) → J h σ0 i vv b m S k env σ → J h σ0 i vv b m S k env' σ := by
  rintro k env env' σ _ _ hf ⟨j0, j1, j11, q0, q1, q2, ho⟩
  exact ⟨(hf 0 (by decide) (by decide) (by decide)).trans j0, (hf 1 (by decide) (by decide) (by decide)).trans j1, (hf 11 (by decide) (by decide) (by decide)).trans j11, q0, q1, q2, ho⟩
noncomputable def oT : Oper := (opsOf (cr [.r, .i, .i, .l])).headD default
noncomputable def oI : List Oper := opsOf (cr [.r, .i, .i, .r, .r, .r])
theorem loop_eq : (cr [.r]) = .block 0 (.loop (.seq (.region 1 #[oT] false) (.seq (.cond (.tmp 14) .skip (.exit 0)) (.seq (.block 1 (.seq (cr [.r, .i, .i, .r, .r, .l, .i, .l]) (cr [.r, .i, .i, .r, .r, .l, .i, .r]))) (.region 4 #[oI.headD default, (oI.drop 1).headD default] false))))) := by kernel_rfl
theorem step (cx : Cx) (hcx : cx.esc = []) (hro : ∀ k, cx.ro = some k → k ≤ cx.h) (σ0 : AS) (i vv b : Nat) (m : Int) (S : List Rw) (hr0 : cx.ro = none) (hS : SortedS S) (hG : ∀ r ∈ S, GoodO r.2) (hlen2 : S.length ≤ 100) :
    ∀ k env σ, k < S.length → env.length = 26 → Env.get env 13 = .int .i64 (k : Int) → Env.get env 12 = .int .i64 ((S.length : Nat) : Int) → J cx.h σ0 i vv b m S k env σ → ∃ e env' σ', execW Try.prog cx [2000003] (callW Try.prog how) (.block 1 (.seq (cr [.r, .i, .i, .r, .r, .l, .i, .l]) (cr [.r, .i, .i, .r, .r, .l, .i, .r]))) (env, σ) = some (e, (env', σ')) ∧
      ((e = .normal ∧ env'.length = 26 ∧ Env.get env' 13 = .int .i64 (k : Int) ∧ Env.get env' 12 = .int .i64 ((S.length : Nat) : Int) ∧ J cx.h σ0 i vv b m S (k + 1) env' σ') ∨ (e ≠ .normal ∧ Ex cx.h σ0 i vv b m S e env' σ')) := by
  rintro k env σ hk hlen f13 f12 ⟨f0, f1, f11, q0, q1, q2, ho⟩
  have hrow : Rd Try.prog σ 26 36 (.row (.st i) vv 0 S.length) (S.map encRow) := by
    have := rd_row (P := Try.prog) (t := 26) (e := 36) Try.underlying26 s36 (by decide) q0 (fun c hc => by obtain ⟨r, _, rfl⟩ := List.mem_map.1 hc; exact el36 r)
    rw [List.length_map] at this; exact this
  obtain ⟨p, hia, hpa⟩ := hrow.2 k (encRow S[k]) (by rw [List.getElem?_map, List.getElem?_eq_getElem hk]; rfl)
  obtain ⟨env1, x1a, x1b, x1c, x1d⟩ := rE cx env σ k _ p (slV 4 (S[k].2.map encVn)) (S[k].1) hlen hcx f11 f13 hia hpa slV_plain (wokst hro ho.2.2) ho.2.2
  have f0 := (x1d 0 (by decide)).trans f0
  have f1 := (x1d 1 (by decide)).trans f1
  have f11 := (x1d 11 (by decide)).trans f11
  have f12 := (x1d 12 (by decide)).trans f12
  have f13 := (x1d 13 (by decide)).trans f13
  have f5 := x1c
  have g1 : ((σ : AS).push false (.cells [.str S[k].1, slV 4 (S[k].2.map encVn)])).get (.st (σ : AS).st.length) = some (.cells [.str S[k].1, slV 4 (S[k].2.map encVn)]) := AS.get_push_at rfl
  have q0 := get_push' (ob' := .cells [.str S[k].1, slV 4 (S[k].2.map encVn)]) q0
  have ho := ho.push (ob := .cells [.str S[k].1, slV 4 (S[k].2.map encVn)])
  generalize hib1 : (σ : AS).st.length = ib1 at g1 f5
  generalize (σ : AS).push false (.cells [.str S[k].1, slV 4 (S[k].2.map encVn)]) = σ1 at x1a g1 q0 ho
  have hhp : σ1.hp = σ.hp := ho.1
  obtain ⟨X', hA, hX⟩ := q1
  rw [← hhp] at hA hX q2
  have hGk := hG S[k] (List.getElem_mem hk)
  have hT : (turnS (fun l : List Vn => l.filter (fun v => decide (v.a ≤ m))) (S.take k) ++ S.drop k).length ≤ S.length := by have := turnS_len (g := (fun l : List Vn => l.filter (fun v => decide (v.a ≤ m)))) (S.take k); rw [List.length_append, List.length_drop]; rw [List.length_take] at this; omega
  have hcal := F36.ok σ1.hp σ1.st none S[k].2 m (fun j hj => by cases hj) (Nat.le_trans hGk.len (by decide))
  obtain ⟨hp', h51, hset⟩ := F51.ok σ1.hp σ1.st b S[k].1 ((fun l : List Vn => l.filter (fun v => decide (v.a ≤ m))) S[k].2) (slV 4 (((fun l : List Vn => l.filter (fun v => decide (v.a ≤ m))) S[k].2).map encVn)) X' (turnS (fun l : List Vn => l.filter (fun v => decide (v.a ≤ m))) (S.take k) ++ S.drop k) σ1.st hA hX (by omega) (lenL' _ _) slV_one (fun _ => fz_slV) (fun _ => rfl) rfl
  have hset : SetR σ1.hp hp' b (turnS (fun l : List Vn => l.filter (fun v => decide (v.a ≤ m))) (S.take (k + 1)) ++ S.drop (k + 1)) := by rw [← turn_step (g := (fun l : List Vn => l.filter (fun v => decide (v.a ≤ m)))) hS hk]; exact hset
  obtain ⟨env2, x2a, x2b, x2c, x2d⟩ := mx cx.h none σ1.hp σ1.st env1 b _ m (S[k].1) (slV 4 (S[k].2.map encVn)) _ hp' x1b f0 f1 f5 g1 slV_plain slV_plain hcal h51
  have f0 := (x2d 0 (by decide)).trans f0
  have f1 := (x2d 1 (by decide)).trans f1
  have f5 := (x2d 5 (by decide)).trans f5
  have f11 := (x2d 11 (by decide)).trans f11
  have f12 := (x2d 12 (by decide)).trans f12
  have f13 := (x2d 13 (by decide)).trans f13
  obtain ⟨hz1, hz2, hz3⟩ := hset
  have x2a : execW Try.prog cx [2000003] (callW Try.prog how) (cr [.r, .i, .i, .r, .r, .l, .i, .r]) (env1, σ1) = some (.normal, (env2, AS.mk hp' σ1.st)) := by rw [show cx = Cx.mk cx.h none [] by cases cx; simp only at hr0 hcx; rw [hr0, hcx]]; exact x2a
  exact ⟨.normal, env2, _, (execW_block_of (execW_seq_of x1a x2a)), .inl ⟨rfl, x2b, f13, f12, f0, f1, f11, q0, hz3, ⟨Nat.le_trans q2.1 hz1, fun j hj hl => (hz2 j hj (Nat.lt_of_lt_of_le hl q2.1)).trans (q2.2 j hj hl)⟩, ⟨rfl, ho.2.1, ho.2.2⟩⟩⟩
theorem loop (cx : Cx) (hcx : cx.esc = []) (hro : ∀ k, cx.ro = some k → k ≤ cx.h) (σ0 : AS) (i vv b : Nat) (m : Int) (S : List Rw) (hr0 : cx.ro = none) (hS : SortedS S) (hG : ∀ r ∈ S, GoodO r.2) (hlen2 : S.length ≤ 100) (hnn : S.length ≤ 9223372036854775807) {env : Env} {σ : AS} (hl : env.length = 26) (h1 : Env.get env 13 = .int .i64 0) (h2 : Env.get env 12 = .int .i64 ((S.length : Nat) : Int)) (h0 : J cx.h σ0 i vv b m S 0 env σ) :
    ∃ e env' σ', execW Try.prog cx [2000003] (callW Try.prog how) (cr [.r]) (env, σ) = some (e, (env', σ')) ∧ ((e = .normal ∧ ((env'.length = 26 ∧ J cx.h σ0 i vv b m S (S.length) env' σ') ∨ Ex cx.h σ0 i vv b m S (.exit 0) env' σ')) ∨ (e ≠ .normal ∧ e ≠ .exit 0 ∧ Ex cx.h σ0 i vv b m S e env' σ')) := by
  rw [loop_eq]
  exact range_std (Ex := Ex cx.h σ0 i vv b m S) (N := 26) (tc := 14) (ti := 13) (tl := 12) (tx := 25) (ty1 := 3) (ty2 := 3) (ty3 := 3) (ty4 := 3) ⟨by kernel_rfl, by kernel_rfl, by kernel_rfl⟩ ⟨by kernel_rfl, by kernel_rfl, by kernel_rfl⟩ ⟨by kernel_rfl, by kernel_rfl, by kernel_rfl⟩ (by decide) hnn J_stable (step cx hcx hro σ0 i vv b m S hr0 hS hG hlen2) hl h1 h2 h0
theorem ok (hp s : List AObj) (b : Nat) (m : Int) (X : AV) (S : List Rw) (hA : hp[b]? = some (.cells [X])) (hX : HRow hp X (S.map encRow)) (hS : SortedS S) (hG : ∀ r ∈ S, GoodO r.2) (hlen2 : S.length ≤ 100) :
    ∃ hp', callW Try.prog how 27 [.ptr (.hp b) 0, .int .i64 m] ⟨hp, s⟩ none = some (.tup [], ⟨hp', s⟩) ∧ SetR hp hp' b (turnS (fun l : List Vn => l.filter (fun v => decide (v.a ≤ m))) S) := by
  let cx : Cx := { h := s.length, ro := none, esc := [] }
  have hcx : cx.esc = [] := rfl
  have hro : ∀ k, cx.ro = some k → k ≤ cx.h := fun k hk => by cases hk
  obtain ⟨env, henv⟩ : ∃ e, e = frameA Try.f27 [.ptr (.hp b) 0, .int .i64 m] := ⟨_, rfl⟩
  have hlen : env.length = 26 := by rw [henv]; rfl
  have f0 : Env.get env 0 = .ptr (.hp b) 0 := by rw [henv]; rfl
  have f1 : Env.get env 1 = .int .i64 m := by rw [henv]; rfl
  have ho : Outside s.length (AS.mk hp s) (AS.mk hp s) := Outside.refl (Nat.le_refl _)
  have hap := app26c cx hp s X (S.map encRow) (by simp; omega) rfl hX
  rw [List.length_map] at hap
  obtain ⟨env1, x1a, x1b, x1c, x1d⟩ := rA cx env (AS.mk hp s) hp s b _ _ X _ hlen hcx f0 rfl (fun s => hA) hap 
  have f0 := (x1d 0 (by decide)).trans f0
  have f1 := (x1d 1 (by decide)).trans f1
  have f11 := x1c.1
  have f12 := x1c.2.1
  have f13 := x1c.2.2
  have ho1 : Outside s.length (AS.mk hp s) (AS.mk hp (s ++ [AObj.row (S.map encRow) 2 (isz (S.map encRow)) false])) := ⟨rfl, by simp, by simp⟩
  obtain ⟨e2, env2, σ2, x2a, x2p⟩ := loop cx hcx hro ⟨hp, s⟩ _ _ b m S rfl hS hG hlen2 (by omega) (σ := AS.mk hp (s ++ [AObj.row (S.map encRow) 2 (isz (S.map encRow)) false])) x1b f13 f12 (⟨f0, f1, f11, (by simp [AS.get]), ⟨X, hA, hX⟩, ⟨Nat.le_refl _, fun j _ _ => rfl⟩, ho1⟩)
  rcases x2p with ⟨rfl, ⟨x2b, f0, f1, f11, q0, q1, q2, ho⟩ | x2p⟩ | ⟨x2q, x2r, x2p⟩
  · skip
    have htk : σ2.st.take s.length = s := by rw [ho.2.1]; exact List.take_length
    rw [List.take_length, List.drop_length, List.append_nil] at q1
    exact ⟨σ2.hp, call_of (fl := { tails := [2000003] }) (fn := Try.f27) (c := bodyC) (env := env) (e := (.normal, (env2, σ2))) rfl Try.func27 body henv (by unfold bodyC; exact (execW_seq_of x1a x2a)) ((fin_none (.inr rfl) rfl rfl).trans (by rw [htk])), q2.1, q2.2, q1⟩
  · cases x2p
  · cases x2p
end F27

namespace F29
noncomputable def cr (p : List Dir) : Code := sub p (bodyOf Try.f29)

section
attribute [local simp] ofV ofCell ofCells seqA_nil seqA_cons seqVK_eq seqEK_eq wantedA yieldedA isVal effA ev evs evps putE optsA optsOk valA fieldAddrA fieldA loadA partA aggA isAggD buildA placesA fillA lay storeA AV.withCells buildSliceA elemsA rowParts fzL promL okE isSrc bytesOk pushA cxOf lenA binA intBinA strBinA unA indexAddrA eqA AVs.inb AV.inb Loc.inb calleeA opsOf sub bodyOf Env.get_set quietA_nil quietA_cons quietK_none quietK_some qstep newA isNew escNew boxOk newLoc flat rowPartsQ quietN quietOp isBS List.takeWhile finishA_eq finK_ret finK_normal retK backK resA oneA AV.back AVs.back execW_seq_eq seqK_normal seqK_ret seqK_exit execW_cond_eq condK_true condK_false execW_block_eq blockK_exit blockK_normal blockK_ret execW_region_eq regK_eq execW_skip execW_exit execW_ret regionA_plain regionA_quiet0 tailK_eq nilCheckA guardOk isConst lookupA keyFits mapUpdateA beqI bneI mixL_nil mixL_cons mixK_eq tK_pre tK_eq vK_eq stepL_0 stepL_1n stepL_1s stepL_2 stepL_3 stepL_4 stepL_5 cutCall newL tchkL agreeB Op.operands sameO truncM beq_bool beq_int beq_str beq_nilp beq_ptr beq_eptr beq_nils beq_row beq_nilm beq_map beq_agg beq_sl beqs_nil beqs_cons
theorem rA (cx : Cx) (env : Env) (σ : AS) (hp s : List AObj) (b vv n : Nat) (X : AV) (es : List AV) (hlen : env.length = 26) (hcx : cx.esc = []) (f0 : Env.get env 0 = .ptr (.hp b) 0) (hσ : σ = ⟨hp, s⟩) (hA : ∀ s, (AS.mk hp s).get (.hp b) = some (.cells [X])) (hap : appendA Try.prog cx ⟨hp, s ++ [.row [] 2 0 false]⟩ [26, 26] (.row (.st s.length) 0 0 0) X = some (.row (.st s.length) vv 0 n, ⟨hp, s ++ [.row es 2 vv false]⟩)) :
    Pc Try.prog how cx [2000003] 26 [6, 7, 8, 9, 10, 11, 12, 13] (cr [.l]) env σ (.normal) (AS.mk hp (s ++ [.row es 2 vv false])) (fun env' => Env.get env' 11 = .row (.st s.length) vv 0 n ∧ Env.get env' 12 = .int .i64 (n : Int) ∧ Env.get env' 13 = .int .i64 0) := by
  refine pc_of fun res hr => ?_
  simp -implicitDefEqProofs [AS.get_push_at, AS.get_push_old, AS.push_len, AS.set_st_len, AS.next_st', AS.set_push_at, AS.get_set_self, AS.get_set_other, cr, Try.f29, hlen, hcx, f0, hσ, hA, hap, elemA] at hr
  subst hr
  refine ⟨_, rfl, by simp [hlen], by simp [Env.get_set, hlen, f0, hσ, hA, hap, elemA], fun i hi => ?_⟩
  simp only [List.mem_cons, List.not_mem_nil, or_false, not_or] at hi
  simp only [get_set2, hi, false_and, if_false]

theorem rE (cx : Cx) (env : Env) (σ : AS) (k : Nat) (X p Y0 : AV) (k0 : ByteArray) (hlen : env.length = 26) (hcx : cx.esc = []) (f11 : Env.get env 11 = X) (f13 : Env.get env 13 = .int .i64 (k : Int)) (hia : indexAddrA Try.prog σ 26 X (.int .i64 (k : Int)) = some p) (hpa : loadA Try.prog σ 36 p = some (.agg [.str k0, Y0])) (hY : Plain Y0) (hw : wok cx.ro (.st σ.st.length) = true) (hh : cx.h ≤ σ.st.length) :
    Pc Try.prog how cx [2000003] 26 [5, 15, 16] (cr [.r, .i, .i, .r, .r, .l, .i, .l]) env σ (.normal) (σ.push false (.cells [.str k0, Y0])) (fun env' => Env.get env' 5 = .ptr (.st σ.st.length) 0) := by
  refine pc_of fun res hr => ?_
  simp -implicitDefEqProofs [-lenA, -indexAddrA, -loadA, AS.get_push_at, AS.get_push_old, AS.push_len, AS.set_st_len, AS.next_st', AS.set_push_at, AS.get_set_self, AS.get_set_other, cr, Try.f29, hlen, hcx, f11, f13, hia, hpa, hY.one, hY.inb, hY.row, hw, hh] at hr
  subst hr
  refine ⟨_, rfl, by simp [hlen], by simp [Env.get_set, hlen, f11, f13, hia, hpa, hY.one, hY.inb, hY.row, hw, hh], fun i hi => ?_⟩
  simp only [List.mem_cons, List.not_mem_nil, or_false, not_or] at hi
  simp only [get_set2, hi, false_and, if_false]

noncomputable def mx_q : List Oper := opsOf (cr [.r, .i, .i, .r, .r, .l, .i, .r])
def mx_plan : List (Nat × List Nat) := [(0, []), (0, []), (1, []), (0, []), (2, []), (0, []), (4, [2]), (4, [])]
theorem mx_reg : (cr [.r, .i, .i, .r, .r, .l, .i, .r]) = .region 3 mx_q.toArray true := by kernel_rfl
theorem mx_ok (h : Nat) (ro : Option Nat) : planOk Try.prog (Cx.mk h ro []) mx_q mx_plan = true := by kernel_rfl
theorem mx_lt : anyLT Try.prog mx_q = true := by kernel_rfl
theorem mx_room (h : Nat) (ro : Option Nat) : roomL Try.prog (Cx.mk h ro []) mx_q = 0 := by kernel_rfl
theorem mx (h : Nat) (ro : Option Nat) (hp s : List AObj) (env : Env) (b c : Nat) (m : Int) (k0 : ByteArray) (Y0 Y2 : AV) (hp' : List AObj) (hlen : env.length = 26) (f0 : Env.get env 0 = .ptr (.hp b) 0) (f1 : Env.get env 1 = .int .i64 m) (f5 : Env.get env 5 = .ptr (.st c) 0) (gc : (AS.mk hp s).get (.st c) = some (.cells [.str k0, Y0])) (hY : Plain Y0) (hY2 : Plain Y2) (h36 : callW Try.prog how 57 [Y0, .int .i64 m] ⟨hp, s⟩ ro = some (Y2, ⟨hp, s⟩)) (h51 : callW Try.prog how 51 [.ptr (.hp b) 0, .str k0, Y2] ⟨hp, s⟩ ro = some (.tup [], ⟨hp', s⟩)) :
    Pc Try.prog how (Cx.mk h ro []) [2000003] 26 [17, 18, 19, 20, 21, 22, 23, 24] (cr [.r, .i, .i, .r, .r, .l, .i, .r]) env ⟨hp, s⟩ .normal ⟨hp', s⟩ (fun _ => True) := by
  refine pc_of fun res hr => ?_
  have hroom := mx_room h ro
  rw [mx_reg, execW_region_eq] at hr
  rw [show (mx_q.toArray).toList = mx_q from rfl, regionA_mix rfl rfl] at hr
  generalize h1 : mixL Try.prog (Cx.mk h ro []) (callW Try.prog how) ⟨hp, s⟩ mx_q true none (mx_q.zip mx_plan) env (layL Try.prog (Cx.mk h ro []) ⟨hp, s⟩ mx_q) = r1 at *
  have h1' := h1
  rw [layL0 hroom] at h1'
  simp -implicitDefEqProofs [mx_plan, mx_q, cr, Try.f29, hlen, f0, f1, f5, gc, hY.one, hY.inb, hY.row, hY2.one, hY2.inb, hY2.row, h36, h51] at h1'
  subst h1'
  rw [mixA_plan2 (mx_ok h ro) mx_lt h1, layL0 hroom] at hr
  simp -implicitDefEqProofs [mx_plan, mx_q, cr, Try.f29, hlen, f0, f1, f5, gc, hY.one, hY.inb, hY.row, hY2.one, hY2.inb, hY2.row, h36, h51] at hr
  subst hr
  refine ⟨_, rfl, by simp [hlen], by simp [Env.get_set, hlen, f0, f1, f5, gc, hY.one, hY.inb, hY.row, hY2.one, hY2.inb, hY2.row, h36, h51], fun i hi => ?_⟩
  simp only [List.mem_cons, List.not_mem_nil, or_false, not_or] at hi
  simp only [get_set2, hi, false_and, if_false]

end
noncomputable def bodyC : Code := (.seq (cr [.l]) (cr [.r]))
theorem body : Try.f29.body = some bodyC := by kernel_rfl
/-- What holds ahead of round k. -/
def J (h : Nat) (σ0 : AS) (i vv b : Nat) (m : Int) (S : List Rw) (k : Nat) (env : Env) (σ : AS) : Prop :=
  Env.get env 0 = .ptr (.hp b) 0 ∧ Env.get env 1 = .int .i64 m ∧ Env.get env 11 = .row (.st i) vv 0 S.length ∧ (σ.get (.st i) = some (.row (S.map encRow) 2 vv false)) ∧ (∃ X', σ.hp[b]? = some (.cells [X']) ∧ HRow σ.hp X' ((turnS (fun l : List Vn => cleanV l m) (S.take k) ++ S.drop k).map encRow)) ∧ (σ0.hp.length ≤ σ.hp.length ∧ ∀ i, i ≠ b → i < σ0.hp.length → σ.hp[i]? = σ0.hp[i]?) ∧ Outside h (AS.mk σ.hp σ0.st) σ
def Ex (h : Nat) (σ0 : AS) (i vv b : Nat) (m : Int) (S : List Rw) (e : AExit) (env : Env) (σ : AS) : Prop := False
theorem J_stable {h : Nat} {σ0 : AS} {i vv b : Nat} {m : Int} {S : List Rw} : ∀ k env env' σ, env.length = 26 → env'.length = 26 → (∀ i, i ≠ 14 → i ≠ 25 → i ≠ 13 → Env.get env' i = Env.get env i) → J h σ0 i vv b m S k env σ → J h σ0 i vv b m S k env' σ := by
  rintro k env env' σ _ _ hf ⟨j0, j1, j11, q0, q1, q2, ho⟩
  exact ⟨(hf 0 (by decide) (by decide) (by decide)).trans j0, (hf 1 (by decide) (by decide) (by decide)).trans j1, (hf 11 (by decide) (by decide) (by decide)).trans j11, q0, q1, q2, ho⟩
noncomputable def oT : Oper := (opsOf (cr [.r, .i, .i, .l])).headD default
noncomputable def oI : List Oper := opsOf (cr [.r, .i, .i, .r, .r, .r])
theorem loop_eq : (cr [.r]) = .block 0 (.loop (.seq (.region 1 #[oT] false) (.seq (.cond (.tmp 14) .skip (.exit 0)) (.seq (.block 1 (.seq (cr [.r, .i, .i, .r, .r, .l, .i, .l]) (cr [.r, .i, .i, .r, .r, .l, .i, .r]))) (.region 4 #[oI.headD default, (oI.drop 1).headD default] false))))) := by kernel_rfl
theorem step (cx : Cx) (hcx : cx.esc = []) (hro : ∀ k, cx.ro = some k → k ≤ cx.h) (σ0 : AS) (i vv b : Nat) (m : Int) (S : List Rw) (hr0 : cx.ro = none) (hS : SortedS S) (hG : ∀ r ∈ S, GoodO r.2) (hlen2 : S.length ≤ 100) :
    ∀ k env σ, k < S.length → env.length = 26 → Env.get env 13 = .int .i64 (k : Int) → Env.get env 12 = .int .i64 ((S.length : Nat) : Int) → J cx.h σ0 i vv b m S k env σ → ∃ e env' σ', execW Try.prog cx [2000003] (callW Try.prog how) (.block 1 (.seq (cr [.r, .i, .i, .r, .r, .l, .i, .l]) (cr [.r, .i, .i, .r, .r, .l, .i, .r]))) (env, σ) = some (e, (env', σ')) ∧
      ((e = .normal ∧ env'.length = 26 ∧ Env.get env' 13 = .int .i64 (k : Int) ∧ Env.get env' 12 = .int .i64 ((S.length : Nat) : Int) ∧ J cx.h σ0 i vv b m S (k + 1) env' σ') ∨ (e ≠ .normal ∧ Ex cx.h σ0 i vv b m S e env' σ')) := by
  rintro k env σ hk hlen f13 f12 ⟨f0, f1, f11, q0, q1, q2, ho⟩
  have hrow : Rd Try.prog σ 26 36 (.row (.st i) vv 0 S.length) (S.map encRow) := by
    have := rd_row (P := Try.prog) (t := 26) (e := 36) Try.underlying26 s36 (by decide) q0 (fun c hc => by obtain ⟨r, _, rfl⟩ := List.mem_map.1 hc; exact el36 r)
    rw [List.length_map] at this; exact this
  obtain ⟨p, hia, hpa⟩ := hrow.2 k (encRow S[k]) (by rw [List.getElem?_map, List.getElem?_eq_getElem hk]; rfl)
  obtain ⟨env1, x1a, x1b, x1c, x1d⟩ := rE cx env σ k _ p (slV 4 (S[k].2.map encVn)) (S[k].1) hlen hcx f11 f13 hia hpa slV_plain (wokst hro ho.2.2) ho.2.2
  have f0 := (x1d 0 (by decide)).trans f0
  have f1 := (x1d 1 (by decide)).trans f1
  have f11 := (x1d 11 (by decide)).trans f11
  have f12 := (x1d 12 (by decide)).trans f12
  have f13 := (x1d 13 (by decide)).trans f13
  have f5 := x1c
  have g1 : ((σ : AS).push false (.cells [.str S[k].1, slV 4 (S[k].2.map encVn)])).get (.st (σ : AS).st.length) = some (.cells [.str S[k].1, slV 4 (S[k].2.map encVn)]) := AS.get_push_at rfl
  have q0 := get_push' (ob' := .cells [.str S[k].1, slV 4 (S[k].2.map encVn)]) q0
  have ho := ho.push (ob := .cells [.str S[k].1, slV 4 (S[k].2.map encVn)])
  generalize hib1 : (σ : AS).st.length = ib1 at g1 f5
  generalize (σ : AS).push false (.cells [.str S[k].1, slV 4 (S[k].2.map encVn)]) = σ1 at x1a g1 q0 ho
  have hhp : σ1.hp = σ.hp := ho.1
  obtain ⟨X', hA, hX⟩ := q1
  rw [← hhp] at hA hX q2
  have hGk := hG S[k] (List.getElem_mem hk)
  have hT : (turnS (fun l : List Vn => cleanV l m) (S.take k) ++ S.drop k).length ≤ S.length := by have := turnS_len (g := (fun l : List Vn => cleanV l m)) (S.take k); rw [List.length_append, List.length_drop]; rw [List.length_take] at this; omega
  have hcal := F57.ok σ1.hp σ1.st none S[k].2 m (fun j hj => by cases hj) hGk
  obtain ⟨hp', h51, hset⟩ := F51.ok σ1.hp σ1.st b S[k].1 ((fun l : List Vn => cleanV l m) S[k].2) (slV 4 (((fun l : List Vn => cleanV l m) S[k].2).map encVn)) X' (turnS (fun l : List Vn => cleanV l m) (S.take k) ++ S.drop k) σ1.st hA hX (by omega) (lenL' _ _) slV_one (fun _ => fz_slV) (fun _ => rfl) rfl
  have hset : SetR σ1.hp hp' b (turnS (fun l : List Vn => cleanV l m) (S.take (k + 1)) ++ S.drop (k + 1)) := by rw [← turn_step (g := (fun l : List Vn => cleanV l m)) hS hk]; exact hset
  obtain ⟨env2, x2a, x2b, x2c, x2d⟩ := mx cx.h none σ1.hp σ1.st env1 b _ m (S[k].1) (slV 4 (S[k].2.map encVn)) _ hp' x1b f0 f1 f5 g1 slV_plain slV_plain hcal h51
  have f0 := (x2d 0 (by decide)).trans f0
  have f1 := (x2d 1 (by decide)).trans f1
  have f5 := (x2d 5 (by decide)).trans f5
  have f11 := (x2d 11 (by decide)).trans f11
  have f12 := (x2d 12 (by decide)).trans f12
  have f13 := (x2d 13 (by decide)).trans f13
  obtain ⟨hz1, hz2, hz3⟩ := hset
  have x2a : execW Try.prog cx [2000003] (callW Try.prog how) (cr [.r, .i, .i, .r, .r, .l, .i, .r]) (env1, σ1) = some (.normal, (env2, AS.mk hp' σ1.st)) := by rw [show cx = Cx.mk cx.h none [] by cases cx; simp only at hr0 hcx; rw [hr0, hcx]]; exact x2a
  exact ⟨.normal, env2, _, (execW_block_of (execW_seq_of x1a x2a)), .inl ⟨rfl, x2b, f13, f12, f0, f1, f11, q0, hz3, ⟨Nat.le_trans q2.1 hz1, fun j hj hl => (hz2 j hj (Nat.lt_of_lt_of_le hl q2.1)).trans (q2.2 j hj hl)⟩, ⟨rfl, ho.2.1, ho.2.2⟩⟩⟩
theorem loop (cx : Cx) (hcx : cx.esc = []) (hro : ∀ k, cx.ro = some k → k ≤ cx.h) (σ0 : AS) (i vv b : Nat) (m : Int) (S : List Rw) (hr0 : cx.ro = none) (hS : SortedS S) (hG : ∀ r ∈ S, GoodO r.2) (hlen2 : S.length ≤ 100) (hnn : S.length ≤ 9223372036854775807) {env : Env} {σ : AS} (hl : env.length = 26) (h1 : Env.get env 13 = .int .i64 0) (h2 : Env.get env 12 = .int .i64 ((S.length : Nat) : Int)) (h0 : J cx.h σ0 i vv b m S 0 env σ) :
    ∃ e env' σ', execW Try.prog cx [2000003] (callW Try.prog how) (cr [.r]) (env, σ) = some (e, (env', σ')) ∧ ((e = .normal ∧ ((env'.length = 26 ∧ J cx.h σ0 i vv b m S (S.length) env' σ') ∨ Ex cx.h σ0 i vv b m S (.exit 0) env' σ')) ∨ (e ≠ .normal ∧ e ≠ .exit 0 ∧ Ex cx.h σ0 i vv b m S e env' σ')) := by
  rw [loop_eq]
  exact range_std (Ex := Ex cx.h σ0 i vv b m S) (N := 26) (tc := 14) (ti := 13) (tl := 12) (tx := 25) (ty1 := 3) (ty2 := 3) (ty3 := 3) (ty4 := 3) ⟨by kernel_rfl, by kernel_rfl, by kernel_rfl⟩ ⟨by kernel_rfl, by kernel_rfl, by kernel_rfl⟩ ⟨by kernel_rfl, by kernel_rfl, by kernel_rfl⟩ (by decide) hnn J_stable (step cx hcx hro σ0 i vv b m S hr0 hS hG hlen2) hl h1 h2 h0
theorem ok (hp s : List AObj) (b : Nat) (m : Int) (X : AV) (S : List Rw) (hA : hp[b]? = some (.cells [X])) (hX : HRow hp X (S.map encRow)) (hS : SortedS S) (hG : ∀ r ∈ S, GoodO r.2) (hlen2 : S.length ≤ 100) :
    ∃ hp', callW Try.prog how 29 [.ptr (.hp b) 0, .int .i64 m] ⟨hp, s⟩ none = some (.tup [], ⟨hp', s⟩) ∧ SetR hp hp' b (turnS (fun l : List Vn => cleanV l m) S) := by
  let cx : Cx := { h := s.length, ro := none, esc := [] }
  have hcx : cx.esc = [] := rfl
  have hro : ∀ k, cx.ro = some k → k ≤ cx.h := fun k hk => by cases hk
  obtain ⟨env, henv⟩ : ∃ e, e = frameA Try.f29 [.ptr (.hp b) 0, .int .i64 m] := ⟨_, rfl⟩
  have hlen : env.length = 26 := by rw [henv]; rfl
  have f0 : Env.get env 0 = .ptr (.hp b) 0 := by rw [henv]; rfl
  have f1 : Env.get env 1 = .int .i64 m := by rw [henv]; rfl
  have ho : Outside s.length (AS.mk hp s) (AS.mk hp s) := Outside.refl (Nat.le_refl _)
  have hap := app26c cx hp s X (S.map encRow) (by simp; omega) rfl hX
  rw [List.length_map] at hap
  obtain ⟨env1, x1a, x1b, x1c, x1d⟩ := rA cx env (AS.mk hp s) hp s b _ _ X _ hlen hcx f0 rfl (fun s => hA) hap 
  have f0 := (x1d 0 (by decide)).trans f0
  have f1 := (x1d 1 (by decide)).trans f1
  have f11 := x1c.1
  have f12 := x1c.2.1
  have f13 := x1c.2.2
  have ho1 : Outside s.length (AS.mk hp s) (AS.mk hp (s ++ [AObj.row (S.map encRow) 2 (isz (S.map encRow)) false])) := ⟨rfl, by simp, by simp⟩
  obtain ⟨e2, env2, σ2, x2a, x2p⟩ := loop cx hcx hro ⟨hp, s⟩ _ _ b m S rfl hS hG hlen2 (by omega) (σ := AS.mk hp (s ++ [AObj.row (S.map encRow) 2 (isz (S.map encRow)) false])) x1b f13 f12 (⟨f0, f1, f11, (by simp [AS.get]), ⟨X, hA, hX⟩, ⟨Nat.le_refl _, fun j _ _ => rfl⟩, ho1⟩)
  rcases x2p with ⟨rfl, ⟨x2b, f0, f1, f11, q0, q1, q2, ho⟩ | x2p⟩ | ⟨x2q, x2r, x2p⟩
  · skip
    have htk : σ2.st.take s.length = s := by rw [ho.2.1]; exact List.take_length
    rw [List.take_length, List.drop_length, List.append_nil] at q1
    exact ⟨σ2.hp, call_of (fl := { tails := [2000003] }) (fn := Try.f29) (c := bodyC) (env := env) (e := (.normal, (env2, σ2))) rfl Try.func29 body henv (by unfold bodyC; exact (execW_seq_of x1a x2a)) ((fin_none (.inr rfl) rfl rfl).trans (by rw [htk])), q2.1, q2.2, q1⟩
  · cases x2p
  · cases x2p
end F29
