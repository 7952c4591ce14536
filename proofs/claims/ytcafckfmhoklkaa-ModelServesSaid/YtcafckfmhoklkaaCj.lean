/- A key of the document's map is written. -/

import Derived.Test.YtcafckfmhoklkaaCi
open Go Go.Abs Go.Proofs
set_option maxRecDepth 100000
set_option maxHeartbeats 4000000
set_option linter.unusedSimpArgs false
set_option linter.unusedVariables false

/-- One object's row was turned: all else stays. -/
def SetR (hp hp' : List AObj) (b : Nat) (T : List KeyD) : Prop := hp.length ≤ hp'.length ∧ (∀ i, i ≠ b → i < hp.length → hp'[i]? = hp[i]?) ∧ ∃ X', hp'[b]? = some (.cells [X']) ∧ HRow hp' X' (T.map encK)
theorem SetR.trans {a b c : List AObj} {m : Nat} {S T : List KeyD} (h : SetR a b m S) (h' : SetR b c m T) : SetR a c m T := ⟨Nat.le_trans h.1 h'.1, fun i hi hl => (h'.2.1 i hi (Nat.lt_of_lt_of_le hl h.1)).trans (h.2.1 i hi hl), h'.2.2⟩
def negIf (a b : ByteArray) : Bool := !beqS a b
namespace F20
noncomputable def cr (p : List Dir) : Code := sub p (bodyOf Try.f20)

section
attribute [local simp] ofV ofCell ofCells seqA_nil seqA_cons seqVK_eq seqEK_eq wantedA yieldedA isVal effA ev evs evps putE optsA optsOk valA fieldAddrA fieldA loadA partA aggA isAggD buildA placesA fillA lay storeA AV.withCells buildSliceA elemsA rowParts fzL promL okE isSrc bytesOk pushA cxOf lenA binA intBinA strBinA unA indexAddrA eqA AVs.inb AV.inb Loc.inb calleeA opsOf sub bodyOf Env.get_set quietA_nil quietA_cons quietK_none quietK_some qstep newA isNew escNew boxOk newLoc flat rowPartsQ quietN quietOp isBS List.takeWhile finishA_eq finK_ret finK_normal retK backK resA oneA AV.back AVs.back execW_seq_eq seqK_normal seqK_ret seqK_exit execW_cond_eq condK_true condK_false execW_block_eq blockK_exit blockK_normal blockK_ret execW_region_eq regK_eq execW_skip execW_exit execW_ret regionA_plain regionA_quiet0 tailK_eq nilCheckA guardOk isConst lookupA keyFits mapUpdateA beqI bneI
theorem rA (cx : Cx) (env : Env) (σ : AS) (hp s : List AObj) (wk wv : ByteArray) (wg : Bool) (hlen : env.length = 48) (hcx : cx.esc = []) (f1 : Env.get env 1 = .agg [.str wk, .str wv, .bool wg]) (hσ : σ = ⟨hp, s⟩) (hw : wok cx.ro (.st s.length) = true) (hh : cx.h ≤ s.length) :
    Pc Try.prog how cx [] 48 [3] (cr [.l]) env σ (.normal) (AS.mk hp (s ++ [.cells [.str wk, .str wv, .bool wg]])) (fun env' => Env.get env' 3 = .ptr (.st s.length) 0) := by
  refine pc_of fun res hr => ?_
  simp -implicitDefEqProofs [-lenA, -indexAddrA, AS.get_push_at, AS.get_push_old, AS.push_len, AS.set_st_len, AS.next_st', AS.set_push_at, AS.get_set_self, AS.get_set_other, cr, Try.f20, hlen, hcx, f1, hσ, hw, hh] at hr
  subst hr
  refine ⟨_, rfl, by simp [hlen], by simp [Env.get_set, hlen, f1, hσ, hw, hh], fun i hi => ?_⟩
  simp only [List.mem_cons, List.not_mem_nil, or_false, not_or] at hi
  simp only [get_set2, hi, false_and, if_false]

theorem rB (cx : Cx) (env : Env) (σ : AS) (a b : Nat) (wk wv : ByteArray) (wg : Bool) (k0 : ByteArray) (n0 : Int) (v0 : ByteArray) (h0 : Bool) (hlen : env.length = 48) (hcx : cx.esc = []) (f0 : Env.get env 0 = .ptr (.hp b) 0) (f3 : Env.get env 3 = .ptr (.st a) 0) (gw : σ.get (.st a) = some (.cells [.str wk, .str wv, .bool wg])) (h7 : callW Try.prog how 7 [.ptr (.hp b) 0, .str wk] σ cx.ro = some (.agg [.str k0, .int .u64 n0, .str v0, .bool h0], σ)) :
    Pc Try.prog how cx [] 48 [4, 8, 9, 10, 11, 12, 13] (cr [.r, .l]) env σ (.normal) (σ) (fun env' => Env.get env' 4 = .int .u64 (wr .u64 (n0 + 1))) := by
  refine pc_of fun res hr => ?_
  simp -implicitDefEqProofs [-lenA, -indexAddrA, AS.get_push_at, AS.get_push_old, AS.push_len, AS.set_st_len, AS.next_st', AS.set_push_at, AS.get_set_self, AS.get_set_other, cr, Try.f20, hlen, hcx, f0, f3, gw, h7, fieldValA, fieldA] at hr
  subst hr
  refine ⟨_, rfl, by simp [hlen], by simp [Env.get_set, hlen, f0, f3, gw, h7, fieldValA, fieldA], fun i hi => ?_⟩
  simp only [List.mem_cons, List.not_mem_nil, or_false, not_or] at hi
  simp only [get_set2, hi, false_and, if_false]

theorem rC (cx : Cx) (env : Env) (σ : AS)  (hlen : env.length = 48) (hcx : cx.esc = [])  :
    Pc Try.prog how cx [] 48 [5] (cr [.r, .r, .l]) env σ (.normal) (σ) (fun env' => Env.get env' 5 = .nils) := by
  refine pc_of fun res hr => ?_
  simp -implicitDefEqProofs [-lenA, -indexAddrA, AS.get_push_at, AS.get_push_old, AS.push_len, AS.set_st_len, AS.next_st', AS.set_push_at, AS.get_set_self, AS.get_set_other, cr, Try.f20, hlen, hcx] at hr
  subst hr
  refine ⟨_, rfl, by simp [hlen], by simp [Env.get_set, hlen], fun i hi => ?_⟩
  simp only [List.mem_cons, List.not_mem_nil, or_false, not_or] at hi
  simp only [get_set2, hi, false_and, if_false]

theorem rD (cx : Cx) (env : Env) (σ : AS) (b n : Nat) (X : AV) (hlen : env.length = 48) (hcx : cx.esc = []) (f0 : Env.get env 0 = .ptr (.hp b) 0) (hA : σ.get (.hp b) = some (.cells [X])) (hX : lenA Try.prog σ 25 X = some n) :
    Pc Try.prog how cx [] 48 [14, 15, 16, 17, 18, 19] (cr [.r, .r, .r, .l, .l]) env σ (.normal) (σ) (fun env' => Env.get env' 17 = X ∧ Env.get env' 18 = .int .i64 (n : Int) ∧ Env.get env' 19 = .int .i64 0) := by
  refine pc_of fun res hr => ?_
  simp -implicitDefEqProofs [-lenA, -indexAddrA, AS.get_push_at, AS.get_push_old, AS.push_len, AS.set_st_len, AS.next_st', AS.set_push_at, AS.get_set_self, AS.get_set_other, cr, Try.f20, hlen, hcx, f0, hA, hX] at hr
  subst hr
  refine ⟨_, rfl, by simp [hlen], by simp [Env.get_set, hlen, f0, hA, hX], fun i hi => ?_⟩
  simp only [List.mem_cons, List.not_mem_nil, or_false, not_or] at hi
  simp only [get_set2, hi, false_and, if_false]

theorem rE (cx : Cx) (env : Env) (σ : AS) (k : Nat) (X p : AV) (k0 : ByteArray) (n0 : Int) (v0 : ByteArray) (h0 : Bool) (hlen : env.length = 48) (hcx : cx.esc = []) (f17 : Env.get env 17 = X) (f19 : Env.get env 19 = .int .i64 (k : Int)) (hia : indexAddrA Try.prog σ 25 X (.int .i64 (k : Int)) = some p) (hpa : loadA Try.prog σ 49 p = some (.agg [.str k0, .int .u64 n0, .str v0, .bool h0])) (hw : wok cx.ro (.st σ.st.length) = true) (hh : cx.h ≤ σ.st.length) :
    Pc Try.prog how cx [] 48 [7, 21, 22] (cr [.r, .r, .r, .l, .r, .i, .i, .r, .r, .l, .i, .l]) env σ (.normal) (σ.push false (.cells [.str k0, .int .u64 n0, .str v0, .bool h0])) (fun env' => Env.get env' 7 = .ptr (.st σ.st.length) 0) := by
  refine pc_of fun res hr => ?_
  simp -implicitDefEqProofs [-lenA, -indexAddrA, -loadA, AS.get_push_at, AS.get_push_old, AS.push_len, AS.set_st_len, AS.next_st', AS.set_push_at, AS.get_set_self, AS.get_set_other, cr, Try.f20, hlen, hcx, f17, f19, hia, hpa, hw, hh] at hr
  subst hr
  refine ⟨_, rfl, by simp [hlen], by simp [Env.get_set, hlen, f17, f19, hia, hpa, hw, hh], fun i hi => ?_⟩
  simp only [List.mem_cons, List.not_mem_nil, or_false, not_or] at hi
  simp only [get_set2, hi, false_and, if_false]

theorem rN (cx : Cx) (env : Env) (σ : AS) (a c : Nat) (wk wv : ByteArray) (wg : Bool) (k0 : ByteArray) (n0 : Int) (v0 : ByteArray) (h0 : Bool) (hlen : env.length = 48) (hcx : cx.esc = []) (f3 : Env.get env 3 = .ptr (.st a) 0) (f7 : Env.get env 7 = .ptr (.st c) 0) (gw : σ.get (.st a) = some (.cells [.str wk, .str wv, .bool wg])) (gc : σ.get (.st c) = some (.cells [.str k0, .int .u64 n0, .str v0, .bool h0])) (hq : beqS k0 wk = true) :
    Pc Try.prog how cx [] 48 [23, 24, 25, 26, 27] (cr [.r, .r, .r, .l, .r, .i, .i, .r, .r, .l, .i, .r]) env σ (.normal) (σ) (fun _ => True) := by
  refine pc_of fun res hr => ?_
  simp -implicitDefEqProofs [-lenA, -indexAddrA, AS.get_push_at, AS.get_push_old, AS.push_len, AS.set_st_len, AS.next_st', AS.set_push_at, AS.get_set_self, AS.get_set_other, cr, Try.f20, hlen, hcx, f3, f7, gw, gc, hq] at hr
  subst hr
  refine ⟨_, rfl, by simp [hlen], by simp [Env.get_set, hlen, f3, f7, gw, gc, hq], fun i hi => ?_⟩
  simp only [List.mem_cons, List.not_mem_nil, or_false, not_or] at hi
  simp only [get_set2, hi, false_and, if_false]

theorem rY (cx : Cx) (env : Env) (σ : AS) (a c : Nat) (wk wv : ByteArray) (wg : Bool) (k0 : ByteArray) (n0 : Int) (v0 : ByteArray) (h0 : Bool) (R' R : AV) (σ' : AS) (hlen : env.length = 48) (hcx : cx.esc = []) (f3 : Env.get env 3 = .ptr (.st a) 0) (f5 : Env.get env 5 = R) (f7 : Env.get env 7 = .ptr (.st c) 0) (gw : σ.get (.st a) = some (.cells [.str wk, .str wv, .bool wg])) (gc : σ.get (.st c) = some (.cells [.str k0, .int .u64 n0, .str v0, .bool h0])) (hq : beqS k0 wk = false) (hap : appendA Try.prog cx (σ.push false (.row [.agg [.str k0, .int .u64 n0, .str v0, .bool h0]] 4 0 false)) [25, 25] R (.row (.st σ.st.length) 0 0 1) = some (R', σ')) :
    Pc Try.prog how cx [] 48 [5, 23, 24, 25, 26, 27, 28, 29, 30, 31] (cr [.r, .r, .r, .l, .r, .i, .i, .r, .r, .l, .i, .r]) env σ (.normal) (σ') (fun env' => Env.get env' 5 = R') := by
  refine pc_of fun res hr => ?_
  simp -implicitDefEqProofs [-lenA, -indexAddrA, AS.get_push_at, AS.get_push_old, AS.push_len, AS.set_st_len, AS.next_st', AS.set_push_at, AS.get_set_self, AS.get_set_other, cr, Try.f20, hlen, hcx, f3, f5, f7, gw, gc, hq, hap, elemA] at hr
  subst hr
  refine ⟨_, rfl, by simp [hlen], by simp [Env.get_set, hlen, f3, f5, f7, gw, gc, hq, hap, elemA], fun i hi => ?_⟩
  simp only [List.mem_cons, List.not_mem_nil, or_false, not_or] at hi
  simp only [get_set2, hi, false_and, if_false]

theorem rZ (cx : Cx) (env : Env) (σ : AS) (a b i w n : Nat) (n4 : Int) (es : List AV) (R X : AV) (wk wv : ByteArray) (wg : Bool) (σ' : AS) (hlen : env.length = 48) (hcx : cx.esc = []) (f0 : Env.get env 0 = .ptr (.hp b) 0) (f3 : Env.get env 3 = .ptr (.st a) 0) (f4 : Env.get env 4 = .int .u64 n4) (f5 : Env.get env 5 = R) (gw : σ.get (.st a) = some (.cells [.str wk, .str wv, .bool wg])) (hR1 : R.one = true) (hap : appendA Try.prog cx (σ.push false (.row [.agg [.str wk, .int .u64 n4, .str wv, .bool (!wg)]] 4 0 false)) [25, 25] R (.row (.st σ.st.length) 0 0 1) = some (.row (.st i) w 0 n, σ')) (hA : σ'.get (.hp b) = some (.cells [X])) (hro0 : cx.ro = none) (hi : σ'.st[i]? = some (.row es 4 w false)) :
    Pc Try.prog how cx [] 48 [33, 34, 35, 36, 37, 38, 39, 40, 41, 42, 43, 44, 45, 46, 47] (cr [.r, .r, .r, .r]) env σ (.normal) (AS.set (AS.mk (σ'.hp ++ [.row es 4 w false]) (σ'.st.set i .dead)) (.hp b) (.cells [.row (.hp σ'.hp.length) w 0 n])) (fun _ => True) := by
  refine pc_of fun res hr => ?_
  simp -implicitDefEqProofs [-lenA, -indexAddrA, AS.get_push_at, AS.get_push_old, AS.push_len, AS.set_st_len, AS.next_st', AS.set_push_at, AS.get_set_self, AS.get_set_other, cr, Try.f20, hlen, hcx, f0, f3, f4, f5, gw, hR1, hap, hA, hro0, hi, elemA] at hr
  subst hr
  refine ⟨_, rfl, by simp [hlen], by simp [Env.get_set, hlen, f0, f3, f4, f5, gw, hR1, hap, hA, hro0, hi, elemA], fun i hi => ?_⟩
  simp only [List.mem_cons, List.not_mem_nil, or_false, not_or] at hi
  simp only [get_set2, hi, false_and, if_false]

end
noncomputable def bodyC : Code := (.seq (cr [.l]) (.seq (cr [.r, .l]) (.seq (cr [.r, .r, .l]) (.seq (.seq (cr [.r, .r, .r, .l, .l]) (cr [.r, .r, .r, .l, .r])) (cr [.r, .r, .r, .r])))))
theorem body : Try.f20.body = some bodyC := by kernel_rfl
/-- What holds ahead of round k. -/
def J (h : Nat) (σ0 : AS) (a b : Nat) (n4 : Int) (X : AV) (S : List KeyD) (wk wv : ByteArray) (wg : Bool) (k : Nat) (env : Env) (σ : AS) : Prop :=
  Env.get env 0 = .ptr (.hp b) 0 ∧ Env.get env 3 = .ptr (.st a) 0 ∧ Env.get env 4 = .int .u64 n4 ∧ Env.get env 17 = X ∧ (∃ R0, Env.get env 5 = R0 ∧ Rows h σ [(4, R0, ((S.take k).filter (fun x => decide (x.1 ≠ wk))).map encK)]) ∧ (σ.get (.st a) = some (.cells [.str wk, .str wv, .bool wg])) ∧ Outside h σ0 σ
def Ex (h : Nat) (σ0 : AS) (a b : Nat) (n4 : Int) (X : AV) (S : List KeyD) (wk wv : ByteArray) (wg : Bool) (e : AExit) (env : Env) (σ : AS) : Prop := False
theorem J_stable {h : Nat} {σ0 : AS} {a b : Nat} {n4 : Int} {X : AV} {S : List KeyD} {wk wv : ByteArray} {wg : Bool} : ∀ k env env' σ, env.length = 48 → env'.length = 48 → (∀ i, i ≠ 20 → i ≠ 32 → i ≠ 19 → Env.get env' i = Env.get env i) → J h σ0 a b n4 X S wk wv wg k env σ → J h σ0 a b n4 X S wk wv wg k env' σ := by
  rintro k env env' σ _ _ hf ⟨j0, j3, j4, j17, ⟨R0, r0, hR⟩, q0, ho⟩
  exact ⟨(hf 0 (by decide) (by decide) (by decide)).trans j0, (hf 3 (by decide) (by decide) (by decide)).trans j3, (hf 4 (by decide) (by decide) (by decide)).trans j4, (hf 17 (by decide) (by decide) (by decide)).trans j17, ⟨R0, (hf 5 (by decide) (by decide) (by decide)).trans r0, hR⟩, q0, ho⟩
noncomputable def oT : Oper := (opsOf (cr [.r, .r, .r, .l, .r, .i, .i, .l])).headD default
noncomputable def oI : List Oper := opsOf (cr [.r, .r, .r, .l, .r, .i, .i, .r, .r, .r])
theorem loop_eq : (cr [.r, .r, .r, .l, .r]) = .block 0 (.loop (.seq (.region 4 #[oT] false) (.seq (.cond (.tmp 20) .skip (.exit 0)) (.seq (.block 1 (.seq (cr [.r, .r, .r, .l, .r, .i, .i, .r, .r, .l, .i, .l]) (cr [.r, .r, .r, .l, .r, .i, .i, .r, .r, .l, .i, .r]))) (.region 8 #[oI.headD default, (oI.drop 1).headD default] false))))) := by kernel_rfl
theorem step (cx : Cx) (hcx : cx.esc = []) (hro : ∀ k, cx.ro = some k → k ≤ cx.h) (σ0 : AS) (a b : Nat) (n4 : Int) (X : AV) (S : List KeyD) (wk wv : ByteArray) (wg : Bool) (hX : HRow σ0.hp X (S.map encK)) (hlen2 : S.length ≤ 1000) :
    ∀ k env σ, k < S.length → env.length = 48 → Env.get env 19 = .int .i64 (k : Int) → Env.get env 18 = .int .i64 ((S.length : Nat) : Int) → J cx.h σ0 a b n4 X S wk wv wg k env σ → ∃ e env' σ', execW Try.prog cx [] (callW Try.prog how) (.block 1 (.seq (cr [.r, .r, .r, .l, .r, .i, .i, .r, .r, .l, .i, .l]) (cr [.r, .r, .r, .l, .r, .i, .i, .r, .r, .l, .i, .r]))) (env, σ) = some (e, (env', σ')) ∧
      ((e = .normal ∧ env'.length = 48 ∧ Env.get env' 19 = .int .i64 (k : Int) ∧ Env.get env' 18 = .int .i64 ((S.length : Nat) : Int) ∧ J cx.h σ0 a b n4 X S wk wv wg (k + 1) env' σ') ∨ (e ≠ .normal ∧ Ex cx.h σ0 a b n4 X S wk wv wg e env' σ')) := by
  rintro k env σ hk hlen f19 f18 ⟨f0, f3, f4, f17, ⟨R0, f5, hR⟩, q0, ho⟩
  have hXσ : Rd Try.prog σ 25 49 X (S.map encK) := by have := hX.rd σ.st; rw [← ho.1] at this; exact this
  obtain ⟨p, hia, hpa⟩ := hXσ.2 k (encK S[k]) (get_el hk)
  obtain ⟨env1, x1a, x1b, x1c, x1d⟩ := rE cx env σ k X p (S[k].1) (S[k].2.1) (S[k].2.2.1) (S[k].2.2.2) hlen hcx f17 f19 hia hpa (wokst hro ho.2.2) ho.2.2
  have f0 := (x1d 0 (by decide)).trans f0
  have f3 := (x1d 3 (by decide)).trans f3
  have f4 := (x1d 4 (by decide)).trans f4
  have f5 := (x1d 5 (by decide)).trans f5
  have f17 := (x1d 17 (by decide)).trans f17
  have f18 := (x1d 18 (by decide)).trans f18
  have f19 := (x1d 19 (by decide)).trans f19
  have f7 := x1c
  have g1 : ((σ : AS).push false (.cells [.str S[k].1, .int .u64 S[k].2.1, .str S[k].2.2.1, .bool S[k].2.2.2])).get (.st (σ : AS).st.length) = some (.cells [.str S[k].1, .int .u64 S[k].2.1, .str S[k].2.2.1, .bool S[k].2.2.2]) := AS.get_push_at rfl
  have q0 := get_push' (ob' := .cells [.str S[k].1, .int .u64 S[k].2.1, .str S[k].2.2.1, .bool S[k].2.2.2]) q0
  have hR := hR.push (ob := .cells [.str S[k].1, .int .u64 S[k].2.1, .str S[k].2.2.1, .bool S[k].2.2.2])
  have ho := ho.push (ob := .cells [.str S[k].1, .int .u64 S[k].2.1, .str S[k].2.2.1, .bool S[k].2.2.2])
  generalize hib1 : (σ : AS).st.length = ib1 at g1 f7
  generalize (σ : AS).push false (.cells [.str S[k].1, .int .u64 S[k].2.1, .str S[k].2.2.1, .bool S[k].2.2.2]) = σ1 at x1a g1 q0 hR ho
  have hs := filter_succ (p := fun x : KeyD => decide (x.1 ≠ wk)) hk
  have hq := beqS_dec S[k].1 wk
  by_cases q : S[k].1 = wk
  · rw [decide_eq_true q] at hq
    rw [if_neg (by simpa using q), List.append_nil] at hs
    obtain ⟨env2, x2a, x2b, x2c, x2d⟩ := rN cx env1 σ1 a _ wk wv wg (S[k].1) (S[k].2.1) (S[k].2.2.1) (S[k].2.2.2) x1b hcx f3 f7 q0 g1 hq 
    have f0 := (x2d 0 (by decide)).trans f0
    have f3 := (x2d 3 (by decide)).trans f3
    have f4 := (x2d 4 (by decide)).trans f4
    have f5 := (x2d 5 (by decide)).trans f5
    have f7 := (x2d 7 (by decide)).trans f7
    have f17 := (x2d 17 (by decide)).trans f17
    have f18 := (x2d 18 (by decide)).trans f18
    have f19 := (x2d 19 (by decide)).trans f19
    exact ⟨.normal, env2, _, (execW_block_of (execW_seq_of x1a x2a)), .inl ⟨rfl, x2b, f19, f18, f0, f3, f4, f17, ⟨_, f5, (by rw [hs]; exact hR)⟩, q0, ho⟩⟩
  · rw [decide_eq_false q] at hq
    rw [if_pos (by simpa using q)] at hs
    obtain ⟨R2, τ2, y2a, y2b, y2c, y2d, y2e⟩ := append_one (cx := cx) (x := encK S[k]) (j := 0) app25 hR rfl (by rw [List.length_map]; exact Nat.le_trans (List.length_filter_le _ _) (by rw [List.length_take]; omega)) (by decide) hro ho.2.2
    obtain ⟨env2, x2a, x2b, x2c, x2d⟩ := rY cx env1 σ1 a _ wk wv wg (S[k].1) (S[k].2.1) (S[k].2.2.1) (S[k].2.2.2) R2 _ τ2 x1b hcx f3 f5 f7 q0 g1 hq y2a 
    have f0 := (x2d 0 (by decide)).trans f0
    have f3 := (x2d 3 (by decide)).trans f3
    have f4 := (x2d 4 (by decide)).trans f4
    have f7 := (x2d 7 (by decide)).trans f7
    have f17 := (x2d 17 (by decide)).trans f17
    have f18 := (x2d 18 (by decide)).trans f18
    have f19 := (x2d 19 (by decide)).trans f19
    have f5 := x2c
    have hR := y2c
    have ho := y2e _ ho
    have q0 := y2d _ _ q0
    have g1 := y2d _ _ g1
    exact ⟨.normal, env2, _, (execW_block_of (execW_seq_of x1a x2a)), .inl ⟨rfl, x2b, f19, f18, f0, f3, f4, f17, ⟨_, f5, (by rw [hs, List.map_append]; exact hR)⟩, q0, ho⟩⟩
theorem loop (cx : Cx) (hcx : cx.esc = []) (hro : ∀ k, cx.ro = some k → k ≤ cx.h) (σ0 : AS) (a b : Nat) (n4 : Int) (X : AV) (S : List KeyD) (wk wv : ByteArray) (wg : Bool) (hX : HRow σ0.hp X (S.map encK)) (hlen2 : S.length ≤ 1000) (hnn : S.length ≤ 9223372036854775807) {env : Env} {σ : AS} (hl : env.length = 48) (h1 : Env.get env 19 = .int .i64 0) (h2 : Env.get env 18 = .int .i64 ((S.length : Nat) : Int)) (h0 : J cx.h σ0 a b n4 X S wk wv wg 0 env σ) :
    ∃ e env' σ', execW Try.prog cx [] (callW Try.prog how) (cr [.r, .r, .r, .l, .r]) (env, σ) = some (e, (env', σ')) ∧ ((e = .normal ∧ ((env'.length = 48 ∧ J cx.h σ0 a b n4 X S wk wv wg (S.length) env' σ') ∨ Ex cx.h σ0 a b n4 X S wk wv wg (.exit 0) env' σ')) ∨ (e ≠ .normal ∧ e ≠ .exit 0 ∧ Ex cx.h σ0 a b n4 X S wk wv wg e env' σ')) := by
  rw [loop_eq]
  exact range_std (Ex := Ex cx.h σ0 a b n4 X S wk wv wg) (N := 48) (tc := 20) (ti := 19) (tl := 18) (tx := 32) (ty1 := 3) (ty2 := 3) (ty3 := 3) (ty4 := 3) ⟨by kernel_rfl, by kernel_rfl, by kernel_rfl⟩ ⟨by kernel_rfl, by kernel_rfl, by kernel_rfl⟩ ⟨by kernel_rfl, by kernel_rfl, by kernel_rfl⟩ (by decide) hnn J_stable (step cx hcx hro σ0 a b n4 X S wk wv wg hX hlen2) hl h1 h2 h0
theorem ok (hp s : List AObj) (b : Nat) (X : AV) (S : List KeyD) (wk wv : ByteArray) (wg : Bool) (hA : hp[b]? = some (.cells [X])) (hX : HRow hp X (S.map encK)) (hlen2 : S.length ≤ 900) :
    ∃ hp', callW Try.prog how 20 [.ptr (.hp b) 0, .agg [.str wk, .str wv, .bool wg]] ⟨hp, s⟩ none = some (.tup [], ⟨hp', s⟩) ∧ SetR hp hp' b (putK S (wk, wv, wg)) := by
  let cx : Cx := { h := s.length, ro := none, esc := [] }
  have hcx : cx.esc = [] := rfl
  have hro : ∀ k, cx.ro = some k → k ≤ cx.h := fun k hk => by cases hk
  obtain ⟨env, henv⟩ : ∃ e, e = frameA Try.f20 [.ptr (.hp b) 0, .agg [.str wk, .str wv, .bool wg]] := ⟨_, rfl⟩
  have hlen : env.length = 48 := by rw [henv]; rfl
  have f0 : Env.get env 0 = .ptr (.hp b) 0 := by rw [henv]; rfl
  have f1 : Env.get env 1 = .agg [.str wk, .str wv, .bool wg] := by rw [henv]; rfl
  have ho : Outside s.length (AS.mk hp s) (AS.mk hp s) := Outside.refl (Nat.le_refl _)
  obtain ⟨env1, x1a, x1b, x1c, x1d⟩ := rA cx env (AS.mk hp s) hp s wk wv wg hlen hcx f1 rfl rfl (Nat.le_refl _) 
  have f0 := (x1d 0 (by decide)).trans f0
  have f1 := (x1d 1 (by decide)).trans f1
  have f3 := x1c
  have ga : (AS.mk hp (s ++ [AObj.cells [.str wk, .str wv, .bool wg]])).get (.st s.length) = some (.cells [.str wk, .str wv, .bool wg]) := by simp [AS.get]
  have ho : Outside s.length (AS.mk hp s) (AS.mk hp (s ++ [AObj.cells [.str wk, .str wv, .bool wg]])) := ⟨rfl, by simp, by simp⟩
  have h7 := F7.ok hp (s ++ [AObj.cells [.str wk, .str wv, .bool wg]]) none b wk X S (fun k hk => by cases hk) hA hX (by omega)
  obtain ⟨env2, x2a, x2b, x2c, x2d⟩ := rB cx env1 (AS.mk hp (s ++ [AObj.cells [.str wk, .str wv, .bool wg]])) s.length b wk wv wg _ _ _ _ x1b hcx f0 f3 ga h7 
  have f0 := (x2d 0 (by decide)).trans f0
  have f1 := (x2d 1 (by decide)).trans f1
  have f3 := (x2d 3 (by decide)).trans f3
  have f4 := x2c
  obtain ⟨env3, x3a, x3b, x3c, x3d⟩ := rC cx env2 (AS.mk hp (s ++ [AObj.cells [.str wk, .str wv, .bool wg]]))  x2b hcx   
  have f0 := (x3d 0 (by decide)).trans f0
  have f1 := (x3d 1 (by decide)).trans f1
  have f3 := (x3d 3 (by decide)).trans f3
  have f4 := (x3d 4 (by decide)).trans f4
  have f5 := x3c
  have hlx := (hX.rd (s ++ [AObj.cells [.str wk, .str wv, .bool wg]])).1
  rw [List.length_map] at hlx
  obtain ⟨env4, x4a, x4b, x4c, x4d⟩ := rD cx env3 (AS.mk hp (s ++ [AObj.cells [.str wk, .str wv, .bool wg]])) b S.length X x3b hcx f0 hA hlx 
  have f0 := (x4d 0 (by decide)).trans f0
  have f1 := (x4d 1 (by decide)).trans f1
  have f3 := (x4d 3 (by decide)).trans f3
  have f4 := (x4d 4 (by decide)).trans f4
  have f5 := (x4d 5 (by decide)).trans f5
  have f17 := x4c.1
  have f18 := x4c.2.1
  have f19 := x4c.2.2
  obtain ⟨e5, env5, σ5, x5a, x5p⟩ := loop cx hcx hro ⟨hp, s⟩ s.length b _ X S wk wv wg hX (by omega) (by omega) (σ := AS.mk hp (s ++ [AObj.cells [.str wk, .str wv, .bool wg]])) x4b f19 f18 (⟨f0, f3, f4, f17, ⟨.nils, f5, Rows0⟩, ga, ho⟩)
  rcases x5p with ⟨rfl, ⟨x5b, f0, f3, f4, f17, ⟨R0, f5, hR⟩, q0, ho⟩ | x5p⟩ | ⟨x5q, x5r, x5p⟩
  · skip
    rw [List.take_length] at hR
    obtain ⟨R9, τ, ya, yb, yc, yd, ye⟩ := append_one (cx := cx) (x := encK (wk, updV (ofK S wk) (wk, wv, wg))) (j := 0) app25 hR rfl (by rw [List.length_map]; exact Nat.le_trans (List.length_filter_le _ _) (by omega)) (by decide) hro ho.2.2
    have hR0 : R0.one = true := (hR.1 _ (List.mem_singleton_self _)).one
    have ho := ye _ ho
    have hes : (S.filter (fun x => decide (x.1 ≠ wk))).map encK ++ [encK (wk, updV (ofK S wk) (wk, wv, wg))] = (putK S (wk, wv, wg)).map encK := by simp [putK]
    have hB : Built s.length τ 4 R9 ((putK S (wk, wv, wg)).map encK) := by rw [← hes]; exact yc.1 _ (List.mem_singleton_self _)
    rcases hB with ⟨_, he⟩ | ⟨hn, im, w, hRe, hg, hi⟩
    · exact absurd he (by simp [putK])
    · skip
      subst hRe
      have hb : b < hp.length := (List.getElem?_eq_some_iff.1 hA).1
      have hhp : τ.hp = hp := ho.1
      have hAz : τ.get (.hp b) = some (.cells [X]) := by simp only [AS.get, hhp]; exact hA
      have htk : τ.st.take s.length = s := by rw [ho.2.1]; exact List.take_length
      have hi : s.length ≤ im := hi
      have hg2 : τ.st[im]? = _ := hg
      obtain ⟨env6, x6a, x6b, x6c, x6d⟩ := rZ cx env5 σ5 s.length b im w (((putK S (wk, wv, wg)).map encK).length) _ (((putK S (wk, wv, wg)).map encK)) R0 X wk wv wg τ x5b hcx f0 f3 f4 f5 q0 hR0 ya hAz rfl hg2 
      have f0 := (x6d 0 (by decide)).trans f0
      have f3 := (x6d 3 (by decide)).trans f3
      have f4 := (x6d 4 (by decide)).trans f4
      have f5 := (x6d 5 (by decide)).trans f5
      have f17 := (x6d 17 (by decide)).trans f17
      refine ⟨(τ.hp ++ [(AObj.row ((putK S (wk, wv, wg)).map encK) 4 w false)]).set b (.cells [.row (.hp τ.hp.length) w 0 ((putK S (wk, wv, wg)).map encK).length]), call_of (fl := {}) (fn := Try.f20) (c := bodyC) (env := env) (e := (.normal, (env6, AS.set (AS.mk (τ.hp ++ [(AObj.row ((putK S (wk, wv, wg)).map encK) 4 w false)]) (τ.st.set im .dead)) (.hp b) (.cells [.row (.hp τ.hp.length) w 0 ((putK S (wk, wv, wg)).map encK).length])))) rfl Try.func20 body henv (by unfold bodyC; exact (execW_seq_of x1a (execW_seq_of x2a (execW_seq_of x3a (execW_seq_of (execW_seq_of x4a x5a) x6a))))) ((fin_none (.inr rfl) rfl rfl).trans (by simp only [AS.set, List.take_set_of_le hi, htk])), by simp [hhp], fun i hi hlt => by rw [hhp, List.getElem?_set_ne (fun e => hi e.symm), List.getElem?_append_left hlt], .row (.hp τ.hp.length) w 0 ((putK S (wk, wv, wg)).map encK).length, by rw [hhp, List.getElem?_set_self (by simp; omega)], .inr ⟨τ.hp.length, w, false, rfl, ?_⟩⟩
      rw [hhp, List.getElem?_set_ne (by omega), List.getElem?_append_right (Nat.le_refl _)]; simp
  · cases x5p
  · cases x5p
end F20
