/- The document's versions of a key. -/

import Derived.Test.YtajoebiaopapoaaCl
open Go Go.Abs Go.Proofs
set_option maxRecDepth 100000
set_option maxHeartbeats 4000000
set_option linter.unusedSimpArgs false
set_option linter.unusedVariables false

/-- A row of the document's space; a slice of such in the heap. -/
abbrev Rw := ByteArray × List Vn
def encRow (r : Rw) : AV := .agg [.str r.1, slV 4 (r.2.map encVn)]
def HRow (hp : List AObj) (X : AV) (l : List AV) : Prop := (X = .nils ∧ l = []) ∨ (∃ j w f, X = .row (.hp j) w 0 l.length ∧ hp[j]? = some (.row l 2 w f))
theorem el36 (r : Rw) : partA Try.prog 36 (encRow r).cells 0 = some (encRow r) := by simp [partA, aggA, isAggD, AV.cells, encRow]
theorem HRow.rd {hp : List AObj} {X : AV} {S : List Rw} (h : HRow hp X (S.map encRow)) (st : List AObj) : Rd Try.prog ⟨hp, st⟩ 26 36 X (S.map encRow) := by
  have he : ∀ c ∈ S.map encRow, partA Try.prog 36 c.cells 0 = some c := by
    intro c hc
    obtain ⟨r, _, rfl⟩ := List.mem_map.1 hc
    exact el36 r
  rcases h with ⟨rfl, h⟩ | ⟨j, w, f, rfl, hj⟩
  · rw [h]
    exact rd_slV (sz := 2) (l := []) Try.underlying26 s36 (by decide) (fun c hc => by cases hc)
  · exact rd_row Try.underlying26 s36 (by decide) (show (AS.mk hp st).get (.hp j) = _ from hj) he
theorem HRow.one {hp : List AObj} {X : AV} {l : List AV} (h : HRow hp X l) : X.one = true := by rcases h with ⟨rfl, _⟩ | ⟨_, _, _, rfl, _⟩ <;> rfl
theorem HRow.inb {hp : List AObj} {X : AV} {l : List AV} (h : HRow hp X l) (n : Nat) : X.inb n = true := by rcases h with ⟨rfl, _⟩ | ⟨_, _, _, rfl, _⟩ <;> rfl
def ofS (S : List Rw) (key : ByteArray) : List Vn := match S.find? (fun r => decide (r.1 = key)) with
  | some r => r.2
  | none => []
theorem ofS_at {S : List Rw} {key : ByteArray} {k : Nat} (hk : k < S.length) (h1 : ∀ r ∈ S.take k, r.1 ≠ key) (h2 : S[k].1 = key) : ofS S key = S[k].2 := by
  unfold ofS
  have hd : S.drop k = S[k] :: S.drop (k + 1) := List.drop_eq_getElem_cons hk
  obtain ⟨x, hx⟩ : ∃ x, x = S[k] := ⟨_, rfl⟩
  rw [← hx] at h2 hd ⊢
  have e : S.find? (fun r => decide (r.1 = key)) = some x := by
    have e1 : (S.take k).find? (fun r => decide (r.1 = key)) = none := by
      rw [List.find?_eq_none]
      intro r hr
      simpa using h1 r hr
    rw [← List.take_append_drop k S, List.find?_append, e1, hd, List.find?_cons_of_pos (by simpa using h2)]
    rfl
  rw [e]
theorem ofS_none {S : List Rw} {key : ByteArray} (h : ∀ r ∈ S, r.1 ≠ key) : ofS S key = [] := by
  unfold ofS
  have e : S.find? (fun r => decide (r.1 = key)) = none := by
    rw [List.find?_eq_none]
    intro r hr
    simpa using h r hr
  rw [e]
namespace F31
noncomputable def cr (p : List Dir) : Code := sub p (bodyOf Try.f31)

section
attribute [local simp] ofV ofCell ofCells seqA_nil seqA_cons seqVK_eq seqEK_eq wantedA yieldedA isVal effA ev evs evps putE optsA optsOk valA fieldAddrA fieldA loadA partA aggA isAggD buildA placesA fillA lay storeA AV.withCells buildSliceA elemsA rowParts fzL promL okE isSrc bytesOk pushA cxOf lenA binA intBinA strBinA unA indexAddrA eqA AVs.inb AV.inb Loc.inb calleeA opsOf sub bodyOf Env.get_set quietA_nil quietA_cons quietK_none quietK_some qstep newA isNew escNew boxOk newLoc flat rowPartsQ quietN quietOp isBS List.takeWhile finishA_eq finK_ret finK_normal retK backK resA oneA AV.back AVs.back execW_seq_eq seqK_normal seqK_ret seqK_exit execW_cond_eq condK_true condK_false execW_block_eq blockK_exit blockK_normal blockK_ret execW_region_eq regK_eq execW_skip execW_exit execW_ret regionA_plain regionA_quiet0 tailK_eq nilCheckA guardOk isConst lookupA keyFits mapUpdateA beqI bneI
theorem rA (cx : Cx) (env : Env) (σ : AS)  (hlen : env.length = 23) (hcx : cx.esc = [])  :
    Pc Try.prog how cx [] 23 [4] (cr [.l]) env σ (.normal) (σ) (fun env' => Env.get env' 4 = .nils) := by
  refine pc_of fun res hr => ?_
  simp -implicitDefEqProofs [-lenA, -indexAddrA, AS.get_push_at, AS.get_push_old, AS.push_len, AS.set_st_len, AS.next_st', AS.set_push_at, AS.get_set_self, AS.get_set_other, cr, Try.f31, hlen, hcx] at hr
  subst hr
  refine ⟨_, rfl, by simp [hlen], by simp [Env.get_set, hlen], fun i hi => ?_⟩
  simp only [List.mem_cons, List.not_mem_nil, or_false, not_or] at hi
  simp only [get_set2, hi, false_and, if_false]

theorem rB (cx : Cx) (env : Env) (σ : AS) (b n : Nat) (X : AV) (hlen : env.length = 23) (hcx : cx.esc = []) (f0 : Env.get env 0 = .ptr (.hp b) 0) (hA : σ.get (.hp b) = some (.cells [X])) (hX : lenA Try.prog σ 26 X = some n) :
    Pc Try.prog how cx [] 23 [7, 8, 9, 10, 11, 12] (cr [.r, .l, .l]) env σ (.normal) (σ) (fun env' => Env.get env' 10 = X ∧ Env.get env' 11 = .int .i64 (n : Int) ∧ Env.get env' 12 = .int .i64 0) := by
  refine pc_of fun res hr => ?_
  simp -implicitDefEqProofs [-lenA, -indexAddrA, AS.get_push_at, AS.get_push_old, AS.push_len, AS.set_st_len, AS.next_st', AS.set_push_at, AS.get_set_self, AS.get_set_other, cr, Try.f31, hlen, hcx, f0, hA, hX] at hr
  subst hr
  refine ⟨_, rfl, by simp [hlen], by simp [Env.get_set, hlen, f0, hA, hX], fun i hi => ?_⟩
  simp only [List.mem_cons, List.not_mem_nil, or_false, not_or] at hi
  simp only [get_set2, hi, false_and, if_false]

theorem rE (cx : Cx) (env : Env) (σ : AS) (k : Nat) (X p Y : AV) (k0 : ByteArray) (hlen : env.length = 23) (hcx : cx.esc = []) (f10 : Env.get env 10 = X) (f12 : Env.get env 12 = .int .i64 (k : Int)) (hia : indexAddrA Try.prog σ 26 X (.int .i64 (k : Int)) = some p) (hpa : loadA Try.prog σ 36 p = some (.agg [.str k0, Y])) (hY : Plain Y) (hw : wok cx.ro (.st σ.st.length) = true) (hh : cx.h ≤ σ.st.length) :
    Pc Try.prog how cx [] 23 [6, 14, 15] (cr [.r, .l, .r, .i, .i, .r, .r, .l, .i, .l]) env σ (.normal) (σ.push false (.cells [.str k0, Y])) (fun env' => Env.get env' 6 = .ptr (.st σ.st.length) 0) := by
  refine pc_of fun res hr => ?_
  simp -implicitDefEqProofs [-lenA, -indexAddrA, -loadA, AS.get_push_at, AS.get_push_old, AS.push_len, AS.set_st_len, AS.next_st', AS.set_push_at, AS.get_set_self, AS.get_set_other, cr, Try.f31, hlen, hcx, f10, f12, hia, hpa, hY.one, hY.inb, hY.row, hw, hh] at hr
  subst hr
  refine ⟨_, rfl, by simp [hlen], by simp [Env.get_set, hlen, f10, f12, hia, hpa, hY.one, hY.inb, hY.row, hw, hh], fun i hi => ?_⟩
  simp only [List.mem_cons, List.not_mem_nil, or_false, not_or] at hi
  simp only [get_set2, hi, false_and, if_false]

theorem rN (cx : Cx) (env : Env) (σ : AS) (c : Nat) (Y : AV) (k0 key : ByteArray) (hlen : env.length = 23) (hcx : cx.esc = []) (f1 : Env.get env 1 = .str key) (f6 : Env.get env 6 = .ptr (.st c) 0) (gc : σ.get (.st c) = some (.cells [.str k0, Y])) (hq : beqS k0 key = false) :
    Pc Try.prog how cx [] 23 [16, 17, 18, 19] (cr [.r, .l, .r, .i, .i, .r, .r, .l, .i, .r]) env σ (.normal) (σ) (fun _ => True) := by
  refine pc_of fun res hr => ?_
  simp -implicitDefEqProofs [-lenA, -indexAddrA, AS.get_push_at, AS.get_push_old, AS.push_len, AS.set_st_len, AS.next_st', AS.set_push_at, AS.get_set_self, AS.get_set_other, cr, Try.f31, hlen, hcx, f1, f6, gc, hq] at hr
  subst hr
  refine ⟨_, rfl, by simp [hlen], by simp [Env.get_set, hlen, f1, f6, gc, hq], fun i hi => ?_⟩
  simp only [List.mem_cons, List.not_mem_nil, or_false, not_or] at hi
  simp only [get_set2, hi, false_and, if_false]

theorem rY (cx : Cx) (env : Env) (σ : AS) (c : Nat) (Y : AV) (k0 key : ByteArray) (hlen : env.length = 23) (hcx : cx.esc = []) (f1 : Env.get env 1 = .str key) (f6 : Env.get env 6 = .ptr (.st c) 0) (gc : σ.get (.st c) = some (.cells [.str k0, Y])) (hq : beqS k0 key = true) :
    Pc Try.prog how cx [] 23 [4, 16, 17, 18, 19, 20, 21] (cr [.r, .l, .r, .i, .i, .r, .r, .l, .i, .r]) env σ (.ret) (σ) (fun env' => Env.get env' 4 = Y) := by
  refine pc_of fun res hr => ?_
  simp -implicitDefEqProofs [-lenA, -indexAddrA, AS.get_push_at, AS.get_push_old, AS.push_len, AS.set_st_len, AS.next_st', AS.set_push_at, AS.get_set_self, AS.get_set_other, cr, Try.f31, hlen, hcx, f1, f6, gc, hq] at hr
  subst hr
  refine ⟨_, rfl, by simp [hlen], by simp [Env.get_set, hlen, f1, f6, gc, hq], fun i hi => ?_⟩
  simp only [List.mem_cons, List.not_mem_nil, or_false, not_or] at hi
  simp only [get_set2, hi, false_and, if_false]

theorem rD (cx : Cx) (env : Env) (σ : AS)  (hlen : env.length = 23) (hcx : cx.esc = [])  :
    Pc Try.prog how cx [] 23 [4] (cr [.r, .r, .l]) env σ (.normal) (σ) (fun env' => Env.get env' 4 = .nils) := by
  refine pc_of fun res hr => ?_
  simp -implicitDefEqProofs [-lenA, -indexAddrA, AS.get_push_at, AS.get_push_old, AS.push_len, AS.set_st_len, AS.next_st', AS.set_push_at, AS.get_set_self, AS.get_set_other, cr, Try.f31, hlen, hcx] at hr
  subst hr
  refine ⟨_, rfl, by simp [hlen], by simp [Env.get_set, hlen], fun i hi => ?_⟩
  simp only [List.mem_cons, List.not_mem_nil, or_false, not_or] at hi
  simp only [get_set2, hi, false_and, if_false]

end
noncomputable def bodyC : Code := (.seq (cr [.l]) (.seq (.seq (cr [.r, .l, .l]) (cr [.r, .l, .r])) (.seq (cr [.r, .r, .l]) .ret)))
theorem body : Try.f31.body = some bodyC := by kernel_rfl
/-- What holds ahead of round k. -/
def J (h : Nat) (σ0 : AS) (key : ByteArray) (X : AV) (S : List Rw) (k : Nat) (env : Env) (σ : AS) : Prop :=
  Env.get env 1 = .str key ∧ Env.get env 10 = X ∧ (∀ r ∈ S.take k, r.1 ≠ key) ∧ Outside h σ0 σ
def Ex (h : Nat) (σ0 : AS) (key : ByteArray) (X : AV) (S : List Rw) (e : AExit) (env : Env) (σ : AS) : Prop := e = .ret ∧ Env.get env 4 = slV 4 ((ofS S key).map encVn) ∧ Outside h σ0 σ ∧ env.length = 23
theorem J_stable {h : Nat} {σ0 : AS} {key : ByteArray} {X : AV} {S : List Rw} : ∀ k env env' σ, env.length = 23 → env'.length = 23 → (∀ i, i ≠ 13 → i ≠ 22 → i ≠ 12 → Env.get env' i = Env.get env i) → J h σ0 key X S k env σ → J h σ0 key X S k env' σ := by
  rintro k env env' σ _ _ hf ⟨j1, j10, q0, ho⟩
  exact ⟨(hf 1 (by decide) (by decide) (by decide)).trans j1, (hf 10 (by decide) (by decide) (by decide)).trans j10, q0, ho⟩
noncomputable def oT : Oper := (opsOf (cr [.r, .l, .r, .i, .i, .l])).headD default
noncomputable def oI : List Oper := opsOf (cr [.r, .l, .r, .i, .i, .r, .r, .r])
theorem loop_eq : (cr [.r, .l, .r]) = .block 0 (.loop (.seq (.region 2 #[oT] false) (.seq (.cond (.tmp 13) .skip (.exit 0)) (.seq (.block 1 (.seq (cr [.r, .l, .r, .i, .i, .r, .r, .l, .i, .l]) (cr [.r, .l, .r, .i, .i, .r, .r, .l, .i, .r]))) (.region 6 #[oI.headD default, (oI.drop 1).headD default] false))))) := by kernel_rfl
theorem step (cx : Cx) (hcx : cx.esc = []) (hro : ∀ k, cx.ro = some k → k ≤ cx.h) (σ0 : AS) (key : ByteArray) (X : AV) (S : List Rw) (hX : HRow σ0.hp X (S.map encRow)) :
    ∀ k env σ, k < S.length → env.length = 23 → Env.get env 12 = .int .i64 (k : Int) → Env.get env 11 = .int .i64 ((S.length : Nat) : Int) → J cx.h σ0 key X S k env σ → ∃ e env' σ', execW Try.prog cx [] (callW Try.prog how) (.block 1 (.seq (cr [.r, .l, .r, .i, .i, .r, .r, .l, .i, .l]) (cr [.r, .l, .r, .i, .i, .r, .r, .l, .i, .r]))) (env, σ) = some (e, (env', σ')) ∧
      ((e = .normal ∧ env'.length = 23 ∧ Env.get env' 12 = .int .i64 (k : Int) ∧ Env.get env' 11 = .int .i64 ((S.length : Nat) : Int) ∧ J cx.h σ0 key X S (k + 1) env' σ') ∨ (e ≠ .normal ∧ Ex cx.h σ0 key X S e env' σ')) := by
  rintro k env σ hk hlen f12 f11 ⟨f1, f10, q0, ho⟩
  have hXσ : Rd Try.prog σ 26 36 X (S.map encRow) := by have := hX.rd σ.st; rw [← ho.1] at this; exact this
  obtain ⟨p, hia, hpa⟩ := hXσ.2 k (encRow S[k]) (by rw [List.getElem?_map, List.getElem?_eq_getElem hk]; rfl)
  obtain ⟨env1, x1a, x1b, x1c, x1d⟩ := rE cx env σ k X p (slV 4 (S[k].2.map encVn)) (S[k].1) hlen hcx f10 f12 hia hpa slV_plain (wokst hro ho.2.2) ho.2.2
  have f1 := (x1d 1 (by decide)).trans f1
  have f10 := (x1d 10 (by decide)).trans f10
  have f11 := (x1d 11 (by decide)).trans f11
  have f12 := (x1d 12 (by decide)).trans f12
  have f6 := x1c
  have g1 : ((σ : AS).push false (.cells [.str S[k].1, slV 4 (S[k].2.map encVn)])).get (.st (σ : AS).st.length) = some (.cells [.str S[k].1, slV 4 (S[k].2.map encVn)]) := AS.get_push_at rfl
  have ho := ho.push (ob := .cells [.str S[k].1, slV 4 (S[k].2.map encVn)])
  generalize hib1 : (σ : AS).st.length = ib1 at g1 f6
  generalize (σ : AS).push false (.cells [.str S[k].1, slV 4 (S[k].2.map encVn)]) = σ1 at x1a g1 ho
  have hq := beqS_dec S[k].1 key
  by_cases q : S[k].1 = key
  · rw [decide_eq_true q] at hq
    obtain ⟨env2, x2a, x2b, x2c, x2d⟩ := rY cx env1 σ1 _ _ (S[k].1) key x1b hcx f1 f6 g1 hq 
    have f1 := (x2d 1 (by decide)).trans f1
    have f6 := (x2d 6 (by decide)).trans f6
    have f10 := (x2d 10 (by decide)).trans f10
    have f11 := (x2d 11 (by decide)).trans f11
    have f12 := (x2d 12 (by decide)).trans f12
    have f4 := x2c
    exact ⟨.ret, env2, _, (block_exit (execW_seq_of x1a x2a) (by simp)), .inr ⟨by simp, rfl, (by rw [ofS_at hk q0 q]; exact f4), ho, x2b⟩⟩
  · rw [decide_eq_false q] at hq
    obtain ⟨env2, x2a, x2b, x2c, x2d⟩ := rN cx env1 σ1 _ _ (S[k].1) key x1b hcx f1 f6 g1 hq 
    have f1 := (x2d 1 (by decide)).trans f1
    have f6 := (x2d 6 (by decide)).trans f6
    have f10 := (x2d 10 (by decide)).trans f10
    have f11 := (x2d 11 (by decide)).trans f11
    have f12 := (x2d 12 (by decide)).trans f12
    exact ⟨.normal, env2, _, (execW_block_of (execW_seq_of x1a x2a)), .inl ⟨rfl, x2b, f12, f11, f1, f10, (fun r hr => by rw [List.take_succ_eq_append_getElem hk, List.mem_append] at hr; rcases hr with hr | hr; exact q0 r hr; rw [List.mem_singleton] at hr; subst hr; exact q), ho⟩⟩
theorem loop (cx : Cx) (hcx : cx.esc = []) (hro : ∀ k, cx.ro = some k → k ≤ cx.h) (σ0 : AS) (key : ByteArray) (X : AV) (S : List Rw) (hX : HRow σ0.hp X (S.map encRow)) (hnn : S.length ≤ 9223372036854775807) {env : Env} {σ : AS} (hl : env.length = 23) (h1 : Env.get env 12 = .int .i64 0) (h2 : Env.get env 11 = .int .i64 ((S.length : Nat) : Int)) (h0 : J cx.h σ0 key X S 0 env σ) :
    ∃ e env' σ', execW Try.prog cx [] (callW Try.prog how) (cr [.r, .l, .r]) (env, σ) = some (e, (env', σ')) ∧ ((e = .normal ∧ ((env'.length = 23 ∧ J cx.h σ0 key X S (S.length) env' σ') ∨ Ex cx.h σ0 key X S (.exit 0) env' σ')) ∨ (e ≠ .normal ∧ e ≠ .exit 0 ∧ Ex cx.h σ0 key X S e env' σ')) := by
  rw [loop_eq]
  exact range_std (Ex := Ex cx.h σ0 key X S) (N := 23) (tc := 13) (ti := 12) (tl := 11) (tx := 22) (ty1 := 3) (ty2 := 3) (ty3 := 3) (ty4 := 3) ⟨by kernel_rfl, by kernel_rfl, by kernel_rfl⟩ ⟨by kernel_rfl, by kernel_rfl, by kernel_rfl⟩ ⟨by kernel_rfl, by kernel_rfl, by kernel_rfl⟩ (by decide) hnn J_stable (step cx hcx hro σ0 key X S hX) hl h1 h2 h0
theorem ok (hp s : List AObj) (ro : Option Nat) (b : Nat) (key : ByteArray) (X : AV) (S : List Rw) (hro' : ∀ k, ro = some k → k ≤ s.length) (hA : hp[b]? = some (.cells [X])) (hX : HRow hp X (S.map encRow)) (hlen2 : S.length ≤ 1000) :
    callW Try.prog how 31 [.ptr (.hp b) 0, .str key] ⟨hp, s⟩ ro = some (slV 4 ((ofS S key).map encVn), ⟨hp, s⟩) := by
  let cx : Cx := { h := s.length, ro := ro, esc := [] }
  have hcx : cx.esc = [] := rfl
  have hro : ∀ k, cx.ro = some k → k ≤ cx.h := hro'
  obtain ⟨env, henv⟩ : ∃ e, e = frameA Try.f31 [.ptr (.hp b) 0, .str key] := ⟨_, rfl⟩
  have hlen : env.length = 23 := by rw [henv]; rfl
  have f0 : Env.get env 0 = .ptr (.hp b) 0 := by rw [henv]; rfl
  have f1 : Env.get env 1 = .str key := by rw [henv]; rfl
  have ho : Outside s.length (AS.mk hp s) (AS.mk hp s) := Outside.refl (Nat.le_refl _)
  obtain ⟨env1, x1a, x1b, x1c, x1d⟩ := rA cx env (AS.mk hp s)  hlen hcx   
  have f0 := (x1d 0 (by decide)).trans f0
  have f1 := (x1d 1 (by decide)).trans f1
  have f4 := x1c
  have hlx := (hX.rd s).1
  rw [List.length_map] at hlx
  obtain ⟨env2, x2a, x2b, x2c, x2d⟩ := rB cx env1 (AS.mk hp s) b S.length X x1b hcx f0 hA hlx 
  have f0 := (x2d 0 (by decide)).trans f0
  have f1 := (x2d 1 (by decide)).trans f1
  have f4 := (x2d 4 (by decide)).trans f4
  have f10 := x2c.1
  have f11 := x2c.2.1
  have f12 := x2c.2.2
  obtain ⟨e3, env3, σ3, x3a, x3p⟩ := loop cx hcx hro ⟨hp, s⟩ key X S hX (by omega) (σ := AS.mk hp s) x2b f12 f11 (⟨f1, f10, fun r hr => by simp at hr, ho⟩)
  rcases x3p with ⟨rfl, ⟨x3b, f1, f10, q0, ho⟩ | x3p⟩ | ⟨x3q, x3r, x3p⟩
  · skip
    rw [List.take_length] at q0
    rw [ofS_none q0]
    show _ = some (AV.nils, _)
    obtain ⟨env4, x4a, x4b, x4c, x4d⟩ := rD cx env3 σ3  x3b hcx   
    have f1 := (x4d 1 (by decide)).trans f1
    have f10 := (x4d 10 (by decide)).trans f10
    have f4 := x4c
    exact call_of (fl := {}) (fn := Try.f31) (c := bodyC) (env := env) (e := (.ret, (env4, σ3))) rfl Try.func31 body henv (by unfold bodyC; exact (execW_seq_of x1a (execW_seq_of (execW_seq_of x2a x3a) (execW_seq_of x4a (by rfl))))) ((fin_tmp (k := 4) (.inl rfl) rfl rfl f4 (by simp [AV.back]) (by simp [AV.inb])).trans (congrArg (fun x => some (_, x)) (outside_st ho)))
  · cases x3p.1
  · obtain ⟨rfl, f4, ho, x3b⟩ := x3p
    exact call_of (fl := {}) (fn := Try.f31) (c := bodyC) (env := env) (e := (.ret, (env3, σ3))) rfl Try.func31 body henv (by unfold bodyC; exact (execW_seq_of x1a (execW_seq_ret (execW_seq_of x2a x3a)))) ((fin_tmp (k := 4) (.inl rfl) rfl rfl f4 (by exact slV_back) (by exact slV_inb _)).trans (congrArg (fun x => some (_, x)) (outside_st ho)))
end F31
