/- Whether a byte may stand in a key, in the program. -/

import Derived.Test.YtajoebiaopapoaaCb
open Go Go.Abs Go.Proofs
set_option maxRecDepth 100000
set_option maxHeartbeats 4000000
set_option linter.unusedSimpArgs false
set_option linter.unusedVariables false

namespace F63
noncomputable def cr (p : List Dir) : Code := sub p (bodyOf Try.f63)

section
attribute [local simp] ofV ofCell ofCells seqA_nil seqA_cons seqVK_eq seqEK_eq wantedA yieldedA isVal effA ev evs evps putE optsA optsOk valA fieldAddrA fieldA loadA partA aggA isAggD buildA placesA fillA lay storeA AV.withCells buildSliceA elemsA rowParts fzL promL okE isSrc bytesOk pushA cxOf lenA binA intBinA strBinA unA indexAddrA eqA AVs.inb AV.inb Loc.inb calleeA opsOf sub bodyOf Env.get_set quietA_nil quietA_cons quietK_none quietK_some qstep newA isNew escNew boxOk newLoc flat rowPartsQ quietN quietOp isBS List.takeWhile finishA_eq finK_ret finK_normal retK backK resA oneA AV.back AVs.back execW_seq_eq seqK_normal seqK_ret seqK_exit execW_cond_eq condK_true condK_false execW_block_eq blockK_exit blockK_normal blockK_ret execW_region_eq regK_eq execW_skip execW_exit execW_ret regionA_plain regionA_quiet0 tailK_eq nilCheckA guardOk isConst lookupA keyFits mapUpdateA beqI bneI
theorem rA (cx : Cx) (env : Env) (σ : AS)  (hlen : env.length = 21) (hcx : cx.esc = [])  :
    Pc Try.prog how cx [] 21 [4] (cr [.l]) env σ (.normal) (σ) (fun env' => Env.get env' 4 = .bool false) := by
  refine pc_of fun res hr => ?_
  simp -implicitDefEqProofs [AS.get_push_at, AS.get_push_old, AS.push_len, AS.set_st_len, AS.next_st', AS.set_push_at, AS.get_set_self, AS.get_set_other, cr, Try.f63, hlen, hcx] at hr
  subst hr
  refine ⟨_, rfl, by simp [hlen], by simp [Env.get_set, hlen], fun i hi => ?_⟩
  simp only [List.mem_cons, List.not_mem_nil, or_false, not_or] at hi
  simp only [get_set2, hi, false_and, if_false]

theorem rB (cx : Cx) (env : Env) (σ : AS) (s : ByteArray) (hlen : env.length = 21) (hcx : cx.esc = []) (f0 : Env.get env 0 = .str s) :
    Pc Try.prog how cx [] 21 [6, 7, 8] (cr [.r, .l, .l]) env σ (.normal) (σ) (fun env' => Env.get env' 7 = .int .i64 (s.size : Int) ∧ Env.get env' 8 = .int .i64 0) := by
  refine pc_of fun res hr => ?_
  simp -implicitDefEqProofs [AS.get_push_at, AS.get_push_old, AS.push_len, AS.set_st_len, AS.next_st', AS.set_push_at, AS.get_set_self, AS.get_set_other, cr, Try.f63, hlen, hcx, f0] at hr
  subst hr
  refine ⟨_, rfl, by simp [hlen], by simp [Env.get_set, hlen, f0], fun i hi => ?_⟩
  simp only [List.mem_cons, List.not_mem_nil, or_false, not_or] at hi
  simp only [get_set2, hi, false_and, if_false]

theorem rE (cx : Cx) (env : Env) (σ : AS) (k : Nat) (hlen : env.length = 21) (hcx : cx.esc = []) (f8 : Env.get env 8 = .int .i64 (k : Int)) :
    Pc Try.prog how cx [] 21 [5, 10] (cr [.r, .l, .r, .i, .i, .r, .r, .l, .i, .l]) env σ (.normal) (σ) (fun env' => Env.get env' 5 = .int .i64 (k : Int)) := by
  refine pc_of fun res hr => ?_
  simp -implicitDefEqProofs [AS.get_push_at, AS.get_push_old, AS.push_len, AS.set_st_len, AS.next_st', AS.set_push_at, AS.get_set_self, AS.get_set_other, cr, Try.f63, hlen, hcx, f8] at hr
  subst hr
  refine ⟨_, rfl, by simp [hlen], by simp [Env.get_set, hlen, f8], fun i hi => ?_⟩
  simp only [List.mem_cons, List.not_mem_nil, or_false, not_or] at hi
  simp only [get_set2, hi, false_and, if_false]

theorem rX (cx : Cx) (env : Env) (σ : AS) (s : ByteArray) (k : Nat) (b : Int) (hlen : env.length = 21) (hcx : cx.esc = []) (f0 : Env.get env 0 = .str s) (f5 : Env.get env 5 = .int .i64 (k : Int)) (hb : indexA Try.prog 9 (.str s) (.int .i64 (k : Int)) = some (.int .u8 b)) (hc : callW Try.prog how 84 [.int .u8 b] σ cx.ro = some (.bool true, σ)) :
    Pc Try.prog how cx [] 21 [4, 11, 12, 13, 14, 15] (cr [.r, .l, .r, .i, .i, .r, .r, .l, .i, .r]) env σ (.normal) (σ) (fun _ => True) := by
  refine pc_of fun res hr => ?_
  simp -implicitDefEqProofs [AS.get_push_at, AS.get_push_old, AS.push_len, AS.set_st_len, AS.next_st', AS.set_push_at, AS.get_set_self, AS.get_set_other, cr, Try.f63, hlen, hcx, f0, f5, hb, hc] at hr
  subst hr
  refine ⟨_, rfl, by simp [hlen], by simp [Env.get_set, hlen, f0, f5, hb, hc], fun i hi => ?_⟩
  simp only [List.mem_cons, List.not_mem_nil, or_false, not_or] at hi
  simp only [get_set2, hi, false_and, if_false]

theorem rY (cx : Cx) (env : Env) (σ : AS) (s : ByteArray) (k : Nat) (b : Int) (hlen : env.length = 21) (hcx : cx.esc = []) (f0 : Env.get env 0 = .str s) (f5 : Env.get env 5 = .int .i64 (k : Int)) (hb : indexA Try.prog 9 (.str s) (.int .i64 (k : Int)) = some (.int .u8 b)) (hc : callW Try.prog how 84 [.int .u8 b] σ cx.ro = some (.bool false, σ)) :
    Pc Try.prog how cx [] 21 [4, 11, 12, 13, 14, 15] (cr [.r, .l, .r, .i, .i, .r, .r, .l, .i, .r]) env σ (.ret) (σ) (fun env' => Env.get env' 4 = .bool false) := by
  refine pc_of fun res hr => ?_
  simp -implicitDefEqProofs [AS.get_push_at, AS.get_push_old, AS.push_len, AS.set_st_len, AS.next_st', AS.set_push_at, AS.get_set_self, AS.get_set_other, cr, Try.f63, hlen, hcx, f0, f5, hb, hc] at hr
  subst hr
  refine ⟨_, rfl, by simp [hlen], by simp [Env.get_set, hlen, f0, f5, hb, hc], fun i hi => ?_⟩
  simp only [List.mem_cons, List.not_mem_nil, or_false, not_or] at hi
  simp only [get_set2, hi, false_and, if_false]

theorem rD (cx : Cx) (env : Env) (σ : AS) (s : ByteArray) (m : Int) (hlen : env.length = 21) (hcx : cx.esc = []) (f0 : Env.get env 0 = .str s) (f1 : Env.get env 1 = .int .i64 m) :
    Pc Try.prog how cx [] 21 [4, 17, 18, 19, 20] (cr [.r, .r, .l]) env σ (.normal) (σ) (fun env' => Env.get env' 4 = .bool (decide ((s.size : Int) ≤ m))) := by
  refine pc_of fun res hr => ?_
  simp -implicitDefEqProofs [AS.get_push_at, AS.get_push_old, AS.push_len, AS.set_st_len, AS.next_st', AS.set_push_at, AS.get_set_self, AS.get_set_other, cr, Try.f63, hlen, hcx, f0, f1] at hr
  subst hr
  refine ⟨_, rfl, by simp [hlen], by simp [Env.get_set, hlen, f0, f1], fun i hi => ?_⟩
  simp only [List.mem_cons, List.not_mem_nil, or_false, not_or] at hi
  simp only [get_set2, hi, false_and, if_false]

end
/-- What holds ahead of round k. -/
def J (h : Nat) (σ0 : AS) (s : ByteArray) (m : Int) (k : Nat) (env : Env) (σ : AS) : Prop :=
  Env.get env 0 = .str s ∧ Env.get env 1 = .int .i64 m ∧ (((bytesI s).take k).all signI = true) ∧ σ = σ0
def Ex (h : Nat) (σ0 : AS) (s : ByteArray) (m : Int) (e : AExit) (env : Env) (σ : AS) : Prop := e = .ret ∧ Env.get env 4 = .bool false ∧ σ = σ0 ∧ signsB s = false ∧ env.length = 21
theorem J_stable {h : Nat} {σ0 : AS} {s : ByteArray} {m : Int} : ∀ k env env' σ, env.length = 21 → env'.length = 21 → (∀ i, i ≠ 9 → i ≠ 16 → i ≠ 8 → Env.get env' i = Env.get env i) → J h σ0 s m k env σ → J h σ0 s m k env' σ := by
  rintro k env env' σ _ _ hf ⟨j0, j1, q0, ho⟩
  exact ⟨(hf 0 (by decide) (by decide) (by decide)).trans j0, (hf 1 (by decide) (by decide) (by decide)).trans j1, q0, ho⟩
noncomputable def oT : Oper := (opsOf (cr [.r, .l, .r, .i, .i, .l])).headD default
noncomputable def oI : List Oper := opsOf (cr [.r, .l, .r, .i, .i, .r, .r, .r])
theorem loop_eq : (cr [.r, .l, .r]) = .block 0 (.loop (.seq (.region 2 #[oT] false) (.seq (.cond (.tmp 9) .skip (.exit 0)) (.seq (.block 1 (.seq (cr [.r, .l, .r, .i, .i, .r, .r, .l, .i, .l]) (cr [.r, .l, .r, .i, .i, .r, .r, .l, .i, .r]))) (.region 6 #[oI.headD default, (oI.drop 1).headD default] false))))) := by kernel_rfl
theorem step (cx : Cx) (hcx : cx.esc = []) (hro : ∀ k, cx.ro = some k → k ≤ cx.h) (σ0 : AS) (s : ByteArray) (m : Int) (hst : cx.h ≤ σ0.st.length) :
    ∀ k env σ, k < s.size → env.length = 21 → Env.get env 8 = .int .i64 (k : Int) → Env.get env 7 = .int .i64 ((s.size : Nat) : Int) → J cx.h σ0 s m k env σ → ∃ e env' σ', execW Try.prog cx [] (callW Try.prog how) (.block 1 (.seq (cr [.r, .l, .r, .i, .i, .r, .r, .l, .i, .l]) (cr [.r, .l, .r, .i, .i, .r, .r, .l, .i, .r]))) (env, σ) = some (e, (env', σ')) ∧
      ((e = .normal ∧ env'.length = 21 ∧ Env.get env' 8 = .int .i64 (k : Int) ∧ Env.get env' 7 = .int .i64 ((s.size : Nat) : Int) ∧ J cx.h σ0 s m (k + 1) env' σ') ∨ (e ≠ .normal ∧ Ex cx.h σ0 s m e env' σ')) := by
  rintro k env σ hk hlen f8 f7 ⟨f0, f1, q0, rfl⟩
  have hk1 : k < s.data.toList.length := by simpa using hk
  have hk2 : k < (bytesI s).length := by rw [bytesI_len]; exact hk
  have hb := idx_str (P := Try.prog) Try.underlying9 hk1
  have he : (bytesI s)[k] = (s.data.toList[k].toNat : Int) := by simp [bytesI]
  obtain ⟨env1, x1a, x1b, x1c, x1d⟩ := rE cx env σ k hlen hcx f8  
  have f0 := (x1d 0 (by decide)).trans f0
  have f1 := (x1d 1 (by decide)).trans f1
  have f7 := (x1d 7 (by decide)).trans f7
  have f8 := (x1d 8 (by decide)).trans f8
  have f5 := x1c
  have hc : callW Try.prog how 84 [.int .u8 (s.data.toList[k].toNat : Int)] σ cx.ro = some (.bool (signI (s.data.toList[k].toNat : Int)), σ) := f84_ok σ.hp σ.st cx.ro _ (fun j hj => Nat.le_trans (hro j hj) hst)
  cases hs : signI (s.data.toList[k].toNat : Int) with
  | true =>
    rw [hs] at hc
    obtain ⟨env2, x2a, x2b, x2c, x2d⟩ := rX cx env1 σ s k _ x1b hcx f0 f5 hb hc 
    have f0 := (x2d 0 (by decide)).trans f0
    have f1 := (x2d 1 (by decide)).trans f1
    have f5 := (x2d 5 (by decide)).trans f5
    have f7 := (x2d 7 (by decide)).trans f7
    have f8 := (x2d 8 (by decide)).trans f8
    exact ⟨.normal, env2, _, (execW_block_of (execW_seq_of x1a x2a)), .inl ⟨rfl, x2b, f8, f7, f0, f1, (by rw [all_take_succ hk2, q0, he, hs]; rfl), rfl⟩⟩
  | false =>
    rw [hs] at hc
    obtain ⟨env2, x2a, x2b, x2c, x2d⟩ := rY cx env1 σ s k _ x1b hcx f0 f5 hb hc 
    have f0 := (x2d 0 (by decide)).trans f0
    have f1 := (x2d 1 (by decide)).trans f1
    have f5 := (x2d 5 (by decide)).trans f5
    have f7 := (x2d 7 (by decide)).trans f7
    have f8 := (x2d 8 (by decide)).trans f8
    have f4 := x2c
    exact ⟨.ret, env2, _, (block_exit (execW_seq_of x1a x2a) (by simp)), .inr ⟨by simp, rfl, f4, rfl, all_false_of hk2 (by rw [he, hs]), x2b⟩⟩
theorem loop (cx : Cx) (hcx : cx.esc = []) (hro : ∀ k, cx.ro = some k → k ≤ cx.h) (σ0 : AS) (s : ByteArray) (m : Int) (hst : cx.h ≤ σ0.st.length) (hnn : s.size ≤ 9223372036854775807) {env : Env} {σ : AS} (hl : env.length = 21) (h1 : Env.get env 8 = .int .i64 0) (h2 : Env.get env 7 = .int .i64 ((s.size : Nat) : Int)) (h0 : J cx.h σ0 s m 0 env σ) :
    ∃ e env' σ', execW Try.prog cx [] (callW Try.prog how) (cr [.r, .l, .r]) (env, σ) = some (e, (env', σ')) ∧ ((e = .normal ∧ ((env'.length = 21 ∧ J cx.h σ0 s m (s.size) env' σ') ∨ Ex cx.h σ0 s m (.exit 0) env' σ')) ∨ (e ≠ .normal ∧ e ≠ .exit 0 ∧ Ex cx.h σ0 s m e env' σ')) := by
  rw [loop_eq]
  exact range_std (Ex := Ex cx.h σ0 s m) (N := 21) (tc := 9) (ti := 8) (tl := 7) (tx := 16) (ty1 := 3) (ty2 := 3) (ty3 := 3) (ty4 := 3) ⟨by kernel_rfl, by kernel_rfl, by kernel_rfl⟩ ⟨by kernel_rfl, by kernel_rfl, by kernel_rfl⟩ ⟨by kernel_rfl, by kernel_rfl, by kernel_rfl⟩ (by decide) hnn J_stable (step cx hcx hro σ0 s m hst) hl h1 h2 h0
noncomputable def bodyC : Code := (.seq (cr [.l]) (.seq (.seq (cr [.r, .l, .l]) (cr [.r, .l, .r])) (.seq (cr [.r, .r, .l]) .ret)))
theorem body : Try.f63.body = some bodyC := by kernel_rfl
theorem ok (hp s : List AObj) (ro : Option Nat) (s0 : ByteArray) (m : Int) (hro' : ∀ k, ro = some k → k ≤ s.length) (hs : s0.size ≤ 9223372036854775807) :
    callW Try.prog how 63 [.str s0, .int .i64 m] ⟨hp, s⟩ ro = some (.bool (signsB s0 && decide ((s0.size : Int) ≤ m)), ⟨hp, s⟩) := by
  let cx : Cx := { h := s.length, ro := ro, esc := [] }
  have hcx : cx.esc = [] := rfl
  have hro : ∀ k, cx.ro = some k → k ≤ cx.h := hro'
  obtain ⟨env, henv⟩ : ∃ e, e = frameA Try.f63 [.str s0, .int .i64 m] := ⟨_, rfl⟩
  have hlen : env.length = 21 := by rw [henv]; rfl
  have f0 : Env.get env 0 = .str s0 := by rw [henv]; rfl
  have f1 : Env.get env 1 = .int .i64 m := by rw [henv]; rfl
  have ho : Outside s.length (AS.mk hp s) (AS.mk hp s) := Outside.refl (Nat.le_refl _)
  obtain ⟨env1, x1a, x1b, x1c, x1d⟩ := rA cx env (AS.mk hp s)  hlen hcx   
  have f0 := (x1d 0 (by decide)).trans f0
  have f1 := (x1d 1 (by decide)).trans f1
  have f4 := x1c
  obtain ⟨env2, x2a, x2b, x2c, x2d⟩ := rB cx env1 (AS.mk hp s) s0 x1b hcx f0  
  have f0 := (x2d 0 (by decide)).trans f0
  have f1 := (x2d 1 (by decide)).trans f1
  have f4 := (x2d 4 (by decide)).trans f4
  have f7 := x2c.1
  have f8 := x2c.2
  obtain ⟨e3, env3, σ3, x3a, x3p⟩ := loop cx hcx hro ⟨hp, s⟩ s0 m (Nat.le_refl _) (hs) (σ := AS.mk hp s) x2b f8 f7 (⟨f0, f1, rfl, rfl⟩)
  rcases x3p with ⟨rfl, ⟨x3b, f0, f1, q0, rfl⟩ | x3p⟩ | ⟨x3q, x3r, x3p⟩
  · skip
    rw [List.take_of_length_le (Nat.le_of_eq (bytesI_len s0))] at q0
    have q1 : signsB s0 = true := q0
    rw [q1]
    obtain ⟨env4, x4a, x4b, x4c, x4d⟩ := rD cx env3 (AS.mk hp s) s0 m x3b hcx f0 f1  
    have f0 := (x4d 0 (by decide)).trans f0
    have f1 := (x4d 1 (by decide)).trans f1
    have f4 := x4c
    exact call_of (fl := {}) (fn := Try.f63) (c := bodyC) (env := env) (e := (.ret, (env4, AS.mk hp s))) rfl Try.func63 body henv (by unfold bodyC; exact (execW_seq_of x1a (execW_seq_of (execW_seq_of x2a x3a) (execW_seq_of x4a (by rfl))))) ((fin_tmp (k := 4) (.inl rfl) rfl rfl f4 (by simp [AV.back]) (by simp [AV.inb])).trans (congrArg (fun x => some (_, x)) (outside_st ho)))
  · cases x3p.1
  · obtain ⟨rfl, f4, rfl, q1, x3b⟩ := x3p
    rw [q1]
    exact call_of (fl := {}) (fn := Try.f63) (c := bodyC) (env := env) (e := (.ret, (env3, AS.mk hp s))) rfl Try.func63 body henv (by unfold bodyC; exact (execW_seq_of x1a (execW_seq_ret (execW_seq_of x2a x3a)))) ((fin_tmp (k := 4) (.inl rfl) rfl rfl f4 (by simp [AV.back]) (by simp [AV.inb])).trans (congrArg (fun x => some (_, x)) (outside_st ho)))
end F63
