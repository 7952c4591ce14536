/- Whether a key, a value may be. -/

import Derived.Test.YtcafckfmhoklkaaCf
open Go Go.Abs Go.Proofs
set_option maxRecDepth 100000
set_option maxHeartbeats 4000000
set_option linter.unusedSimpArgs false
set_option linter.unusedVariables false

namespace F28
def kOf (st : St) : Nat := match Env.get st.1 3 with
  | .int _ k => k.toNat
  | _ => 0
noncomputable def cr (p : List Dir) : Code := sub p (bodyOf Try.f28)

section
attribute [local simp] ofV ofCell ofCells seqA_nil seqA_cons seqVK_eq seqEK_eq wantedA yieldedA isVal effA ev evs evps putE optsA optsOk valA fieldAddrA fieldA loadA partA aggA isAggD buildA placesA fillA lay storeA AV.withCells buildSliceA elemsA rowParts fzL promL okE isSrc bytesOk pushA cxOf lenA binA intBinA strBinA unA indexAddrA eqA AVs.inb AV.inb Loc.inb calleeA opsOf sub bodyOf Env.get_set quietA_nil quietA_cons quietK_none quietK_some qstep newA isNew escNew boxOk newLoc flat rowPartsQ quietN quietOp isBS List.takeWhile finishA_eq finK_ret finK_normal retK backK resA oneA AV.back AVs.back execW_seq_eq seqK_normal seqK_ret seqK_exit execW_cond_eq condK_true condK_false execW_block_eq blockK_exit blockK_normal blockK_ret execW_region_eq regK_eq execW_skip execW_exit execW_ret regionA_plain regionA_quiet0 tailK_eq nilCheckA guardOk isConst lookupA keyFits mapUpdateA beqI bneI
theorem rA (cx : Cx) (env : Env) (σ : AS)  (hlen : env.length = 34) (hcx : cx.esc = [])  :
    Pc Try.prog how cx [] 34 [2] (cr [.l]) env σ (.normal) (σ) (fun env' => Env.get env' 2 = .bool false) := by
  refine pc_of fun res hr => ?_
  simp -implicitDefEqProofs [AS.get_push_at, AS.get_push_old, AS.push_len, AS.set_st_len, AS.next_st', AS.set_push_at, AS.get_set_self, AS.get_set_other, cr, Try.f28, hlen, hcx] at hr
  subst hr
  refine ⟨_, rfl, by simp [hlen], by simp [Env.get_set, hlen], fun i hi => ?_⟩
  simp only [List.mem_cons, List.not_mem_nil, or_false, not_or] at hi
  simp only [get_set2, hi, false_and, if_false]

theorem rB (cx : Cx) (env : Env) (σ : AS)  (hlen : env.length = 34) (hcx : cx.esc = [])  :
    Pc Try.prog how cx [] 34 [3] (cr [.r, .l, .l]) env σ (.normal) (σ) (fun env' => Env.get env' 3 = .int .i64 0) := by
  refine pc_of fun res hr => ?_
  simp -implicitDefEqProofs [AS.get_push_at, AS.get_push_old, AS.push_len, AS.set_st_len, AS.next_st', AS.set_push_at, AS.get_set_self, AS.get_set_other, cr, Try.f28, hlen, hcx] at hr
  subst hr
  refine ⟨_, rfl, by simp [hlen], by simp [Env.get_set, hlen], fun i hi => ?_⟩
  simp only [List.mem_cons, List.not_mem_nil, or_false, not_or] at hi
  simp only [get_set2, hi, false_and, if_false]

theorem rT (cx : Cx) (env : Env) (σ : AS) (s : ByteArray) (k : Nat) (hlen : env.length = 34) (hcx : cx.esc = []) (f0 : Env.get env 0 = .str s) (f3 : Env.get env 3 = .int .i64 (k : Int)) (q : k < s.size) :
    Pc Try.prog how cx [] 34 [5, 6, 7, 8] (cr [.r, .l, .r, .i, .i, .l]) env σ (.normal) (σ) (fun _ => True) := by
  refine pc_of fun res hr => ?_
  simp -implicitDefEqProofs [AS.get_push_at, AS.get_push_old, AS.push_len, AS.set_st_len, AS.next_st', AS.set_push_at, AS.get_set_self, AS.get_set_other, cr, Try.f28, hlen, hcx, f0, f3, q] at hr
  subst hr
  refine ⟨_, rfl, by simp [hlen], by simp [Env.get_set, hlen, f0, f3, q], fun i hi => ?_⟩
  simp only [List.mem_cons, List.not_mem_nil, or_false, not_or] at hi
  simp only [get_set2, hi, false_and, if_false]

theorem rU (cx : Cx) (env : Env) (σ : AS) (s : ByteArray) (k : Nat) (hlen : env.length = 34) (hcx : cx.esc = []) (f0 : Env.get env 0 = .str s) (f3 : Env.get env 3 = .int .i64 (k : Int)) (q : ¬ k < s.size) :
    Pc Try.prog how cx [] 34 [5, 6, 7, 8] (cr [.r, .l, .r, .i, .i, .l]) env σ (.exit 0) (σ) (fun _ => True) := by
  refine pc_of fun res hr => ?_
  simp -implicitDefEqProofs [AS.get_push_at, AS.get_push_old, AS.push_len, AS.set_st_len, AS.next_st', AS.set_push_at, AS.get_set_self, AS.get_set_other, cr, Try.f28, hlen, hcx, f0, f3, q] at hr
  subst hr
  refine ⟨_, rfl, by simp [hlen], by simp [Env.get_set, hlen, f0, f3, q], fun i hi => ?_⟩
  simp only [List.mem_cons, List.not_mem_nil, or_false, not_or] at hi
  simp only [get_set2, hi, false_and, if_false]

theorem rE (cx : Cx) (env : Env) (σ : AS) (s : ByteArray) (k : Nat) (b : Int) (hlen : env.length = 34) (hcx : cx.esc = []) (f0 : Env.get env 0 = .str s) (f3 : Env.get env 3 = .int .i64 (k : Int)) (hb : indexA Try.prog 9 (.str s) (.int .i64 (k : Int)) = some (.int .u8 b)) (hv : convA Try.prog σ 5 3 (.int .u8 b) = some (.int .i64 b)) :
    Pc Try.prog how cx [] 34 [4, 11, 12, 13, 14] (cr [.r, .l, .r, .i, .i, .r, .l, .i, .l]) env σ (.normal) (σ) (fun env' => Env.get env' 4 = .int .i64 b) := by
  refine pc_of fun res hr => ?_
  simp -implicitDefEqProofs [AS.get_push_at, AS.get_push_old, AS.push_len, AS.set_st_len, AS.next_st', AS.set_push_at, AS.get_set_self, AS.get_set_other, cr, Try.f28, hlen, hcx, f0, f3, hb, hv] at hr
  subst hr
  refine ⟨_, rfl, by simp [hlen], by simp [Env.get_set, hlen, f0, f3, hb, hv], fun i hi => ?_⟩
  simp only [List.mem_cons, List.not_mem_nil, or_false, not_or] at hi
  simp only [get_set2, hi, false_and, if_false]

theorem rS (cx : Cx) (env : Env) (σ : AS) (c : Int) (hlen : env.length = 34) (hcx : cx.esc = []) (f4 : Env.get env 4 = .int .i64 c) (q : signI c = true) :
    Pc Try.prog how cx [] 34 [15, 16, 17, 18, 19, 20, 21, 22, 23, 24, 25, 26, 27, 28, 29, 30, 31, 32, 33] (cr [.r, .l, .r, .i, .i, .r, .l, .i, .r]) env σ (.normal) (σ) (fun _ => True) := by
  by_cases p1 : (97 : Int) ≤ c <;> by_cases p2 : c ≤ (122 : Int) <;> by_cases p3 : (48 : Int) ≤ c <;> by_cases p4 : c ≤ (57 : Int) <;> by_cases p5 : c = (95 : Int)
  all_goals first | (exfalso; revert q; simp [signI, p1, p2, p3, p4, p5]; done) | (
      refine pc_of fun res hr => ?_
      simp -implicitDefEqProofs [AS.get_push_at, AS.get_push_old, AS.push_len, AS.set_st_len, AS.next_st', AS.set_push_at, AS.get_set_self, AS.get_set_other, cr, Try.f28, hlen, hcx, f4, q, p1, p2, p3, p4, p5] at hr
      subst hr
      refine ⟨_, rfl, by simp [hlen], by simp [Env.get_set, hlen, f4, q, p1, p2, p3, p4, p5], fun i hi => ?_⟩
      simp only [List.mem_cons, List.not_mem_nil, or_false, not_or] at hi
      simp only [get_set2, hi, false_and, if_false]
    )

theorem rF (cx : Cx) (env : Env) (σ : AS) (c : Int) (hlen : env.length = 34) (hcx : cx.esc = []) (f4 : Env.get env 4 = .int .i64 c) (q : signI c = false) :
    Pc Try.prog how cx [] 34 [2, 15, 16, 17, 18, 19, 20, 21, 22, 23, 24, 25, 26, 27, 28, 29, 30, 31, 32, 33] (cr [.r, .l, .r, .i, .i, .r, .l, .i, .r]) env σ (.ret) (σ) (fun env' => Env.get env' 2 = .bool false) := by
  by_cases p1 : (97 : Int) ≤ c <;> by_cases p2 : c ≤ (122 : Int) <;> by_cases p3 : (48 : Int) ≤ c <;> by_cases p4 : c ≤ (57 : Int) <;> by_cases p5 : c = (95 : Int)
  all_goals first | (exfalso; revert q; simp [signI, p1, p2, p3, p4, p5]; done) | (
      refine pc_of fun res hr => ?_
      simp -implicitDefEqProofs [AS.get_push_at, AS.get_push_old, AS.push_len, AS.set_st_len, AS.next_st', AS.set_push_at, AS.get_set_self, AS.get_set_other, cr, Try.f28, hlen, hcx, f4, q, p1, p2, p3, p4, p5] at hr
      subst hr
      refine ⟨_, rfl, by simp [hlen], by simp [Env.get_set, hlen, f4, q, p1, p2, p3, p4, p5], fun i hi => ?_⟩
      simp only [List.mem_cons, List.not_mem_nil, or_false, not_or] at hi
      simp only [get_set2, hi, false_and, if_false]
    )

theorem rI (cx : Cx) (env : Env) (σ : AS) (k : Nat) (hlen : env.length = 34) (hcx : cx.esc = []) (f3 : Env.get env 3 = .int .i64 (k : Int)) (hw : wr .i64 ((k : Int) + 1) = (k : Int) + 1) :
    Pc Try.prog how cx [] 34 [3, 9, 10] (cr [.r, .l, .r, .i, .i, .r, .r]) env σ (.normal) (σ) (fun env' => Env.get env' 3 = .int .i64 ((k : Int) + 1)) := by
  refine pc_of fun res hr => ?_
  simp -implicitDefEqProofs [AS.get_push_at, AS.get_push_old, AS.push_len, AS.set_st_len, AS.next_st', AS.set_push_at, AS.get_set_self, AS.get_set_other, cr, Try.f28, hlen, hcx, f3, hw] at hr
  subst hr
  refine ⟨_, rfl, by simp [hlen], by simp [Env.get_set, hlen, f3, hw], fun i hi => ?_⟩
  simp only [List.mem_cons, List.not_mem_nil, or_false, not_or] at hi
  simp only [get_set2, hi, false_and, if_false]

theorem rD (cx : Cx) (env : Env) (σ : AS)  (hlen : env.length = 34) (hcx : cx.esc = [])  :
    Pc Try.prog how cx [] 34 [2] (cr [.r, .r, .l]) env σ (.normal) (σ) (fun env' => Env.get env' 2 = .bool true) := by
  refine pc_of fun res hr => ?_
  simp -implicitDefEqProofs [AS.get_push_at, AS.get_push_old, AS.push_len, AS.set_st_len, AS.next_st', AS.set_push_at, AS.get_set_self, AS.get_set_other, cr, Try.f28, hlen, hcx] at hr
  subst hr
  refine ⟨_, rfl, by simp [hlen], by simp [Env.get_set, hlen], fun i hi => ?_⟩
  simp only [List.mem_cons, List.not_mem_nil, or_false, not_or] at hi
  simp only [get_set2, hi, false_and, if_false]

end
noncomputable def bodyC : Code := (.seq (cr [.l]) (.seq (.seq (cr [.r, .l, .l]) (cr [.r, .l, .r])) (.seq (cr [.r, .r, .l]) .ret)))
theorem body : Try.f28.body = some bodyC := by kernel_rfl
theorem loop_eq : cr [.r, .l, .r] = .block 0 (.loop (.seq (cr [.r, .l, .r, .i, .i, .l]) (.seq (.block 1 (.seq (cr [.r, .l, .r, .i, .i, .r, .l, .i, .l]) (cr [.r, .l, .r, .i, .i, .r, .l, .i, .r]))) (cr [.r, .l, .r, .i, .i, .r, .r])))) := by kernel_rfl
theorem loop (cx : Cx) (hcx : cx.esc = []) (s : ByteArray) (hs : s.size ≤ 9223372036854775807) (σ : AS) (env : Env) (hlen : env.length = 34) (f0 : Env.get env 0 = .str s) (f3 : Env.get env 3 = .int .i64 0) :
    ∃ e env', execW Try.prog cx [] (callW Try.prog how) (cr [.r, .l, .r]) (env, σ) = some (e, (env', σ)) ∧ env'.length = 34 ∧ ((e = .normal ∧ signsB s = true) ∨ (e = .ret ∧ signsB s = false ∧ Env.get env' 2 = .bool false)) := by
  have st : ∀ st : St, (∃ k : Nat, k ≤ s.size ∧ st.1.length = 34 ∧ st.2 = σ ∧ Env.get st.1 0 = .str s ∧ Env.get st.1 3 = .int .i64 (k : Int) ∧ ((bytesI s).take k).all signI = true) →
      ∃ e st1, execW Try.prog cx [] (callW Try.prog how) (.seq (cr [.r, .l, .r, .i, .i, .l]) (.seq (.block 1 (.seq (cr [.r, .l, .r, .i, .i, .r, .l, .i, .l]) (cr [.r, .l, .r, .i, .i, .r, .l, .i, .r]))) (cr [.r, .l, .r, .i, .i, .r, .r]))) st = some (e, st1) ∧
        ((e = .normal ∧ (∃ k : Nat, k ≤ s.size ∧ st1.1.length = 34 ∧ st1.2 = σ ∧ Env.get st1.1 0 = .str s ∧ Env.get st1.1 3 = .int .i64 (k : Int) ∧ ((bytesI s).take k).all signI = true) ∧ s.size - kOf st1 < s.size - kOf st) ∨
         (e ≠ .normal ∧ (st1.2 = σ ∧ st1.1.length = 34 ∧ ((e = .exit 0 ∧ signsB s = true) ∨ (e = .ret ∧ signsB s = false ∧ Env.get st1.1 2 = .bool false))))) := by
    rintro ⟨env, σ'⟩ ⟨k, hk, hlen, rfl, f0, f3, q0⟩
    simp only at hlen f0 f3
    by_cases hlt : k < s.size
    · skip
      have hk1 : k < s.data.toList.length := by simpa using hlt
      have hk2 : k < (bytesI s).length := by rw [bytesI_len]; exact hlt
      have hb := idx_str (P := Try.prog) Try.underlying9 hk1
      have he : (bytesI s)[k] = (s.data.toList[k].toNat : Int) := by simp [bytesI]
      have hby : s.data.toList[k].toNat < 256 := UInt8.toNat_lt _
      have hkof : kOf (env, σ') = k := by simp [kOf, f3]
      obtain ⟨env1, x1a, x1b, x1c, x1d⟩ := rT cx env σ' s k hlen hcx f0 f3 hlt 
      have f0 := (x1d 0 (by decide)).trans f0
      have f3 := (x1d 3 (by decide)).trans f3
      have hv : convA Try.prog σ' 5 3 (.int .u8 (s.data.toList[k].toNat : Int)) = some (.int .i64 (s.data.toList[k].toNat : Int)) := by rw [show convA Try.prog σ' 5 3 (.int .u8 (s.data.toList[k].toNat : Int)) = some (.int .i64 (wr .i64 (s.data.toList[k].toNat : Int))) by simp [convA], wr_ok (by omega) (by omega)]
      obtain ⟨env2, x2a, x2b, x2c, x2d⟩ := rE cx env1 σ' s k _ x1b hcx f0 f3 hb hv 
      have f0 := (x2d 0 (by decide)).trans f0
      have f3 := (x2d 3 (by decide)).trans f3
      have f4 := x2c
      cases hq : signI (s.data.toList[k].toNat : Int) with
      | true =>
        obtain ⟨env3, x3a, x3b, x3c, x3d⟩ := rS cx env2 σ' _ x2b hcx f4 hq 
        have f0 := (x3d 0 (by decide)).trans f0
        have f3 := (x3d 3 (by decide)).trans f3
        have f4 := (x3d 4 (by decide)).trans f4
        obtain ⟨env4, x4a, x4b, x4c, x4d⟩ := rI cx env3 σ' k x3b hcx f3 (wr_ok (by omega) (by omega)) 
        have f0 := (x4d 0 (by decide)).trans f0
        have f4 := (x4d 4 (by decide)).trans f4
        have f3 := x4c
        refine ⟨.normal, (env4, σ'), (execW_seq_of x1a (execW_seq_of (execW_block_of (execW_seq_of x2a x3a)) x4a)), .inl ⟨rfl, ⟨k + 1, hlt, x4b, rfl, f0, f3, by rw [all_take_succ hk2, q0, he, hq]; rfl⟩, ?_⟩⟩
        have : kOf (env4, σ') = k + 1 := by simp only [kOf, f3]; omega
        rw [hkof, this]; omega
      | false =>
        obtain ⟨env3, x3a, x3b, x3c, x3d⟩ := rF cx env2 σ' _ x2b hcx f4 hq 
        have f0 := (x3d 0 (by decide)).trans f0
        have f3 := (x3d 3 (by decide)).trans f3
        have f4 := (x3d 4 (by decide)).trans f4
        have f2 := x3c
        exact ⟨.ret, (env3, σ'), (execW_seq_of x1a (execW_seq_ret (block_exit (execW_seq_of x2a x3a) (by simp)))), .inr ⟨by simp, rfl, x3b, .inr ⟨rfl, all_false_of hk2 (by rw [he, hq]), f2⟩⟩⟩
    · skip
      obtain ⟨env1, x1a, x1b, x1c, x1d⟩ := rU cx env σ' s k hlen hcx f0 f3 hlt 
      have f0 := (x1d 0 (by decide)).trans f0
      have f3 := (x1d 3 (by decide)).trans f3
      have hke : k = s.size := by omega
      rw [hke, List.take_of_length_le (Nat.le_of_eq (bytesI_len s))] at q0
      exact ⟨.exit 0, (env1, σ'), (execW_seq_exit x1a), .inr ⟨by simp, rfl, x1b, .inl ⟨rfl, q0⟩⟩⟩
  obtain ⟨e, ⟨env', σ'⟩, r, he, h1, h2, h3⟩ := while_exit st (s.size - kOf (env, σ)) (env, σ) (Nat.le_refl _) ⟨0, Nat.zero_le _, hlen, rfl, f0, f3, rfl⟩
  simp only at h1 h2 h3
  subst h1
  rw [loop_eq]
  rcases h3 with ⟨rfl, h3⟩ | ⟨rfl, h3, h4⟩
  · exact ⟨.normal, env', block_out r, h2, .inl ⟨rfl, h3⟩⟩
  · exact ⟨.ret, env', block_exit r (by simp), h2, .inr ⟨rfl, h3, h4⟩⟩
theorem ok (hp s : List AObj) (ro : Option Nat) (s0 : ByteArray) (hro' : ∀ k, ro = some k → k ≤ s.length) (hs : s0.size ≤ 9223372036854775807) :
    callW Try.prog how 28 [.str s0] ⟨hp, s⟩ ro = some (.bool (signsB s0), ⟨hp, s⟩) := by
  let cx : Cx := { h := s.length, ro := ro, esc := [] }
  have hcx : cx.esc = [] := rfl
  have hro : ∀ k, cx.ro = some k → k ≤ cx.h := hro'
  obtain ⟨env, henv⟩ : ∃ e, e = frameA Try.f28 [.str s0] := ⟨_, rfl⟩
  have hlen : env.length = 34 := by rw [henv]; rfl
  have f0 : Env.get env 0 = .str s0 := by rw [henv]; rfl
  have ho : Outside s.length (AS.mk hp s) (AS.mk hp s) := Outside.refl (Nat.le_refl _)
  obtain ⟨env1, x1a, x1b, x1c, x1d⟩ := rA cx env (AS.mk hp s)  hlen hcx   
  have f0 := (x1d 0 (by decide)).trans f0
  have f2 := x1c
  obtain ⟨env2, x2a, x2b, x2c, x2d⟩ := rB cx env1 (AS.mk hp s)  x1b hcx   
  have f0 := (x2d 0 (by decide)).trans f0
  have f2 := (x2d 2 (by decide)).trans f2
  have f3 := x2c
  obtain ⟨e9, env9, x9a, x9b, x9c⟩ := loop cx hcx s0 hs ⟨hp, s⟩ env2 x2b f0 f3
  rcases x9c with ⟨rfl, q1⟩ | ⟨rfl, q1, f2⟩
  · skip
    rw [q1]
    obtain ⟨env10, x10a, x10b, x10c, x10d⟩ := rD cx env9 (AS.mk hp s)  x9b hcx   
    have f2 := x10c
    exact call_of (fl := {}) (fn := Try.f28) (c := bodyC) (env := env) (e := (.ret, (env10, AS.mk hp s))) rfl Try.func28 body henv (by unfold bodyC; exact (execW_seq_of x1a (execW_seq_of (execW_seq_of x2a x9a) (execW_seq_of x10a (by rfl))))) ((fin_tmp (k := 2) (.inl rfl) rfl rfl f2 (by simp [AV.back]) (by simp [AV.inb])).trans (congrArg (fun x => some (_, x)) (outside_st ho)))
  · skip
    rw [q1]
    exact call_of (fl := {}) (fn := Try.f28) (c := bodyC) (env := env) (e := (.ret, (env9, AS.mk hp s))) rfl Try.func28 body henv (by unfold bodyC; exact (execW_seq_of x1a (execW_seq_ret (execW_seq_of x2a x9a)))) ((fin_tmp (k := 2) (.inl rfl) rfl rfl f2 (by simp [AV.back]) (by simp [AV.inb])).trans (congrArg (fun x => some (_, x)) (outside_st ho)))
end F28

section
attribute [local simp] ofV ofCell ofCells seqA_nil seqA_cons seqVK_eq seqEK_eq wantedA yieldedA isVal effA ev evs evps putE optsA optsOk valA fieldAddrA fieldA loadA partA aggA isAggD buildA placesA fillA lay storeA AV.withCells buildSliceA elemsA rowParts fzL promL okE isSrc bytesOk pushA cxOf lenA binA intBinA strBinA unA indexAddrA eqA AVs.inb AV.inb Loc.inb calleeA opsOf sub bodyOf Env.get_set quietA_nil quietA_cons quietK_none quietK_some qstep newA isNew escNew boxOk newLoc flat rowPartsQ quietN quietOp isBS List.takeWhile finishA_eq finK_ret finK_normal retK backK resA oneA AV.back AVs.back execW_seq_eq seqK_normal seqK_ret seqK_exit execW_cond_eq condK_true condK_false execW_block_eq blockK_exit blockK_normal blockK_ret execW_region_eq regK_eq execW_skip execW_exit execW_ret regionA_plain regionA_quiet0 tailK_eq nilCheckA guardOk isConst lookupA keyFits mapUpdateA beqI bneI
theorem f30_ok (hp s : List AObj) (ro : Option Nat) (k : ByteArray) (hro : ∀ k, ro = some k → k ≤ s.length) (hs : k.size ≤ 9223372036854775807) :
    callW Try.prog how 30 [.str k] ⟨hp, s⟩ ro = some (.bool (valOk k), ⟨hp, s⟩) := by
  refine callW_body (fl := {}) (fn := Try.f30) (c := bodyOf Try.f30) rfl Try.func30 rfl ?_
  have henv : ∃ e, e = frameA Try.f30 [.str k] := ⟨_, rfl⟩
  obtain ⟨env, henv⟩ := henv
  have hl : env.length = 10 := by rw [henv]; rfl
  have h0 : Env.get env 0 = .str k := by rw [henv]; rfl
  rw [← henv]
  clear henv
  have h28 := F28.ok hp s ro k hro hs
  by_cases hb : (k.size : Int) ≤ 64 <;> cases hq : signsB k
  all_goals rw [hq] at h28
  all_goals simp -implicitDefEqProofs [Try.f30, hl, h0, wok_le hro, wok_le' hro, h28, hb, hq, valOk]

theorem f18_ok (hp s : List AObj) (ro : Option Nat) (k : ByteArray) (hro : ∀ k, ro = some k → k ≤ s.length) (hs : k.size ≤ 9223372036854775807) :
    callW Try.prog how 18 [.str k] ⟨hp, s⟩ ro = some (.bool (keyOk k), ⟨hp, s⟩) := by
  refine callW_body (fl := {}) (fn := Try.f18) (c := bodyOf Try.f18) rfl Try.func18 rfl ?_
  have henv : ∃ e, e = frameA Try.f18 [.str k] := ⟨_, rfl⟩
  obtain ⟨env, henv⟩ := henv
  have hl : env.length = 15 := by rw [henv]; rfl
  have h0 : Env.get env 0 = .str k := by rw [henv]; rfl
  rw [← henv]
  clear henv
  have h28 := F28.ok hp s ro k hro hs
  rw [keyOk_eq, beqS_empty]
  by_cases hz : k.size = 0
  · have h1 : ¬ (1 : Int) ≤ (k.size : Int) := by omega
    have h2 : ¬ 1 ≤ k.size := by omega
    simp -implicitDefEqProofs [Try.f18, hl, h0, wok_le hro, wok_le' hro, hz, h1, h2]
  have h1 : (1 : Int) ≤ (k.size : Int) := by omega
  have h2 : 1 ≤ k.size := by omega
  have h3 : ¬ (k.size : Int) = 0 := by omega
  by_cases hb : k.size ≤ 32
  · have hb' : (k.size : Int) ≤ 32 := by omega
    simp -implicitDefEqProofs [Try.f18, hl, h0, wok_le hro, wok_le' hro, hz, h1, h2, h3, hb, hb', h28]
  have hb' : ¬ (k.size : Int) ≤ 32 := by omega
  simp -implicitDefEqProofs [Try.f18, hl, h0, wok_le hro, wok_le' hro, hz, h1, h2, h3, hb, hb']

end