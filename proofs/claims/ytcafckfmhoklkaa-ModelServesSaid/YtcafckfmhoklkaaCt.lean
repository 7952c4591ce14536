/- Rows in the order in which they were decided. -/

import Derived.Test.YtcafckfmhoklkaaCs
open Go Go.Abs Go.Proofs
set_option maxRecDepth 100000
set_option maxHeartbeats 4000000
set_option linter.unusedSimpArgs false
set_option linter.unusedVariables false

theorem loop_out {P : Program} {cx : Cx} {tails : List Nat} {call : Caller} {c : Code} {st : St} {e : AExit} {st1 : St} (r : execW P cx tails call c st = some (e, st1)) (h : e ≠ .normal) : execW P cx tails call (.loop c) st = some (e, st1) := by
  rw [execW]
  exact iterW_out r h
namespace F40
theorem okN (hp s : List AObj) (ro : Option Nat)  (hro' : ∀ k, ro = some k → k ≤ s.length) :
    callW Try.prog how 40 [.nils, .int .i64 0, .int .i64 0, .fn (.func 32) [] []] ⟨hp, s⟩ ro = some (.tup [], ⟨hp, s⟩) := by
  let cx : Cx := { h := s.length, ro := ro, esc := [] }
  have hcx : cx.esc = [] := rfl
  have hro : ∀ k, cx.ro = some k → k ≤ cx.h := hro'
  obtain ⟨env, henv⟩ : ∃ e, e = frameA Try.f40 [.nils, .int .i64 0, .int .i64 0, .fn (.func 32) [] []] := ⟨_, rfl⟩
  have hlen : env.length = 53 := by rw [henv]; rfl
  have f0 : Env.get env 0 = .nils := by rw [henv]; rfl
  have f1 : Env.get env 1 = .int .i64 0 := by rw [henv]; rfl
  have f2 : Env.get env 2 = .int .i64 0 := by rw [henv]; rfl
  have f3 : Env.get env 3 = .fn (.func 32) [] [] := by rw [henv]; rfl
  have ho : Outside s.length (AS.mk hp s) (AS.mk hp s) := Outside.refl (Nat.le_refl _)
  have f2 : Env.get env 2 = .int .i64 ((0 : Nat) : Int) := f2
  obtain ⟨env1, x1a, x1b, x1c, x1d⟩ := rA cx env (AS.mk hp s)  hlen hcx f1 (by decide) 
  have f0 := (x1d 0 (by decide)).trans f0
  have f1 := (x1d 1 (by decide)).trans f1
  have f2 := (x1d 2 (by decide)).trans f2
  have f3 := (x1d 3 (by decide)).trans f3
  have f8 := x1c
  have f8 : Env.get env1 8 = .int .i64 ((1 : Nat) : Int) := f8
  obtain ⟨env2, x2a, x2b, x2c, x2d⟩ := rU cx env1 (AS.mk hp s) 1 0 x1b hcx f8 f2 (by omega) 
  have f0 := (x2d 0 (by decide)).trans f0
  have f1 := (x2d 1 (by decide)).trans f1
  have f2 := (x2d 2 (by decide)).trans f2
  have f3 := (x2d 3 (by decide)).trans f3
  have f8 := (x2d 8 (by decide)).trans f8
  have f14 := x2c
  have ev1 := ev_tmp f14
  have rb1 : execW Try.prog cx [2000006] (callW Try.prog how) (.block 0 (.loop (.seq (.seq (cr [.r, .i, .i, .l, .l]) (cr [.r, .i, .i, .l, .r])) (.seq (.block 1 (.seq (cr [.r, .i, .i, .r, .l, .i, .l]) (cr [.r, .i, .i, .r, .l, .i, .r]))) (cr [.r, .i, .i, .r, .r]))))) (env1, AS.mk hp s) = some (.normal, (env2, AS.mk hp s)) := block_out (loop_out (execW_seq_exit (execW_seq_of x2a (execW_cond_f ev1 (by rfl)))) (by simp))
  rw [← outer_eq] at rb1
  exact call_of (fl := { tails := [2000006] }) (fn := Try.f40) (c := bodyC) (env := env) (e := (.normal, (env2, AS.mk hp s))) rfl Try.func40 body henv (by unfold bodyC; exact (execW_seq_of x1a rb1)) ((fin_none (.inr rfl) rfl rfl).trans (by simp))
end F40

namespace F37
noncomputable def cr (p : List Dir) : Code := sub p (bodyOf Try.f37)

section
attribute [local simp] ofV ofCell ofCells seqA_nil seqA_cons seqVK_eq seqEK_eq wantedA yieldedA isVal effA ev evs evps putE optsA optsOk valA fieldAddrA fieldA loadA partA aggA isAggD buildA placesA fillA lay storeA AV.withCells buildSliceA elemsA rowParts fzL promL okE isSrc bytesOk pushA cxOf lenA binA intBinA strBinA unA indexAddrA eqA AVs.inb AV.inb Loc.inb calleeA opsOf sub bodyOf Env.get_set quietA_nil quietA_cons quietK_none quietK_some qstep newA isNew escNew boxOk newLoc flat rowPartsQ quietN quietOp isBS List.takeWhile finishA_eq finK_ret finK_normal retK backK resA oneA AV.back AVs.back execW_seq_eq seqK_normal seqK_ret seqK_exit execW_cond_eq condK_true condK_false execW_block_eq blockK_exit blockK_normal blockK_ret execW_region_eq regK_eq execW_skip execW_exit execW_ret regionA_plain regionA_quiet0 tailK_eq nilCheckA guardOk isConst lookupA keyFits mapUpdateA beqI bneI
theorem rA (cx : Cx) (env : Env) (σ : AS)  (hlen : env.length = 63) (hcx : cx.esc = [])  :
    Pc Try.prog how cx [] 63 [6] (cr [.l]) env σ (.normal) (σ) (fun env' => Env.get env' 6 = .int .i64 20) := by
  refine pc_of fun res hr => ?_
  simp -implicitDefEqProofs [AS.get_push_at, AS.get_push_old, AS.push_len, AS.set_st_len, AS.next_st', AS.set_push_at, AS.get_set_self, AS.get_set_other, cr, Try.f37, hlen, hcx] at hr
  subst hr
  refine ⟨_, rfl, by simp [hlen], by simp [Env.get_set, hlen], fun i hi => ?_⟩
  simp only [List.mem_cons, List.not_mem_nil, or_false, not_or] at hi
  simp only [get_set2, hi, false_and, if_false]

theorem rB (cx : Cx) (env : Env) (σ : AS)  (hlen : env.length = 63) (hcx : cx.esc = []) (f6 : Env.get env 6 = .int .i64 20) :
    Pc Try.prog how cx [] 63 [7, 8, 10] (cr [.r, .l]) env σ (.normal) (σ) (fun env' => Env.get env' 7 = .int .i64 0 ∧ Env.get env' 8 = .int .i64 20) := by
  refine pc_of fun res hr => ?_
  simp -implicitDefEqProofs [AS.get_push_at, AS.get_push_old, AS.push_len, AS.set_st_len, AS.next_st', AS.set_push_at, AS.get_set_self, AS.get_set_other, cr, Try.f37, hlen, hcx, f6] at hr
  subst hr
  refine ⟨_, rfl, by simp [hlen], by simp [Env.get_set, hlen, f6], fun i hi => ?_⟩
  simp only [List.mem_cons, List.not_mem_nil, or_false, not_or] at hi
  simp only [get_set2, hi, false_and, if_false]

theorem rC (cx : Cx) (env : Env) (σ : AS) (n : Nat) (hlen : env.length = 63) (hcx : cx.esc = []) (f1 : Env.get env 1 = .int .i64 (n : Int)) (f8 : Env.get env 8 = .int .i64 20) (q : ¬ (20 : Int) ≤ (n : Int)) :
    Pc Try.prog how cx [] 63 [11, 12, 13] (cr [.r, .r, .l, .i, .i, .l, .l]) env σ (.normal) (σ) (fun env' => Env.get env' 13 = .bool false) := by
  refine pc_of fun res hr => ?_
  simp -implicitDefEqProofs [AS.get_push_at, AS.get_push_old, AS.push_len, AS.set_st_len, AS.next_st', AS.set_push_at, AS.get_set_self, AS.get_set_other, cr, Try.f37, hlen, hcx, f1, f8, q] at hr
  subst hr
  refine ⟨_, rfl, by simp [hlen], by simp [Env.get_set, hlen, f1, f8, q], fun i hi => ?_⟩
  simp only [List.mem_cons, List.not_mem_nil, or_false, not_or] at hi
  simp only [get_set2, hi, false_and, if_false]

theorem rD (cx : Cx) (env : Env) (σ : AS) (n : Nat) (R : AV) (σ' : AS) (hlen : env.length = 63) (hcx : cx.esc = []) (f0 : Env.get env 0 = R) (f1 : Env.get env 1 = .int .i64 (n : Int)) (f2 : Env.get env 2 = .fn (.func 32) [] []) (f7 : Env.get env 7 = .int .i64 0) (h40 : callW Try.prog how 40 [R, .int .i64 0, .int .i64 (n : Int), .fn (.func 32) [] []] σ cx.ro = some (.tup [], σ')) :
    Pc Try.prog how cx [] 63 [23, 24, 25, 26, 27] (cr [.r, .r, .r, .l]) env σ (.normal) (σ') (fun _ => True) := by
  refine pc_of fun res hr => ?_
  simp -implicitDefEqProofs [AS.get_push_at, AS.get_push_old, AS.push_len, AS.set_st_len, AS.next_st', AS.set_push_at, AS.get_set_self, AS.get_set_other, cr, Try.f37, hlen, hcx, f0, f1, f2, f7, h40] at hr
  subst hr
  refine ⟨_, rfl, by simp [hlen], by simp [Env.get_set, hlen, f0, f1, f2, f7, h40], fun i hi => ?_⟩
  simp only [List.mem_cons, List.not_mem_nil, or_false, not_or] at hi
  simp only [get_set2, hi, false_and, if_false]

theorem rE (cx : Cx) (env : Env) (σ : AS) (n : Nat) (hlen : env.length = 63) (hcx : cx.esc = []) (f1 : Env.get env 1 = .int .i64 (n : Int)) (f6 : Env.get env 6 = .int .i64 20) (q : ¬ (20 : Int) < (n : Int)) :
    Pc Try.prog how cx [] 63 [28, 29, 30] (cr [.r, .r, .r, .r, .i, .i, .l, .l]) env σ (.normal) (σ) (fun env' => Env.get env' 30 = .bool false) := by
  refine pc_of fun res hr => ?_
  simp -implicitDefEqProofs [AS.get_push_at, AS.get_push_old, AS.push_len, AS.set_st_len, AS.next_st', AS.set_push_at, AS.get_set_self, AS.get_set_other, cr, Try.f37, hlen, hcx, f1, f6, q] at hr
  subst hr
  refine ⟨_, rfl, by simp [hlen], by simp [Env.get_set, hlen, f1, f6, q], fun i hi => ?_⟩
  simp only [List.mem_cons, List.not_mem_nil, or_false, not_or] at hi
  simp only [get_set2, hi, false_and, if_false]

end
noncomputable def bodyC : Code := (.seq (cr [.l]) (.seq (cr [.r, .l]) (.seq (cr [.r, .r, .l]) (.seq (cr [.r, .r, .r, .l]) (cr [.r, .r, .r, .r])))))
theorem body : Try.f37.body = some bodyC := by kernel_rfl
theorem l1_eq : (cr [.r, .r, .l]) = .block 0 (.loop (.seq (.seq (cr [.r, .r, .l, .i, .i, .l, .l]) (cr [.r, .r, .l, .i, .i, .l, .r])) (cr [.r, .r, .l, .i, .i, .r]))) := by kernel_rfl
theorem l2_eq : (cr [.r, .r, .r, .r]) = .block 2 (.loop (.seq (.seq (cr [.r, .r, .r, .r, .i, .i, .l, .l]) (cr [.r, .r, .r, .r, .i, .i, .l, .r])) (cr [.r, .r, .r, .r, .i, .i, .r]))) := by kernel_rfl
theorem ok (hp s : List AObj) (ro : Option Nat) (i v : Nat) (l : List RowD) (hro' : ∀ k, ro = some k → k ≤ s.length) (hg : s[i]? = some (.row (l.map encRow) 17 v false)) (hw : wok ro (.st i) = true) (hn : l.length ≤ 15) :
    ∃ l2 : List RowD, callW Try.prog how 37 [.row (.st i) v 0 l.length, .int .i64 (l.length : Int), .fn (.func 32) [] []] ⟨hp, s⟩ ro = some (.tup [], ⟨hp, s.set i (.row (l2.map encRow) 17 v false)⟩) ∧ l2.Perm l ∧ SortTo l2 l.length := by
  let cx : Cx := { h := s.length, ro := ro, esc := [] }
  have hcx : cx.esc = [] := rfl
  have hro : ∀ k, cx.ro = some k → k ≤ cx.h := hro'
  obtain ⟨env, henv⟩ : ∃ e, e = frameA Try.f37 [.row (.st i) v 0 l.length, .int .i64 (l.length : Int), .fn (.func 32) [] []] := ⟨_, rfl⟩
  have hlen : env.length = 63 := by rw [henv]; rfl
  have f0 : Env.get env 0 = .row (.st i) v 0 l.length := by rw [henv]; rfl
  have f1 : Env.get env 1 = .int .i64 (l.length : Int) := by rw [henv]; rfl
  have f2 : Env.get env 2 = .fn (.func 32) [] [] := by rw [henv]; rfl
  have ho : Outside s.length (AS.mk hp s) (AS.mk hp s) := Outside.refl (Nat.le_refl _)
  obtain ⟨env1, x1a, x1b, x1c, x1d⟩ := rA cx env (AS.mk hp s)  hlen hcx   
  have f0 := (x1d 0 (by decide)).trans f0
  have f1 := (x1d 1 (by decide)).trans f1
  have f2 := (x1d 2 (by decide)).trans f2
  have f6 := x1c
  obtain ⟨env2, x2a, x2b, x2c, x2d⟩ := rB cx env1 (AS.mk hp s)  x1b hcx f6  
  have f0 := (x2d 0 (by decide)).trans f0
  have f1 := (x2d 1 (by decide)).trans f1
  have f2 := (x2d 2 (by decide)).trans f2
  have f6 := (x2d 6 (by decide)).trans f6
  have f7 := x2c.1
  have f8 := x2c.2
  obtain ⟨env3, x3a, x3b, x3c, x3d⟩ := rC cx env2 (AS.mk hp s) l.length x2b hcx f1 f8 (by omega) 
  have f0 := (x3d 0 (by decide)).trans f0
  have f1 := (x3d 1 (by decide)).trans f1
  have f2 := (x3d 2 (by decide)).trans f2
  have f6 := (x3d 6 (by decide)).trans f6
  have f7 := (x3d 7 (by decide)).trans f7
  have f8 := (x3d 8 (by decide)).trans f8
  have f13 := x3c
  have ev1 := ev_tmp f13
  have rb1 : execW Try.prog cx [] (callW Try.prog how) (.block 0 (.loop (.seq (.seq (cr [.r, .r, .l, .i, .i, .l, .l]) (cr [.r, .r, .l, .i, .i, .l, .r])) (cr [.r, .r, .l, .i, .i, .r])))) (env2, AS.mk hp s) = some (.normal, (env3, AS.mk hp s)) := block_out (loop_out (execW_seq_exit (execW_seq_of x3a (execW_cond_f ev1 (by rfl)))) (by simp))
  rw [← l1_eq] at rb1
  obtain ⟨l2, h40, hp2, hs2⟩ := F40.ok hp s ro i v l hro hg hw (by omega)
  obtain ⟨env4, x4a, x4b, x4c, x4d⟩ := rD cx env3 (AS.mk hp s) l.length _ _ x3b hcx f0 f1 f2 f7 h40 
  have f0 := (x4d 0 (by decide)).trans f0
  have f1 := (x4d 1 (by decide)).trans f1
  have f2 := (x4d 2 (by decide)).trans f2
  have f6 := (x4d 6 (by decide)).trans f6
  have f7 := (x4d 7 (by decide)).trans f7
  have f8 := (x4d 8 (by decide)).trans f8
  have f13 := (x4d 13 (by decide)).trans f13
  obtain ⟨env5, x5a, x5b, x5c, x5d⟩ := rE cx env4 (AS.mk hp (s.set i (.row (l2.map encRow) 17 v false))) l.length x4b hcx f1 f6 (by omega) 
  have f0 := (x5d 0 (by decide)).trans f0
  have f1 := (x5d 1 (by decide)).trans f1
  have f2 := (x5d 2 (by decide)).trans f2
  have f6 := (x5d 6 (by decide)).trans f6
  have f7 := (x5d 7 (by decide)).trans f7
  have f8 := (x5d 8 (by decide)).trans f8
  have f13 := (x5d 13 (by decide)).trans f13
  have f30 := x5c
  have ev2 := ev_tmp f30
  have rb2 : execW Try.prog cx [] (callW Try.prog how) (.block 2 (.loop (.seq (.seq (cr [.r, .r, .r, .r, .i, .i, .l, .l]) (cr [.r, .r, .r, .r, .i, .i, .l, .r])) (cr [.r, .r, .r, .r, .i, .i, .r])))) (env4, AS.mk hp (s.set i (.row (l2.map encRow) 17 v false))) = some (.normal, (env5, AS.mk hp (s.set i (.row (l2.map encRow) 17 v false)))) := block_out (loop_out (execW_seq_exit (execW_seq_of x5a (execW_cond_f ev2 (by rfl)))) (by simp))
  rw [← l2_eq] at rb2
  exact ⟨l2, call_of (fl := {}) (fn := Try.f37) (c := bodyC) (env := env) (e := (.normal, (env5, AS.mk hp (s.set i (.row (l2.map encRow) 17 v false))))) rfl Try.func37 body henv (by unfold bodyC; exact (execW_seq_of x1a (execW_seq_of x2a (execW_seq_of rb1 (execW_seq_of x4a rb2))))) ((fin_none (.inr rfl) rfl rfl).trans (by simp [List.take_of_length_le])), hp2, hs2⟩
theorem okN (hp s : List AObj) (ro : Option Nat)  (hro' : ∀ k, ro = some k → k ≤ s.length) :
    callW Try.prog how 37 [.nils, .int .i64 0, .fn (.func 32) [] []] ⟨hp, s⟩ ro = some (.tup [], ⟨hp, s⟩) := by
  let cx : Cx := { h := s.length, ro := ro, esc := [] }
  have hcx : cx.esc = [] := rfl
  have hro : ∀ k, cx.ro = some k → k ≤ cx.h := hro'
  obtain ⟨env, henv⟩ : ∃ e, e = frameA Try.f37 [.nils, .int .i64 0, .fn (.func 32) [] []] := ⟨_, rfl⟩
  have hlen : env.length = 63 := by rw [henv]; rfl
  have f0 : Env.get env 0 = .nils := by rw [henv]; rfl
  have f1 : Env.get env 1 = .int .i64 0 := by rw [henv]; rfl
  have f2 : Env.get env 2 = .fn (.func 32) [] [] := by rw [henv]; rfl
  have ho : Outside s.length (AS.mk hp s) (AS.mk hp s) := Outside.refl (Nat.le_refl _)
  have f1 : Env.get env 1 = .int .i64 ((0 : Nat) : Int) := f1
  obtain ⟨env1, x1a, x1b, x1c, x1d⟩ := rA cx env (AS.mk hp s)  hlen hcx   
  have f0 := (x1d 0 (by decide)).trans f0
  have f1 := (x1d 1 (by decide)).trans f1
  have f2 := (x1d 2 (by decide)).trans f2
  have f6 := x1c
  obtain ⟨env2, x2a, x2b, x2c, x2d⟩ := rB cx env1 (AS.mk hp s)  x1b hcx f6  
  have f0 := (x2d 0 (by decide)).trans f0
  have f1 := (x2d 1 (by decide)).trans f1
  have f2 := (x2d 2 (by decide)).trans f2
  have f6 := (x2d 6 (by decide)).trans f6
  have f7 := x2c.1
  have f8 := x2c.2
  obtain ⟨env3, x3a, x3b, x3c, x3d⟩ := rC cx env2 (AS.mk hp s) 0 x2b hcx f1 f8 (by omega) 
  have f0 := (x3d 0 (by decide)).trans f0
  have f1 := (x3d 1 (by decide)).trans f1
  have f2 := (x3d 2 (by decide)).trans f2
  have f6 := (x3d 6 (by decide)).trans f6
  have f7 := (x3d 7 (by decide)).trans f7
  have f8 := (x3d 8 (by decide)).trans f8
  have f13 := x3c
  have ev1 := ev_tmp f13
  have rb1 : execW Try.prog cx [] (callW Try.prog how) (.block 0 (.loop (.seq (.seq (cr [.r, .r, .l, .i, .i, .l, .l]) (cr [.r, .r, .l, .i, .i, .l, .r])) (cr [.r, .r, .l, .i, .i, .r])))) (env2, AS.mk hp s) = some (.normal, (env3, AS.mk hp s)) := block_out (loop_out (execW_seq_exit (execW_seq_of x3a (execW_cond_f ev1 (by rfl)))) (by simp))
  rw [← l1_eq] at rb1
  obtain ⟨env4, x4a, x4b, x4c, x4d⟩ := rD cx env3 (AS.mk hp s) 0 _ _ x3b hcx f0 f1 f2 f7 (F40.okN hp s ro hro) 
  have f0 := (x4d 0 (by decide)).trans f0
  have f1 := (x4d 1 (by decide)).trans f1
  have f2 := (x4d 2 (by decide)).trans f2
  have f6 := (x4d 6 (by decide)).trans f6
  have f7 := (x4d 7 (by decide)).trans f7
  have f8 := (x4d 8 (by decide)).trans f8
  have f13 := (x4d 13 (by decide)).trans f13
  obtain ⟨env5, x5a, x5b, x5c, x5d⟩ := rE cx env4 (AS.mk hp s) 0 x4b hcx f1 f6 (by omega) 
  have f0 := (x5d 0 (by decide)).trans f0
  have f1 := (x5d 1 (by decide)).trans f1
  have f2 := (x5d 2 (by decide)).trans f2
  have f6 := (x5d 6 (by decide)).trans f6
  have f7 := (x5d 7 (by decide)).trans f7
  have f8 := (x5d 8 (by decide)).trans f8
  have f13 := (x5d 13 (by decide)).trans f13
  have f30 := x5c
  have ev2 := ev_tmp f30
  have rb2 : execW Try.prog cx [] (callW Try.prog how) (.block 2 (.loop (.seq (.seq (cr [.r, .r, .r, .r, .i, .i, .l, .l]) (cr [.r, .r, .r, .r, .i, .i, .l, .r])) (cr [.r, .r, .r, .r, .i, .i, .r])))) (env4, AS.mk hp s) = some (.normal, (env5, AS.mk hp s)) := block_out (loop_out (execW_seq_exit (execW_seq_of x5a (execW_cond_f ev2 (by rfl)))) (by simp))
  rw [← l2_eq] at rb2
  exact call_of (fl := {}) (fn := Try.f37) (c := bodyC) (env := env) (e := (.normal, (env5, AS.mk hp s))) rfl Try.func37 body henv (by unfold bodyC; exact (execW_seq_of x1a (execW_seq_of x2a (execW_seq_of rb1 (execW_seq_of x4a rb2))))) ((fin_none (.inr rfl) rfl rfl).trans (by simp))
end F37

section
attribute [local simp] ofV ofCell ofCells seqA_nil seqA_cons seqVK_eq seqEK_eq wantedA yieldedA isVal effA ev evs evps putE optsA optsOk valA fieldAddrA fieldA loadA partA aggA isAggD buildA placesA fillA lay storeA AV.withCells buildSliceA elemsA rowParts fzL promL okE isSrc bytesOk pushA cxOf lenA binA intBinA strBinA unA indexAddrA eqA AVs.inb AV.inb Loc.inb calleeA opsOf sub bodyOf Env.get_set quietA_nil quietA_cons quietK_none quietK_some qstep newA isNew escNew boxOk newLoc flat rowPartsQ quietN quietOp isBS List.takeWhile finishA_eq finK_ret finK_normal retK backK resA oneA AV.back AVs.back execW_seq_eq seqK_normal seqK_ret seqK_exit execW_cond_eq condK_true condK_false execW_block_eq blockK_exit blockK_normal blockK_ret execW_region_eq regK_eq execW_skip execW_exit execW_ret regionA_plain regionA_quiet0 tailK_eq nilCheckA guardOk isConst lookupA keyFits mapUpdateA beqI bneI
theorem f31_c (hp s : List AObj) (ro : Option Nat) (i v n : Nat) (s2 : List AObj) (hro : ∀ k, ro = some k → k ≤ s.length) (hl : s2.length = s.length) (h37 : callW Try.prog how 37 [.row (.st i) v 0 n, .int .i64 (n : Int), .fn (.func 32) [] []] ⟨hp, s⟩ ro = some (.tup [], ⟨hp, s2⟩)) :
    callW Try.prog how 31 [.row (.st i) v 0 n, .fn (.func 32) [] []] ⟨hp, s⟩ ro = some (.tup [], ⟨hp, s2⟩) := by
  refine callW_body (fl := {}) (fn := Try.f31) (c := bodyOf Try.f31) rfl Try.func31 rfl ?_
  have henv : ∃ e, e = frameA Try.f31 [.row (.st i) v 0 n, .fn (.func 32) [] []] := ⟨_, rfl⟩
  obtain ⟨env, henv⟩ := henv
  have hle : env.length = 9 := by rw [henv]; rfl
  have h0 : Env.get env 0 = .row (.st i) v 0 n := by rw [henv]; rfl
  have h1 : Env.get env 1 = .fn (.func 32) [] [] := by rw [henv]; rfl
  rw [← henv]
  clear henv
  have htk : s2.take s.length = s2 := by rw [← hl, List.take_length]
  simp -implicitDefEqProofs [Try.f31, hle, h0, h1, wok_le hro, wok_le' hro, h37, htk]

end
theorem lt_of_out {ro : Option Nat} {h : Nat} {σ0 σ : AS} (hro : ∀ k, ro = some k → k ≤ h) (ho : Outside h σ0 σ) : ∀ k, ro = some k → k ≤ σ.st.length := fun k hk => Nat.le_trans (hro k hk) ho.2.2
section
attribute [local simp] ofV ofCell ofCells seqA_nil seqA_cons seqVK_eq seqEK_eq wantedA yieldedA isVal effA ev evs evps putE optsA optsOk valA fieldAddrA fieldA loadA partA aggA isAggD buildA placesA fillA lay storeA AV.withCells buildSliceA elemsA rowParts fzL promL okE isSrc bytesOk pushA cxOf lenA binA intBinA strBinA unA indexAddrA eqA AVs.inb AV.inb Loc.inb calleeA opsOf sub bodyOf Env.get_set quietA_nil quietA_cons quietK_none quietK_some qstep newA isNew escNew boxOk newLoc flat rowPartsQ quietN quietOp isBS List.takeWhile finishA_eq finK_ret finK_normal retK backK resA oneA AV.back AVs.back execW_seq_eq seqK_normal seqK_ret seqK_exit execW_cond_eq condK_true condK_false execW_block_eq blockK_exit blockK_normal blockK_ret execW_region_eq regK_eq execW_skip execW_exit execW_ret regionA_plain regionA_quiet0 tailK_eq nilCheckA guardOk isConst lookupA keyFits mapUpdateA beqI bneI
theorem f31_n (hp s : List AObj) (ro : Option Nat)  (hro : ∀ k, ro = some k → k ≤ s.length) (h37 : callW Try.prog how 37 [.nils, .int .i64 0, .fn (.func 32) [] []] ⟨hp, s⟩ ro = some (.tup [], ⟨hp, s⟩)) :
    callW Try.prog how 31 [.nils, .fn (.func 32) [] []] ⟨hp, s⟩ ro = some (.tup [], ⟨hp, s⟩) := by
  refine callW_body (fl := {}) (fn := Try.f31) (c := bodyOf Try.f31) rfl Try.func31 rfl ?_
  have henv : ∃ e, e = frameA Try.f31 [.nils, .fn (.func 32) [] []] := ⟨_, rfl⟩
  obtain ⟨env, henv⟩ := henv
  have hl : env.length = 9 := by rw [henv]; rfl
  have h0 : Env.get env 0 = .nils := by rw [henv]; rfl
  have h1 : Env.get env 1 = .fn (.func 32) [] [] := by rw [henv]; rfl
  rw [← henv]
  clear henv
  simp -implicitDefEqProofs [Try.f31, hl, h0, h1, wok_le hro, wok_le' hro, h37]

end
namespace F23
noncomputable def cr (p : List Dir) : Code := sub p (bodyOf Try.f23)

section
attribute [local simp] ofV ofCell ofCells seqA_nil seqA_cons seqVK_eq seqEK_eq wantedA yieldedA isVal effA ev evs evps putE optsA optsOk valA fieldAddrA fieldA loadA partA aggA isAggD buildA placesA fillA lay storeA AV.withCells buildSliceA elemsA rowParts fzL promL okE isSrc bytesOk pushA cxOf lenA binA intBinA strBinA unA indexAddrA eqA AVs.inb AV.inb Loc.inb calleeA opsOf sub bodyOf Env.get_set quietA_nil quietA_cons quietK_none quietK_some qstep newA isNew escNew boxOk newLoc flat rowPartsQ quietN quietOp isBS List.takeWhile finishA_eq finK_ret finK_normal retK backK resA oneA AV.back AVs.back execW_seq_eq seqK_normal seqK_ret seqK_exit execW_cond_eq condK_true condK_false execW_block_eq blockK_exit blockK_normal blockK_ret execW_region_eq regK_eq execW_skip execW_exit execW_ret regionA_plain regionA_quiet0 tailK_eq nilCheckA guardOk isConst lookupA keyFits mapUpdateA beqI bneI
theorem rA (cx : Cx) (env : Env) (σ : AS)  (hlen : env.length = 23) (hcx : cx.esc = [])  :
    Pc Try.prog how cx [] 23 [2] (cr [.l]) env σ (.normal) (σ) (fun env' => Env.get env' 2 = .nils) := by
  refine pc_of fun res hr => ?_
  simp -implicitDefEqProofs [-lenA, -indexAddrA, -loadA, AS.get_push_at, AS.get_push_old, AS.push_len, AS.set_st_len, AS.next_st', AS.set_push_at, AS.get_set_self, AS.get_set_other, cr, Try.f23, hlen, hcx] at hr
  subst hr
  refine ⟨_, rfl, by simp [hlen], by simp [Env.get_set, hlen], fun i hi => ?_⟩
  simp only [List.mem_cons, List.not_mem_nil, or_false, not_or] at hi
  simp only [get_set2, hi, false_and, if_false]

theorem rB (cx : Cx) (env : Env) (σ : AS)  (hlen : env.length = 23) (hcx : cx.esc = [])  :
    Pc Try.prog how cx [] 23 [3] (cr [.r, .l]) env σ (.normal) (σ) (fun env' => Env.get env' 3 = .nils) := by
  refine pc_of fun res hr => ?_
  simp -implicitDefEqProofs [-lenA, -indexAddrA, -loadA, AS.get_push_at, AS.get_push_old, AS.push_len, AS.set_st_len, AS.next_st', AS.set_push_at, AS.get_set_self, AS.get_set_other, cr, Try.f23, hlen, hcx] at hr
  subst hr
  refine ⟨_, rfl, by simp [hlen], by simp [Env.get_set, hlen], fun i hi => ?_⟩
  simp only [List.mem_cons, List.not_mem_nil, or_false, not_or] at hi
  simp only [get_set2, hi, false_and, if_false]

theorem rC (cx : Cx) (env : Env) (σ : AS) (X : AV) (n : Nat) (hlen : env.length = 23) (hcx : cx.esc = []) (f0 : Env.get env 0 = X) (hl : lenA Try.prog σ 28 X = some n) (hX : X.one = true) :
    Pc Try.prog how cx [] 23 [6, 7, 8] (cr [.r, .r, .l, .l]) env σ (.normal) (σ) (fun env' => Env.get env' 6 = X ∧ Env.get env' 7 = .int .i64 (n : Int) ∧ Env.get env' 8 = .int .i64 0) := by
  refine pc_of fun res hr => ?_
  simp -implicitDefEqProofs [-lenA, AS.get_push_at, AS.get_push_old, AS.push_len, AS.set_st_len, AS.next_st', AS.set_push_at, AS.get_set_self, AS.get_set_other, cr, Try.f23, hlen, hcx, f0, hl, hX] at hr
  subst hr
  refine ⟨_, rfl, by simp [hlen], by simp [Env.get_set, hlen, f0, hl, hX], fun i hi => ?_⟩
  simp only [List.mem_cons, List.not_mem_nil, or_false, not_or] at hi
  simp only [get_set2, hi, false_and, if_false]

theorem rE (cx : Cx) (env : Env) (σ : AS) (k : Nat) (Z p : AV) (x : RowD) (RX WX : AV) (hlen : env.length = 23) (hcx : cx.esc = []) (f6 : Env.get env 6 = Z) (f8 : Env.get env 8 = .int .i64 (k : Int)) (hRX : Plain RX) (hWX : Plain WX) (hia : indexAddrA Try.prog σ 28 Z (.int .i64 (k : Int)) = some p) (hpa : loadA Try.prog σ 59 p = some (.agg [.int .i64 x.cl, .int .u64 x.sq, .int .i64 x.kind, .str x.key, .str x.val, RX, WX, .int .i64 x.ca, .int .i64 x.st, .int .i64 x.an, .int .i64 x.code, .int .i64 x.rcl, .int .u64 x.rsq, .int .i64 x.rn, .int .i64 x.rcode, .str x.rval, .int .u64 x.rnum])) (hw : wok cx.ro (.st σ.st.length) = true) (hh : cx.h ≤ σ.st.length) :
    Pc Try.prog how cx [] 23 [5, 10, 11] (cr [.r, .r, .l, .r, .i, .i, .r, .r, .l, .i, .l]) env σ (.normal) (σ.push false (.cells [.int .i64 x.cl, .int .u64 x.sq, .int .i64 x.kind, .str x.key, .str x.val, RX, WX, .int .i64 x.ca, .int .i64 x.st, .int .i64 x.an, .int .i64 x.code, .int .i64 x.rcl, .int .u64 x.rsq, .int .i64 x.rn, .int .i64 x.rcode, .str x.rval, .int .u64 x.rnum])) (fun env' => Env.get env' 5 = .ptr (.st σ.st.length) 0) := by
  refine pc_of fun res hr => ?_
  simp -implicitDefEqProofs [-lenA, -indexAddrA, -loadA, AS.get_push_at, AS.get_push_old, AS.push_len, AS.set_st_len, AS.next_st', AS.set_push_at, AS.get_set_self, AS.get_set_other, cr, Try.f23, hlen, hcx, f6, f8, hRX.one, hRX.inb, hRX.row, hRX.cells, hWX.one, hWX.inb, hWX.row, hWX.cells, hia, hpa, hw, hh] at hr
  subst hr
  refine ⟨_, rfl, by simp [hlen], by simp [Env.get_set, hlen, f6, f8, hRX.one, hRX.inb, hRX.row, hRX.cells, hWX.one, hWX.inb, hWX.row, hWX.cells, hia, hpa, hw, hh], fun i hi => ?_⟩
  simp only [List.mem_cons, List.not_mem_nil, or_false, not_or] at hi
  simp only [get_set2, hi, false_and, if_false]

theorem rT (cx : Cx) (env : Env) (σ : AS) (c : Nat) (x : RowD) (RX WX : AV) (hlen : env.length = 23) (hcx : cx.esc = []) (f5 : Env.get env 5 = .ptr (.st c) 0) (g5 : σ.get (.st c) = some (.cells [.int .i64 x.cl, .int .u64 x.sq, .int .i64 x.kind, .str x.key, .str x.val, RX, WX, .int .i64 x.ca, .int .i64 x.st, .int .i64 x.an, .int .i64 x.code, .int .i64 x.rcl, .int .u64 x.rsq, .int .i64 x.rn, .int .i64 x.rcode, .str x.rval, .int .u64 x.rnum])) (hRX : Plain RX) (hWX : Plain WX) (q : ¬ x.st = 0) :
    Pc Try.prog how cx [] 23 [12, 13, 14] (cr [.r, .r, .l, .r, .i, .i, .r, .r, .l, .i, .r, .l]) env σ (.normal) (σ) (fun env' => Env.get env' 14 = .bool true) := by
  refine pc_of fun res hr => ?_
  simp -implicitDefEqProofs [AS.get_push_at, AS.get_push_old, AS.push_len, AS.set_st_len, AS.next_st', AS.set_push_at, AS.get_set_self, AS.get_set_other, cr, Try.f23, hlen, hcx, f5, g5, q, hRX.one, hRX.inb, hRX.row, hRX.cells, hWX.one, hWX.inb, hWX.row, hWX.cells] at hr
  subst hr
  refine ⟨_, rfl, by simp [hlen], by simp [Env.get_set, hlen, f5, g5, q, hRX.one, hRX.inb, hRX.row, hRX.cells, hWX.one, hWX.inb, hWX.row, hWX.cells], fun i hi => ?_⟩
  simp only [List.mem_cons, List.not_mem_nil, or_false, not_or] at hi
  simp only [get_set2, hi, false_and, if_false]

theorem rP (cx : Cx) (env : Env) (σ : AS) (c : Nat) (x : RowD) (RX WX : AV) (R R' : AV) (σ' : AS) (hlen : env.length = 23) (hcx : cx.esc = []) (f3 : Env.get env 3 = R) (f5 : Env.get env 5 = .ptr (.st c) 0) (g5 : σ.get (.st c) = some (.cells [.int .i64 x.cl, .int .u64 x.sq, .int .i64 x.kind, .str x.key, .str x.val, RX, WX, .int .i64 x.ca, .int .i64 x.st, .int .i64 x.an, .int .i64 x.code, .int .i64 x.rcl, .int .u64 x.rsq, .int .i64 x.rn, .int .i64 x.rcode, .str x.rval, .int .u64 x.rnum])) (hRX : Plain RX) (hWX : Plain WX) (hfz : fzL cx.ro σ [RX, WX, .int .i64 x.ca, .int .i64 x.st, .int .i64 x.an, .int .i64 x.code, .int .i64 x.rcl, .int .u64 x.rsq, .int .i64 x.rn, .int .i64 x.rcode, .str x.rval, .int .u64 x.rnum] = some ([RX, WX, .int .i64 x.ca, .int .i64 x.st, .int .i64 x.an, .int .i64 x.code, .int .i64 x.rcl, .int .u64 x.rsq, .int .i64 x.rn, .int .i64 x.rcode, .str x.rval, .int .u64 x.rnum], σ)) (hap : appendA Try.prog cx (σ.push false (.row [.agg [.int .i64 x.cl, .int .u64 x.sq, .int .i64 x.kind, .str x.key, .str x.val, RX, WX, .int .i64 x.ca, .int .i64 x.st, .int .i64 x.an, .int .i64 x.code, .int .i64 x.rcl, .int .u64 x.rsq, .int .i64 x.rn, .int .i64 x.rcode, .str x.rval, .int .u64 x.rnum]] 17 0 false)) [28, 28] R (.row (.st σ.st.length) 0 0 1) = some (R', σ')) :
    Pc Try.prog how cx [] 23 [3, 15, 16, 17, 18] (cr [.r, .r, .l, .r, .i, .i, .r, .r, .l, .i, .r, .r, .l]) env σ (.normal) (σ') (fun env' => Env.get env' 3 = R') := by
  refine pc_of fun res hr => ?_
  simp -implicitDefEqProofs [AS.get_push_at, AS.get_push_old, AS.push_len, AS.set_st_len, AS.next_st', AS.set_push_at, AS.get_set_self, AS.get_set_other, cr, Try.f23, hlen, hcx, f3, f5, g5, hRX.one, hRX.inb, hRX.row, hRX.cells, hWX.one, hWX.inb, hWX.row, hWX.cells, hfz, hap, elemA] at hr
  subst hr
  refine ⟨_, rfl, by simp [hlen], by simp [Env.get_set, hlen, f3, f5, g5, hRX.one, hRX.inb, hRX.row, hRX.cells, hWX.one, hWX.inb, hWX.row, hWX.cells, hfz, hap, elemA], fun i hi => ?_⟩
  simp only [List.mem_cons, List.not_mem_nil, or_false, not_or] at hi
  simp only [get_set2, hi, false_and, if_false]

theorem rS (cx : Cx) (env : Env) (σ : AS) (R : AV) (σ' : AS) (hlen : env.length = 23) (hcx : cx.esc = []) (f3 : Env.get env 3 = R) (h31 : callW Try.prog how 31 [R, .fn (.func 32) [] []] σ cx.ro = some (.tup [], σ')) :
    Pc Try.prog how cx [] 23 [20, 21] (cr [.r, .r, .r, .l]) env σ (.normal) (σ') (fun _ => True) := by
  refine pc_of fun res hr => ?_
  simp -implicitDefEqProofs [-lenA, -indexAddrA, -loadA, AS.get_push_at, AS.get_push_old, AS.push_len, AS.set_st_len, AS.next_st', AS.set_push_at, AS.get_set_self, AS.get_set_other, cr, Try.f23, hlen, hcx, f3, h31] at hr
  subst hr
  refine ⟨_, rfl, by simp [hlen], by simp [Env.get_set, hlen, f3, h31], fun i hi => ?_⟩
  simp only [List.mem_cons, List.not_mem_nil, or_false, not_or] at hi
  simp only [get_set2, hi, false_and, if_false]

theorem rZ (cx : Cx) (env : Env) (σ : AS) (R : AV) (hlen : env.length = 23) (hcx : cx.esc = []) (f3 : Env.get env 3 = R) :
    Pc Try.prog how cx [] 23 [2, 22] (cr [.r, .r, .r, .r, .l]) env σ (.normal) (σ) (fun env' => Env.get env' 2 = R) := by
  refine pc_of fun res hr => ?_
  simp -implicitDefEqProofs [-lenA, -indexAddrA, -loadA, AS.get_push_at, AS.get_push_old, AS.push_len, AS.set_st_len, AS.next_st', AS.set_push_at, AS.get_set_self, AS.get_set_other, cr, Try.f23, hlen, hcx, f3] at hr
  subst hr
  refine ⟨_, rfl, by simp [hlen], by simp [Env.get_set, hlen, f3], fun i hi => ?_⟩
  simp only [List.mem_cons, List.not_mem_nil, or_false, not_or] at hi
  simp only [get_set2, hi, false_and, if_false]

end
noncomputable def bodyC : Code := (.seq (cr [.l]) (.seq (cr [.r, .l]) (.seq (.seq (cr [.r, .r, .l, .l]) (cr [.r, .r, .l, .r])) (.seq (cr [.r, .r, .r, .l]) (.seq (cr [.r, .r, .r, .r, .l]) .ret)))))
theorem body : Try.f23.body = some bodyC := by kernel_rfl
/-- What holds ahead of round k. -/
def J (h : Nat) (σ0 : AS) (X : AV) (l : List RowD) (k : Nat) (env : Env) (σ : AS) : Prop :=
  Env.get env 6 = X ∧ (∃ R0, Env.get env 3 = R0 ∧ Rows h σ [(17, R0, (l.take k).map encRow)]) ∧ Outside h σ0 σ
def Ex (h : Nat) (σ0 : AS) (X : AV) (l : List RowD) (e : AExit) (env : Env) (σ : AS) : Prop := False
theorem J_stable {h : Nat} {σ0 : AS} {X : AV} {l : List RowD} : ∀ k env env' σ, env.length = 23 → env'.length = 23 → (∀ i, i ≠ 9 → i ≠ 19 → i ≠ 8 → Env.get env' i = Env.get env i) → J h σ0 X l k env σ → J h σ0 X l k env' σ := by
  rintro k env env' σ _ _ hf ⟨j6, ⟨R0, r0, hR⟩, ho⟩
  exact ⟨(hf 6 (by decide) (by decide) (by decide)).trans j6, ⟨R0, (hf 3 (by decide) (by decide) (by decide)).trans r0, hR⟩, ho⟩
noncomputable def oT : Oper := (opsOf (cr [.r, .r, .l, .r, .i, .i, .l])).headD default
noncomputable def oI : List Oper := opsOf (cr [.r, .r, .l, .r, .i, .i, .r, .r, .r])
theorem loop_eq : (cr [.r, .r, .l, .r]) = .block 0 (.loop (.seq (.region 3 #[oT] false) (.seq (.cond (.tmp 9) .skip (.exit 0)) (.seq (.block 1 (.seq (cr [.r, .r, .l, .r, .i, .i, .r, .r, .l, .i, .l]) (.seq (cr [.r, .r, .l, .r, .i, .i, .r, .r, .l, .i, .r, .l]) (.cond (.tmp 14) (cr [.r, .r, .l, .r, .i, .i, .r, .r, .l, .i, .r, .r, .l]) .skip)))) (.region 7 #[oI.headD default, (oI.drop 1).headD default] false))))) := by kernel_rfl
theorem step (cx : Cx) (hcx : cx.esc = []) (hro : ∀ k, cx.ro = some k → k ≤ cx.h) (σ0 : AS) (X : AV) (l : List RowD) (hX : Rd Try.prog σ0 28 59 X (l.map encRow)) (hXk : ∀ σ, Outside cx.h σ0 σ → Rd Try.prog σ 28 59 X (l.map encRow)) (hst : ∀ x ∈ l, ¬ x.st = 0) (hn : l.length ≤ 900) :
    ∀ k env σ, k < l.length → env.length = 23 → Env.get env 8 = .int .i64 (k : Int) → Env.get env 7 = .int .i64 ((l.length : Nat) : Int) → J cx.h σ0 X l k env σ → ∃ e env' σ', execW Try.prog cx [] (callW Try.prog how) (.block 1 (.seq (cr [.r, .r, .l, .r, .i, .i, .r, .r, .l, .i, .l]) (.seq (cr [.r, .r, .l, .r, .i, .i, .r, .r, .l, .i, .r, .l]) (.cond (.tmp 14) (cr [.r, .r, .l, .r, .i, .i, .r, .r, .l, .i, .r, .r, .l]) .skip)))) (env, σ) = some (e, (env', σ')) ∧
      ((e = .normal ∧ env'.length = 23 ∧ Env.get env' 8 = .int .i64 (k : Int) ∧ Env.get env' 7 = .int .i64 ((l.length : Nat) : Int) ∧ J cx.h σ0 X l (k + 1) env' σ') ∨ (e ≠ .normal ∧ Ex cx.h σ0 X l e env' σ')) := by
  rintro k env σ hk hlen f8 f7 ⟨f6, ⟨R0, f3, hR⟩, ho⟩
  obtain ⟨p, hia, hpa⟩ := (hXk σ ho).2 k (encRow l[k]) (get_el hk)
  obtain ⟨env1, x1a, x1b, x1c, x1d⟩ := rE cx env σ k X p (l[k]) ((slV 2 (l[k].rs.map encRd))) ((slV 3 (l[k].ws.map encWr))) hlen hcx f6 f8 slV_plain slV_plain hia hpa (wokst hro ho.2.2) ho.2.2
  have f3 := (x1d 3 (by decide)).trans f3
  have f6 := (x1d 6 (by decide)).trans f6
  have f7 := (x1d 7 (by decide)).trans f7
  have f8 := (x1d 8 (by decide)).trans f8
  have f5 := x1c
  have g1 : ((σ : AS).push false (.cells [.int .i64 l[k].cl, .int .u64 l[k].sq, .int .i64 l[k].kind, .str l[k].key, .str l[k].val, (slV 2 (l[k].rs.map encRd)), (slV 3 (l[k].ws.map encWr)), .int .i64 l[k].ca, .int .i64 l[k].st, .int .i64 l[k].an, .int .i64 l[k].code, .int .i64 l[k].rcl, .int .u64 l[k].rsq, .int .i64 l[k].rn, .int .i64 l[k].rcode, .str l[k].rval, .int .u64 l[k].rnum])).get (.st (σ : AS).st.length) = some (.cells [.int .i64 l[k].cl, .int .u64 l[k].sq, .int .i64 l[k].kind, .str l[k].key, .str l[k].val, (slV 2 (l[k].rs.map encRd)), (slV 3 (l[k].ws.map encWr)), .int .i64 l[k].ca, .int .i64 l[k].st, .int .i64 l[k].an, .int .i64 l[k].code, .int .i64 l[k].rcl, .int .u64 l[k].rsq, .int .i64 l[k].rn, .int .i64 l[k].rcode, .str l[k].rval, .int .u64 l[k].rnum]) := AS.get_push_at rfl
  have hR := hR.push (ob := .cells [.int .i64 l[k].cl, .int .u64 l[k].sq, .int .i64 l[k].kind, .str l[k].key, .str l[k].val, (slV 2 (l[k].rs.map encRd)), (slV 3 (l[k].ws.map encWr)), .int .i64 l[k].ca, .int .i64 l[k].st, .int .i64 l[k].an, .int .i64 l[k].code, .int .i64 l[k].rcl, .int .u64 l[k].rsq, .int .i64 l[k].rn, .int .i64 l[k].rcode, .str l[k].rval, .int .u64 l[k].rnum])
  have ho := ho.push (ob := .cells [.int .i64 l[k].cl, .int .u64 l[k].sq, .int .i64 l[k].kind, .str l[k].key, .str l[k].val, (slV 2 (l[k].rs.map encRd)), (slV 3 (l[k].ws.map encWr)), .int .i64 l[k].ca, .int .i64 l[k].st, .int .i64 l[k].an, .int .i64 l[k].code, .int .i64 l[k].rcl, .int .u64 l[k].rsq, .int .i64 l[k].rn, .int .i64 l[k].rcode, .str l[k].rval, .int .u64 l[k].rnum])
  generalize hib1 : (σ : AS).st.length = ib1 at g1 f5
  generalize (σ : AS).push false (.cells [.int .i64 l[k].cl, .int .u64 l[k].sq, .int .i64 l[k].kind, .str l[k].key, .str l[k].val, (slV 2 (l[k].rs.map encRd)), (slV 3 (l[k].ws.map encWr)), .int .i64 l[k].ca, .int .i64 l[k].st, .int .i64 l[k].an, .int .i64 l[k].code, .int .i64 l[k].rcl, .int .u64 l[k].rsq, .int .i64 l[k].rn, .int .i64 l[k].rcode, .str l[k].rval, .int .u64 l[k].rnum]) = σ1 at x1a g1 hR ho
  obtain ⟨env2, x2a, x2b, x2c, x2d⟩ := rT cx env1 σ1 _ (l[k]) _ _ x1b hcx f5 g1 slV_plain slV_plain (hst _ (List.getElem_mem hk)) 
  have f3 := (x2d 3 (by decide)).trans f3
  have f5 := (x2d 5 (by decide)).trans f5
  have f6 := (x2d 6 (by decide)).trans f6
  have f7 := (x2d 7 (by decide)).trans f7
  have f8 := (x2d 8 (by decide)).trans f8
  have f14 := x2c
  have ev1 := ev_tmp f14
  obtain ⟨R3, τ3, y3a, y3b, y3c, y3d, y3e⟩ := append_one (cx := cx) (x := encRow l[k]) (j := 0) app28 hR rfl (by rw [List.length_map, List.length_take]; omega) (by decide) hro ho.2.2
  obtain ⟨env3, x3a, x3b, x3c, x3d⟩ := rP cx env2 σ1 _ (l[k]) _ _ _ R3 τ3 x2b hcx f3 f5 g1 slV_plain slV_plain (by simp only [fzL, fz_sl]) y3a 
  have f5 := (x3d 5 (by decide)).trans f5
  have f6 := (x3d 6 (by decide)).trans f6
  have f7 := (x3d 7 (by decide)).trans f7
  have f8 := (x3d 8 (by decide)).trans f8
  have f14 := (x3d 14 (by decide)).trans f14
  have f3 := x3c
  have hR := y3c
  have ho := y3e _ ho
  exact ⟨.normal, env3, _, (execW_block_of (execW_seq_of x1a (execW_seq_of x2a (execW_cond_t ev1 x3a)))), .inl ⟨rfl, x3b, f8, f7, f6, ⟨_, f3, (by rw [List.take_succ_eq_append_getElem hk, List.map_append]; exact hR)⟩, ho⟩⟩
theorem loop (cx : Cx) (hcx : cx.esc = []) (hro : ∀ k, cx.ro = some k → k ≤ cx.h) (σ0 : AS) (X : AV) (l : List RowD) (hX : Rd Try.prog σ0 28 59 X (l.map encRow)) (hXk : ∀ σ, Outside cx.h σ0 σ → Rd Try.prog σ 28 59 X (l.map encRow)) (hst : ∀ x ∈ l, ¬ x.st = 0) (hn : l.length ≤ 900) (hnn : l.length ≤ 9223372036854775807) {env : Env} {σ : AS} (hl : env.length = 23) (h1 : Env.get env 8 = .int .i64 0) (h2 : Env.get env 7 = .int .i64 ((l.length : Nat) : Int)) (h0 : J cx.h σ0 X l 0 env σ) :
    ∃ e env' σ', execW Try.prog cx [] (callW Try.prog how) (cr [.r, .r, .l, .r]) (env, σ) = some (e, (env', σ')) ∧ ((e = .normal ∧ ((env'.length = 23 ∧ J cx.h σ0 X l (l.length) env' σ') ∨ Ex cx.h σ0 X l (.exit 0) env' σ')) ∨ (e ≠ .normal ∧ e ≠ .exit 0 ∧ Ex cx.h σ0 X l e env' σ')) := by
  rw [loop_eq]
  exact range_std (Ex := Ex cx.h σ0 X l) (N := 23) (tc := 9) (ti := 8) (tl := 7) (tx := 19) (ty1 := 3) (ty2 := 3) (ty3 := 3) (ty4 := 3) ⟨by kernel_rfl, by kernel_rfl, by kernel_rfl⟩ ⟨by kernel_rfl, by kernel_rfl, by kernel_rfl⟩ ⟨by kernel_rfl, by kernel_rfl, by kernel_rfl⟩ (by decide) hnn J_stable (step cx hcx hro σ0 X l hX hXk hst hn) hl h1 h2 h0
theorem ok (hp s : List AObj) (ro : Option Nat) (X : AV) (l : List RowD) (hro' : ∀ k, ro = some k → k ≤ s.length) (hX1 : X.one = true) (hX : ∀ σ, Outside s.length ⟨hp, s⟩ σ → Rd Try.prog σ 28 59 X (l.map encRow)) (hst : ∀ x ∈ l, ¬ x.st = 0) (hn : l.length ≤ 15) :
    ∃ l2 : List RowD, callW Try.prog how 23 [X] ⟨hp, s⟩ ro = some (slV 17 (l2.map encRow), ⟨hp, s⟩) ∧ l2.Perm l ∧ SortTo l2 l.length := by
  let cx : Cx := { h := s.length, ro := ro, esc := [] }
  have hcx : cx.esc = [] := rfl
  have hro : ∀ k, cx.ro = some k → k ≤ cx.h := hro'
  obtain ⟨env, henv⟩ : ∃ e, e = frameA Try.f23 [X] := ⟨_, rfl⟩
  have hlen : env.length = 23 := by rw [henv]; rfl
  have f0 : Env.get env 0 = X := by rw [henv]; rfl
  have ho : Outside s.length (AS.mk hp s) (AS.mk hp s) := Outside.refl (Nat.le_refl _)
  obtain ⟨env1, x1a, x1b, x1c, x1d⟩ := rA cx env (AS.mk hp s)  hlen hcx   
  have f0 := (x1d 0 (by decide)).trans f0
  have f2 := x1c
  obtain ⟨env2, x2a, x2b, x2c, x2d⟩ := rB cx env1 (AS.mk hp s)  x1b hcx   
  have f0 := (x2d 0 (by decide)).trans f0
  have f2 := (x2d 2 (by decide)).trans f2
  have f3 := x2c
  have hl1 := (hX _ ho).1
  rw [List.length_map] at hl1
  obtain ⟨env3, x3a, x3b, x3c, x3d⟩ := rC cx env2 (AS.mk hp s) X l.length x2b hcx f0 hl1 hX1 
  have f0 := (x3d 0 (by decide)).trans f0
  have f2 := (x3d 2 (by decide)).trans f2
  have f3 := (x3d 3 (by decide)).trans f3
  have f6 := x3c.1
  have f7 := x3c.2.1
  have f8 := x3c.2.2
  obtain ⟨e4, env4, σ4, x4a, x4p⟩ := loop cx hcx hro ⟨hp, s⟩ X l (hX _ ho) hX hst (by omega) (by omega) (σ := AS.mk hp s) x3b f8 f7 (⟨f6, ⟨.nils, f3, Rows0N⟩, ho⟩)
  rcases x4p with ⟨rfl, ⟨x4b, f6, ⟨R0, f3, hR⟩, ho⟩ | x4p⟩ | ⟨x4q, x4r, x4p⟩
  · skip
    rw [List.take_length] at hR
    have hB : Built s.length σ4 17 R0 (l.map encRow) := hR.1 _ (List.mem_singleton_self _)
    rcases hB with ⟨h1, h2⟩ | ⟨hne, im, v, h1, hg, hi⟩
    · subst h1
      have hl0 : l = [] := by simpa using h2
      subst hl0
      have h31 := f31_n σ4.hp σ4.st ro (lt_of_out hro ho) (F37.okN σ4.hp σ4.st ro (lt_of_out hro ho))
      obtain ⟨env5, x5a, x5b, x5c, x5d⟩ := rS cx env4 σ4 .nils _ x4b hcx f3 h31 
      have f3 := (x5d 3 (by decide)).trans f3
      have f6 := (x5d 6 (by decide)).trans f6
      obtain ⟨env6, x6a, x6b, x6c, x6d⟩ := rZ cx env5 σ4 .nils x5b hcx f3  
      have f3 := (x6d 3 (by decide)).trans f3
      have f6 := (x6d 6 (by decide)).trans f6
      have f2 := x6c
      exact ⟨[], call_of (fl := {}) (fn := Try.f23) (c := bodyC) (env := env) (e := (.ret, (env6, σ4))) rfl Try.func23 body henv (by unfold bodyC; exact (execW_seq_of x1a (execW_seq_of x2a (execW_seq_of (execW_seq_of x3a x4a) (execW_seq_of x5a (execW_seq_of x6a (by rfl))))))) ((fin_tmp (k := 2) (.inl rfl) rfl rfl f2 (by rfl) (by rfl)).trans (congrArg (fun x => some (_, x)) (outside_st ho))), List.Perm.refl _, fun p q hp => by cases hp⟩
    · subst h1
      have hg2 : σ4.st[im]? = _ := hg
      have hlm : (l.map encRow).length = l.length := List.length_map _
      rw [hlm] at f3
      obtain ⟨l2, h37, hp2, hs2⟩ := F37.ok σ4.hp σ4.st ro im v l (lt_of_out hro ho) hg2 (wokst hro hi) hn
      have h31 := f31_c σ4.hp σ4.st ro im v l.length _ (lt_of_out hro ho) (by simp) h37
      obtain ⟨env5, x5a, x5b, x5c, x5d⟩ := rS cx env4 σ4 ((.row (.st im) v 0 l.length)) _ x4b hcx f3 h31 
      have f3 := (x5d 3 (by decide)).trans f3
      have f6 := (x5d 6 (by decide)).trans f6
      obtain ⟨env6, x6a, x6b, x6c, x6d⟩ := rZ cx env5 (AS.mk σ4.hp (σ4.st.set im (.row (l2.map encRow) 17 v false))) ((.row (.st im) v 0 l.length)) x5b hcx f3  
      have f3 := (x6d 3 (by decide)).trans f3
      have f6 := (x6d 6 (by decide)).trans f6
      have f2 := x6c
      have hout : Outside s.length (AS.mk hp s) (AS.mk σ4.hp (σ4.st.set im (.row (l2.map encRow) 17 v false))) := ho.set (L := .st im) ⟨im, rfl, hi⟩
      have hi2 : ¬ im < s.length := by have : s.length ≤ im := hi; omega
      have him : im < σ4.st.length := (List.getElem?_eq_some_iff.1 hg2).1
      have hll : l2.length = l.length := hp2.length_eq
      have hne2 : l2.map encRow ≠ [] := fun e => hne (List.length_eq_zero_iff.1 (by rw [List.length_map, ← hll, ← List.length_map (f := encRow), e]; rfl))
      have hback : (AV.row (.st im) v 0 l.length).back s.length (AS.mk σ4.hp (σ4.st.set im (.row (l2.map encRow) 17 v false))) = some (slV 17 (l2.map encRow)) := by
        have e9 : slV 17 (l2.map encRow) = .sl false 17 (l2.map encRow) := by cases hh : l2.map encRow with | nil => exact absurd hh hne2 | cons => rfl
        rw [e9]
        have e10 : (l2.map encRow).take l.length = l2.map encRow := by rw [← hll, ← List.length_map (f := encRow), List.take_length]
        simp [AV.back, hi2, him, hll]
        exact e10
      exact ⟨l2, call_of (fl := {}) (fn := Try.f23) (c := bodyC) (env := env) (e := (.ret, (env6, AS.mk σ4.hp (σ4.st.set im (.row (l2.map encRow) 17 v false))))) rfl Try.func23 body henv (by unfold bodyC; exact (execW_seq_of x1a (execW_seq_of x2a (execW_seq_of (execW_seq_of x3a x4a) (execW_seq_of x5a (execW_seq_of x6a (by rfl))))))) ((fin_tmp (k := 2) (.inl rfl) rfl rfl f2 (by exact hback) (by exact slV_inb _)).trans (congrArg (fun x => some (_, x)) (outside_st hout))), hp2, hs2⟩
  · cases x4p
  · cases x4p
end F23
