/- The insertion sort: its pieces. -/

import Derived.Test.YtcafckfmhoklkaaCq
open Go Go.Abs Go.Proofs
set_option maxRecDepth 100000
set_option maxHeartbeats 4000000
set_option linter.unusedSimpArgs false
set_option linter.unusedVariables false

def stS (s : List AObj) (i v : Nat) (l : List RowD) : List AObj := s.set i (.row (l.map encRow) 17 v false)
theorem stS_get {hp s : List AObj} {i v : Nat} {l : List RowD} (hi : i < s.length) : (AS.mk hp (stS s i v l)).get (.st i) = some (.row (l.map encRow) 17 v false) := by simp [AS.get, stS, hi]
theorem stS_set {hp s : List AObj} {i v : Nat} {l l' : List RowD} : (AS.mk hp (stS s i v l)).set (.st i) (.row (l'.map encRow) 17 v false) = AS.mk hp (stS s i v l') := by simp [AS.set, stS]
namespace F40
noncomputable def cr (p : List Dir) : Code := sub p (bodyOf Try.f40)

section
attribute [local simp] ofV ofCell ofCells seqA_nil seqA_cons seqVK_eq seqEK_eq wantedA yieldedA isVal effA ev evs evps putE optsA optsOk valA fieldAddrA fieldA loadA partA aggA isAggD buildA placesA fillA lay storeA AV.withCells buildSliceA elemsA rowParts fzL promL okE isSrc bytesOk pushA cxOf lenA binA intBinA strBinA unA indexAddrA eqA AVs.inb AV.inb Loc.inb calleeA opsOf sub bodyOf Env.get_set quietA_nil quietA_cons quietK_none quietK_some qstep newA isNew escNew boxOk newLoc flat rowPartsQ quietN quietOp isBS List.takeWhile finishA_eq finK_ret finK_normal retK backK resA oneA AV.back AVs.back execW_seq_eq seqK_normal seqK_ret seqK_exit execW_cond_eq condK_true condK_false execW_block_eq blockK_exit blockK_normal blockK_ret execW_region_eq regK_eq execW_skip execW_exit execW_ret regionA_plain regionA_quiet0 tailK_eq nilCheckA guardOk isConst lookupA keyFits mapUpdateA beqI bneI mixL_nil mixL_cons mixK_eq tK_pre tK_eq vK_eq stepL_0 stepL_1n stepL_1s stepL_2 stepL_3 stepL_4 stepL_5 cutCall newL tchkL agreeB Op.operands sameO truncM beq_bool beq_int beq_str beq_nilp beq_ptr beq_eptr beq_nils beq_row beq_nilm beq_map beq_agg beq_sl beqs_nil beqs_cons
theorem rA (cx : Cx) (env : Env) (σ : AS)  (hlen : env.length = 53) (hcx : cx.esc = []) (f1 : Env.get env 1 = .int .i64 0) (hw : wr .i64 1 = 1) :
    Pc Try.prog how cx [2000006] 53 [8, 10, 11] (cr [.l]) env σ (.normal) (σ) (fun env' => Env.get env' 8 = .int .i64 1) := by
  refine pc_of fun res hr => ?_
  simp -implicitDefEqProofs [-lenA, -indexAddrA, -loadA, -storeA, AS.get_push_at, AS.get_push_old, AS.push_len, AS.set_st_len, AS.next_st', AS.set_push_at, AS.get_set_self, AS.get_set_other, cr, Try.f40, hlen, hcx, f1, hw] at hr
  subst hr
  refine ⟨_, rfl, by simp [hlen], by simp [Env.get_set, hlen, f1, hw], fun i hi => ?_⟩
  simp only [List.mem_cons, List.not_mem_nil, or_false, not_or] at hi
  simp only [get_set2, hi, false_and, if_false]

theorem rT (cx : Cx) (env : Env) (σ : AS) (m n : Nat) (hlen : env.length = 53) (hcx : cx.esc = []) (f8 : Env.get env 8 = .int .i64 (m : Int)) (f2 : Env.get env 2 = .int .i64 (n : Int)) (q : (m : Int) < (n : Int)) :
    Pc Try.prog how cx [2000006] 53 [12, 13, 14] (cr [.r, .i, .i, .l, .l]) env σ (.normal) (σ) (fun env' => Env.get env' 14 = .bool true) := by
  refine pc_of fun res hr => ?_
  simp -implicitDefEqProofs [-lenA, -indexAddrA, -loadA, -storeA, AS.get_push_at, AS.get_push_old, AS.push_len, AS.set_st_len, AS.next_st', AS.set_push_at, AS.get_set_self, AS.get_set_other, cr, Try.f40, hlen, hcx, f8, f2, q] at hr
  subst hr
  refine ⟨_, rfl, by simp [hlen], by simp [Env.get_set, hlen, f8, f2, q], fun i hi => ?_⟩
  simp only [List.mem_cons, List.not_mem_nil, or_false, not_or] at hi
  simp only [get_set2, hi, false_and, if_false]

theorem rU (cx : Cx) (env : Env) (σ : AS) (m n : Nat) (hlen : env.length = 53) (hcx : cx.esc = []) (f8 : Env.get env 8 = .int .i64 (m : Int)) (f2 : Env.get env 2 = .int .i64 (n : Int)) (q : ¬ (m : Int) < (n : Int)) :
    Pc Try.prog how cx [2000006] 53 [12, 13, 14] (cr [.r, .i, .i, .l, .l]) env σ (.normal) (σ) (fun env' => Env.get env' 14 = .bool false) := by
  refine pc_of fun res hr => ?_
  simp -implicitDefEqProofs [-lenA, -indexAddrA, -loadA, -storeA, AS.get_push_at, AS.get_push_old, AS.push_len, AS.set_st_len, AS.next_st', AS.set_push_at, AS.get_set_self, AS.get_set_other, cr, Try.f40, hlen, hcx, f8, f2, q] at hr
  subst hr
  refine ⟨_, rfl, by simp [hlen], by simp [Env.get_set, hlen, f8, f2, q], fun i hi => ?_⟩
  simp only [List.mem_cons, List.not_mem_nil, or_false, not_or] at hi
  simp only [get_set2, hi, false_and, if_false]

theorem rB (cx : Cx) (env : Env) (σ : AS) (m : Nat) (hlen : env.length = 53) (hcx : cx.esc = []) (f8 : Env.get env 8 = .int .i64 (m : Int)) :
    Pc Try.prog how cx [2000006] 53 [9, 17] (cr [.r, .i, .i, .r, .l, .i, .l]) env σ (.normal) (σ) (fun env' => Env.get env' 9 = .int .i64 (m : Int)) := by
  refine pc_of fun res hr => ?_
  simp -implicitDefEqProofs [-lenA, -indexAddrA, -loadA, -storeA, AS.get_push_at, AS.get_push_old, AS.push_len, AS.set_st_len, AS.next_st', AS.set_push_at, AS.get_set_self, AS.get_set_other, cr, Try.f40, hlen, hcx, f8] at hr
  subst hr
  refine ⟨_, rfl, by simp [hlen], by simp [Env.get_set, hlen, f8], fun i hi => ?_⟩
  simp only [List.mem_cons, List.not_mem_nil, or_false, not_or] at hi
  simp only [get_set2, hi, false_and, if_false]

theorem rP (cx : Cx) (env : Env) (σ : AS)  (hlen : env.length = 53) (hcx : cx.esc = []) (f1 : Env.get env 1 = .int .i64 0) (f9 : Env.get env 9 = .int .i64 0) :
    Pc Try.prog how cx [2000006] 53 [18, 19, 20, 21, 22, 23, 24, 25, 26, 27, 28, 29, 30, 31, 32, 33, 34] (cr [.r, .i, .i, .r, .l, .i, .r, .i, .i, .l, .l]) env σ (.normal) (σ) (fun env' => Env.get env' 34 = .bool false) := by
  refine pc_of fun res hr => ?_
  simp -implicitDefEqProofs [-lenA, -indexAddrA, -loadA, -storeA, AS.get_push_at, AS.get_push_old, AS.push_len, AS.set_st_len, AS.next_st', AS.set_push_at, AS.get_set_self, AS.get_set_other, cr, Try.f40, hlen, hcx, f1, f9, regionA_quiet] at hr
  subst hr
  refine ⟨_, rfl, by simp [hlen], by simp [Env.get_set, hlen, f1, f9, regionA_quiet], fun i hi => ?_⟩
  simp only [List.mem_cons, List.not_mem_nil, or_false, not_or] at hi
  simp only [get_set2, hi, false_and, if_false]

theorem rQ (cx : Cx) (env : Env) (σ : AS) (i v n j : Nat) (c : Int) (E1 E2 : AV) (hlen : env.length = 53) (hcx : cx.esc = []) (f0 : Env.get env 0 = .row (.st i) v 0 n) (f1 : Env.get env 1 = .int .i64 0) (f3 : Env.get env 3 = .fn (.func 32) [] []) (f9 : Env.get env 9 = .int .i64 ((j : Int) + 1)) (hE1 : ∀ n, E1.inb n = true) (hE2 : ∀ n, E2.inb n = true) (hj : (0 : Int) < (j : Int) + 1) (hw : wr .i64 ((j : Int) + 1 - 1) = (j : Int)) (hw2 : wr .i64 (j : Int) = (j : Int)) (hi1 : indexAddrA Try.prog σ 28 (.row (.st i) v 0 n) (.int .i64 ((j : Int) + 1)) = some (.eptr (.st i) v (j + 1) 0)) (hl1 : loadA Try.prog σ 59 (.eptr (.st i) v (j + 1) 0) = some E1) (hi2 : indexAddrA Try.prog σ 28 (.row (.st i) v 0 n) (.int .i64 (j : Int)) = some (.eptr (.st i) v j 0)) (hl2 : loadA Try.prog σ 59 (.eptr (.st i) v j 0) = some E2) (h32 : callW Try.prog how 32 [E1, E2] σ (some σ.st.length) = some (.int .i64 c, σ)) :
    Pc Try.prog how cx [2000006] 53 [18, 19, 20, 21, 22, 23, 24, 25, 26, 27, 28, 29, 30, 31, 32, 33, 34] (cr [.r, .i, .i, .r, .l, .i, .r, .i, .i, .l, .l]) env σ (.normal) (σ) (fun env' => Env.get env' 34 = .bool (decide (c < 0))) := by
  by_cases p1 : c < 0
  all_goals first | (fail; done) | (
      refine pc_of fun res hr => ?_
      simp -implicitDefEqProofs [-lenA, -indexAddrA, -loadA, -storeA, AS.get_push_at, AS.get_push_old, AS.push_len, AS.set_st_len, AS.next_st', AS.set_push_at, AS.get_set_self, AS.get_set_other, cr, Try.f40, hlen, hcx, f0, f1, f3, f9, hE1, hE2, hj, hw, hw2, hi1, hl1, hi2, hl2, h32, p1, regionA_quiet] at hr
      subst hr
      refine ⟨_, rfl, by simp [hlen], by simp [Env.get_set, hlen, f0, f1, f3, f9, hE1, hE2, hj, hw, hw2, hi1, hl1, hi2, hl2, h32, p1, regionA_quiet], fun i hi => ?_⟩
      simp only [List.mem_cons, List.not_mem_nil, or_false, not_or] at hi
      simp only [get_set2, hi, false_and, if_false]
    )

noncomputable def mx_q : List Oper := opsOf (cr [.r, .i, .i, .r, .l, .i, .r, .i, .i, .r, .l, .i])
def mx_plan : List (Nat × List Nat) := [(0, []), (0, []), (0, []), (0, []), (0, []), (0, []), (0, []), (0, []), (2, []), (2, []), (0, []), (0, []), (2, []), (2, []), (2, []), (4, []), (2, []), (4, [])]
theorem mx_reg : (cr [.r, .i, .i, .r, .l, .i, .r, .i, .i, .r, .l, .i]) = .region 6 mx_q.toArray true := by kernel_rfl
theorem mx_ok (h : Nat) (ro : Option Nat) : planOk Try.prog (Cx.mk h ro []) mx_q mx_plan = true := by kernel_rfl
theorem mx_lt : anyLT Try.prog mx_q = false := by kernel_rfl
theorem mx_room (h : Nat) (ro : Option Nat) : roomL Try.prog (Cx.mk h ro []) mx_q = 0 := by kernel_rfl
theorem mx (h : Nat) (ro : Option Nat) (hp s : List AObj) (env : Env) (i v n j : Nat) (E1 E2 : AV) (s1 s2 : List AObj) (hlen : env.length = 53) (f0 : Env.get env 0 = .row (.st i) v 0 n) (f9 : Env.get env 9 = .int .i64 ((j : Int) + 1)) (hw : wr .i64 ((j : Int) + 1 - 1) = (j : Int)) (hw2 : wr .i64 (j : Int) = (j : Int)) (hi1 : indexAddrA Try.prog ⟨hp, s⟩ 28 (.row (.st i) v 0 n) (.int .i64 ((j : Int) + 1)) = some (.eptr (.st i) v (j + 1) 0)) (hi2 : indexAddrA Try.prog ⟨hp, s⟩ 28 (.row (.st i) v 0 n) (.int .i64 (j : Int)) = some (.eptr (.st i) v j 0)) (hi1b : indexAddrA Try.prog ⟨hp, s1⟩ 28 (.row (.st i) v 0 n) (.int .i64 ((j : Int) + 1)) = some (.eptr (.st i) v (j + 1) 0)) (hi2b : indexAddrA Try.prog ⟨hp, s1⟩ 28 (.row (.st i) v 0 n) (.int .i64 (j : Int)) = some (.eptr (.st i) v j 0)) (hl1 : loadA Try.prog ⟨hp, s⟩ 59 (.eptr (.st i) v (j + 1) 0) = some E1) (hl2 : loadA Try.prog ⟨hp, s⟩ 59 (.eptr (.st i) v j 0) = some E2) (hs1 : storeA Try.prog (Cx.mk h ro []) ⟨hp, s⟩ 59 (.eptr (.st i) v (j + 1) 0) E2 = some ⟨hp, s1⟩) (hs2 : storeA Try.prog (Cx.mk h ro []) ⟨hp, s1⟩ 59 (.eptr (.st i) v j 0) E1 = some ⟨hp, s2⟩) :
    Pc Try.prog how (Cx.mk h ro []) [2000006] 53 [37, 38, 39, 40, 41, 42, 43, 44, 45, 46, 47, 48, 49, 50, 51, 52] (cr [.r, .i, .i, .r, .l, .i, .r, .i, .i, .r, .l, .i]) env ⟨hp, s⟩ .normal ⟨hp, s2⟩ (fun _ => True) := by
  refine pc_of fun res hr => ?_
  have hroom := mx_room h ro
  rw [mx_reg, execW_region_eq] at hr
  rw [show (mx_q.toArray).toList = mx_q from rfl, regionA_mix rfl rfl] at hr
  rw [mixA_plan1 (mx_ok h ro) mx_lt, layL0 hroom] at hr
  simp -implicitDefEqProofs [mx_plan, -lenA, -indexAddrA, -loadA, -storeA, mx_q, cr, Try.f40, hlen, f0, f9, hw, hw2, hi1, hi2, hi1b, hi2b, hl1, hl2, hs1, hs2] at hr
  subst hr
  refine ⟨_, rfl, by simp [hlen], by simp [Env.get_set, hlen, f0, f9, hw, hw2, hi1, hi2, hi1b, hi2b, hl1, hl2, hs1, hs2], fun i hi => ?_⟩
  simp only [List.mem_cons, List.not_mem_nil, or_false, not_or] at hi
  simp only [get_set2, hi, false_and, if_false]

theorem rV (cx : Cx) (env : Env) (σ : AS) (j : Nat) (hlen : env.length = 53) (hcx : cx.esc = []) (f9 : Env.get env 9 = .int .i64 ((j : Int) + 1)) (hw : wr .i64 ((j : Int) + 1 - 1) = (j : Int)) (hw2 : wr .i64 (j : Int) = (j : Int)) :
    Pc Try.prog how cx [2000006] 53 [9, 35, 36] (cr [.r, .i, .i, .r, .l, .i, .r, .i, .i, .r, .r]) env σ (.normal) (σ) (fun env' => Env.get env' 9 = .int .i64 (j : Int)) := by
  refine pc_of fun res hr => ?_
  simp -implicitDefEqProofs [-lenA, -indexAddrA, -loadA, -storeA, AS.get_push_at, AS.get_push_old, AS.push_len, AS.set_st_len, AS.next_st', AS.set_push_at, AS.get_set_self, AS.get_set_other, cr, Try.f40, hlen, hcx, f9, hw, hw2] at hr
  subst hr
  refine ⟨_, rfl, by simp [hlen], by simp [Env.get_set, hlen, f9, hw, hw2], fun i hi => ?_⟩
  simp only [List.mem_cons, List.not_mem_nil, or_false, not_or] at hi
  simp only [get_set2, hi, false_and, if_false]

theorem rW (cx : Cx) (env : Env) (σ : AS) (m : Nat) (hlen : env.length = 53) (hcx : cx.esc = []) (f8 : Env.get env 8 = .int .i64 (m : Int)) (hw : wr .i64 ((m : Int) + 1) = (m : Int) + 1) :
    Pc Try.prog how cx [2000006] 53 [8, 15, 16] (cr [.r, .i, .i, .r, .r]) env σ (.normal) (σ) (fun env' => Env.get env' 8 = .int .i64 ((m : Int) + 1)) := by
  refine pc_of fun res hr => ?_
  simp -implicitDefEqProofs [-lenA, -indexAddrA, -loadA, -storeA, AS.get_push_at, AS.get_push_old, AS.push_len, AS.set_st_len, AS.next_st', AS.set_push_at, AS.get_set_self, AS.get_set_other, cr, Try.f40, hlen, hcx, f8, hw] at hr
  subst hr
  refine ⟨_, rfl, by simp [hlen], by simp [Env.get_set, hlen, f8, hw], fun i hi => ?_⟩
  simp only [List.mem_cons, List.not_mem_nil, or_false, not_or] at hi
  simp only [get_set2, hi, false_and, if_false]

end
end F40
