/- The same over the program's words. -/

import Derived.Test.YtidfkjpcpgeilaaD0
open Go Go.Abs Go.Proofs Go.RowKit
set_option maxRecDepth 100000
set_option maxHeartbeats 4000000
set_option linter.unusedSimpArgs false
set_option linter.unusedVariables false
namespace Ld
attribute [local simp] Try.underlying78 Try.underlying3 Try.underlying23
@[local simp] theorem s3 : sizeA Try.prog 3 = some 1 := by kernel_rfl
section
attribute [local simp] ofV ofCell ofCells seqA_nil seqA_cons seqVK_eq seqEK_eq wantedA yieldedA isVal effA ev evs evps putE optsA optsOk valA fieldAddrA fieldA loadA partA aggA isAggD buildA placesA fillA lay storeA AV.withCells buildSliceA elemsA rowParts fzL promL okE isSrc bytesOk pushA cxOf lenA binA intBinA strBinA unA indexAddrA eqA AVs.inb AV.inb Loc.inb calleeA opsOf sub bodyOf Env.get_set quietA_nil quietA_cons quietK_none quietK_some qstep newA isNew escNew boxOk newLoc flat rowPartsQ quietN quietOp isBS List.takeWhile finishA_eq finK_ret finK_normal retK backK resA oneA AV.back AVs.back execW_seq_eq seqK_normal seqK_ret seqK_exit execW_cond_eq condK_true condK_false execW_block_eq blockK_exit blockK_normal blockK_ret execW_region_eq regK_eq execW_skip execW_exit execW_ret regionA_plain regionA_quiet0 tailK_eq nilCheckA guardOk isConst lookupA keyFits mapUpdateA beqI bneI
theorem v4 (σ : AS) (env : Env) (h : Nat) (c0 c1 c2 c3 c4 c5 c6 c7 c8 : AV) (k x : Int) (hlen : env.length = 59) (f0 : Env.get env 0 = .ptr (.hp h) 0) (f2 : Env.get env 2 = .int .i64 k)
    (hg : σ.get (.hp h) = some (.cells [c0, c1, c2, c3, c4, c5, c6, c7, c8, .int .i64 x])) (hw : wr .i64 (k + 1) = k + 1) :
    ∃ env', seqV Try.prog σ o4 (o4.take 10) env = some env' ∧ env'.length = 59 ∧ (Env.get env' 32 = .ptr (.hp h) 9 ∧ Env.get env' 30 = .int .i64 (max x (k + 1))) ∧ ∀ i, i ∉ [23, 24, 25, 26, 27, 28, 29, 30, 31, 32] → Env.get env' i = Env.get env i := by
  suffices hh : ∀ res, seqV Try.prog σ o4 (o4.take 10) env = res → ∃ env', res = some env' ∧ env'.length = 59 ∧ (Env.get env' 32 = .ptr (.hp h) 9 ∧ Env.get env' 30 = .int .i64 (max x (k + 1))) ∧ ∀ i, i ∉ [23, 24, 25, 26, 27, 28, 29, 30, 31, 32] → Env.get env' i = Env.get env i from hh _ rfl
  intro res hr
  simp -implicitDefEqProofs [seqV, isVal, o4, opsOf, cr, Try.f30, hlen, f0, f2, hg, hw] at hr
  subst hr
  refine ⟨_, rfl, by simp [hlen], ?_, fun i hi => ?_⟩
  · simp [Env.get_set, hlen, f0, f2, hg, hw]
    split <;> omega
  · simp only [List.mem_cons, List.not_mem_nil, or_false, not_or] at hi
    simp [Env.get_set, hi, Ne.symm]
end
theorem v2 {σ : AS} {all : List Oper} {env : Env} {b : AV} {r : List AV} (h : Env.get env 19 = .tup (b :: r)) : seqV Try.prog σ all [N1] env = some (putE env (some 20) b) := by
  simp [seqV, wantedA, N1_g, isVal, N1_op, optsA, valA, ev, h, N1_dst]
theorem v3 {σ : AS} {all : List Oper} {env : Env} {b : AV} {r : List AV} (hl : env.length = 59) (h : Env.get env 21 = .tup (b :: r)) : seqV Try.prog σ all [E1, E2] env = some (putE (putE env (some 22) b) (some 2) b) := by
  simp [seqV, wantedA, E1_g, E2_g, isVal, E1_op, E2_op, optsA, valA, ev, h, E1_dst, E2_dst, putE, Env.get_set, hl]
end Ld
