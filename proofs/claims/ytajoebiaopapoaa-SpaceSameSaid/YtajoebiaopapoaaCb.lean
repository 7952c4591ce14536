/- How each function is run, and what some types are. -/

import Derived.Test.YtajoebiaopapoaaCa
import Derived.Test.YtajoebiaopapoaaAbs13
import Derived.Test.YtajoebiaopapoaaChecked
open Go Go.Abs Go.Proofs
set_option maxRecDepth 100000
set_option maxHeartbeats 4000000
set_option linter.unusedSimpArgs false
set_option linter.unusedVariables false

def bodyTab : List (Nat × Flags) := [(3, {esc := [16], tails := []}), (4, {esc := [20]}), (5, {esc := [18, 21]}), (7, {esc := [1, 3]}), (8, {tails := [2000010]}), (27, {tails := [2000003]}), (29, {tails := [2000003]}), (34, {esc := [1]}), (39, {tails := [2000006]}), (54, {tails := [2000003]}), (56, {tails := [2000003]})]
def how65 (f : FuncId) : Option How := if f = 65 then some (.body { keep := true }) else none
noncomputable def how (f : FuncId) : Option How := if f = 33 then some (.prim (sortedA kindS 61)) else if f = 65 then some (.prim (promP (callW Try.prog how65 65))) else match bodyTab.find? (fun p => p.1 == f) with
  | some p => some (.body p.2)
  | none => if (decide (f < 86) && !(f == 47 || f == 72)) = true then some (.body {}) else none
section
@[simp] theorem z28 : zeroA Try.prog 28 = some (.agg [.nils]) := by kernel_rfl
@[simp] theorem z30 : zeroA Try.prog 30 = some (.agg [.int .i64 0, .str ⟨#[]⟩, .int .i64 0, .str ⟨#[]⟩, .bool false]) := by kernel_rfl
@[simp] theorem z36 : zeroA Try.prog 36 = some (.agg [.str ⟨#[]⟩, .nils]) := by kernel_rfl
@[simp] theorem z40 : zeroA Try.prog 40 = some (.agg [.int .i64 0, .int .u64 0, .str ⟨#[]⟩, .bool false]) := by kernel_rfl
@[simp] theorem z46 : zeroA Try.prog 46 = some (.agg [.int .i64 0, .int .u64 0, .str ⟨#[]⟩, .bool false]) := by kernel_rfl
@[simp] theorem z67 : zeroA Try.prog 67 = some (.agg [.nilm]) := by kernel_rfl
@[simp] theorem z74 : zeroA Try.prog 74 = some (.agg [.nils]) := by kernel_rfl
@[simp] theorem z3 : zeroA Try.prog 3 = some (.int .i64 0) := by kernel_rfl
@[simp] theorem z9 : zeroA Try.prog 9 = some (.str ⟨#[]⟩) := by kernel_rfl
@[simp] theorem z4 : zeroA Try.prog 4 = some (.bool false) := by kernel_rfl
@[simp] theorem z37 : zeroA Try.prog 37 = some (.int .u64 0) := by kernel_rfl
@[simp] theorem s3 : sizeA Try.prog 3 = some 1 := by kernel_rfl
@[simp] theorem s4 : sizeA Try.prog 4 = some 1 := by kernel_rfl
@[simp] theorem s5 : sizeA Try.prog 5 = some 1 := by kernel_rfl
@[simp] theorem s9 : sizeA Try.prog 9 = some 1 := by kernel_rfl
@[simp] theorem s22 : sizeA Try.prog 22 = some 1 := by kernel_rfl
@[simp] theorem s23 : sizeA Try.prog 23 = some 1 := by kernel_rfl
@[simp] theorem s25 : sizeA Try.prog 25 = some 1 := by kernel_rfl
@[simp] theorem s26 : sizeA Try.prog 26 = some 1 := by kernel_rfl
@[simp] theorem s28 : sizeA Try.prog 28 = some 1 := by kernel_rfl
@[simp] theorem s30 : sizeA Try.prog 30 = some 5 := by kernel_rfl
@[simp] theorem s33 : sizeA Try.prog 33 = some 1 := by kernel_rfl
@[simp] theorem s34 : sizeA Try.prog 34 = some 1 := by kernel_rfl
@[simp] theorem s36 : sizeA Try.prog 36 = some 2 := by kernel_rfl
@[simp] theorem s37 : sizeA Try.prog 37 = some 1 := by kernel_rfl
@[simp] theorem s40 : sizeA Try.prog 40 = some 4 := by kernel_rfl
@[simp] theorem s46 : sizeA Try.prog 46 = some 4 := by kernel_rfl
@[simp] theorem s49 : sizeA Try.prog 49 = some 1 := by kernel_rfl
@[simp] theorem s65 : sizeA Try.prog 65 = some 1 := by kernel_rfl
@[simp] theorem s67 : sizeA Try.prog 67 = some 1 := by kernel_rfl
@[simp] theorem s72 : sizeA Try.prog 72 = some 1 := by kernel_rfl
@[simp] theorem s74 : sizeA Try.prog 74 = some 1 := by kernel_rfl
@[simp] theorem s78 : sizeA Try.prog 78 = some 1 := by kernel_rfl
@[simp] theorem s80 : sizeA Try.prog 80 = some 1 := by kernel_rfl
@[simp] theorem s122 : sizeA Try.prog 122 = some 1 := by kernel_rfl
@[simp] theorem s148 : sizeA Try.prog 148 = some 1 := by kernel_rfl
end
attribute [simp] Try.underlying3 Try.underlying4 Try.underlying5 Try.underlying9 Try.underlying22 Try.underlying23 Try.underlying25 Try.underlying26 Try.underlying28 Try.underlying30 Try.underlying33 Try.underlying34 Try.underlying36 Try.underlying37 Try.underlying40 Try.underlying46 Try.underlying49 Try.underlying65 Try.underlying67 Try.underlying72 Try.underlying74 Try.underlying78 Try.underlying80 Try.underlying122 Try.underlying148
section
attribute [local simp] ofV ofCell ofCells seqA_nil seqA_cons seqVK_eq seqEK_eq wantedA yieldedA isVal effA ev evs evps putE optsA optsOk valA fieldAddrA fieldA loadA partA aggA isAggD buildA placesA fillA lay storeA AV.withCells buildSliceA elemsA rowParts fzL promL okE isSrc bytesOk pushA cxOf lenA binA intBinA strBinA unA indexAddrA eqA AVs.inb AV.inb Loc.inb calleeA opsOf sub bodyOf Env.get_set quietA_nil quietA_cons quietK_none quietK_some qstep newA isNew escNew boxOk newLoc flat rowPartsQ quietN quietOp isBS List.takeWhile finishA_eq finK_ret finK_normal retK backK resA oneA AV.back AVs.back execW_seq_eq seqK_normal seqK_ret seqK_exit execW_cond_eq condK_true condK_false execW_block_eq blockK_exit blockK_normal blockK_ret execW_region_eq regK_eq execW_skip execW_exit execW_ret regionA_plain regionA_quiet0 tailK_eq nilCheckA guardOk isConst lookupA keyFits mapUpdateA beqI bneI
theorem f84_ok (hp s : List AObj) (ro : Option Nat) (c : Int) (hro : ∀ k, ro = some k → k ≤ s.length) :
    callW Try.prog how 84 [.int .u8 c] ⟨hp, s⟩ ro = some (.bool (signI c), ⟨hp, s⟩) := by
  refine callW_body (fl := {}) (fn := Try.f84) (c := bodyOf Try.f84) rfl Try.func84 rfl ?_
  have henv : ∃ e, e = frameA Try.f84 [.int .u8 c] := ⟨_, rfl⟩
  obtain ⟨env, henv⟩ := henv
  have hl : env.length = 18 := by rw [henv]; rfl
  have h0 : Env.get env 0 = .int .u8 c := by rw [henv]; rfl
  rw [← henv]
  clear henv
  by_cases p1 : (97 : Int) ≤ c <;> by_cases p2 : c ≤ (122 : Int) <;> by_cases p3 : (48 : Int) ≤ c <;> by_cases p4 : c ≤ (57 : Int) <;> by_cases p5 : c = (95 : Int) <;> first | (exfalso; omega) | skip
  all_goals simp -implicitDefEqProofs [Try.f84, hl, h0, wok_le hro, wok_le' hro, signI, p1, p2, p3, p4, p5]

end