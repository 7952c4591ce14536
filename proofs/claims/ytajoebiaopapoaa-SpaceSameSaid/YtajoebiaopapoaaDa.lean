/- The chapter's example, in any state. -/

import Derived.Test.YtajoebiaopapoaaCz
open Go Go.Abs Go.Proofs
set_option maxRecDepth 100000
set_option maxHeartbeats 4000000
set_option linter.unusedSimpArgs false
set_option linter.unusedVariables false

section
attribute [local simp] ofV ofCell ofCells seqA_nil seqA_cons seqVK_eq seqEK_eq wantedA yieldedA isVal effA ev evs evps putE optsA optsOk valA fieldAddrA fieldA loadA partA aggA isAggD buildA placesA fillA lay storeA AV.withCells buildSliceA elemsA rowParts fzL promL okE isSrc bytesOk pushA cxOf lenA binA intBinA strBinA unA indexAddrA eqA AVs.inb AV.inb Loc.inb calleeA opsOf sub bodyOf Env.get_set quietA_nil quietA_cons quietK_none quietK_some qstep newA isNew escNew boxOk newLoc flat rowPartsQ quietN quietOp isBS List.takeWhile finishA_eq finK_ret finK_normal retK backK resA oneA AV.back AVs.back execW_seq_eq seqK_normal seqK_ret seqK_exit execW_cond_eq condK_true condK_false execW_block_eq blockK_exit blockK_normal blockK_ret execW_region_eq regK_eq execW_skip execW_exit execW_ret regionA_plain regionA_quiet0 tailK_eq nilCheckA guardOk isConst lookupA keyFits mapUpdateA beqI bneI
theorem f15_raw (hp s : List AObj) (a : Nat) (hp1 hp2 hp3 hp4 : List AObj) (h7 : callW Try.prog how 7 [] ⟨hp, s⟩ none = some (.ptr (.hp a) 0, ⟨hp1, s⟩)) (h17a : callW Try.prog how 17 [.ptr (.hp a) 0, .str ⟨#[97]⟩, .int .i64 1, .str ⟨#[120]⟩, .bool false] ⟨hp1, s⟩ none = some (.int .i64 0, ⟨hp2, s⟩)) (h17b : callW Try.prog how 17 [.ptr (.hp a) 0, .str ⟨#[98]⟩, .int .i64 2, .str ⟨#[121]⟩, .bool false] ⟨hp2, s⟩ none = some (.int .i64 0, ⟨hp3, s⟩)) (h13 : callW Try.prog how 13 [.ptr (.hp a) 0, .int .i64 1] ⟨hp3, s⟩ none = some (.sl false 1 [.str ⟨#[98]⟩], ⟨hp4, s⟩)) (h10 : callW Try.prog how 10 [.ptr (.hp a) 0, .str ⟨#[97]⟩] ⟨hp4, s⟩ none = some (.int .u64 1, ⟨hp4, s⟩)) :
    callW Try.prog how 15 [] ⟨hp, s⟩ none = some (.bool true, ⟨hp4, s⟩) := by
  refine callW_body (fl := {}) (fn := Try.f15) (c := bodyOf Try.f15) rfl Try.func15 rfl ?_
  have henv : ∃ e, e = frameA Try.f15 [] := ⟨_, rfl⟩
  obtain ⟨env, henv⟩ := henv
  have hl : env.length = 34 := by rw [henv]; rfl
  rw [← henv]
  clear henv
  simp -implicitDefEqProofs [Try.f15, hl, h7, h17a, h17b, h13, h10, beqS]

end
theorem goodS_nil : GoodS [] := ⟨List.Pairwise.nil, (fun r hr => by cases hr), (fun r hr => by cases hr), (fun r hr => by cases hr), by simp⟩
theorem bnd_nil (c : Nat) : Bnd c [] := ⟨by simp, fun r hr => by cases hr⟩
def exA : List Rw := setS ⟨#[97]⟩ (ofS [] ⟨#[97]⟩ ++ [newV (ofS [] ⟨#[97]⟩) 1 ⟨#[120]⟩ false]) []
def exB : List Rw := setS ⟨#[98]⟩ (ofS exA ⟨#[98]⟩ ++ [newV (ofS exA ⟨#[98]⟩) 2 ⟨#[121]⟩ false]) exA
theorem exA_ok : (!keyOk ⟨#[97]⟩ || badPut (ofS [] ⟨#[97]⟩) 1 ⟨#[120]⟩ false) = false := by decide +kernel
theorem exB_ok : (!keyOk ⟨#[98]⟩ || badPut (ofS exA ⟨#[98]⟩) 2 ⟨#[121]⟩ false) = false := by decide +kernel
theorem exB_dirty : dirtyS exB 1 = [⟨#[98]⟩] := by decide +kernel
theorem exB_num : (lastV (ofS exB ⟨#[97]⟩)).n = 1 := by decide +kernel
/-- The chapter's example, in any state. -/
theorem f15_ok (hp s : List AObj) : ∃ hp', callW Try.prog how 15 [] ⟨hp, s⟩ none = some (.bool true, ⟨hp', s⟩) := by
  have h7 := f7_ok hp s
  have hP : PS (hp ++ [AObj.map [], AObj.cells [.map (.hp hp.length)]]) (hp.length + 1) hp.length [] [] := ⟨by simp, by simp, List.Perm.refl _⟩
  obtain ⟨_, hp2, h17a, hP2, _⟩ := (F17.ok _ s _ _ 1 ⟨#[97]⟩ ⟨#[120]⟩ false [] [] hP goodS_nil (by decide) (by decide)).resolve_left (fun x => by have := x.1; rw [exA_ok] at this; cases this)
  have e1 : keyOk ⟨#[97]⟩ = true ∧ badPut (ofS [] ⟨#[97]⟩) 1 ⟨#[120]⟩ false = false := by simpa using exA_ok
  have g1 := put_goodS goodS_nil (bnd_nil 0) (by decide) e1.1 e1.2
  obtain ⟨_, hp3, h17b, hP3, _⟩ := (F17.ok hp2 s _ _ 2 ⟨#[98]⟩ ⟨#[121]⟩ false _ exA hP2 g1.1 (by decide) (by decide)).resolve_left (fun x => by have := x.1; rw [exB_ok] at this; cases this)
  have e2 : keyOk ⟨#[98]⟩ = true ∧ badPut (ofS exA ⟨#[98]⟩) 2 ⟨#[121]⟩ false = false := by simpa using exB_ok
  have g2 := put_goodS g1.1 g1.2 (by decide) e2.1 e2.2
  have h13 := F13.ok hp3 s _ 1 _ _ exB hP3 g2.1
  rw [exB_dirty] at h13
  have h10 := f10_ok _ s none _ _ _ exB ⟨#[97]⟩ (fun k hk => by cases hk) (hP3.app [AObj.cells [.map (.hp hp.length)]]) g2.1
  rw [exB_num] at h10
  exact ⟨_, f15_raw hp s _ _ hp2 hp3 _ h7 h17a h17b h13 h10⟩