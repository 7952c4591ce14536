/- Whether a row is ordered; how rows are compared. -/

import Derived.Test.YtcafckfmhoklkaaCo
open Go Go.Abs Go.Proofs
set_option maxRecDepth 100000
set_option maxHeartbeats 4000000
set_option linter.unusedSimpArgs false
set_option linter.unusedVariables false

section
attribute [local simp] ofV ofCell ofCells seqA_nil seqA_cons seqVK_eq seqEK_eq wantedA yieldedA isVal effA ev evs evps putE optsA optsOk valA fieldAddrA fieldA loadA partA aggA isAggD buildA placesA fillA lay storeA AV.withCells buildSliceA elemsA rowParts fzL promL okE isSrc bytesOk pushA cxOf lenA binA intBinA strBinA unA indexAddrA eqA AVs.inb AV.inb Loc.inb calleeA opsOf sub bodyOf Env.get_set quietA_nil quietA_cons quietK_none quietK_some qstep newA isNew escNew boxOk newLoc flat rowPartsQ quietN quietOp isBS List.takeWhile finishA_eq finK_ret finK_normal retK backK resA oneA AV.back AVs.back execW_seq_eq seqK_normal seqK_ret seqK_exit execW_cond_eq condK_true condK_false execW_block_eq blockK_exit blockK_normal blockK_ret execW_region_eq regK_eq execW_skip execW_exit execW_ret regionA_plain regionA_quiet0 tailK_eq nilCheckA guardOk isConst lookupA keyFits mapUpdateA beqI bneI
theorem f21_c (hp s : List AObj) (ro : Option Nat) (x : RowD) (RX WX : AV) (hro : ∀ k, ro = some k → k ≤ s.length) (hRX : Plain RX) (hWX : Plain WX) (h1 : ¬ x.st = 0) (h2 : ¬ x.st ≤ x.ca) (h3 : ¬ x.an = 0) (h4 : x.st < x.an) :
    callW Try.prog how 21 [.agg [.int .i64 x.cl, .int .u64 x.sq, .int .i64 x.kind, .str x.key, .str x.val, RX, WX, .int .i64 x.ca, .int .i64 x.st, .int .i64 x.an, .int .i64 x.code, .int .i64 x.rcl, .int .u64 x.rsq, .int .i64 x.rn, .int .i64 x.rcode, .str x.rval, .int .u64 x.rnum]] ⟨hp, s⟩ ro = some (.bool true, ⟨hp, s⟩) := by
  refine callW_body (fl := {}) (fn := Try.f21) (c := bodyOf Try.f21) rfl Try.func21 rfl ?_
  have henv : ∃ e, e = frameA Try.f21 [.agg [.int .i64 x.cl, .int .u64 x.sq, .int .i64 x.kind, .str x.key, .str x.val, RX, WX, .int .i64 x.ca, .int .i64 x.st, .int .i64 x.an, .int .i64 x.code, .int .i64 x.rcl, .int .u64 x.rsq, .int .i64 x.rn, .int .i64 x.rcode, .str x.rval, .int .u64 x.rnum]] := ⟨_, rfl⟩
  obtain ⟨env, henv⟩ := henv
  have hl : env.length = 26 := by rw [henv]; rfl
  have h0 : Env.get env 0 = .agg [.int .i64 x.cl, .int .u64 x.sq, .int .i64 x.kind, .str x.key, .str x.val, RX, WX, .int .i64 x.ca, .int .i64 x.st, .int .i64 x.an, .int .i64 x.code, .int .i64 x.rcl, .int .u64 x.rsq, .int .i64 x.rn, .int .i64 x.rcode, .str x.rval, .int .u64 x.rnum] := by rw [henv]; rfl
  rw [← henv]
  clear henv
  simp -implicitDefEqProofs [Try.f21, hl, h0, wok_le hro, wok_le' hro, hRX.one, hRX.inb, hRX.row, hRX.cells, hWX.one, hWX.inb, hWX.row, hWX.cells, h1, h2, h3, h4]

theorem f38_c (hp s : List AObj) (ro : Option Nat) (n : Int) (hro : ∀ k, ro = some k → k ≤ s.length) :
    callW Try.prog how 38 [.int .i64 n] ⟨hp, s⟩ ro = some (.bool false, ⟨hp, s⟩) := by
  refine callW_body (fl := {}) (fn := Try.f38) (c := bodyOf Try.f38) rfl Try.func38 rfl ?_
  have henv : ∃ e, e = frameA Try.f38 [.int .i64 n] := ⟨_, rfl⟩
  obtain ⟨env, henv⟩ := henv
  have hl : env.length = 6 := by rw [henv]; rfl
  have h0 : Env.get env 0 = .int .i64 n := by rw [henv]; rfl
  rw [← henv]
  clear henv
  simp -implicitDefEqProofs [Try.f38, hl, h0, wok_le hro, wok_le' hro]

end
def cmpI (x y : Int) : Int := if x < y then -1 else if y < x then 1 else 0
section
attribute [local simp] ofV ofCell ofCells seqA_nil seqA_cons seqVK_eq seqEK_eq wantedA yieldedA isVal effA ev evs evps putE optsA optsOk valA fieldAddrA fieldA loadA partA aggA isAggD buildA placesA fillA lay storeA AV.withCells buildSliceA elemsA rowParts fzL promL okE isSrc bytesOk pushA cxOf lenA binA intBinA strBinA unA indexAddrA eqA AVs.inb AV.inb Loc.inb calleeA opsOf sub bodyOf Env.get_set quietA_nil quietA_cons quietK_none quietK_some qstep newA isNew escNew boxOk newLoc flat rowPartsQ quietN quietOp isBS List.takeWhile finishA_eq finK_ret finK_normal retK backK resA oneA AV.back AVs.back execW_seq_eq seqK_normal seqK_ret seqK_exit execW_cond_eq condK_true condK_false execW_block_eq blockK_exit blockK_normal blockK_ret execW_region_eq regK_eq execW_skip execW_exit execW_ret regionA_plain regionA_quiet0 tailK_eq nilCheckA guardOk isConst lookupA keyFits mapUpdateA beqI bneI
theorem f33_c (hp s : List AObj) (ro : Option Nat) (x y : Int) (hro : ∀ k, ro = some k → k ≤ s.length) :
    callW Try.prog how 33 [.int .i64 x, .int .i64 y] ⟨hp, s⟩ ro = some (.int .i64 (cmpI x y), ⟨hp, s⟩) := by
  refine callW_body (fl := {}) (fn := Try.f33) (c := bodyOf Try.f33) rfl Try.func33 rfl ?_
  have henv : ∃ e, e = frameA Try.f33 [.int .i64 x, .int .i64 y] := ⟨_, rfl⟩
  obtain ⟨env, henv⟩ := henv
  have hl : env.length = 20 := by rw [henv]; rfl
  have h0 : Env.get env 0 = .int .i64 x := by rw [henv]; rfl
  have h1 : Env.get env 1 = .int .i64 y := by rw [henv]; rfl
  rw [← henv]
  clear henv
  have h38 := fun n => f38_c hp s ro n hro
  unfold cmpI
  by_cases p1 : x < y <;> by_cases p2 : y < x <;> first | (exfalso; omega) | skip
  all_goals simp -implicitDefEqProofs [Try.f33, hl, h0, h1, wok_le hro, wok_le' hro, h38, p1, p2]

theorem f32_c (hp s : List AObj) (ro : Option Nat) (x : RowD) (RX WX : AV) (y : RowD) (RY WY : AV) (hro : ∀ k, ro = some k → k ≤ s.length) (hRX : Plain RX) (hWX : Plain WX) (hRY : Plain RY) (hWY : Plain WY) :
    callW Try.prog how 32 [.agg [.int .i64 x.cl, .int .u64 x.sq, .int .i64 x.kind, .str x.key, .str x.val, RX, WX, .int .i64 x.ca, .int .i64 x.st, .int .i64 x.an, .int .i64 x.code, .int .i64 x.rcl, .int .u64 x.rsq, .int .i64 x.rn, .int .i64 x.rcode, .str x.rval, .int .u64 x.rnum], .agg [.int .i64 y.cl, .int .u64 y.sq, .int .i64 y.kind, .str y.key, .str y.val, RY, WY, .int .i64 y.ca, .int .i64 y.st, .int .i64 y.an, .int .i64 y.code, .int .i64 y.rcl, .int .u64 y.rsq, .int .i64 y.rn, .int .i64 y.rcode, .str y.rval, .int .u64 y.rnum]] ⟨hp, s⟩ ro = some (.int .i64 (cmpI x.st y.st), ⟨hp, s⟩) := by
  refine callW_body (fl := {}) (fn := Try.f32) (c := bodyOf Try.f32) rfl Try.func32 rfl ?_
  have henv : ∃ e, e = frameA Try.f32 [.agg [.int .i64 x.cl, .int .u64 x.sq, .int .i64 x.kind, .str x.key, .str x.val, RX, WX, .int .i64 x.ca, .int .i64 x.st, .int .i64 x.an, .int .i64 x.code, .int .i64 x.rcl, .int .u64 x.rsq, .int .i64 x.rn, .int .i64 x.rcode, .str x.rval, .int .u64 x.rnum], .agg [.int .i64 y.cl, .int .u64 y.sq, .int .i64 y.kind, .str y.key, .str y.val, RY, WY, .int .i64 y.ca, .int .i64 y.st, .int .i64 y.an, .int .i64 y.code, .int .i64 y.rcl, .int .u64 y.rsq, .int .i64 y.rn, .int .i64 y.rcode, .str y.rval, .int .u64 y.rnum]] := ⟨_, rfl⟩
  obtain ⟨env, henv⟩ := henv
  have hl : env.length = 10 := by rw [henv]; rfl
  have h0 : Env.get env 0 = .agg [.int .i64 x.cl, .int .u64 x.sq, .int .i64 x.kind, .str x.key, .str x.val, RX, WX, .int .i64 x.ca, .int .i64 x.st, .int .i64 x.an, .int .i64 x.code, .int .i64 x.rcl, .int .u64 x.rsq, .int .i64 x.rn, .int .i64 x.rcode, .str x.rval, .int .u64 x.rnum] := by rw [henv]; rfl
  have h1 : Env.get env 1 = .agg [.int .i64 y.cl, .int .u64 y.sq, .int .i64 y.kind, .str y.key, .str y.val, RY, WY, .int .i64 y.ca, .int .i64 y.st, .int .i64 y.an, .int .i64 y.code, .int .i64 y.rcl, .int .u64 y.rsq, .int .i64 y.rn, .int .i64 y.rcode, .str y.rval, .int .u64 y.rnum] := by rw [henv]; rfl
  rw [← henv]
  clear henv
  have h33 := fun t => f33_c hp (s ++ t) ro x.st y.st (lt_app hro t)
  simp -implicitDefEqProofs [Try.f32, hl, h0, h1, wok_le hro, wok_le' hro, hRX.one, hRX.inb, hRX.row, hRX.cells, hWX.one, hWX.inb, hWX.row, hWX.cells, hRY.one, hRY.inb, hRY.row, hRY.cells, hWY.one, hWY.inb, hWY.row, hWY.cells, h33]

end