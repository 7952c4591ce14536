/- The last version, the version at a number, a clone. -/

import Derived.Test.YtajoebiaopapoaaCg
open Go Go.Abs Go.Proofs
set_option maxRecDepth 100000
set_option maxHeartbeats 4000000
set_option linter.unusedSimpArgs false
set_option linter.unusedVariables false

theorem good_nil : GoodO [] := ⟨fun x hx => (by cases hx), fun i h => by simp at h, by simp⟩
theorem hq1 {n m : Nat} (h : n ≤ m) : ∀ k, some n = some k → k ≤ m := fun k hk => by cases hk; exact h
section
attribute [local simp] ofV ofCell ofCells seqA_nil seqA_cons seqVK_eq seqEK_eq wantedA yieldedA isVal effA ev evs evps putE optsA optsOk valA fieldAddrA fieldA loadA partA aggA isAggD buildA placesA fillA lay storeA AV.withCells buildSliceA elemsA rowParts fzL promL okE isSrc bytesOk pushA cxOf lenA binA intBinA strBinA unA indexAddrA eqA AVs.inb AV.inb Loc.inb calleeA opsOf sub bodyOf Env.get_set quietA_nil quietA_cons quietK_none quietK_some qstep newA isNew escNew boxOk newLoc flat rowPartsQ quietN quietOp isBS List.takeWhile finishA_eq finK_ret finK_normal retK backK resA oneA AV.back AVs.back execW_seq_eq seqK_normal seqK_ret seqK_exit execW_cond_eq condK_true condK_false execW_block_eq blockK_exit blockK_normal blockK_ret execW_region_eq regK_eq execW_skip execW_exit execW_ret regionA_plain regionA_quiet0 tailK_eq nilCheckA guardOk isConst lookupA keyFits mapUpdateA beqI bneI
theorem f32_nil (hp s : List AObj) (ro : Option Nat)  (hro : ∀ k, ro = some k → k ≤ s.length) :
    callW Try.prog how 32 [.agg [.nils]] ⟨hp, s⟩ ro = some (encVn zeroVn, ⟨hp, s⟩) := by
  refine callW_body (fl := {}) (fn := Try.f32) (c := bodyOf Try.f32) rfl Try.func32 rfl ?_
  have henv : ∃ e, e = frameA Try.f32 [.agg [.nils]] := ⟨_, rfl⟩
  obtain ⟨env, henv⟩ := henv
  have hl : env.length = 21 := by rw [henv]; rfl
  have h0 : Env.get env 0 = .agg [.nils] := by rw [henv]; rfl
  rw [← henv]
  clear henv
  simp -implicitDefEqProofs [-lenA, -indexAddrA, Try.f32, hl, h0, wok_le hro, wok_le' hro, encVn, zeroVn, lenA]

theorem f32_cons (hp s : List AObj) (ro : Option Nat) (X : AV) (k : Nat) (v : Vn) (hro : ∀ k, ro = some k → k ≤ s.length) (hX : Plain X) (hla : ∀ σ, lenA Try.prog σ 72 X = some (k + 1)) (hk : ¬ (k : Int) + 1 = 0) (hw : wr .i64 (k : Int) = (k : Int)) (hia : ∀ σ, indexAddrA Try.prog σ 72 X (.int .i64 (k : Int)) = some (.rptr [.int .i64 v.a, .int .u64 v.n, .str v.v, .bool v.g] 0)) (h58 : callW Try.prog how 58 [.agg [X]] ⟨hp, s ++ [.cells [X], .cells [.int .i64 0, .int .u64 0, .str ⟨#[]⟩, .bool false]]⟩ ro = some (.bool true, ⟨hp, s ++ [.cells [X], .cells [.int .i64 0, .int .u64 0, .str ⟨#[]⟩, .bool false]]⟩)) :
    callW Try.prog how 32 [.agg [X]] ⟨hp, s⟩ ro = some (.agg [.int .i64 v.a, .int .u64 v.n, .str v.v, .bool v.g], ⟨hp, s⟩) := by
  refine callW_body (fl := {}) (fn := Try.f32) (c := bodyOf Try.f32) rfl Try.func32 rfl ?_
  have henv : ∃ e, e = frameA Try.f32 [.agg [X]] := ⟨_, rfl⟩
  obtain ⟨env, henv⟩ := henv
  have hl : env.length = 21 := by rw [henv]; rfl
  have h0 : Env.get env 0 = .agg [X] := by rw [henv]; rfl
  rw [← henv]
  clear henv
  simp -implicitDefEqProofs [-lenA, -indexAddrA, Try.f32, hl, h0, wok_le hro, wok_le' hro, hla, hk, hw, hia, h58, hX.one, hX.inb, hX.row]

end
theorem f32_ok (hp s : List AObj) (ro : Option Nat) (L : List Vn) (hro : ∀ k, ro = some k → k ≤ s.length) (hG : GoodO L) : callW Try.prog how 32 [.agg [slV 4 (L.map encVn)]] ⟨hp, s⟩ ro = some (encVn (lastV L), ⟨hp, s⟩) := by
  cases L with
  | nil => exact f32_nil hp s ro hro
  | cons x l =>
    have hk : l.length < (x :: l).length := by simp
    have h1 := f32_cons hp s ro (slV 4 ((x :: l).map encVn)) l.length (x :: l)[l.length] hro slV_plain (fun σ => lenL _ σ) (by omega) (wr_ok (by omega) (by have := hG.len; simp at this; omega)) (fun σ => idxL (x :: l) l.length hk σ) (F58.ok hp _ ro (x :: l) (lt_app hro _) hG)
    have e : lastV (x :: l) = (x :: l)[l.length] := by
      unfold lastV
      rw [List.getLast?_eq_getElem?]
      simp
    rw [e]
    exact h1
section
attribute [local simp] ofV ofCell ofCells seqA_nil seqA_cons seqVK_eq seqEK_eq wantedA yieldedA isVal effA ev evs evps putE optsA optsOk valA fieldAddrA fieldA loadA partA aggA isAggD buildA placesA fillA lay storeA AV.withCells buildSliceA elemsA rowParts fzL promL okE isSrc bytesOk pushA cxOf lenA binA intBinA strBinA unA indexAddrA eqA AVs.inb AV.inb Loc.inb calleeA opsOf sub bodyOf Env.get_set quietA_nil quietA_cons quietK_none quietK_some qstep newA isNew escNew boxOk newLoc flat rowPartsQ quietN quietOp isBS List.takeWhile finishA_eq finK_ret finK_normal retK backK resA oneA AV.back AVs.back execW_seq_eq seqK_normal seqK_ret seqK_exit execW_cond_eq condK_true condK_false execW_block_eq blockK_exit blockK_normal blockK_ret execW_region_eq regK_eq execW_skip execW_exit execW_ret regionA_plain regionA_quiet0 tailK_eq nilCheckA guardOk isConst lookupA keyFits mapUpdateA beqI bneI
theorem f37_none (hp s : List AObj) (ro : Option Nat) (X : AV) (m : Int) (hro : ∀ k, ro = some k → k ≤ s.length) (hX : Plain X) (h58 : callW Try.prog how 58 [.agg [X]] ⟨hp, s ++ [.cells [X], .cells [.int .i64 0, .int .u64 0, .str ⟨#[]⟩, .bool false]]⟩ ro = some (.bool true, ⟨hp, s ++ [.cells [X], .cells [.int .i64 0, .int .u64 0, .str ⟨#[]⟩, .bool false]]⟩)) (h62 : callW Try.prog how 62 [.agg [X], .int .i64 m] ⟨hp, s ++ [.cells [X], .cells [.int .i64 0, .int .u64 0, .str ⟨#[]⟩, .bool false]]⟩ ro = some (.int .i64 0, ⟨hp, s ++ [.cells [X], .cells [.int .i64 0, .int .u64 0, .str ⟨#[]⟩, .bool false]]⟩)) :
    callW Try.prog how 37 [.agg [X], .int .i64 m] ⟨hp, s⟩ ro = some (.tup [.agg [.int .i64 0, .int .u64 0, .str ⟨#[]⟩, .bool false], .bool false], ⟨hp, s⟩) := by
  refine callW_body (fl := {}) (fn := Try.f37) (c := bodyOf Try.f37) rfl Try.func37 rfl ?_
  have henv : ∃ e, e = frameA Try.f37 [.agg [X], .int .i64 m] := ⟨_, rfl⟩
  obtain ⟨env, henv⟩ := henv
  have hl : env.length = 23 := by rw [henv]; rfl
  have h0 : Env.get env 0 = .agg [X] := by rw [henv]; rfl
  have h1 : Env.get env 1 = .int .i64 m := by rw [henv]; rfl
  rw [← henv]
  clear henv
  simp -implicitDefEqProofs [-lenA, -indexAddrA, Try.f37, hl, h0, h1, wok_le hro, wok_le' hro, h58, h62, hX.one, hX.inb, hX.row]

theorem f37_some (hp s : List AObj) (ro : Option Nat) (X : AV) (m : Int) (k : Nat) (v : Vn) (hro : ∀ k, ro = some k → k ≤ s.length) (hX : Plain X) (h58 : callW Try.prog how 58 [.agg [X]] ⟨hp, s ++ [.cells [X], .cells [.int .i64 0, .int .u64 0, .str ⟨#[]⟩, .bool false]]⟩ ro = some (.bool true, ⟨hp, s ++ [.cells [X], .cells [.int .i64 0, .int .u64 0, .str ⟨#[]⟩, .bool false]]⟩)) (h62 : callW Try.prog how 62 [.agg [X], .int .i64 m] ⟨hp, s ++ [.cells [X], .cells [.int .i64 0, .int .u64 0, .str ⟨#[]⟩, .bool false]]⟩ ro = some (.int .i64 ((k : Int) + 1), ⟨hp, s ++ [.cells [X], .cells [.int .i64 0, .int .u64 0, .str ⟨#[]⟩, .bool false]]⟩)) (hk : ¬ (k : Int) + 1 = 0) (hw : wr .i64 (k : Int) = (k : Int)) (hia : ∀ σ, indexAddrA Try.prog σ 72 X (.int .i64 (k : Int)) = some (.rptr [.int .i64 v.a, .int .u64 v.n, .str v.v, .bool v.g] 0)) :
    callW Try.prog how 37 [.agg [X], .int .i64 m] ⟨hp, s⟩ ro = some (.tup [.agg [.int .i64 v.a, .int .u64 v.n, .str v.v, .bool v.g], .bool true], ⟨hp, s⟩) := by
  refine callW_body (fl := {}) (fn := Try.f37) (c := bodyOf Try.f37) rfl Try.func37 rfl ?_
  have henv : ∃ e, e = frameA Try.f37 [.agg [X], .int .i64 m] := ⟨_, rfl⟩
  obtain ⟨env, henv⟩ := henv
  have hl : env.length = 23 := by rw [henv]; rfl
  have h0 : Env.get env 0 = .agg [X] := by rw [henv]; rfl
  have h1 : Env.get env 1 = .int .i64 m := by rw [henv]; rfl
  rw [← henv]
  clear henv
  simp -implicitDefEqProofs [-lenA, -indexAddrA, Try.f37, hl, h0, h1, wok_le hro, wok_le' hro, h58, h62, hk, hw, hia, hX.one, hX.inb, hX.row]

end
theorem f37_ok (hp s : List AObj) (ro : Option Nat) (L : List Vn) (m : Int) (hro : ∀ k, ro = some k → k ≤ s.length) (hG : GoodO L) : callW Try.prog how 37 [.agg [slV 4 (L.map encVn)], .int .i64 m] ⟨hp, s⟩ ro = some (.tup [encVn (readV L m).1, .bool (readV L m).2], ⟨hp, s⟩) := by
  have h58 := F58.ok hp (s ++ [.cells [slV 4 (L.map encVn)], .cells [.int .i64 0, .int .u64 0, .str ⟨#[]⟩, .bool false]]) ro L (lt_app hro _) hG
  have h62 := f62_ok hp (s ++ [.cells [slV 4 (L.map encVn)], .cells [.int .i64 0, .int .u64 0, .str ⟨#[]⟩, .bool false]]) ro L m (lt_app hro _) hG
  have hle := upto_le L m
  have hlen := hG.len
  unfold readV
  by_cases h0 : uptoN L m = 0
  · rw [if_pos h0]
    rw [h0] at h62
    exact f37_none hp s ro _ m hro slV_plain h58 h62
  · rw [if_neg h0]
    obtain ⟨k, hk⟩ : ∃ k, uptoN L m = k + 1 := ⟨uptoN L m - 1, by omega⟩
    rw [hk] at h62 ⊢
    have hlt : k < L.length := by omega
    have e : L.getD (k + 1 - 1) zeroVn = L[k] := by simp [hlt]
    rw [e]
    exact f37_some hp s ro _ m k L[k] hro slV_plain h58 h62 (by omega) (wr_ok (by omega) (by omega)) (idxL L k hlt)
section
attribute [local simp] ofV ofCell ofCells seqA_nil seqA_cons seqVK_eq seqEK_eq wantedA yieldedA isVal effA ev evs evps putE optsA optsOk valA fieldAddrA fieldA loadA partA aggA isAggD buildA placesA fillA lay storeA AV.withCells buildSliceA elemsA rowParts fzL promL okE isSrc bytesOk pushA cxOf lenA binA intBinA strBinA unA indexAddrA eqA AVs.inb AV.inb Loc.inb calleeA opsOf sub bodyOf Env.get_set quietA_nil quietA_cons quietK_none quietK_some qstep newA isNew escNew boxOk newLoc flat rowPartsQ quietN quietOp isBS List.takeWhile finishA_eq finK_ret finK_normal retK backK resA oneA AV.back AVs.back execW_seq_eq seqK_normal seqK_ret seqK_exit execW_cond_eq condK_true condK_false execW_block_eq blockK_exit blockK_normal blockK_ret execW_region_eq regK_eq execW_skip execW_exit execW_ret regionA_plain regionA_quiet0 tailK_eq nilCheckA guardOk isConst lookupA keyFits mapUpdateA beqI bneI
theorem f35_raw (hp s : List AObj) (ro : Option Nat) (X : AV) (m : Int) (u n : Nat) (hro : ∀ k, ro = some k → k ≤ s.length) (hX : Plain X) (hla : ∀ σ, lenA Try.prog σ 72 X = some n) (h58 : callW Try.prog how 58 [.agg [X]] ⟨hp, s ++ [.cells [X]]⟩ (some (s.length + 1)) = some (.bool true, ⟨hp, s ++ [.cells [X]]⟩)) (h62 : callW Try.prog how 62 [.agg [X], .int .i64 m] ⟨hp, s ++ [.cells [X]]⟩ (some (s.length + 1)) = some (.int .i64 (u : Int), ⟨hp, s ++ [.cells [X]]⟩)) :
    callW Try.prog how 35 [.agg [X], .int .i64 m] ⟨hp, s⟩ ro = some (.bool (decide ((u : Int) < (n : Int))), ⟨hp, s⟩) := by
  refine callW_body (fl := {}) (fn := Try.f35) (c := bodyOf Try.f35) rfl Try.func35 rfl ?_
  have henv : ∃ e, e = frameA Try.f35 [.agg [X], .int .i64 m] := ⟨_, rfl⟩
  obtain ⟨env, henv⟩ := henv
  have hl : env.length = 16 := by rw [henv]; rfl
  have h0 : Env.get env 0 = .agg [X] := by rw [henv]; rfl
  have h1 : Env.get env 1 = .int .i64 m := by rw [henv]; rfl
  rw [← henv]
  clear henv
  simp -implicitDefEqProofs [-lenA, -indexAddrA, Try.f35, hl, h0, h1, wok_le hro, wok_le' hro, h58, h62, hla, hX.one, hX.inb, hX.row]

end
theorem f35_ok (hp s : List AObj) (ro : Option Nat) (L : List Vn) (m : Int) (hro : ∀ k, ro = some k → k ≤ s.length) (hG : GoodO L) : callW Try.prog how 35 [.agg [slV 4 (L.map encVn)], .int .i64 m] ⟨hp, s⟩ ro = some (.bool (decide (uptoN L m < L.length)), ⟨hp, s⟩) := by
  have h := f35_raw hp s ro _ m (uptoN L m) L.length hro slV_plain (lenL L) (F58.ok hp _ (some (s.length + 1)) L (hq1 (by simp)) hG) (f62_ok hp _ (some (s.length + 1)) L m (hq1 (by simp)) hG)
  have e : decide ((uptoN L m : Int) < (L.length : Int)) = decide (uptoN L m < L.length) := by
    by_cases h : uptoN L m < L.length
    · rw [decide_eq_true h, decide_eq_true (by omega)]
    · rw [decide_eq_false h, decide_eq_false (by omega)]
  rw [e] at h
  exact h
section
attribute [local simp] ofV ofCell ofCells seqA_nil seqA_cons seqVK_eq seqEK_eq wantedA yieldedA isVal effA ev evs evps putE optsA optsOk valA fieldAddrA fieldA loadA partA aggA isAggD buildA placesA fillA lay storeA AV.withCells buildSliceA elemsA rowParts fzL promL okE isSrc bytesOk pushA cxOf lenA binA intBinA strBinA unA indexAddrA eqA AVs.inb AV.inb Loc.inb calleeA opsOf sub bodyOf Env.get_set quietA_nil quietA_cons quietK_none quietK_some qstep newA isNew escNew boxOk newLoc flat rowPartsQ quietN quietOp isBS List.takeWhile finishA_eq finK_ret finK_normal retK backK resA oneA AV.back AVs.back execW_seq_eq seqK_normal seqK_ret seqK_exit execW_cond_eq condK_true condK_false execW_block_eq blockK_exit blockK_normal blockK_ret execW_region_eq regK_eq execW_skip execW_exit execW_ret regionA_plain regionA_quiet0 tailK_eq nilCheckA guardOk isConst lookupA keyFits mapUpdateA beqI bneI
theorem f65_nil0 (hp s : List AObj)  :
    callW Try.prog how65 65 [.nils] ⟨hp, s⟩ none = some (.nils, ⟨hp, s⟩) := by
  refine callW_body (fl := { keep := true }) (fn := Try.f65) (c := bodyOf Try.f65) rfl Try.func65 rfl ?_
  have henv : ∃ e, e = frameA Try.f65 [.nils] := ⟨_, rfl⟩
  obtain ⟨env, henv⟩ := henv
  have hl : env.length = 8 := by rw [henv]; rfl
  have h0 : Env.get env 0 = .nils := by rw [henv]; rfl
  rw [← henv]
  clear henv
  simp -implicitDefEqProofs [Try.f65, hl, h0]

theorem f65_sl0 (hp s : List AObj) (b : Bool) (es : List AV) (v : Nat) (hap : appendA Try.prog (Cx.mk s.length none []) ⟨hp, s ++ [.row [] 4 0 false]⟩ [72, 72] (.row (.st s.length) 0 0 0) (.sl b 4 es) = some (.row (.st s.length) v 0 es.length, ⟨hp, s ++ [.row es 4 v false]⟩)) :
    callW Try.prog how65 65 [.sl b 4 es] ⟨hp, s⟩ none = some (.row (.st s.length) v 0 es.length, ⟨hp, s ++ [.row es 4 v false]⟩) := by
  refine callW_body (fl := { keep := true }) (fn := Try.f65) (c := bodyOf Try.f65) rfl Try.func65 rfl ?_
  have henv : ∃ e, e = frameA Try.f65 [.sl b 4 es] := ⟨_, rfl⟩
  obtain ⟨env, henv⟩ := henv
  have hl : env.length = 8 := by rw [henv]; rfl
  have h0 : Env.get env 0 = .sl b 4 es := by rw [henv]; rfl
  rw [← henv]
  clear henv
  simp -implicitDefEqProofs [Try.f65, hl, h0, hap, elemA]

end
theorem app72 (cx : Cx) (hp s : List AObj) (b : Bool) (es : List AV) (hl : es.length ≤ 1000) (hro : cx.ro = none) : appendA Try.prog cx ⟨hp, s ++ [.row [] 4 0 false]⟩ [72, 72] (.row (.st s.length) 0 0 0) (.sl b 4 es) = some (.row (.st s.length) (if es.isEmpty then 0 else 1) 0 es.length, ⟨hp, s ++ [.row es 4 (if es.isEmpty then 0 else 1) false]⟩) := by
  have hb : bytesA Try.prog 46 = some 40 := by kernel_rfl
  have hw : wok cx.ro (.st s.length) = true := by rw [hro]; rfl
  have hg : (AS.mk hp (s ++ [.row [] 4 0 false])).get (.st s.length) = some (.row [] 4 0 false) := by simp [AS.get]
  cases es with
  | nil =>
    simp [appendA, elemA, isSrc, elemsA, hb, hg, hw, lay, AS.set]
  | cons x l =>
    have hby : bytesOk (l.length + 1) 40 = true := by simp only [bytesOk, decide_eq_true_eq]; simp at hl; omega
    simp [appendA, elemA, isSrc, elemsA, hb, hg, hw, hby, AS.set]
/-- What a clone's slice is, in the heap. -/
def clR (n : Nat) (es : List AV) : AV := .row (.hp n) (if es.isEmpty then 0 else 1) 0 es.length
def clO (es : List AV) : AObj := .row es 4 (if es.isEmpty then 0 else 1) false
theorem f65_nil (hp s : List AObj) : callW Try.prog how 65 [.nils] ⟨hp, s⟩ none = some (.nils, ⟨hp, s⟩) := by
  refine callW_prim (p := promP (callW Try.prog how65 65)) rfl ?_
  have := promP_eq (σ := ⟨hp, s⟩) (f65_nil0 hp s) (v := .nils) (σ2 := ⟨hp, s⟩) rfl rfl
  rw [this]
  simp [AS.cut]
theorem f65_sl (hp s : List AObj) (b : Bool) (es : List AV) (hl : es.length ≤ 1000) : callW Try.prog how 65 [.sl b 4 es] ⟨hp, s⟩ none = some (clR hp.length es, ⟨hp ++ [clO es], s⟩) := by
  refine callW_prim (p := promP (callW Try.prog how65 65)) rfl ?_
  have h1 := f65_sl0 hp s b es (if es.isEmpty then 0 else 1) (app72 _ hp s b es hl rfl)
  have h2 : promL none ⟨hp, s ++ [.row es 4 (if es.isEmpty then 0 else 1) false]⟩ [.row (.st s.length) (if es.isEmpty then 0 else 1) 0 es.length] = some ([clR hp.length es], ⟨hp ++ [clO es], s ++ [.dead]⟩) := by
    have hg : (s ++ [AObj.row es 4 (if es.isEmpty then 0 else 1) false])[s.length]? = some (.row es 4 (if es.isEmpty then 0 else 1) false) := by simp
    simp [promL, wok, clR, clO]
  rw [promP_eq (σ := ⟨hp, s⟩) h1 h2 (by rfl)]
  simp [AS.cut]