/- What the program's space has of a key. -/

import Derived.Test.YtajoebiaopapoaaCs
open Go Go.Abs Go.Proofs
set_option maxRecDepth 100000
set_option maxHeartbeats 4000000
set_option linter.unusedSimpArgs false
set_option linter.unusedVariables false

@[simp] theorem z67b : zeroA Try.prog 65 = some .nilm := by kernel_rfl
section
attribute [local simp] ofV ofCell ofCells seqA_nil seqA_cons seqVK_eq seqEK_eq wantedA yieldedA isVal effA ev evs evps putE optsA optsOk valA fieldAddrA fieldA loadA partA aggA isAggD buildA placesA fillA lay storeA AV.withCells buildSliceA elemsA rowParts fzL promL okE isSrc bytesOk pushA cxOf lenA binA intBinA strBinA unA indexAddrA eqA AVs.inb AV.inb Loc.inb calleeA opsOf sub bodyOf Env.get_set quietA_nil quietA_cons quietK_none quietK_some qstep newA isNew escNew boxOk newLoc flat rowPartsQ quietN quietOp isBS List.takeWhile finishA_eq finK_ret finK_normal retK backK resA oneA AV.back AVs.back execW_seq_eq seqK_normal seqK_ret seqK_exit execW_cond_eq condK_true condK_false execW_block_eq blockK_exit blockK_normal blockK_ret execW_region_eq regK_eq execW_skip execW_exit execW_ret regionA_plain regionA_quiet0 tailK_eq nilCheckA guardOk isConst lookupA keyFits mapUpdateA beqI bneI
theorem f7_ok (hp s : List AObj)  :
    callW Try.prog how 7 [] ⟨hp, s⟩ none = some (.ptr (.hp (hp.length + 1)) 0, ⟨hp ++ [.map [], .cells [.map (.hp hp.length)]], s⟩) := by
  refine callW_body (fl := { esc := [1, 3] }) (fn := Try.f7) (c := bodyOf Try.f7) rfl Try.func7 rfl ?_
  have henv : ∃ e, e = frameA Try.f7 [] := ⟨_, rfl⟩
  obtain ⟨env, henv⟩ := henv
  have hl : env.length = 4 := by rw [henv]; rfl
  rw [← henv]
  clear henv
  simp -implicitDefEqProofs [Try.f7, hl]

theorem f34_ok (hp s : List AObj) (mm : Nat) :
    callW Try.prog how 34 [.map (.hp mm)] ⟨hp, s⟩ none = some (.fn (.func 61) [] [.ptr (.hp hp.length) 0], ⟨hp ++ [.cells [.map (.hp mm)]], s⟩) := by
  refine callW_body (fl := { esc := [1] }) (fn := Try.f34) (c := bodyOf Try.f34) rfl Try.func34 rfl ?_
  have henv : ∃ e, e = frameA Try.f34 [.map (.hp mm)] := ⟨_, rfl⟩
  obtain ⟨env, henv⟩ := henv
  have hl : env.length = 4 := by rw [henv]; rfl
  have h0 : Env.get env 0 = .map (.hp mm) := by rw [henv]; rfl
  rw [← henv]
  clear henv
  simp -implicitDefEqProofs [Try.f34, hl, h0]

end
theorem find_ofS (key : ByteArray) : ∀ M : List Rw, findA (.str key) (M.map entS) = some ((M.find? fun r => decide (r.1 = key)).map fun r => .agg [slV 4 (r.2.map encVn)])
  | [] => rfl
  | r :: M => by
    have h : keyEq (.str key) (AV.str r.1) = some (decide (r.1 = key)) := by
      simp only [keyEq, beqS_dec]
      congr 1
      by_cases q : key = r.1
      · rw [decide_eq_true q, decide_eq_true q.symm]
      · rw [decide_eq_false q, decide_eq_false (fun e => q e.symm)]
    have ih := find_ofS key M
    simp only [List.map_cons, findA, entS, h]
    by_cases q : r.1 = key
    · simp [q]
    · simp only [q, decide_false, List.find?_cons_of_neg, Bool.false_eq_true, not_false_eq_true]
      exact ih
theorem lookup_ofS (σ : AS) (mm : Nat) (M : List Rw) (key : ByteArray) (hm : σ.get (.hp mm) = some (.map (M.map entS))) : lookupA Try.prog σ 65 (.map (.hp mm)) (.str key) false = some (.agg [slV 4 ((ofS M key).map encVn)]) := by
  unfold lookupA ofS
  simp only [Try.underlying65, Try.underlying9, z74, keyFits, if_true, hm, find_ofS]
  cases M.find? fun r => decide (r.1 = key) with
  | none => rfl
  | some r => rfl
/-- Keys by themselves. -/
def Uniq (M : List Rw) : Prop := M.Pairwise fun a b => a.1 ≠ b.1
theorem SortedS.uniq {S : List Rw} (h : SortedS S) : Uniq S := h.imp fun h => ltS_ne h
theorem Uniq.perm {M S : List Rw} (h : Uniq S) (p : M.Perm S) : Uniq M := List.Pairwise.perm h p.symm fun h => Ne.symm h
theorem ofS_mem {S : List Rw} (h : Uniq S) {r : Rw} (hr : r ∈ S) : ofS S r.1 = r.2 := by
  obtain ⟨k, hk, rfl⟩ := List.mem_iff_getElem.1 hr
  refine ofS_at hk (fun x hx => ?_) rfl
  obtain ⟨i, hi, rfl⟩ := List.mem_iff_getElem.1 hx
  rw [List.length_take] at hi
  rw [List.getElem_take]
  exact List.pairwise_iff_getElem.1 h i k (by omega) hk (by omega)
theorem ofS_cases {S : List Rw} (h : Uniq S) (key : ByteArray) : (key, ofS S key) ∈ S ∨ ((∀ r ∈ S, r.1 ≠ key) ∧ ofS S key = []) := by
  by_cases q : ∃ r ∈ S, r.1 = key
  · obtain ⟨r, hr, rfl⟩ := q
    rw [ofS_mem h hr]
    exact .inl hr
  · have q' : ∀ r ∈ S, r.1 ≠ key := fun r hr e => q ⟨r, hr, e⟩
    exact .inr ⟨q', ofS_none q'⟩
theorem ofS_perm {M S : List Rw} (h : Uniq S) (p : M.Perm S) (key : ByteArray) : ofS M key = ofS S key := by
  rcases ofS_cases h key with h1 | ⟨h1, h2⟩
  · have := ofS_mem (h.perm p) (p.mem_iff.2 h1)
    exact this
  · rw [h2, ofS_none fun r hr => h1 r (p.mem_iff.1 hr)]
theorem GoodS.gof {S : List Rw} (h : GoodS S) (key : ByteArray) : GoodO (ofS S key) := by
  rcases ofS_cases h.so.uniq key with h1 | ⟨_, h2⟩
  · exact h.go _ h1
  · rw [h2]; exact good_nil
/-- The program's space in the heap. -/
structure PS (hp : List AObj) (a mm : Nat) (M S : List Rw) : Prop where
  oA : hp[a]? = some (.cells [.map (.hp mm)])
  oM : hp[mm]? = some (.map (M.map entS))
  p : M.Perm S
theorem PS.look {hp : List AObj} {a mm : Nat} {M S : List Rw} (h : PS hp a mm M S) (hS : GoodS S) (s : List AObj) (key : ByteArray) : lookupA Try.prog ⟨hp, s⟩ 65 (.map (.hp mm)) (.str key) false = some (.agg [slV 4 ((ofS S key).map encVn)]) := by
  rw [← ofS_perm hS.so.uniq h.p]
  exact lookup_ofS _ _ _ _ h.oM
theorem PS.app {hp : List AObj} {a mm : Nat} {M S : List Rw} (h : PS hp a mm M S) (l : List AObj) : PS (hp ++ l) a mm M S :=
  ⟨by rw [List.getElem?_append_left (List.getElem?_eq_some_iff.1 h.oA).1]; exact h.oA, by rw [List.getElem?_append_left (List.getElem?_eq_some_iff.1 h.oM).1]; exact h.oM, h.p⟩
section
attribute [local simp] ofV ofCell ofCells seqA_nil seqA_cons seqVK_eq seqEK_eq wantedA yieldedA isVal effA ev evs evps putE optsA optsOk valA fieldAddrA fieldA loadA partA aggA isAggD buildA placesA fillA lay storeA AV.withCells buildSliceA elemsA rowParts fzL promL okE isSrc bytesOk pushA cxOf lenA binA intBinA strBinA unA indexAddrA eqA AVs.inb AV.inb Loc.inb calleeA opsOf sub bodyOf Env.get_set quietA_nil quietA_cons quietK_none quietK_some qstep newA isNew escNew boxOk newLoc flat rowPartsQ quietN quietOp isBS List.takeWhile finishA_eq finK_ret finK_normal retK backK resA oneA AV.back AVs.back execW_seq_eq seqK_normal seqK_ret seqK_exit execW_cond_eq condK_true condK_false execW_block_eq blockK_exit blockK_normal blockK_ret execW_region_eq regK_eq execW_skip execW_exit execW_ret regionA_plain regionA_quiet0 tailK_eq nilCheckA guardOk isConst lookupA keyFits mapUpdateA beqI bneI
theorem f10_raw (hp s : List AObj) (ro : Option Nat) (a mm : Nat) (key : ByteArray) (Y : AV) (v : Vn) (hro : ∀ k, ro = some k → k ≤ s.length) (hA : ∀ s, (AS.mk hp s).get (.hp a) = some (.cells [.map (.hp mm)])) (hlk : ∀ s, lookupA Try.prog ⟨hp, s⟩ 65 (.map (.hp mm)) (.str key) false = some (.agg [Y])) (hY : Plain Y) (h32 : callW Try.prog how 32 [.agg [Y]] ⟨hp, s⟩ ro = some (.agg [.int .i64 v.a, .int .u64 v.n, .str v.v, .bool v.g], ⟨hp, s⟩)) :
    callW Try.prog how 10 [.ptr (.hp a) 0, .str key] ⟨hp, s⟩ ro = some (.int .u64 v.n, ⟨hp, s⟩) := by
  refine callW_body (fl := {}) (fn := Try.f10) (c := bodyOf Try.f10) rfl Try.func10 rfl ?_
  have henv : ∃ e, e = frameA Try.f10 [.ptr (.hp a) 0, .str key] := ⟨_, rfl⟩
  obtain ⟨env, henv⟩ := henv
  have hl : env.length = 15 := by rw [henv]; rfl
  have h0 : Env.get env 0 = .ptr (.hp a) 0 := by rw [henv]; rfl
  have h1 : Env.get env 1 = .str key := by rw [henv]; rfl
  rw [← henv]
  clear henv
  simp -implicitDefEqProofs [-lenA, -indexAddrA, -lookupA, Try.f10, hl, h0, h1, wok_le hro, wok_le' hro, hA, hlk, h32, hY.one, hY.inb, hY.row, fieldValA]

theorem f16_raw (hp s : List AObj) (ro : Option Nat) (a mm : Nat) (key : ByteArray) (m : Int) (Y : AV) (v : Vn) (b : Bool) (hro : ∀ k, ro = some k → k ≤ s.length) (hA : ∀ s, (AS.mk hp s).get (.hp a) = some (.cells [.map (.hp mm)])) (hlk : ∀ s, lookupA Try.prog ⟨hp, s⟩ 65 (.map (.hp mm)) (.str key) false = some (.agg [Y])) (hY : Plain Y) (h37 : ∀ t, callW Try.prog how 37 [.agg [Y], .int .i64 m] ⟨hp, s ++ [t]⟩ ro = some (.tup [.agg [.int .i64 v.a, .int .u64 v.n, .str v.v, .bool v.g], .bool b], ⟨hp, s ++ [t]⟩)) :
    callW Try.prog how 16 [.ptr (.hp a) 0, .str key, .int .i64 m] ⟨hp, s⟩ ro = some (.tup [.agg [.int .i64 v.a, .int .u64 v.n, .str v.v, .bool v.g], .bool b], ⟨hp, s⟩) := by
  refine callW_body (fl := {}) (fn := Try.f16) (c := bodyOf Try.f16) rfl Try.func16 rfl ?_
  have henv : ∃ e, e = frameA Try.f16 [.ptr (.hp a) 0, .str key, .int .i64 m] := ⟨_, rfl⟩
  obtain ⟨env, henv⟩ := henv
  have hl : env.length = 21 := by rw [henv]; rfl
  have h0 : Env.get env 0 = .ptr (.hp a) 0 := by rw [henv]; rfl
  have h1 : Env.get env 1 = .str key := by rw [henv]; rfl
  have h2 : Env.get env 2 = .int .i64 m := by rw [henv]; rfl
  rw [← henv]
  clear henv
  simp -implicitDefEqProofs [-lenA, -indexAddrA, -lookupA, Try.f16, hl, h0, h1, h2, wok_le hro, wok_le' hro, hA, hlk, h37, hY.one, hY.inb, hY.row]

end
theorem f10_ok (hp s : List AObj) (ro : Option Nat) (a mm : Nat) (M S : List Rw) (key : ByteArray) (hro : ∀ k, ro = some k → k ≤ s.length) (h : PS hp a mm M S) (hS : GoodS S) : callW Try.prog how 10 [.ptr (.hp a) 0, .str key] ⟨hp, s⟩ ro = some (.int .u64 (lastV (ofS S key)).n, ⟨hp, s⟩) :=
  f10_raw hp s ro a mm key _ (lastV (ofS S key)) hro (fun _ => h.oA) (fun t => h.look hS t key) slV_plain (f32_ok hp s ro _ hro (hS.gof key))
theorem f16_ok (hp s : List AObj) (ro : Option Nat) (a mm : Nat) (M S : List Rw) (key : ByteArray) (m : Int) (hro : ∀ k, ro = some k → k ≤ s.length) (h : PS hp a mm M S) (hS : GoodS S) : callW Try.prog how 16 [.ptr (.hp a) 0, .str key, .int .i64 m] ⟨hp, s⟩ ro = some (.tup [encVn (readV (ofS S key) m).1, .bool (readV (ofS S key) m).2], ⟨hp, s⟩) :=
  f16_raw hp s ro a mm key m _ (readV (ofS S key) m).1 _ hro (fun _ => h.oA) (fun t => h.look hS t key) slV_plain (fun t => f37_ok hp _ ro _ m (lt_app hro _) (hS.gof key))
def keysS (S : List Rw) : List AV := S.map fun r => AV.str r.1
section
attribute [local simp] ofV ofCell ofCells seqA_nil seqA_cons seqVK_eq seqEK_eq wantedA yieldedA isVal effA ev evs evps putE optsA optsOk valA fieldAddrA fieldA loadA partA aggA isAggD buildA placesA fillA lay storeA AV.withCells buildSliceA elemsA rowParts fzL promL okE isSrc bytesOk pushA cxOf lenA binA intBinA strBinA unA indexAddrA eqA AVs.inb AV.inb Loc.inb calleeA opsOf sub bodyOf Env.get_set quietA_nil quietA_cons quietK_none quietK_some qstep newA isNew escNew boxOk newLoc flat rowPartsQ quietN quietOp isBS List.takeWhile finishA_eq finK_ret finK_normal retK backK resA oneA AV.back AVs.back execW_seq_eq seqK_normal seqK_ret seqK_exit execW_cond_eq condK_true condK_false execW_block_eq blockK_exit blockK_normal blockK_ret execW_region_eq regK_eq execW_skip execW_exit execW_ret regionA_plain regionA_quiet0 tailK_eq nilCheckA guardOk isConst lookupA keyFits mapUpdateA beqI bneI
theorem f12_raw (hp s : List AObj) (a mm : Nat) (ks : List AV) (hA : ∀ s, (AS.mk hp s).get (.hp a) = some (.cells [.map (.hp mm)])) (h34 : callW Try.prog how 34 [.map (.hp mm)] ⟨hp, s⟩ none = some (.fn (.func 61) [] [.ptr (.hp hp.length) 0], ⟨hp ++ [.cells [.map (.hp mm)]], s⟩)) (h33 : callW Try.prog how 33 [.fn (.func 61) [] [.ptr (.hp hp.length) 0]] ⟨hp ++ [.cells [.map (.hp mm)]], s⟩ none = some (slV 1 ks, ⟨hp ++ [.cells [.map (.hp mm)]], s⟩)) :
    callW Try.prog how 12 [.ptr (.hp a) 0] ⟨hp, s⟩ none = some (slV 1 ks, ⟨hp ++ [.cells [.map (.hp mm)]], s⟩) := by
  refine callW_body (fl := {}) (fn := Try.f12) (c := bodyOf Try.f12) rfl Try.func12 rfl ?_
  have henv : ∃ e, e = frameA Try.f12 [.ptr (.hp a) 0] := ⟨_, rfl⟩
  obtain ⟨env, henv⟩ := henv
  have hl : env.length = 11 := by rw [henv]; rfl
  have h0 : Env.get env 0 = .ptr (.hp a) 0 := by rw [henv]; rfl
  rw [← henv]
  clear henv
  simp -implicitDefEqProofs [-lenA, -indexAddrA, -lookupA, Try.f12, hl, h0, hA, h34, h33, slV_back, slV_inb]

end
theorem f12_ok (hp s : List AObj) (a mm : Nat) (M S : List Rw) (h : PS hp a mm M S) (hS : GoodS S) : callW Try.prog how 12 [.ptr (.hp a) 0] ⟨hp, s⟩ none = some (slV 1 (keysS S), ⟨hp ++ [.cells [.map (.hp mm)]], s⟩) :=
  f12_raw hp s a mm (keysS S) (fun _ => h.oA) (f34_ok hp s mm) (f33_ok _ s mm hp.length M S h.p hS.so (fun r hr => hS.ok r (h.p.mem_iff.1 hr)) (Nat.le_trans hS.len (by decide)) (by simp) (h.app _).oM none)