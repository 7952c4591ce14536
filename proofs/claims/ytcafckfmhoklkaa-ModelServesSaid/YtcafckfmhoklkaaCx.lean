/- The chapter's example, in any state. -/

import Derived.Test.YtcafckfmhoklkaaCw
open Go Go.Abs Go.Proofs
set_option maxRecDepth 100000
set_option maxHeartbeats 4000000
set_option linter.unusedSimpArgs false
set_option linter.unusedVariables false

section
attribute [local simp] ofV ofCell ofCells seqA_nil seqA_cons seqVK_eq seqEK_eq wantedA yieldedA isVal effA ev evs evps putE optsA optsOk valA fieldAddrA fieldA loadA partA aggA isAggD buildA placesA fillA lay storeA AV.withCells buildSliceA elemsA rowParts fzL promL okE isSrc bytesOk pushA cxOf lenA binA intBinA strBinA unA indexAddrA eqA AVs.inb AV.inb Loc.inb calleeA opsOf sub bodyOf Env.get_set quietA_nil quietA_cons quietK_none quietK_some qstep newA isNew escNew boxOk newLoc flat rowPartsQ quietN quietOp isBS List.takeWhile finishA_eq finK_ret finK_normal retK backK resA oneA AV.back AVs.back execW_seq_eq seqK_normal seqK_ret seqK_exit execW_cond_eq condK_true condK_false execW_block_eq blockK_exit blockK_normal blockK_ret execW_region_eq regK_eq execW_skip execW_exit execW_ret regionA_plain regionA_quiet0 tailK_eq nilCheckA guardOk isConst lookupA keyFits mapUpdateA beqI bneI
theorem f24_f (hp s : List AObj) (a mm : Nat) (hp2 : List AObj) (v : Vl) (x : RowD) (RX WX : AV) (tc ts : Int) (pl : Bool) (X Y : AV) (hRX : Plain RX) (hWX : Plain WX) (hX : Plain X) (hY : Plain Y) (qk : ¬ x.kind = 1) (qc : x.code = 0) (qp : pl = true) (h17 : ∀ st, callW Try.prog how 17 [.agg [.int .i64 x.kind, .str x.key, .str x.val, RX, WX], .agg [.int .i64 x.cl, .int .u64 x.sq]] ⟨hp, s ++ st⟩ none = some (.agg [.int .i64 tc, .int .u64 ts, .bool pl, X, Y], ⟨hp, s ++ st⟩)) (h35 : ∀ st, callW Try.prog how 35 [.ptr (.hp a) 0, .agg [.int .i64 x.cl, .int .u64 x.sq, .int .i64 x.kind, .str x.key, .str x.val, RX, WX, .int .i64 x.ca, .int .i64 x.st, .int .i64 x.an, .int .i64 x.code, .int .i64 x.rcl, .int .u64 x.rsq, .int .i64 x.rn, .int .i64 x.rcode, .str x.rval, .int .u64 x.rnum], .agg [.int .i64 tc, .int .u64 ts, .bool pl, X, Y]] ⟨hp, s ++ st⟩ none = some (.bool true, ⟨hp, s ++ st⟩)) (h36 : ∀ st, callW Try.prog how 36 [.ptr (.hp a) 0, .agg [.int .i64 tc, .int .u64 ts, .bool pl, X, Y]] ⟨hp, s ++ st⟩ none = some (.tup [], ⟨hp2, s ++ st⟩)) (hr1 : x.rcode = 0) (han : ¬ x.an = 0) (hA : ∀ s, (AS.mk hp2 s).get (.hp a) = some (.cells [.map (.hp mm)])) (hlk : ∀ s, lookupA Try.prog ⟨hp2, s⟩ 89 (.map (.hp mm)) (.str x.key) false = some (.agg [.int .u64 v.1, .str v.2.1, .bool v.2.2])) (hn : ¬ x.rnum = v.1) :
    callW Try.prog how 24 [.ptr (.hp a) 0, .agg [.int .i64 x.cl, .int .u64 x.sq, .int .i64 x.kind, .str x.key, .str x.val, RX, WX, .int .i64 x.ca, .int .i64 x.st, .int .i64 x.an, .int .i64 x.code, .int .i64 x.rcl, .int .u64 x.rsq, .int .i64 x.rn, .int .i64 x.rcode, .str x.rval, .int .u64 x.rnum]] ⟨hp, s⟩ none = some (.bool false, ⟨hp2, s⟩) := by
  refine callW_body (fl := {}) (fn := Try.f24) (c := bodyOf Try.f24) rfl Try.func24 rfl ?_
  have henv : ∃ e, e = frameA Try.f24 [.ptr (.hp a) 0, .agg [.int .i64 x.cl, .int .u64 x.sq, .int .i64 x.kind, .str x.key, .str x.val, RX, WX, .int .i64 x.ca, .int .i64 x.st, .int .i64 x.an, .int .i64 x.code, .int .i64 x.rcl, .int .u64 x.rsq, .int .i64 x.rn, .int .i64 x.rcode, .str x.rval, .int .u64 x.rnum]] := ⟨_, rfl⟩
  obtain ⟨env, henv⟩ := henv
  have hl : env.length = 75 := by rw [henv]; rfl
  have h0 : Env.get env 0 = .ptr (.hp a) 0 := by rw [henv]; rfl
  have h1 : Env.get env 1 = .agg [.int .i64 x.cl, .int .u64 x.sq, .int .i64 x.kind, .str x.key, .str x.val, RX, WX, .int .i64 x.ca, .int .i64 x.st, .int .i64 x.an, .int .i64 x.code, .int .i64 x.rcl, .int .u64 x.rsq, .int .i64 x.rn, .int .i64 x.rcode, .str x.rval, .int .u64 x.rnum] := by rw [henv]; rfl
  rw [← henv]
  clear henv
  subst qp
  simp only [qc, hr1] at h35
  simp -implicitDefEqProofs [-lookupA, Try.f24, hl, h0, h1, hRX.one, hRX.inb, hRX.row, hRX.cells, hWX.one, hWX.inb, hWX.row, hWX.cells, hX.one, hX.inb, hX.row, hX.cells, hY.one, hY.inb, hY.row, hY.cells, qk, qc, hr1, h17, h35, h36, hA, hlk, hn, han, fieldValA]

end
def awR : RowD := ⟨1, 1, 2, ⟨#[97]⟩, ⟨#[120]⟩, [], [], 1, 2, 3, 0, 1, 1, 0, 0, ⟨#[]⟩, 2⟩
theorem f24_aw (hp s : List AObj) (a mm : Nat) (hP : PM hp a mm []) :
    callW Try.prog how 24 [.ptr (.hp a) 0, encRow awR] ⟨hp, s⟩ none = some (.bool false, ⟨hp.set mm (.map ((putsP [] (rowTxn awR).2.2).map entK)), s⟩) := by
  have hN : ∀ n : Nat, ∀ k, (none : Option Nat) = some k → k ≤ n := fun _ _ h => by cases h
  obtain ⟨tc, ts, h17⟩ := f17_v awR.cl awR.sq awR.kind awR.key awR.val awR.rs awR.ws (by decide) (by decide)
  have h39 := fun st => f39_ok hp (s ++ st) none a mm [] tc ts (rowTxn awR).1 _ _ (rowTxn awR).2.1 (hN _) hP slOf_slV (slV_plain (sz := 3) (l := (rowTxn awR).2.2.map encWr)) (by decide)
  have hst : staleS [] (rowTxn awR).2.1 = false := rfl
  rw [hst] at h39
  have h35 := fun st => f35_0 hp (s ++ st) none a true awR (slV 2 (awR.rs.map encRd)) (slV 3 (awR.ws.map encWr)) tc ts (rowTxn awR).1 (slV 2 ((rowTxn awR).2.1.map encRd)) (slV 3 ((rowTxn awR).2.2.map encWr)) (hN _) slV_plain slV_plain slV_plain slV_plain rfl (fun st2 => by have := h39 (st ++ st2); rw [← List.append_assoc] at this; exact this)
  have h36 := fun st => F36.ok hp (s ++ st) a mm [] (rowTxn awR).2.2 tc ts (rowTxn awR).1 (slV 2 ((rowTxn awR).2.1.map encRd)) (slV 3 ((rowTxn awR).2.2.map encWr)) hP slV_plain slOf_slV (by decide)
  have hP2 := hP.put (putsP [] (rowTxn awR).2.2)
  exact f24_f hp s a mm _ (ofK (putsP [] (rowTxn awR).2.2) awR.key) awR _ _ tc ts (rowTxn awR).1 _ _ slV_plain slV_plain slV_plain slV_plain (by decide) rfl rfl (fun st => h17 hp (s ++ st) none (hN _)) h35 h36 rfl (by decide) (fun s => hP2.oA) (fun s => hP2.look s awR.key) (by decide)
theorem newPM (hp : List AObj) : PM (hp ++ [.map [], .cells [.map (.hp hp.length)]]) (hp.length + 1) hp.length [] := ⟨by simp, by simp, by omega⟩
theorem gd41 : Try.prog.eqGuardType Try.prog.depth 41 = false := by kernel_rfl
theorem gd43 : Try.prog.eqGuardType Try.prog.depth 43 = false := by kernel_rfl
theorem eq41 : eqA Try.prog 40 41 (.agg [.int .i64 1, .int .u64 1]) (.agg [.int .i64 1, .int .u64 1]) = some true := by kernel_rfl
theorem eq43 : eqA Try.prog 40 43 (.int .i64 3) (.int .i64 3) = some true := by kernel_rfl
section
attribute [local simp] ofV ofCell ofCells seqA_nil seqA_cons seqVK_eq seqEK_eq wantedA yieldedA isVal effA ev evs evps putE optsA optsOk valA fieldAddrA fieldA loadA partA aggA isAggD buildA placesA fillA lay storeA AV.withCells buildSliceA elemsA rowParts fzL promL okE isSrc bytesOk pushA cxOf lenA binA intBinA strBinA unA indexAddrA eqA AVs.inb AV.inb Loc.inb calleeA opsOf sub bodyOf Env.get_set quietA_nil quietA_cons quietK_none quietK_some qstep newA isNew escNew boxOk newLoc flat rowPartsQ quietN quietOp isBS List.takeWhile finishA_eq finK_ret finK_normal retK backK resA oneA AV.back AVs.back execW_seq_eq seqK_normal seqK_ret seqK_exit execW_cond_eq condK_true condK_false execW_block_eq blockK_exit blockK_normal blockK_ret execW_region_eq regK_eq execW_skip execW_exit execW_ret regionA_plain regionA_quiet0 tailK_eq nilCheckA guardOk isConst lookupA keyFits mapUpdateA beqI bneI
theorem f14_c (hp s : List AObj) (hp2 : List AObj) (h11 : ∀ st : List AObj, st = [.cells [.int .i64 1, .int .u64 1], .cells [.int .i64 1, .int .u64 1, .int .i64 2, .str ⟨#[97]⟩, .str ⟨#[120]⟩, .nils, .nils, .int .i64 1, .int .i64 2, .int .i64 3, .int .i64 0, .int .i64 1, .int .u64 1, .int .i64 0, .int .i64 0, .str ⟨#[]⟩, .int .u64 2], .row [.agg [.int .i64 1, .int .u64 1, .int .i64 2, .str ⟨#[97]⟩, .str ⟨#[120]⟩, .nils, .nils, .int .i64 1, .int .i64 2, .int .i64 3, .int .i64 0, .int .i64 1, .int .u64 1, .int .i64 0, .int .i64 0, .str ⟨#[]⟩, .int .u64 2]] 17 0 false] → callW Try.prog how 11 [.row (.st (s.length + 2)) 0 0 1] ⟨hp, s ++ st⟩ none = some (.tup [.agg [.int .i64 1, .int .u64 1], .int .i64 3], ⟨hp2, s ++ st⟩)) :
    callW Try.prog how 14 [] ⟨hp, s⟩ none = some (.bool true, ⟨hp2, s⟩) := by
  refine callW_body (fl := {}) (fn := Try.f14) (c := bodyOf Try.f14) rfl Try.func14 rfl ?_
  have henv : ∃ e, e = frameA Try.f14 [] := ⟨_, rfl⟩
  obtain ⟨env, henv⟩ := henv
  have hl : env.length = 24 := by rw [henv]; rfl
  rw [← henv]
  clear henv
  simp -implicitDefEqProofs [-eqA, Try.f14, hl, h11, fieldValA, elemA, gd41, gd43, eq41, eq43]

end
theorem f14_ok (hp s : List AObj) : ∃ hp2, callW Try.prog how 14 [] ⟨hp, s⟩ none = some (.bool true, ⟨hp2, s⟩) := by
  let hpk : Nat → List AObj := fun k => if k = 0 then hp ++ [AObj.map [], AObj.cells [.map (.hp hp.length)]] else (hp ++ [AObj.map [], AObj.cells [.map (.hp hp.length)]]).set hp.length (.map ((putsP [] (rowTxn awR).2.2).map entK))
  refine ⟨hpk 1, f14_c hp s (hpk 1) (fun st hst => ?_)⟩
  have hw : [encRow awR] = [AV.agg [.int .i64 1, .int .u64 1, .int .i64 2, .str ⟨#[97]⟩, .str ⟨#[120]⟩, .nils, .nils, .int .i64 1, .int .i64 2, .int .i64 3, .int .i64 0, .int .i64 1, .int .u64 1, .int .i64 0, .int .i64 0, .str ⟨#[]⟩, .int .u64 2]] := rfl
  have hlen : (s ++ st).length = s.length + 3 := by rw [hst]; simp
  have hX : ∀ σ : AS, (s ++ st).length ≤ σ.st.length → σ.st.take (s ++ st).length = s ++ st → Rd Try.prog σ 28 59 (.row (.st (s.length + 2)) 0 0 1) ([awR].map encRow) := by
    intro σ h1 h2
    have hg : σ.get (.st (s.length + 2)) = some (.row ([awR].map encRow) 17 0 false) := by
      have e := congrArg (fun l : List AObj => l[s.length + 2]?) h2
      rw [List.getElem?_take_of_lt (by omega)] at e
      simp only [AS.get]
      rw [e, hst]
      have : (s ++ [AObj.cells [.int .i64 1, .int .u64 1], .cells [.int .i64 1, .int .u64 1, .int .i64 2, .str ⟨#[97]⟩, .str ⟨#[120]⟩, .nils, .nils, .int .i64 1, .int .i64 2, .int .i64 3, .int .i64 0, .int .i64 1, .int .u64 1, .int .i64 0, .int .i64 0, .str ⟨#[]⟩, .int .u64 2], .row [.agg [.int .i64 1, .int .u64 1, .int .i64 2, .str ⟨#[97]⟩, .str ⟨#[120]⟩, .nils, .nils, .int .i64 1, .int .i64 2, .int .i64 3, .int .i64 0, .int .i64 1, .int .u64 1, .int .i64 0, .int .i64 0, .str ⟨#[]⟩, .int .u64 2]] 17 0 false])[s.length + 2]? = some (.row [.agg [.int .i64 1, .int .u64 1, .int .i64 2, .str ⟨#[97]⟩, .str ⟨#[120]⟩, .nils, .nils, .int .i64 1, .int .i64 2, .int .i64 3, .int .i64 0, .int .i64 1, .int .u64 1, .int .i64 0, .int .i64 0, .str ⟨#[]⟩, .int .u64 2]] 17 0 false) := by
        rw [List.getElem?_append_right (by omega)]
        have : s.length + 2 - s.length = 2 := by omega
        rw [this]; rfl
      rw [this]; rfl
    exact rd_row (l := [awR].map encRow) Try.underlying28 s59 (by decide) hg (fun c hc => by obtain ⟨r, _, rfl⟩ := List.mem_map.1 hc; exact elRow r)
  have h := F11.ok hp (s ++ st) (.row (.st (s.length + 2)) 0 0 1) [awR] [awR] hpk (fun _ => false) rfl hX (by decide) (by decide) (List.Perm.refl _) (List.pairwise_singleton _ _) (by simp [hpk]) (fun k hk s' => by
    have hk0 : k = 0 := by simp at hk; omega
    subst hk0
    exact f24_aw (hpk 0) s' (hp.length + 1) hp.length (newPM hp))
  rcases h with ⟨h1, _⟩ | ⟨k, hk, _, h2⟩
  · exact absurd (h1 0 (by decide)) (by simp)
  · have hk0 : k = 0 := by simp at hk; omega
    subst hk0
    exact h2