/- Pieces of the law, and the chapter's example in any state. -/
import Derived.Test.YtmldaajjeeidjaaCk
open Go Go.Abs Go.Proofs
set_option maxRecDepth 100000
set_option maxHeartbeats 4000000
set_option linter.unusedSimpArgs false
set_option linter.unusedVariables false
attribute [simp] Try.underlying22 Try.underlying35
@[simp] theorem z35 : zeroA Try.prog 35 = some (.agg [.int .i64 0, .int .i64 0, .int .u64 0, .int .i64 0, .str ⟨#[]⟩, .int .i64 0]) := by kernel_rfl
/-- The chapter's example, in any state. -/
theorem f11_ok (hp s : List AObj) : ∃ hp', callW Try.prog how 11 [] ⟨hp, s⟩ none = some (.bool true, ⟨hp', s⟩) := by
  have h6 := f6_ok hp s
  have hA1 : (hp ++ [AObj.map [], AObj.cells [.int .u64 0, .int .i64 0, .map (.hp hp.length)]])[hp.length + 1]? = some (.cells [.int .u64 0, .int .i64 0, .map (.hp hp.length)]) := by simp
  have hM1 : (hp ++ [AObj.map [], AObj.cells [.int .u64 0, .int .i64 0, .map (.hp hp.length)]])[hp.length]? = some (.map (([] : List Vt).map entV)) := by simp
  generalize hp ++ [AObj.map [], AObj.cells [.int .u64 0, .int .i64 0, .map (.hp hp.length)]] = hp1 at h6 hA1 hM1
  have h12 := ((F12.ok hp1 s (hp.length + 1) 2 0 0 0 0 hp.length [] [] (List.Perm.refl _) List.Pairwise.nil (by simp) (by simp) hA1 hM1 (by decide)).resolve_left (by rintro ⟨h, _⟩; exact absurd h (by decide))).resolve_left (by rintro ⟨_, h, _⟩; exact absurd h (by decide))
  obtain ⟨_, _, h12⟩ := h12
  have hlt : hp.length + 1 < hp1.length := (List.getElem?_eq_some_iff.1 hA1).1
  have hA2 : (hp1.set (hp.length + 1) (.cells [.int .u64 2, .int .i64 0, .map (.hp hp.length)]) ++ [AObj.cells [.map (.hp hp.length)]])[hp.length + 1]? = some (.cells [.int .u64 2, .int .i64 0, .map (.hp hp.length)]) := by
    rw [List.getElem?_append_left (by simpa using hlt), List.getElem?_set_self hlt]
  have hM2 : (hp1.set (hp.length + 1) (.cells [.int .u64 2, .int .i64 0, .map (.hp hp.length)]) ++ [AObj.cells [.map (.hp hp.length)]])[hp.length]? = some (.map (([] : List Vt).map entV)) := by
    rw [List.getElem?_append_left (by simp; omega), List.getElem?_set_ne (by omega)]
    exact hM1
  generalize hp1.set (hp.length + 1) (.cells [.int .u64 2, .int .i64 0, .map (.hp hp.length)]) ++ [AObj.cells [.map (.hp hp.length)]] = hp2 at h12 hA2 hM2
  have h8a : callW Try.prog how 8 [.ptr (.hp (hp.length + 1)) 0, .agg [.int .i64 0, .int .u64 1, .int .i64 0, .str ⟨#[]⟩]] ⟨hp2, s⟩ none = some (.int .i64 13, ⟨hp2, s⟩) := by
    obtain ⟨_, _, o⟩ := F8.ok hp2 s (hp.length + 1) 2 0 ⟨0, 1, 0, ⟨#[]⟩⟩ [] ⟨hp.length, hA2, hM2⟩ (by decide)
    rcases o with ⟨h, _⟩ | ⟨_, _, h⟩ | ⟨_, h, _⟩ | ⟨_, h, _⟩
    · exact absurd h (by decide)
    · exact h
    · exact absurd h (by decide)
    · exact absurd h (by decide)
  have h8b : ∃ hp3, callW Try.prog how 8 [.ptr (.hp (hp.length + 1)) 0, .agg [.int .i64 0, .int .u64 2, .int .i64 0, .str ⟨#[]⟩]] ⟨hp2, s⟩ none = some (.int .i64 0, ⟨hp3, s⟩) ∧ hp3[hp.length + 1]? = some (.cells [.int .u64 2, .int .i64 0, .map (.hp hp.length)]) ∧ hp3[hp.length]? = some (.map ([(⟨0, 2, 0, ⟨#[]⟩⟩ : Vt)].map entV)) := by
    obtain ⟨hp3, _, o⟩ := F8.ok hp2 s (hp.length + 1) 2 0 ⟨0, 2, 0, ⟨#[]⟩⟩ [] ⟨hp.length, hA2, hM2⟩ (by decide)
    rcases o with ⟨h, _⟩ | ⟨_, h, _⟩ | ⟨_, _, _, h, _⟩ | ⟨_, _, _, h, m, e1, e2, e3⟩
    · exact absurd h (by decide)
    · exact absurd h (by decide)
    · exact absurd h (by decide)
    · have em : m = hp.length := by rw [hA2] at e1; cases e1; rfl
      subst em
      have hl2 : hp.length + 1 < hp2.length := (List.getElem?_eq_some_iff.1 hA2).1
      refine ⟨hp3, h, ?_, ?_⟩
      · rw [e2, List.getElem?_set_ne (by omega), List.getElem?_set_self hl2]
      · rw [e2, List.getElem?_set_self (by simp; omega)]
        rfl
  obtain ⟨hp3, h8b, hA3, hM3⟩ := h8b
  have h19 := F19.ok hp3 s (hp.length + 1) hp.length 2 0 0 [⟨0, 2, 0, ⟨#[]⟩⟩] [⟨0, 2, 0, ⟨#[]⟩⟩] (List.Perm.refl _) (List.pairwise_singleton _ _) (by simp [SlotOk]) (by simp) hA3 hM3
  have e19 : slV 4 ((fromV [⟨0, 2, 0, ⟨#[]⟩⟩] 0).map encV) = .sl false 4 [encV ⟨0, 2, 0, ⟨#[]⟩⟩] := rfl
  rw [e19] at h19
  have e12 : slV 4 ((fromV [] 0).map encV) = .nils := rfl
  rw [e12] at h12
  refine ⟨hp3 ++ [.cells [.map (.hp hp.length)]], callW_body (fl := {}) (fn := Try.f11) (c := bodyOf Try.f11) rfl Try.func11 rfl ?_⟩
  have henv : ∃ e, e = frameA Try.f11 [] := ⟨_, rfl⟩
  obtain ⟨env, henv⟩ := henv
  have hl : env.length = 37 := by rw [henv]; rfl
  rw [← henv]
  clear henv
  simp -implicitDefEqProofs [ofV, ofCell, ofCells, seqA_nil, seqA_cons, seqVK_eq, seqEK_eq, wantedA, yieldedA, isVal, effA, ev, evs, evps, putE, optsA, optsOk, valA, fieldAddrA, fieldA, loadA, partA, aggA, isAggD, buildA, placesA, fillA, lay, storeA, AV.withCells, buildSliceA, elemsA, rowParts, fzL, promL, okE, isSrc, bytesOk, pushA, cxOf, lenA, binA, intBinA, strBinA, unA, indexAddrA, eqA, AVs.inb, AV.inb, Loc.inb, calleeA, opsOf, sub, bodyOf, Env.get_set, quietA_nil, quietA_cons, quietK_none, quietK_some, qstep, newA, isNew, escNew, boxOk, newLoc, flat, rowPartsQ, quietN, quietOp, isBS, List.takeWhile, finishA_eq, finK_ret, finK_normal, retK, backK, resA, oneA, AV.back, AVs.back, execW_seq_eq, seqK_normal, seqK_ret, seqK_exit, execW_cond_eq, condK_true, condK_false, execW_block_eq, blockK_exit, blockK_normal, blockK_ret, execW_region_eq, regK_eq, execW_skip, execW_exit, execW_ret, regionA_plain, regionA_quiet0, tailK_eq, nilCheckA, guardOk, isConst, lookupA, keyFits, mapUpdateA, beqI, bneI, Try.f11, hl, h6, h12, h8a, h8b, h19]
namespace F4

noncomputable def cr (p : List Dir) : Code := sub p (bodyOf Try.f4)

theorem rA (cx : Cx) (env : Env) (σ : AS)  (hlen : env.length = 56) (hcx : cx.esc = [11])  :
    ∃ env', execW Try.prog cx [2000006] (callW Try.prog how) (cr [.l]) (env, σ) = some (.normal, (env', σ)) ∧ env'.length = 56 ∧ (Env.get env' 4 = .bool false) ∧ ∀ i, i ∉ [4] → Env.get env' i = Env.get env i := by
  suffices h : ∀ res, execW Try.prog cx [2000006] (callW Try.prog how) (cr [.l]) (env, σ) = res → ∃ env', res = some (.normal, (env', σ)) ∧ env'.length = 56 ∧ (Env.get env' 4 = .bool false) ∧ ∀ i, i ∉ [4] → Env.get env' i = Env.get env i from h _ rfl
  intro res hr
  simp -implicitDefEqProofs [ofV, ofCell, ofCells, seqA_nil, seqA_cons, seqVK_eq, seqEK_eq, wantedA, yieldedA, isVal, effA, ev, evs, evps, putE, optsA, optsOk, valA, fieldAddrA, fieldA, loadA, partA, aggA, isAggD, buildA, placesA, fillA, lay, storeA, AV.withCells, buildSliceA, elemsA, rowParts, fzL, promL, okE, isSrc, bytesOk, pushA, cxOf, lenA, binA, intBinA, strBinA, unA, indexAddrA, eqA, AVs.inb, AV.inb, Loc.inb, calleeA, opsOf, sub, bodyOf, Env.get_set, quietA_nil, quietA_cons, quietK_none, quietK_some, qstep, newA, isNew, escNew, boxOk, newLoc, flat, rowPartsQ, quietN, quietOp, isBS, List.takeWhile, finishA_eq, finK_ret, finK_normal, retK, backK, resA, oneA, AV.back, AVs.back, execW_seq_eq, seqK_normal, seqK_ret, seqK_exit, execW_cond_eq, condK_true, condK_false, execW_block_eq, blockK_exit, blockK_normal, blockK_ret, execW_region_eq, regK_eq, execW_skip, execW_exit, execW_ret, regionA_plain, regionA_quiet0, tailK_eq, nilCheckA, guardOk, isConst, lookupA, keyFits, mapUpdateA, beqI, bneI, AS.get_push_at, AS.get_push_old, AS.push_len, AS.set_st_len, AS.next_st', AS.set_push_at, AS.get_set_self, AS.get_set_other, cr, Try.f4, hlen, hcx] at hr
  subst hr
  refine ⟨_, rfl, by simp [hlen], by simp [Env.get_set, hlen], fun i hi => ?_⟩
  simp only [List.mem_cons, List.not_mem_nil, or_false, not_or] at hi
  have x0 := hi
  simp [Env.get_set, Ne.symm x0]

theorem rN (cx : Cx) (env : Env) (σ : AS) (hp s : List AObj) (hlen : env.length = 56) (hcx : cx.esc = [11])  (h6 : callW Try.prog how 6 [] ⟨hp, s⟩ none = some (.ptr (.hp (hp.length + 1)) 0, ⟨hp ++ [.map [], .cells [.int .u64 0, .int .i64 0, .map (.hp hp.length)]], s⟩)) (hσ : σ = ⟨hp, s⟩) (hro0 : cx.ro = none) :
    ∃ env', execW Try.prog cx [2000006] (callW Try.prog how) (cr [.r, .l]) (env, σ) = some (.normal, (env', AS.mk (hp ++ [.map [], .cells [.int .u64 0, .int .i64 0, .map (.hp hp.length)], .cells [.int .u64 0, .int .i64 0, .nils]]) s)) ∧ env'.length = 56 ∧ (Env.get env' 5 = .ptr (.hp (hp.length + 1)) 0 ∧ Env.get env' 6 = .ptr (.hp (hp.length + 2)) 0) ∧ ∀ i, i ∉ [5, 6, 9, 10, 11] → Env.get env' i = Env.get env i := by
  suffices h : ∀ res, execW Try.prog cx [2000006] (callW Try.prog how) (cr [.r, .l]) (env, σ) = res → ∃ env', res = some (.normal, (env', AS.mk (hp ++ [.map [], .cells [.int .u64 0, .int .i64 0, .map (.hp hp.length)], .cells [.int .u64 0, .int .i64 0, .nils]]) s)) ∧ env'.length = 56 ∧ (Env.get env' 5 = .ptr (.hp (hp.length + 1)) 0 ∧ Env.get env' 6 = .ptr (.hp (hp.length + 2)) 0) ∧ ∀ i, i ∉ [5, 6, 9, 10, 11] → Env.get env' i = Env.get env i from h _ rfl
  intro res hr
  simp -implicitDefEqProofs [ofV, ofCell, ofCells, seqA_nil, seqA_cons, seqVK_eq, seqEK_eq, wantedA, yieldedA, isVal, effA, ev, evs, evps, putE, optsA, optsOk, valA, fieldAddrA, fieldA, loadA, partA, aggA, isAggD, buildA, placesA, fillA, lay, storeA, AV.withCells, buildSliceA, elemsA, rowParts, fzL, promL, okE, isSrc, bytesOk, pushA, cxOf, lenA, binA, intBinA, strBinA, unA, indexAddrA, eqA, AVs.inb, AV.inb, Loc.inb, calleeA, opsOf, sub, bodyOf, Env.get_set, quietA_nil, quietA_cons, quietK_none, quietK_some, qstep, newA, isNew, escNew, boxOk, newLoc, flat, rowPartsQ, quietN, quietOp, isBS, List.takeWhile, finishA_eq, finK_ret, finK_normal, retK, backK, resA, oneA, AV.back, AVs.back, execW_seq_eq, seqK_normal, seqK_ret, seqK_exit, execW_cond_eq, condK_true, condK_false, execW_block_eq, blockK_exit, blockK_normal, blockK_ret, execW_region_eq, regK_eq, execW_skip, execW_exit, execW_ret, regionA_plain, regionA_quiet0, tailK_eq, nilCheckA, guardOk, isConst, lookupA, keyFits, mapUpdateA, beqI, bneI, AS.get_push_at, AS.get_push_old, AS.push_len, AS.set_st_len, AS.next_st', AS.set_push_at, AS.get_set_self, AS.get_set_other, cr, Try.f4, hlen, hcx, h6, hσ, hro0] at hr
  subst hr
  refine ⟨_, rfl, by simp [hlen], by simp [Env.get_set, hlen, h6, hσ, hro0], fun i hi => ?_⟩
  simp only [List.mem_cons, List.not_mem_nil, or_false, not_or] at hi
  obtain ⟨x0, x1, x2, x3, x4⟩ := hi
  simp [Env.get_set, Ne.symm x0, Ne.symm x1, Ne.symm x2, Ne.symm x3, Ne.symm x4]

theorem rLn (cx : Cx) (env : Env) (σ : AS)  (hlen : env.length = 56) (hcx : cx.esc = [11]) (f0 : Env.get env 0 = .nils) :
    ∃ env', execW Try.prog cx [2000006] (callW Try.prog how) (cr [.r, .r, .l, .l]) (env, σ) = some (.normal, (env', σ)) ∧ env'.length = 56 ∧ (Env.get env' 12 = .nils ∧ Env.get env' 13 = .int .i64 0 ∧ Env.get env' 14 = .int .i64 0) ∧ ∀ i, i ∉ [12, 13, 14] → Env.get env' i = Env.get env i := by
  suffices h : ∀ res, execW Try.prog cx [2000006] (callW Try.prog how) (cr [.r, .r, .l, .l]) (env, σ) = res → ∃ env', res = some (.normal, (env', σ)) ∧ env'.length = 56 ∧ (Env.get env' 12 = .nils ∧ Env.get env' 13 = .int .i64 0 ∧ Env.get env' 14 = .int .i64 0) ∧ ∀ i, i ∉ [12, 13, 14] → Env.get env' i = Env.get env i from h _ rfl
  intro res hr
  simp -implicitDefEqProofs [ofV, ofCell, ofCells, seqA_nil, seqA_cons, seqVK_eq, seqEK_eq, wantedA, yieldedA, isVal, effA, ev, evs, evps, putE, optsA, optsOk, valA, fieldAddrA, fieldA, loadA, partA, aggA, isAggD, buildA, placesA, fillA, lay, storeA, AV.withCells, buildSliceA, elemsA, rowParts, fzL, promL, okE, isSrc, bytesOk, pushA, cxOf, lenA, binA, intBinA, strBinA, unA, indexAddrA, eqA, AVs.inb, AV.inb, Loc.inb, calleeA, opsOf, sub, bodyOf, Env.get_set, quietA_nil, quietA_cons, quietK_none, quietK_some, qstep, newA, isNew, escNew, boxOk, newLoc, flat, rowPartsQ, quietN, quietOp, isBS, List.takeWhile, finishA_eq, finK_ret, finK_normal, retK, backK, resA, oneA, AV.back, AVs.back, execW_seq_eq, seqK_normal, seqK_ret, seqK_exit, execW_cond_eq, condK_true, condK_false, execW_block_eq, blockK_exit, blockK_normal, blockK_ret, execW_region_eq, regK_eq, execW_skip, execW_exit, execW_ret, regionA_plain, regionA_quiet0, tailK_eq, nilCheckA, guardOk, isConst, lookupA, keyFits, mapUpdateA, beqI, bneI, AS.get_push_at, AS.get_push_old, AS.push_len, AS.set_st_len, AS.next_st', AS.set_push_at, AS.get_set_self, AS.get_set_other, cr, Try.f4, hlen, hcx, f0] at hr
  subst hr
  refine ⟨_, rfl, by simp [hlen], by simp [Env.get_set, hlen, f0], fun i hi => ?_⟩
  simp only [List.mem_cons, List.not_mem_nil, or_false, not_or] at hi
  obtain ⟨x0, x1, x2⟩ := hi
  simp [Env.get_set, Ne.symm x0, Ne.symm x1, Ne.symm x2]

theorem rLs (cx : Cx) (env : Env) (σ : AS) (es : List AV) (hlen : env.length = 56) (hcx : cx.esc = [11]) (f0 : Env.get env 0 = .sl false 6 es) :
    ∃ env', execW Try.prog cx [2000006] (callW Try.prog how) (cr [.r, .r, .l, .l]) (env, σ) = some (.normal, (env', σ)) ∧ env'.length = 56 ∧ (Env.get env' 12 = .sl false 6 es ∧ Env.get env' 13 = .int .i64 (es.length : Int) ∧ Env.get env' 14 = .int .i64 0) ∧ ∀ i, i ∉ [12, 13, 14] → Env.get env' i = Env.get env i := by
  suffices h : ∀ res, execW Try.prog cx [2000006] (callW Try.prog how) (cr [.r, .r, .l, .l]) (env, σ) = res → ∃ env', res = some (.normal, (env', σ)) ∧ env'.length = 56 ∧ (Env.get env' 12 = .sl false 6 es ∧ Env.get env' 13 = .int .i64 (es.length : Int) ∧ Env.get env' 14 = .int .i64 0) ∧ ∀ i, i ∉ [12, 13, 14] → Env.get env' i = Env.get env i from h _ rfl
  intro res hr
  simp -implicitDefEqProofs [ofV, ofCell, ofCells, seqA_nil, seqA_cons, seqVK_eq, seqEK_eq, wantedA, yieldedA, isVal, effA, ev, evs, evps, putE, optsA, optsOk, valA, fieldAddrA, fieldA, loadA, partA, aggA, isAggD, buildA, placesA, fillA, lay, storeA, AV.withCells, buildSliceA, elemsA, rowParts, fzL, promL, okE, isSrc, bytesOk, pushA, cxOf, lenA, binA, intBinA, strBinA, unA, indexAddrA, eqA, AVs.inb, AV.inb, Loc.inb, calleeA, opsOf, sub, bodyOf, Env.get_set, quietA_nil, quietA_cons, quietK_none, quietK_some, qstep, newA, isNew, escNew, boxOk, newLoc, flat, rowPartsQ, quietN, quietOp, isBS, List.takeWhile, finishA_eq, finK_ret, finK_normal, retK, backK, resA, oneA, AV.back, AVs.back, execW_seq_eq, seqK_normal, seqK_ret, seqK_exit, execW_cond_eq, condK_true, condK_false, execW_block_eq, blockK_exit, blockK_normal, blockK_ret, execW_region_eq, regK_eq, execW_skip, execW_exit, execW_ret, regionA_plain, regionA_quiet0, tailK_eq, nilCheckA, guardOk, isConst, lookupA, keyFits, mapUpdateA, beqI, bneI, AS.get_push_at, AS.get_push_old, AS.push_len, AS.set_st_len, AS.next_st', AS.set_push_at, AS.get_set_self, AS.get_set_other, cr, Try.f4, hlen, hcx, f0] at hr
  subst hr
  refine ⟨_, rfl, by simp [hlen], by simp [Env.get_set, hlen, f0], fun i hi => ?_⟩
  simp only [List.mem_cons, List.not_mem_nil, or_false, not_or] at hi
  obtain ⟨x0, x1, x2⟩ := hi
  simp [Env.get_set, Ne.symm x0, Ne.symm x1, Ne.symm x2]

theorem rE (cx : Cx) (env : Env) (σ : AS) (es : List AV) (k : Nat) (c n : Int) (v : Vt) (hlen : env.length = 56) (hcx : cx.esc = [11]) (f12 : Env.get env 12 = .sl false 6 es) (f14 : Env.get env 14 = .int .i64 (k : Int)) (hk : k < es.length) (hv : es[k] = .agg [.int .i64 c, .int .i64 v.s, .int .u64 v.r, .int .i64 v.n, .str v.v, .int .i64 n]) (hw : wok cx.ro (.st σ.st.length) = true) (hh : cx.h ≤ σ.st.length) :
    ∃ env', execW Try.prog cx [2000006] (callW Try.prog how) (cr [.r, .r, .l, .r, .i, .i, .r, .r, .l, .i, .l]) (env, σ) = some (.normal, (env', σ.push false (.cells [.int .i64 c, .int .i64 v.s, .int .u64 v.r, .int .i64 v.n, .str v.v, .int .i64 n]))) ∧ env'.length = 56 ∧ (Env.get env' 7 = .int .i64 (k : Int) ∧ Env.get env' 8 = .ptr (.st σ.st.length) 0) ∧ ∀ i, i ∉ [7, 8, 16, 17, 18] → Env.get env' i = Env.get env i := by
  suffices h : ∀ res, execW Try.prog cx [2000006] (callW Try.prog how) (cr [.r, .r, .l, .r, .i, .i, .r, .r, .l, .i, .l]) (env, σ) = res → ∃ env', res = some (.normal, (env', σ.push false (.cells [.int .i64 c, .int .i64 v.s, .int .u64 v.r, .int .i64 v.n, .str v.v, .int .i64 n]))) ∧ env'.length = 56 ∧ (Env.get env' 7 = .int .i64 (k : Int) ∧ Env.get env' 8 = .ptr (.st σ.st.length) 0) ∧ ∀ i, i ∉ [7, 8, 16, 17, 18] → Env.get env' i = Env.get env i from h _ rfl
  intro res hr
  simp -implicitDefEqProofs [ofV, ofCell, ofCells, seqA_nil, seqA_cons, seqVK_eq, seqEK_eq, wantedA, yieldedA, isVal, effA, ev, evs, evps, putE, optsA, optsOk, valA, fieldAddrA, fieldA, loadA, partA, aggA, isAggD, buildA, placesA, fillA, lay, storeA, AV.withCells, buildSliceA, elemsA, rowParts, fzL, promL, okE, isSrc, bytesOk, pushA, cxOf, lenA, binA, intBinA, strBinA, unA, indexAddrA, eqA, AVs.inb, AV.inb, Loc.inb, calleeA, opsOf, sub, bodyOf, Env.get_set, quietA_nil, quietA_cons, quietK_none, quietK_some, qstep, newA, isNew, escNew, boxOk, newLoc, flat, rowPartsQ, quietN, quietOp, isBS, List.takeWhile, finishA_eq, finK_ret, finK_normal, retK, backK, resA, oneA, AV.back, AVs.back, execW_seq_eq, seqK_normal, seqK_ret, seqK_exit, execW_cond_eq, condK_true, condK_false, execW_block_eq, blockK_exit, blockK_normal, blockK_ret, execW_region_eq, regK_eq, execW_skip, execW_exit, execW_ret, regionA_plain, regionA_quiet0, tailK_eq, nilCheckA, guardOk, isConst, lookupA, keyFits, mapUpdateA, beqI, bneI, AS.get_push_at, AS.get_push_old, AS.push_len, AS.set_st_len, AS.next_st', AS.set_push_at, AS.get_set_self, AS.get_set_other, cr, Try.f4, hlen, hcx, f12, f14, hk, hv, hw, hh] at hr
  subst hr
  refine ⟨_, rfl, by simp [hlen], by simp [Env.get_set, hlen, f12, f14, hk, hv, hw, hh], fun i hi => ?_⟩
  simp only [List.mem_cons, List.not_mem_nil, or_false, not_or] at hi
  obtain ⟨x0, x1, x2, x3, x4⟩ := hi
  simp [Env.get_set, Ne.symm x0, Ne.symm x1, Ne.symm x2, Ne.symm x3, Ne.symm x4]

theorem rB (cx : Cx) (env : Env) (σ : AS) (k : Nat) (hlen : env.length = 56) (hcx : cx.esc = [11]) (f7 : Env.get env 7 = .int .i64 (k : Int)) (q : (30 : Int) ≤ (k : Int)) :
    ∃ env', execW Try.prog cx [2000006] (callW Try.prog how) (cr [.r, .r, .l, .r, .i, .i, .r, .r, .l, .i, .r, .l]) (env, σ) = some (.exit 0, (env', σ)) ∧ env'.length = 56 ∧ (True) ∧ ∀ i, i ∉ [19, 20] → Env.get env' i = Env.get env i := by
  suffices h : ∀ res, execW Try.prog cx [2000006] (callW Try.prog how) (cr [.r, .r, .l, .r, .i, .i, .r, .r, .l, .i, .r, .l]) (env, σ) = res → ∃ env', res = some (.exit 0, (env', σ)) ∧ env'.length = 56 ∧ (True) ∧ ∀ i, i ∉ [19, 20] → Env.get env' i = Env.get env i from h _ rfl
  intro res hr
  simp -implicitDefEqProofs [ofV, ofCell, ofCells, seqA_nil, seqA_cons, seqVK_eq, seqEK_eq, wantedA, yieldedA, isVal, effA, ev, evs, evps, putE, optsA, optsOk, valA, fieldAddrA, fieldA, loadA, partA, aggA, isAggD, buildA, placesA, fillA, lay, storeA, AV.withCells, buildSliceA, elemsA, rowParts, fzL, promL, okE, isSrc, bytesOk, pushA, cxOf, lenA, binA, intBinA, strBinA, unA, indexAddrA, eqA, AVs.inb, AV.inb, Loc.inb, calleeA, opsOf, sub, bodyOf, Env.get_set, quietA_nil, quietA_cons, quietK_none, quietK_some, qstep, newA, isNew, escNew, boxOk, newLoc, flat, rowPartsQ, quietN, quietOp, isBS, List.takeWhile, finishA_eq, finK_ret, finK_normal, retK, backK, resA, oneA, AV.back, AVs.back, execW_seq_eq, seqK_normal, seqK_ret, seqK_exit, execW_cond_eq, condK_true, condK_false, execW_block_eq, blockK_exit, blockK_normal, blockK_ret, execW_region_eq, regK_eq, execW_skip, execW_exit, execW_ret, regionA_plain, regionA_quiet0, tailK_eq, nilCheckA, guardOk, isConst, lookupA, keyFits, mapUpdateA, beqI, bneI, AS.get_push_at, AS.get_push_old, AS.push_len, AS.set_st_len, AS.next_st', AS.set_push_at, AS.get_set_self, AS.get_set_other, cr, Try.f4, hlen, hcx, f7, q] at hr
  subst hr
  refine ⟨_, rfl, by simp [hlen], by simp [Env.get_set, hlen, f7, q], fun i hi => ?_⟩
  simp only [List.mem_cons, List.not_mem_nil, or_false, not_or] at hi
  obtain ⟨x0, x1⟩ := hi
  simp [Env.get_set, Ne.symm x0, Ne.symm x1]

theorem rC (cx : Cx) (env : Env) (σ : AS) (k : Nat) (hlen : env.length = 56) (hcx : cx.esc = [11]) (f7 : Env.get env 7 = .int .i64 (k : Int)) (q : ¬ (30 : Int) ≤ (k : Int)) :
    ∃ env', execW Try.prog cx [2000006] (callW Try.prog how) (cr [.r, .r, .l, .r, .i, .i, .r, .r, .l, .i, .r, .l]) (env, σ) = some (.normal, (env', σ)) ∧ env'.length = 56 ∧ (True) ∧ ∀ i, i ∉ [19, 20] → Env.get env' i = Env.get env i := by
  suffices h : ∀ res, execW Try.prog cx [2000006] (callW Try.prog how) (cr [.r, .r, .l, .r, .i, .i, .r, .r, .l, .i, .r, .l]) (env, σ) = res → ∃ env', res = some (.normal, (env', σ)) ∧ env'.length = 56 ∧ (True) ∧ ∀ i, i ∉ [19, 20] → Env.get env' i = Env.get env i from h _ rfl
  intro res hr
  simp -implicitDefEqProofs [ofV, ofCell, ofCells, seqA_nil, seqA_cons, seqVK_eq, seqEK_eq, wantedA, yieldedA, isVal, effA, ev, evs, evps, putE, optsA, optsOk, valA, fieldAddrA, fieldA, loadA, partA, aggA, isAggD, buildA, placesA, fillA, lay, storeA, AV.withCells, buildSliceA, elemsA, rowParts, fzL, promL, okE, isSrc, bytesOk, pushA, cxOf, lenA, binA, intBinA, strBinA, unA, indexAddrA, eqA, AVs.inb, AV.inb, Loc.inb, calleeA, opsOf, sub, bodyOf, Env.get_set, quietA_nil, quietA_cons, quietK_none, quietK_some, qstep, newA, isNew, escNew, boxOk, newLoc, flat, rowPartsQ, quietN, quietOp, isBS, List.takeWhile, finishA_eq, finK_ret, finK_normal, retK, backK, resA, oneA, AV.back, AVs.back, execW_seq_eq, seqK_normal, seqK_ret, seqK_exit, execW_cond_eq, condK_true, condK_false, execW_block_eq, blockK_exit, blockK_normal, blockK_ret, execW_region_eq, regK_eq, execW_skip, execW_exit, execW_ret, regionA_plain, regionA_quiet0, tailK_eq, nilCheckA, guardOk, isConst, lookupA, keyFits, mapUpdateA, beqI, bneI, AS.get_push_at, AS.get_push_old, AS.push_len, AS.set_st_len, AS.next_st', AS.set_push_at, AS.get_set_self, AS.get_set_other, cr, Try.f4, hlen, hcx, f7, q] at hr
  subst hr
  refine ⟨_, rfl, by simp [hlen], by simp [Env.get_set, hlen, f7, q], fun i hi => ?_⟩
  simp only [List.mem_cons, List.not_mem_nil, or_false, not_or] at hi
  obtain ⟨x0, x1⟩ := hi
  simp [Env.get_set, Ne.symm x0, Ne.symm x1]

theorem rX (cx : Cx) (env : Env) (σ : AS)  (hlen : env.length = 56) (hcx : cx.esc = [11]) (f53 : Env.get env 53 = .bool false) :
    ∃ env', execW Try.prog cx [2000006] (callW Try.prog how) (cr [.r, .r, .l, .r, .i, .i, .r, .r, .l, .i, .r, .r, .r]) (env, σ) = some (.normal, (env', σ)) ∧ env'.length = 56 ∧ (True) ∧ ∀ i, i ∉ [] → Env.get env' i = Env.get env i := by
  suffices h : ∀ res, execW Try.prog cx [2000006] (callW Try.prog how) (cr [.r, .r, .l, .r, .i, .i, .r, .r, .l, .i, .r, .r, .r]) (env, σ) = res → ∃ env', res = some (.normal, (env', σ)) ∧ env'.length = 56 ∧ (True) ∧ ∀ i, i ∉ [] → Env.get env' i = Env.get env i from h _ rfl
  intro res hr
  simp -implicitDefEqProofs [ofV, ofCell, ofCells, seqA_nil, seqA_cons, seqVK_eq, seqEK_eq, wantedA, yieldedA, isVal, effA, ev, evs, evps, putE, optsA, optsOk, valA, fieldAddrA, fieldA, loadA, partA, aggA, isAggD, buildA, placesA, fillA, lay, storeA, AV.withCells, buildSliceA, elemsA, rowParts, fzL, promL, okE, isSrc, bytesOk, pushA, cxOf, lenA, binA, intBinA, strBinA, unA, indexAddrA, eqA, AVs.inb, AV.inb, Loc.inb, calleeA, opsOf, sub, bodyOf, Env.get_set, quietA_nil, quietA_cons, quietK_none, quietK_some, qstep, newA, isNew, escNew, boxOk, newLoc, flat, rowPartsQ, quietN, quietOp, isBS, List.takeWhile, finishA_eq, finK_ret, finK_normal, retK, backK, resA, oneA, AV.back, AVs.back, execW_seq_eq, seqK_normal, seqK_ret, seqK_exit, execW_cond_eq, condK_true, condK_false, execW_block_eq, blockK_exit, blockK_normal, blockK_ret, execW_region_eq, regK_eq, execW_skip, execW_exit, execW_ret, regionA_plain, regionA_quiet0, tailK_eq, nilCheckA, guardOk, isConst, lookupA, keyFits, mapUpdateA, beqI, bneI, AS.get_push_at, AS.get_push_old, AS.push_len, AS.set_st_len, AS.next_st', AS.set_push_at, AS.get_set_self, AS.get_set_other, cr, Try.f4, hlen, hcx, f53] at hr
  subst hr
  refine ⟨_, rfl, by simp [hlen], by simp [Env.get_set, hlen, f53], fun i hi => ?_⟩
  simp [Env.get_set]

theorem rZ (cx : Cx) (env : Env) (σ : AS) (σ' : AS) (hlen : env.length = 56) (hcx : cx.esc = [11])  (h11 : callW Try.prog how 11 [] σ cx.ro = some (.bool true, σ')) :
    ∃ env', execW Try.prog cx [2000006] (callW Try.prog how) (cr [.r, .r, .r, .l]) (env, σ) = some (.normal, (env', σ')) ∧ env'.length = 56 ∧ (Env.get env' 4 = .bool true) ∧ ∀ i, i ∉ [4, 55] → Env.get env' i = Env.get env i := by
  suffices h : ∀ res, execW Try.prog cx [2000006] (callW Try.prog how) (cr [.r, .r, .r, .l]) (env, σ) = res → ∃ env', res = some (.normal, (env', σ')) ∧ env'.length = 56 ∧ (Env.get env' 4 = .bool true) ∧ ∀ i, i ∉ [4, 55] → Env.get env' i = Env.get env i from h _ rfl
  intro res hr
  simp -implicitDefEqProofs [ofV, ofCell, ofCells, seqA_nil, seqA_cons, seqVK_eq, seqEK_eq, wantedA, yieldedA, isVal, effA, ev, evs, evps, putE, optsA, optsOk, valA, fieldAddrA, fieldA, loadA, partA, aggA, isAggD, buildA, placesA, fillA, lay, storeA, AV.withCells, buildSliceA, elemsA, rowParts, fzL, promL, okE, isSrc, bytesOk, pushA, cxOf, lenA, binA, intBinA, strBinA, unA, indexAddrA, eqA, AVs.inb, AV.inb, Loc.inb, calleeA, opsOf, sub, bodyOf, Env.get_set, quietA_nil, quietA_cons, quietK_none, quietK_some, qstep, newA, isNew, escNew, boxOk, newLoc, flat, rowPartsQ, quietN, quietOp, isBS, List.takeWhile, finishA_eq, finK_ret, finK_normal, retK, backK, resA, oneA, AV.back, AVs.back, execW_seq_eq, seqK_normal, seqK_ret, seqK_exit, execW_cond_eq, condK_true, condK_false, execW_block_eq, blockK_exit, blockK_normal, blockK_ret, execW_region_eq, regK_eq, execW_skip, execW_exit, execW_ret, regionA_plain, regionA_quiet0, tailK_eq, nilCheckA, guardOk, isConst, lookupA, keyFits, mapUpdateA, beqI, bneI, AS.get_push_at, AS.get_push_old, AS.push_len, AS.set_st_len, AS.next_st', AS.set_push_at, AS.get_set_self, AS.get_set_other, cr, Try.f4, hlen, hcx, h11] at hr
  subst hr
  refine ⟨_, rfl, by simp [hlen], by simp [Env.get_set, hlen, h11], fun i hi => ?_⟩
  simp only [List.mem_cons, List.not_mem_nil, or_false, not_or] at hi
  obtain ⟨x0, x1⟩ := hi
  simp [Env.get_set, Ne.symm x0, Ne.symm x1]

noncomputable def m6_q : List Oper := opsOf (cr [.r, .r, .l, .r, .i, .i, .r, .r, .l, .i, .r, .r, .l])
def m6_plan : List (Nat × List Nat) := [(0, []), (0, []), (2, []), (4, []), (0, []), (0, []), (0, []), (4, [12]), (4, [12]), (0, []), (0, []), (0, []), (1, []), (0, []), (0, []), (0, []), (0, []), (0, []), (4, []), (0, []), (0, []), (4, []), (4, []), (0, []), (0, []), (0, []), (0, []), (4, []), (0, []), (4, []), (4, []), (0, []), (0, [])]
theorem m6_reg : (cr [.r, .r, .l, .r, .i, .i, .r, .r, .l, .i, .r, .r, .l]) = .region 6 m6_q.toArray true := by kernel_rfl
theorem m6_ok (h : Nat) (ro : Option Nat) : planOk Try.prog (Cx.mk h ro [11]) m6_q m6_plan = true := by kernel_rfl
theorem m6_lt : anyLT Try.prog m6_q = true := by kernel_rfl
theorem m6_room (h : Nat) (ro : Option Nat) : roomL Try.prog (Cx.mk h ro [11]) m6_q = 0 := by kernel_rfl
theorem m6 (h : Nat) (ro : Option Nat) (hp s : List AObj) (env : Env) (a r b : Nat) (c n m pr pn : Int) (v : Vt) (X x1 x2 : AV) (hp1 hp2 hp3 : List AObj) (hlen : env.length = 56) (f1 : Env.get env 1 = .int .i64 m) (f5 : Env.get env 5 = .ptr (.hp a) 0) (f6 : Env.get env 6 = .ptr (.hp r) 0) (f8 : Env.get env 8 = .ptr (.st b) 0) (g8 : (AS.mk hp s).get (.st b) = some (.cells [.int .i64 c, .int .i64 v.s, .int .u64 v.r, .int .i64 v.n, .str v.v, .int .i64 n])) (h7 : callW Try.prog how 7 [.ptr (.hp a) 0, .ptr (.hp r) 0, .agg [.int .i64 c, .int .i64 v.s, .int .u64 v.r, .int .i64 v.n, .str v.v, .int .i64 n]] ⟨hp, s⟩ ro = some (.bool true, ⟨hp1, s⟩)) (h17 : callW Try.prog how 17 [.ptr (.hp a) 0] ⟨hp1, s⟩ ro = some (.agg [.int .u64 pr, .int .i64 pn], ⟨hp1, s⟩)) (h16 : callW Try.prog how 16 [.agg [.int .u64 pr, .int .i64 pn]] ⟨hp1, s⟩ ro = some (.agg [.int .u64 pr, .int .i64 pn], ⟨hp1, s⟩)) (gT : (AS.mk (hp1.take hp.length) s).get (.hp r) = some (.cells [.int .u64 pr, .int .i64 pn, X]))
 (h19 : callW Try.prog how 19 [.ptr (.hp a) 0, .int .i64 m] ⟨hp1, s⟩ ro = some (x1, ⟨hp2, s⟩)) (h20 : callW Try.prog how 20 [.ptr (.hp r) 0, .int .i64 m] ⟨hp2, s⟩ ro = some (x1, ⟨hp2, s⟩)) (h18 : callW Try.prog how 18 [x1, x1] ⟨hp2, s⟩ ro = some (.bool true, ⟨hp2, s⟩))
 (h19b : callW Try.prog how 19 [.ptr (.hp a) 0, .int .i64 0] ⟨hp2, s⟩ ro = some (x2, ⟨hp3, s⟩)) (h20b : callW Try.prog how 20 [.ptr (.hp r) 0, .int .i64 0] ⟨hp3, s⟩ ro = some (x2, ⟨hp3, s⟩)) (h18b : callW Try.prog how 18 [x2, x2] ⟨hp3, s⟩ ro = some (.bool true, ⟨hp3, s⟩)) :
    ∃ env', execW Try.prog (Cx.mk h ro [11]) [2000006] (callW Try.prog how) (cr [.r, .r, .l, .r, .i, .i, .r, .r, .l, .i, .r, .r, .l]) (env, ⟨hp, s⟩) = some (.normal, (env', AS.mk (hp3) (s))) ∧ env'.length = 56 ∧ (Env.get env' 53 = .bool false) ∧ ∀ i, i ∉ [21, 22, 23, 24, 25, 26, 27, 28, 29, 30, 31, 32, 33, 34, 35, 36, 37, 38, 39, 40, 41, 42, 43, 44, 45, 46, 47, 48, 49, 50, 51, 52, 53] → Env.get env' i = Env.get env i := by
  suffices hh : ∀ res, execW Try.prog (Cx.mk h ro [11]) [2000006] (callW Try.prog how) (cr [.r, .r, .l, .r, .i, .i, .r, .r, .l, .i, .r, .r, .l]) (env, ⟨hp, s⟩) = res → ∃ env', res = some (.normal, (env', AS.mk (hp3) (s))) ∧ env'.length = 56 ∧ (Env.get env' 53 = .bool false) ∧ ∀ i, i ∉ [21, 22, 23, 24, 25, 26, 27, 28, 29, 30, 31, 32, 33, 34, 35, 36, 37, 38, 39, 40, 41, 42, 43, 44, 45, 46, 47, 48, 49, 50, 51, 52, 53] → Env.get env' i = Env.get env i from hh _ rfl
  intro res hr
  have hroom := m6_room h ro
  rw [m6_reg, execW_region_eq] at hr
  rw [show (m6_q.toArray).toList = m6_q from rfl, regionA_mix rfl rfl] at hr
  generalize h1 : mixL Try.prog (Cx.mk h ro [11]) (callW Try.prog how) ⟨hp, s⟩ m6_q true none (m6_q.zip m6_plan) env (layL Try.prog (Cx.mk h ro [11]) ⟨hp, s⟩ m6_q) = r1 at *
  have h1' := h1
  rw [layL0 hroom] at h1'
  simp -implicitDefEqProofs [m6_plan, ofV, ofCell, ofCells, seqA_nil, seqA_cons, seqVK_eq, seqEK_eq, wantedA, yieldedA, isVal, effA, ev, evs, evps, putE, optsA, optsOk, valA, fieldAddrA, fieldA, loadA, partA, aggA, isAggD, buildA, placesA, fillA, lay, storeA, AV.withCells, buildSliceA, elemsA, rowParts, fzL, promL, okE, isSrc, bytesOk, pushA, cxOf, lenA, binA, intBinA, strBinA, unA, indexAddrA, AVs.inb, AV.inb, Loc.inb, calleeA, opsOf, sub, bodyOf, Env.get_set, quietA_nil, quietA_cons, quietK_none, quietK_some, qstep, newA, isNew, escNew, boxOk, newLoc, flat, rowPartsQ, quietN, quietOp, isBS, List.takeWhile, finishA_eq, finK_ret, finK_normal, retK, backK, resA, oneA, AV.back, AVs.back, execW_seq_eq, seqK_normal, seqK_ret, seqK_exit, execW_cond_eq, condK_true, condK_false, execW_block_eq, blockK_exit, blockK_normal, blockK_ret, execW_region_eq, regK_eq, execW_skip, execW_exit, execW_ret, regionA_plain, regionA_quiet0, tailK_eq, nilCheckA, guardOk, isConst, lookupA, keyFits, mapUpdateA, beqI, bneI, mixL_nil, mixL_cons, mixK_eq, tK_pre, tK_eq, vK_eq, stepL_0, stepL_1n, stepL_1s, stepL_2, stepL_3, stepL_4, newL, tchkL, agreeB, Op.operands, sameO, truncM, beq_bool, beq_int, beq_str, beq_nilp, beq_ptr, beq_eptr, beq_nils, beq_row, beq_nilm, beq_map, beq_agg, beq_sl, beqs_nil, beqs_cons, m6_q, cr, Try.f4, hlen, f1, f5, f6, f8, g8, h7, h17, h16, gT, h19, h20, h18, h19b, h20b, h18b, gd25, eq25'] at h1'
  subst h1'
  rw [mixA_plan2 (m6_ok h ro) m6_lt h1, layL0 hroom] at hr
  simp -implicitDefEqProofs [m6_plan, ofV, ofCell, ofCells, seqA_nil, seqA_cons, seqVK_eq, seqEK_eq, wantedA, yieldedA, isVal, effA, ev, evs, evps, putE, optsA, optsOk, valA, fieldAddrA, fieldA, loadA, partA, aggA, isAggD, buildA, placesA, fillA, lay, storeA, AV.withCells, buildSliceA, elemsA, rowParts, fzL, promL, okE, isSrc, bytesOk, pushA, cxOf, lenA, binA, intBinA, strBinA, unA, indexAddrA, AVs.inb, AV.inb, Loc.inb, calleeA, opsOf, sub, bodyOf, Env.get_set, quietA_nil, quietA_cons, quietK_none, quietK_some, qstep, newA, isNew, escNew, boxOk, newLoc, flat, rowPartsQ, quietN, quietOp, isBS, List.takeWhile, finishA_eq, finK_ret, finK_normal, retK, backK, resA, oneA, AV.back, AVs.back, execW_seq_eq, seqK_normal, seqK_ret, seqK_exit, execW_cond_eq, condK_true, condK_false, execW_block_eq, blockK_exit, blockK_normal, blockK_ret, execW_region_eq, regK_eq, execW_skip, execW_exit, execW_ret, regionA_plain, regionA_quiet0, tailK_eq, nilCheckA, guardOk, isConst, lookupA, keyFits, mapUpdateA, beqI, bneI, mixL_nil, mixL_cons, mixK_eq, tK_pre, tK_eq, vK_eq, stepL_0, stepL_1n, stepL_1s, stepL_2, stepL_3, stepL_4, newL, tchkL, agreeB, Op.operands, sameO, truncM, beq_bool, beq_int, beq_str, beq_nilp, beq_ptr, beq_eptr, beq_nils, beq_row, beq_nilm, beq_map, beq_agg, beq_sl, beqs_nil, beqs_cons, m6_q, cr, Try.f4, hlen, f1, f5, f6, f8, g8, h7, h17, h16, gT, h19, h20, h18, h19b, h20b, h18b, gd25, eq25'] at hr
  subst hr
  refine ⟨_, rfl, by simp [hlen], by simp [Env.get_set, hlen, f1, f5, f6, f8, g8, h7, h17, h16, gT, h19, h20, h18, h19b, h20b, h18b, gd25, eq25'], fun i hi => ?_⟩
  simp only [List.mem_cons, List.not_mem_nil, or_false, not_or] at hi
  obtain ⟨x0, x1, x2, x3, x4, x5, x6, x7, x8, x9, x10, x11, x12, x13, x14, x15, x16, x17, x18, x19, x20, x21, x22, x23, x24, x25, x26, x27, x28, x29, x30, x31, x32⟩ := hi
  simp [Env.get_set, Ne.symm x0, Ne.symm x1, Ne.symm x2, Ne.symm x3, Ne.symm x4, Ne.symm x5, Ne.symm x6, Ne.symm x7, Ne.symm x8, Ne.symm x9, Ne.symm x10, Ne.symm x11, Ne.symm x12, Ne.symm x13, Ne.symm x14, Ne.symm x15, Ne.symm x16, Ne.symm x17, Ne.symm x18, Ne.symm x19, Ne.symm x20, Ne.symm x21, Ne.symm x22, Ne.symm x23, Ne.symm x24, Ne.symm x25, Ne.symm x26, Ne.symm x27, Ne.symm x28, Ne.symm x29, Ne.symm x30, Ne.symm x31, Ne.symm x32]

end F4