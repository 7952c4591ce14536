/- The program's row of votes from a slot on: its map's keys, sorted. -/
import Derived.Test.YtmldaajjeeidjaaCc
open Go Go.Abs Go.Proofs
set_option maxRecDepth 100000
set_option maxHeartbeats 4000000
set_option linter.unusedSimpArgs false
set_option linter.unusedVariables false
attribute [simp] Try.underlying68 Try.underlying71
@[simp] theorem e68 : elemA Try.prog 68 = some 3 := by kernel_rfl

theorem f26_ok (hp s : List AObj) (m : Nat) :
    callW Try.prog how 26 [.map (.hp m)] ⟨hp, s⟩ none = some (.fn (.func 29) [] [.ptr (.hp hp.length) 0], ⟨hp ++ [.cells [.map (.hp m)]], s⟩) := by
  refine callW_body (fl := { esc := [1] }) (fn := Try.f26) (c := bodyOf Try.f26) rfl Try.func26 rfl ?_
  have henv : ∃ e, e = frameA Try.f26 [.map (.hp m)] := ⟨_, rfl⟩
  obtain ⟨env, henv⟩ := henv
  have hl : env.length = 4 := by rw [henv]; rfl
  have h0 : Env.get env 0 = .map (.hp m) := by rw [henv]; rfl
  rw [← henv]
  clear henv
  simp -implicitDefEqProofs [ofV, ofCell, ofCells, seqA_nil, seqA_cons, seqVK_eq, seqEK_eq, wantedA, yieldedA, isVal, effA, ev, evs, evps, putE, optsA, optsOk, valA, fieldAddrA, fieldA, loadA, partA, aggA, isAggD, buildA, placesA, fillA, lay, storeA, AV.withCells, buildSliceA, elemsA, rowParts, fzL, promL, okE, isSrc, bytesOk, pushA, cxOf, lenA, binA, intBinA, strBinA, unA, indexAddrA, eqA, AVs.inb, AV.inb, Loc.inb, calleeA, opsOf, sub, bodyOf, Env.get_set, quietA_nil, quietA_cons, quietK_none, quietK_some, qstep, newA, isNew, escNew, boxOk, newLoc, flat, rowPartsQ, quietN, quietOp, isBS, List.takeWhile, finishA_eq, finK_ret, finK_normal, retK, backK, resA, oneA, AV.back, AVs.back, execW_seq_eq, seqK_normal, seqK_ret, seqK_exit, execW_cond_eq, condK_true, condK_false, execW_block_eq, blockK_exit, blockK_normal, blockK_ret, execW_region_eq, regK_eq, execW_skip, execW_exit, execW_ret, regionA_plain, regionA_quiet0, tailK_eq, nilCheckA, guardOk, isConst, lookupA, keyFits, mapUpdateA, beqI, bneI, Try.f26, hl, h0]


/-- A map's entries. -/
def entV (v : Vt) : AV × AV := (.int .i64 v.s, encV v)
def SlotOk (v : Vt) : Prop := 0 ≤ v.s ∧ v.s ≤ 1048576
theorem at_slot {v : Vt} (h : SlotOk v) : kindI.at? (.int .i64 v.s) = some v.s := by
  have hw : (Lit.int .i64 v.s).wf = true := by
    obtain ⟨h1, h2⟩ := h
    simp only [Lit.wf, IntKind.min, IntKind.max, IntKind.signed, IntKind.bits, Bool.and_eq_true, decide_eq_true_eq]
    refine ⟨?_, ?_⟩ <;> simp <;> omega
  simp only [kindI, hw, if_true]
theorem keys_of : ∀ {M : List Vt}, (∀ v ∈ M, SlotOk v) → keyListA kindI (M.map entV) = some (M.map (·.s))
  | [], _ => rfl
  | v :: M, h => by
    simp only [List.map_cons, keyListA, entV, at_slot (h v (by simp)), keys_of (M := M) (fun x hx => h x (by simp [hx]))]
/-- Slots that rise. -/
def Rising (L : List Vt) : Prop := L.Pairwise fun a b => a.s < b.s
theorem leI_iff {a b : Int} : leI a b = true ↔ a ≤ b := by simp [leI]
theorem sorted_of {M L : List Vt} (hp : M.Perm L) (hL : Rising L) : isortB leI (M.map (·.s)) = L.map (·.s) := by
  have hs := isortB_sorted (le := leI) (fun a b c h1 h2 => by rw [leI_iff] at *; omega) (fun a b => by
    rw [Bool.or_eq_true, leI_iff, leI_iff]; omega) (M.map (·.s))
  refine List.Perm.eq_of_pairwise (le := fun a b => leI a b = true) (fun a b _ _ h1 h2 => ?_) hs ?_ ((isortB_perm _).trans (hp.map _))
  · rw [leI_iff] at h1 h2; omega
  · rw [List.pairwise_map]
    exact hL.imp fun h => by rw [leI_iff]; omega
theorem find_of : ∀ {M : List Vt} {v : Vt}, v ∈ M → M.Pairwise (fun a b => a.s ≠ b.s) → findA (.int .i64 v.s) (M.map entV) = some (some (encV v))
  | [], v, h, _ => by cases h
  | x :: M, v, h, hp => by
    rw [List.pairwise_cons] at hp
    simp only [List.map_cons, findA, entV, keyEq, if_true]
    rcases List.mem_cons.1 h with rfl | h'
    · simp
    · have : v.s ≠ x.s := fun e => hp.1 v h' e.symm
      simp only [show (v.s == x.s) = false by simp [this]]
      exact find_of h' hp.2
theorem rising_ne {M L : List Vt} (hp : M.Perm L) (hL : Rising L) : M.Pairwise (fun a b => a.s ≠ b.s) := by
  have h1 : L.Pairwise (fun a b => a.s ≠ b.s) := hL.imp fun h => by omega
  exact h1.perm hp.symm (fun h => h.symm)
theorem f25_ok (hp s : List AObj) (m i : Nat) (M L : List Vt) (hM : M.Perm L) (hL : Rising L) (hok : ∀ v ∈ M, SlotOk v) (hlen : L.length ≤ 1000) (h1 : hp[i]? = some (.cells [.map (.hp m)])) (h2 : hp[m]? = some (.map (M.map entV))) (ro : Option Nat) :
    callW Try.prog how 25 [.fn (.func 29) [] [.ptr (.hp i) 0]] ⟨hp, s⟩ ro = some (slK ((L.map (·.s)).map (.int .i64)), ⟨hp, s⟩) := by
  refine callW_prim (p := sortedA kindI 29) rfl ?_
  have hle : (M.map (·.s)).length ≤ kindI.most := by
    rw [List.length_map, hM.length_eq]
    exact Nat.le_trans hlen (by decide)
  simp only [sortedA, AS.get, h1, h2, keys_of hok, if_true, hle]
  rw [show kindI.le = leI from rfl, sorted_of hM hL]
  rfl

namespace F19
noncomputable def cr (p : List Dir) : Code := sub p (bodyOf Try.f19)

theorem rA (cx : Cx) (env : Env) (σ : AS)  (hlen : env.length = 35) (hcx : cx.esc = [])  :
    ∃ env', execW Try.prog cx [] (callW Try.prog how) (cr [.l]) (env, σ) = some (.normal, (env', σ)) ∧ env'.length = 35 ∧ (Env.get env' 4 = .nils) ∧ ∀ i, i ∉ [4] → Env.get env' i = Env.get env i := by
  suffices h : ∀ res, execW Try.prog cx [] (callW Try.prog how) (cr [.l]) (env, σ) = res → ∃ env', res = some (.normal, (env', σ)) ∧ env'.length = 35 ∧ (Env.get env' 4 = .nils) ∧ ∀ i, i ∉ [4] → Env.get env' i = Env.get env i from h _ rfl
  intro res hr
  simp -implicitDefEqProofs [ofV, ofCell, ofCells, seqA_nil, seqA_cons, seqVK_eq, seqEK_eq, wantedA, yieldedA, isVal, effA, ev, evs, evps, putE, optsA, optsOk, valA, fieldAddrA, fieldA, loadA, partA, aggA, isAggD, buildA, placesA, fillA, lay, storeA, AV.withCells, buildSliceA, elemsA, rowParts, fzL, promL, okE, isSrc, bytesOk, pushA, cxOf, lenA, binA, intBinA, strBinA, unA, indexAddrA, eqA, AVs.inb, AV.inb, Loc.inb, calleeA, opsOf, sub, bodyOf, Env.get_set, quietA_nil, quietA_cons, quietK_none, quietK_some, qstep, newA, isNew, escNew, boxOk, newLoc, flat, rowPartsQ, quietN, quietOp, isBS, List.takeWhile, finishA_eq, finK_ret, finK_normal, retK, backK, resA, oneA, AV.back, AVs.back, execW_seq_eq, seqK_normal, seqK_ret, seqK_exit, execW_cond_eq, condK_true, condK_false, execW_block_eq, blockK_exit, blockK_normal, blockK_ret, execW_region_eq, regK_eq, execW_skip, execW_exit, execW_ret, regionA_plain, regionA_quiet0, tailK_eq, nilCheckA, guardOk, isConst, lookupA, keyFits, mapUpdateA, beqI, bneI, AS.get_push_at, AS.get_push_old, AS.push_len, AS.set_st_len, AS.next_st', AS.set_push_at, AS.get_set_self, AS.get_set_other, cr, Try.f19, hlen, hcx] at hr
  subst hr
  refine ⟨_, rfl, by simp [hlen], by simp [Env.get_set, hlen], fun i hi => ?_⟩
  simp only [List.mem_cons, List.not_mem_nil, or_false, not_or] at hi
  have x0 := hi
  simp [Env.get_set, Ne.symm x0]

theorem rB (cx : Cx) (env : Env) (σ : AS)  (hlen : env.length = 35) (hcx : cx.esc = [])  :
    ∃ env', execW Try.prog cx [] (callW Try.prog how) (cr [.r, .l]) (env, σ) = some (.normal, (env', σ)) ∧ env'.length = 35 ∧ (Env.get env' 5 = .nils) ∧ ∀ i, i ∉ [5] → Env.get env' i = Env.get env i := by
  suffices h : ∀ res, execW Try.prog cx [] (callW Try.prog how) (cr [.r, .l]) (env, σ) = res → ∃ env', res = some (.normal, (env', σ)) ∧ env'.length = 35 ∧ (Env.get env' 5 = .nils) ∧ ∀ i, i ∉ [5] → Env.get env' i = Env.get env i from h _ rfl
  intro res hr
  simp -implicitDefEqProofs [ofV, ofCell, ofCells, seqA_nil, seqA_cons, seqVK_eq, seqEK_eq, wantedA, yieldedA, isVal, effA, ev, evs, evps, putE, optsA, optsOk, valA, fieldAddrA, fieldA, loadA, partA, aggA, isAggD, buildA, placesA, fillA, lay, storeA, AV.withCells, buildSliceA, elemsA, rowParts, fzL, promL, okE, isSrc, bytesOk, pushA, cxOf, lenA, binA, intBinA, strBinA, unA, indexAddrA, eqA, AVs.inb, AV.inb, Loc.inb, calleeA, opsOf, sub, bodyOf, Env.get_set, quietA_nil, quietA_cons, quietK_none, quietK_some, qstep, newA, isNew, escNew, boxOk, newLoc, flat, rowPartsQ, quietN, quietOp, isBS, List.takeWhile, finishA_eq, finK_ret, finK_normal, retK, backK, resA, oneA, AV.back, AVs.back, execW_seq_eq, seqK_normal, seqK_ret, seqK_exit, execW_cond_eq, condK_true, condK_false, execW_block_eq, blockK_exit, blockK_normal, blockK_ret, execW_region_eq, regK_eq, execW_skip, execW_exit, execW_ret, regionA_plain, regionA_quiet0, tailK_eq, nilCheckA, guardOk, isConst, lookupA, keyFits, mapUpdateA, beqI, bneI, AS.get_push_at, AS.get_push_old, AS.push_len, AS.set_st_len, AS.next_st', AS.set_push_at, AS.get_set_self, AS.get_set_other, cr, Try.f19, hlen, hcx] at hr
  subst hr
  refine ⟨_, rfl, by simp [hlen], by simp [Env.get_set, hlen], fun i hi => ?_⟩
  simp only [List.mem_cons, List.not_mem_nil, or_false, not_or] at hi
  have x0 := hi
  simp [Env.get_set, Ne.symm x0]

theorem rN (cx : Cx) (env : Env) (σ : AS) (a : Nat) (hlen : env.length = 35) (hcx : cx.esc = []) (f0 : Env.get env 0 = .ptr (.hp a) 0) :
    ∃ env', execW Try.prog cx [] (callW Try.prog how) (cr [.r, .r, .l]) (env, σ) = some (.normal, (env', σ)) ∧ env'.length = 35 ∧ (True) ∧ ∀ i, i ∉ [8, 9] → Env.get env' i = Env.get env i := by
  suffices h : ∀ res, execW Try.prog cx [] (callW Try.prog how) (cr [.r, .r, .l]) (env, σ) = res → ∃ env', res = some (.normal, (env', σ)) ∧ env'.length = 35 ∧ (True) ∧ ∀ i, i ∉ [8, 9] → Env.get env' i = Env.get env i from h _ rfl
  intro res hr
  simp -implicitDefEqProofs [ofV, ofCell, ofCells, seqA_nil, seqA_cons, seqVK_eq, seqEK_eq, wantedA, yieldedA, isVal, effA, ev, evs, evps, putE, optsA, optsOk, valA, fieldAddrA, fieldA, loadA, partA, aggA, isAggD, buildA, placesA, fillA, lay, storeA, AV.withCells, buildSliceA, elemsA, rowParts, fzL, promL, okE, isSrc, bytesOk, pushA, cxOf, lenA, binA, intBinA, strBinA, unA, indexAddrA, eqA, AVs.inb, AV.inb, Loc.inb, calleeA, opsOf, sub, bodyOf, Env.get_set, quietA_nil, quietA_cons, quietK_none, quietK_some, qstep, newA, isNew, escNew, boxOk, newLoc, flat, rowPartsQ, quietN, quietOp, isBS, List.takeWhile, finishA_eq, finK_ret, finK_normal, retK, backK, resA, oneA, AV.back, AVs.back, execW_seq_eq, seqK_normal, seqK_ret, seqK_exit, execW_cond_eq, condK_true, condK_false, execW_block_eq, blockK_exit, blockK_normal, blockK_ret, execW_region_eq, regK_eq, execW_skip, execW_exit, execW_ret, regionA_plain, regionA_quiet0, tailK_eq, nilCheckA, guardOk, isConst, lookupA, keyFits, mapUpdateA, beqI, bneI, AS.get_push_at, AS.get_push_old, AS.push_len, AS.set_st_len, AS.next_st', AS.set_push_at, AS.get_set_self, AS.get_set_other, cr, Try.f19, hlen, hcx, f0] at hr
  subst hr
  refine ⟨_, rfl, by simp [hlen], by simp [Env.get_set, hlen, f0], fun i hi => ?_⟩
  simp only [List.mem_cons, List.not_mem_nil, or_false, not_or] at hi
  obtain ⟨x0, x1⟩ := hi
  simp [Env.get_set, Ne.symm x0, Ne.symm x1]

theorem rCn (cx : Cx) (env : Env) (σ : AS) (a m : Nat) (pr pn : Int) (fv : AV) (σ' : AS) (hlen : env.length = 35) (hcx : cx.esc = []) (f0 : Env.get env 0 = .ptr (.hp a) 0) (hA : σ.get (.hp a) = some (.cells [.int .u64 pr, .int .i64 pn, .map (.hp m)])) (hc26 : callW Try.prog how 26 [.map (.hp m)] σ cx.ro = some (fv, σ')) (hc25 : callW Try.prog how 25 [fv] σ' cx.ro = some (.nils, σ')) :
    ∃ env', execW Try.prog cx [] (callW Try.prog how) (cr [.r, .r, .r, .l, .l]) (env, σ) = some (.normal, (env', σ')) ∧ env'.length = 35 ∧ (Env.get env' 15 = .nils ∧ Env.get env' 16 = .int .i64 0 ∧ Env.get env' 17 = .int .i64 0) ∧ ∀ i, i ∉ [10, 11, 12, 13, 14, 15, 16, 17] → Env.get env' i = Env.get env i := by
  suffices h : ∀ res, execW Try.prog cx [] (callW Try.prog how) (cr [.r, .r, .r, .l, .l]) (env, σ) = res → ∃ env', res = some (.normal, (env', σ')) ∧ env'.length = 35 ∧ (Env.get env' 15 = .nils ∧ Env.get env' 16 = .int .i64 0 ∧ Env.get env' 17 = .int .i64 0) ∧ ∀ i, i ∉ [10, 11, 12, 13, 14, 15, 16, 17] → Env.get env' i = Env.get env i from h _ rfl
  intro res hr
  simp -implicitDefEqProofs [ofV, ofCell, ofCells, seqA_nil, seqA_cons, seqVK_eq, seqEK_eq, wantedA, yieldedA, isVal, effA, ev, evs, evps, putE, optsA, optsOk, valA, fieldAddrA, fieldA, loadA, partA, aggA, isAggD, buildA, placesA, fillA, lay, storeA, AV.withCells, buildSliceA, elemsA, rowParts, fzL, promL, okE, isSrc, bytesOk, pushA, cxOf, lenA, binA, intBinA, strBinA, unA, indexAddrA, eqA, AVs.inb, AV.inb, Loc.inb, calleeA, opsOf, sub, bodyOf, Env.get_set, quietA_nil, quietA_cons, quietK_none, quietK_some, qstep, newA, isNew, escNew, boxOk, newLoc, flat, rowPartsQ, quietN, quietOp, isBS, List.takeWhile, finishA_eq, finK_ret, finK_normal, retK, backK, resA, oneA, AV.back, AVs.back, execW_seq_eq, seqK_normal, seqK_ret, seqK_exit, execW_cond_eq, condK_true, condK_false, execW_block_eq, blockK_exit, blockK_normal, blockK_ret, execW_region_eq, regK_eq, execW_skip, execW_exit, execW_ret, regionA_plain, regionA_quiet0, tailK_eq, nilCheckA, guardOk, isConst, lookupA, keyFits, mapUpdateA, beqI, bneI, AS.get_push_at, AS.get_push_old, AS.push_len, AS.set_st_len, AS.next_st', AS.set_push_at, AS.get_set_self, AS.get_set_other, cr, Try.f19, hlen, hcx, f0, hA, hc26, hc25] at hr
  subst hr
  refine ⟨_, rfl, by simp [hlen], by simp [Env.get_set, hlen, f0, hA, hc26, hc25], fun i hi => ?_⟩
  simp only [List.mem_cons, List.not_mem_nil, or_false, not_or] at hi
  obtain ⟨x0, x1, x2, x3, x4, x5, x6, x7⟩ := hi
  simp [Env.get_set, Ne.symm x0, Ne.symm x1, Ne.symm x2, Ne.symm x3, Ne.symm x4, Ne.symm x5, Ne.symm x6, Ne.symm x7]

theorem rCr (cx : Cx) (env : Env) (σ : AS) (a m : Nat) (pr pn : Int) (fv : AV) (σ' : AS) (es : List AV) (hlen : env.length = 35) (hcx : cx.esc = []) (f0 : Env.get env 0 = .ptr (.hp a) 0) (hA : σ.get (.hp a) = some (.cells [.int .u64 pr, .int .i64 pn, .map (.hp m)])) (hc26 : callW Try.prog how 26 [.map (.hp m)] σ cx.ro = some (fv, σ')) (hc25 : callW Try.prog how 25 [fv] σ' cx.ro = some (.sl false 1 es, σ')) :
    ∃ env', execW Try.prog cx [] (callW Try.prog how) (cr [.r, .r, .r, .l, .l]) (env, σ) = some (.normal, (env', σ')) ∧ env'.length = 35 ∧ (Env.get env' 15 = .sl false 1 es ∧ Env.get env' 16 = .int .i64 (es.length : Int) ∧ Env.get env' 17 = .int .i64 0) ∧ ∀ i, i ∉ [10, 11, 12, 13, 14, 15, 16, 17] → Env.get env' i = Env.get env i := by
  suffices h : ∀ res, execW Try.prog cx [] (callW Try.prog how) (cr [.r, .r, .r, .l, .l]) (env, σ) = res → ∃ env', res = some (.normal, (env', σ')) ∧ env'.length = 35 ∧ (Env.get env' 15 = .sl false 1 es ∧ Env.get env' 16 = .int .i64 (es.length : Int) ∧ Env.get env' 17 = .int .i64 0) ∧ ∀ i, i ∉ [10, 11, 12, 13, 14, 15, 16, 17] → Env.get env' i = Env.get env i from h _ rfl
  intro res hr
  simp -implicitDefEqProofs [ofV, ofCell, ofCells, seqA_nil, seqA_cons, seqVK_eq, seqEK_eq, wantedA, yieldedA, isVal, effA, ev, evs, evps, putE, optsA, optsOk, valA, fieldAddrA, fieldA, loadA, partA, aggA, isAggD, buildA, placesA, fillA, lay, storeA, AV.withCells, buildSliceA, elemsA, rowParts, fzL, promL, okE, isSrc, bytesOk, pushA, cxOf, lenA, binA, intBinA, strBinA, unA, indexAddrA, eqA, AVs.inb, AV.inb, Loc.inb, calleeA, opsOf, sub, bodyOf, Env.get_set, quietA_nil, quietA_cons, quietK_none, quietK_some, qstep, newA, isNew, escNew, boxOk, newLoc, flat, rowPartsQ, quietN, quietOp, isBS, List.takeWhile, finishA_eq, finK_ret, finK_normal, retK, backK, resA, oneA, AV.back, AVs.back, execW_seq_eq, seqK_normal, seqK_ret, seqK_exit, execW_cond_eq, condK_true, condK_false, execW_block_eq, blockK_exit, blockK_normal, blockK_ret, execW_region_eq, regK_eq, execW_skip, execW_exit, execW_ret, regionA_plain, regionA_quiet0, tailK_eq, nilCheckA, guardOk, isConst, lookupA, keyFits, mapUpdateA, beqI, bneI, AS.get_push_at, AS.get_push_old, AS.push_len, AS.set_st_len, AS.next_st', AS.set_push_at, AS.get_set_self, AS.get_set_other, cr, Try.f19, hlen, hcx, f0, hA, hc26, hc25] at hr
  subst hr
  refine ⟨_, rfl, by simp [hlen], by simp [Env.get_set, hlen, f0, hA, hc26, hc25], fun i hi => ?_⟩
  simp only [List.mem_cons, List.not_mem_nil, or_false, not_or] at hi
  obtain ⟨x0, x1, x2, x3, x4, x5, x6, x7⟩ := hi
  simp [Env.get_set, Ne.symm x0, Ne.symm x1, Ne.symm x2, Ne.symm x3, Ne.symm x4, Ne.symm x5, Ne.symm x6, Ne.symm x7]

theorem rE (cx : Cx) (env : Env) (σ : AS) (k : Nat) (es : List AV) (x : Int) (hlen : env.length = 35) (hcx : cx.esc = []) (f15 : Env.get env 15 = .sl false 1 es) (f17 : Env.get env 17 = .int .i64 (k : Int)) (hk : k < es.length) (hv : es[k] = .int .i64 x) :
    ∃ env', execW Try.prog cx [] (callW Try.prog how) (cr [.r, .r, .r, .l, .r, .i, .i, .r, .r, .l, .i, .l]) (env, σ) = some (.normal, (env', σ)) ∧ env'.length = 35 ∧ (Env.get env' 7 = .int .i64 x) ∧ ∀ i, i ∉ [7, 19, 20] → Env.get env' i = Env.get env i := by
  suffices h : ∀ res, execW Try.prog cx [] (callW Try.prog how) (cr [.r, .r, .r, .l, .r, .i, .i, .r, .r, .l, .i, .l]) (env, σ) = res → ∃ env', res = some (.normal, (env', σ)) ∧ env'.length = 35 ∧ (Env.get env' 7 = .int .i64 x) ∧ ∀ i, i ∉ [7, 19, 20] → Env.get env' i = Env.get env i from h _ rfl
  intro res hr
  simp -implicitDefEqProofs [ofV, ofCell, ofCells, seqA_nil, seqA_cons, seqVK_eq, seqEK_eq, wantedA, yieldedA, isVal, effA, ev, evs, evps, putE, optsA, optsOk, valA, fieldAddrA, fieldA, loadA, partA, aggA, isAggD, buildA, placesA, fillA, lay, storeA, AV.withCells, buildSliceA, elemsA, rowParts, fzL, promL, okE, isSrc, bytesOk, pushA, cxOf, lenA, binA, intBinA, strBinA, unA, indexAddrA, eqA, AVs.inb, AV.inb, Loc.inb, calleeA, opsOf, sub, bodyOf, Env.get_set, quietA_nil, quietA_cons, quietK_none, quietK_some, qstep, newA, isNew, escNew, boxOk, newLoc, flat, rowPartsQ, quietN, quietOp, isBS, List.takeWhile, finishA_eq, finK_ret, finK_normal, retK, backK, resA, oneA, AV.back, AVs.back, execW_seq_eq, seqK_normal, seqK_ret, seqK_exit, execW_cond_eq, condK_true, condK_false, execW_block_eq, blockK_exit, blockK_normal, blockK_ret, execW_region_eq, regK_eq, execW_skip, execW_exit, execW_ret, regionA_plain, regionA_quiet0, tailK_eq, nilCheckA, guardOk, isConst, lookupA, keyFits, mapUpdateA, beqI, bneI, AS.get_push_at, AS.get_push_old, AS.push_len, AS.set_st_len, AS.next_st', AS.set_push_at, AS.get_set_self, AS.get_set_other, cr, Try.f19, hlen, hcx, f15, f17, hk, hv] at hr
  subst hr
  refine ⟨_, rfl, by simp [hlen], by simp [Env.get_set, hlen, f15, f17, hk, hv], fun i hi => ?_⟩
  simp only [List.mem_cons, List.not_mem_nil, or_false, not_or] at hi
  obtain ⟨x0, x1, x2⟩ := hi
  simp [Env.get_set, Ne.symm x0, Ne.symm x1, Ne.symm x2]

theorem rF0 (cx : Cx) (env : Env) (σ : AS) (m x : Int) (hlen : env.length = 35) (hcx : cx.esc = []) (f1 : Env.get env 1 = .int .i64 m) (f7 : Env.get env 7 = .int .i64 x) (hm : ¬ m ≤ x) :
    ∃ env', execW Try.prog cx [] (callW Try.prog how) (cr [.r, .r, .r, .l, .r, .i, .i, .r, .r, .l, .i, .r]) (env, σ) = some (.normal, (env', σ)) ∧ env'.length = 35 ∧ (True) ∧ ∀ i, i ∉ [21, 22, 23] → Env.get env' i = Env.get env i := by
  suffices h : ∀ res, execW Try.prog cx [] (callW Try.prog how) (cr [.r, .r, .r, .l, .r, .i, .i, .r, .r, .l, .i, .r]) (env, σ) = res → ∃ env', res = some (.normal, (env', σ)) ∧ env'.length = 35 ∧ (True) ∧ ∀ i, i ∉ [21, 22, 23] → Env.get env' i = Env.get env i from h _ rfl
  intro res hr
  simp -implicitDefEqProofs [ofV, ofCell, ofCells, seqA_nil, seqA_cons, seqVK_eq, seqEK_eq, wantedA, yieldedA, isVal, effA, ev, evs, evps, putE, optsA, optsOk, valA, fieldAddrA, fieldA, loadA, partA, aggA, isAggD, buildA, placesA, fillA, lay, storeA, AV.withCells, buildSliceA, elemsA, rowParts, fzL, promL, okE, isSrc, bytesOk, pushA, cxOf, lenA, binA, intBinA, strBinA, unA, indexAddrA, eqA, AVs.inb, AV.inb, Loc.inb, calleeA, opsOf, sub, bodyOf, Env.get_set, quietA_nil, quietA_cons, quietK_none, quietK_some, qstep, newA, isNew, escNew, boxOk, newLoc, flat, rowPartsQ, quietN, quietOp, isBS, List.takeWhile, finishA_eq, finK_ret, finK_normal, retK, backK, resA, oneA, AV.back, AVs.back, execW_seq_eq, seqK_normal, seqK_ret, seqK_exit, execW_cond_eq, condK_true, condK_false, execW_block_eq, blockK_exit, blockK_normal, blockK_ret, execW_region_eq, regK_eq, execW_skip, execW_exit, execW_ret, regionA_plain, regionA_quiet0, tailK_eq, nilCheckA, guardOk, isConst, lookupA, keyFits, mapUpdateA, beqI, bneI, AS.get_push_at, AS.get_push_old, AS.push_len, AS.set_st_len, AS.next_st', AS.set_push_at, AS.get_set_self, AS.get_set_other, cr, Try.f19, hlen, hcx, f1, f7, hm] at hr
  subst hr
  refine ⟨_, rfl, by simp [hlen], by simp [Env.get_set, hlen, f1, f7, hm], fun i hi => ?_⟩
  simp only [List.mem_cons, List.not_mem_nil, or_false, not_or] at hi
  obtain ⟨x0, x1, x2⟩ := hi
  simp [Env.get_set, Ne.symm x0, Ne.symm x1, Ne.symm x2]

theorem rF1 (cx : Cx) (env : Env) (σ : AS) (σ' : AS) (a mm : Nat) (pr pn m : Int) (v : Vt) (R R' : AV) (es : List (AV × AV)) (hlen : env.length = 35) (hcx : cx.esc = []) (f0 : Env.get env 0 = .ptr (.hp a) 0) (f1 : Env.get env 1 = .int .i64 m) (f5 : Env.get env 5 = R) (f7 : Env.get env 7 = .int .i64 v.s) (hA : σ.get (.hp a) = some (.cells [.int .u64 pr, .int .i64 pn, .map (.hp mm)])) (hM : σ.get (.hp mm) = some (.map es)) (hf : findA (.int .i64 v.s) es = some (some (.agg [.int .i64 v.s, .int .u64 v.r, .int .i64 v.n, .str v.v]))) (hm : m ≤ v.s) (hap : appendA Try.prog cx (σ.push false (.row [.agg [.int .i64 v.s, .int .u64 v.r, .int .i64 v.n, .str v.v]] 4 0 false)) [45, 45] R (.row (.st σ.st.length) 0 0 1) = some (R', σ')) :
    ∃ env', execW Try.prog cx [] (callW Try.prog how) (cr [.r, .r, .r, .l, .r, .i, .i, .r, .r, .l, .i, .r]) (env, σ) = some (.normal, (env', σ')) ∧ env'.length = 35 ∧ (Env.get env' 5 = R') ∧ ∀ i, i ∉ [5, 21, 22, 23, 24, 25, 26, 27, 28, 29, 30, 31, 32] → Env.get env' i = Env.get env i := by
  suffices h : ∀ res, execW Try.prog cx [] (callW Try.prog how) (cr [.r, .r, .r, .l, .r, .i, .i, .r, .r, .l, .i, .r]) (env, σ) = res → ∃ env', res = some (.normal, (env', σ')) ∧ env'.length = 35 ∧ (Env.get env' 5 = R') ∧ ∀ i, i ∉ [5, 21, 22, 23, 24, 25, 26, 27, 28, 29, 30, 31, 32] → Env.get env' i = Env.get env i from h _ rfl
  intro res hr
  simp -implicitDefEqProofs [ofV, ofCell, ofCells, seqA_nil, seqA_cons, seqVK_eq, seqEK_eq, wantedA, yieldedA, isVal, effA, ev, evs, evps, putE, optsA, optsOk, valA, fieldAddrA, fieldA, loadA, partA, aggA, isAggD, buildA, placesA, fillA, lay, storeA, AV.withCells, buildSliceA, elemsA, rowParts, fzL, promL, okE, isSrc, bytesOk, pushA, cxOf, lenA, binA, intBinA, strBinA, unA, indexAddrA, eqA, AVs.inb, AV.inb, Loc.inb, calleeA, opsOf, sub, bodyOf, Env.get_set, quietA_nil, quietA_cons, quietK_none, quietK_some, qstep, newA, isNew, escNew, boxOk, newLoc, flat, rowPartsQ, quietN, quietOp, isBS, List.takeWhile, finishA_eq, finK_ret, finK_normal, retK, backK, resA, oneA, AV.back, AVs.back, execW_seq_eq, seqK_normal, seqK_ret, seqK_exit, execW_cond_eq, condK_true, condK_false, execW_block_eq, blockK_exit, blockK_normal, blockK_ret, execW_region_eq, regK_eq, execW_skip, execW_exit, execW_ret, regionA_plain, regionA_quiet0, tailK_eq, nilCheckA, guardOk, isConst, lookupA, keyFits, mapUpdateA, beqI, bneI, AS.get_push_at, AS.get_push_old, AS.push_len, AS.set_st_len, AS.next_st', AS.set_push_at, AS.get_set_self, AS.get_set_other, cr, Try.f19, hlen, hcx, f0, f1, f5, f7, hA, hM, hf, hm, hap] at hr
  subst hr
  refine ⟨_, rfl, by simp [hlen], by simp [Env.get_set, hlen, f0, f1, f5, f7, hA, hM, hf, hm, hap], fun i hi => ?_⟩
  simp only [List.mem_cons, List.not_mem_nil, or_false, not_or] at hi
  obtain ⟨x0, x1, x2, x3, x4, x5, x6, x7, x8, x9, x10, x11, x12⟩ := hi
  simp [Env.get_set, Ne.symm x0, Ne.symm x1, Ne.symm x2, Ne.symm x3, Ne.symm x4, Ne.symm x5, Ne.symm x6, Ne.symm x7, Ne.symm x8, Ne.symm x9, Ne.symm x10, Ne.symm x11, Ne.symm x12]

theorem rD (cx : Cx) (env : Env) (σ : AS) (R : AV) (hlen : env.length = 35) (hcx : cx.esc = []) (f5 : Env.get env 5 = R) :
    ∃ env', execW Try.prog cx [] (callW Try.prog how) (cr [.r, .r, .r, .r, .l]) (env, σ) = some (.normal, (env', σ)) ∧ env'.length = 35 ∧ (Env.get env' 4 = R) ∧ ∀ i, i ∉ [4, 34] → Env.get env' i = Env.get env i := by
  suffices h : ∀ res, execW Try.prog cx [] (callW Try.prog how) (cr [.r, .r, .r, .r, .l]) (env, σ) = res → ∃ env', res = some (.normal, (env', σ)) ∧ env'.length = 35 ∧ (Env.get env' 4 = R) ∧ ∀ i, i ∉ [4, 34] → Env.get env' i = Env.get env i from h _ rfl
  intro res hr
  simp -implicitDefEqProofs [ofV, ofCell, ofCells, seqA_nil, seqA_cons, seqVK_eq, seqEK_eq, wantedA, yieldedA, isVal, effA, ev, evs, evps, putE, optsA, optsOk, valA, fieldAddrA, fieldA, loadA, partA, aggA, isAggD, buildA, placesA, fillA, lay, storeA, AV.withCells, buildSliceA, elemsA, rowParts, fzL, promL, okE, isSrc, bytesOk, pushA, cxOf, lenA, binA, intBinA, strBinA, unA, indexAddrA, eqA, AVs.inb, AV.inb, Loc.inb, calleeA, opsOf, sub, bodyOf, Env.get_set, quietA_nil, quietA_cons, quietK_none, quietK_some, qstep, newA, isNew, escNew, boxOk, newLoc, flat, rowPartsQ, quietN, quietOp, isBS, List.takeWhile, finishA_eq, finK_ret, finK_normal, retK, backK, resA, oneA, AV.back, AVs.back, execW_seq_eq, seqK_normal, seqK_ret, seqK_exit, execW_cond_eq, condK_true, condK_false, execW_block_eq, blockK_exit, blockK_normal, blockK_ret, execW_region_eq, regK_eq, execW_skip, execW_exit, execW_ret, regionA_plain, regionA_quiet0, tailK_eq, nilCheckA, guardOk, isConst, lookupA, keyFits, mapUpdateA, beqI, bneI, AS.get_push_at, AS.get_push_old, AS.push_len, AS.set_st_len, AS.next_st', AS.set_push_at, AS.get_set_self, AS.get_set_other, cr, Try.f19, hlen, hcx, f5] at hr
  subst hr
  refine ⟨_, rfl, by simp [hlen], by simp [Env.get_set, hlen, f5], fun i hi => ?_⟩
  simp only [List.mem_cons, List.not_mem_nil, or_false, not_or] at hi
  obtain ⟨x0, x1⟩ := hi
  simp [Env.get_set, Ne.symm x0, Ne.symm x1]

theorem body : Try.f19.body = some ((cr [.l]).seq ((cr [.r, .l]).seq ((cr [.r, .r, .l]).seq (((cr [.r, .r, .r, .l, .l]).seq (cr [.r, .r, .r, .l, .r])).seq ((cr [.r, .r, .r, .r, .l]).seq .ret))))) := by kernel_rfl
noncomputable def oT : Oper := (opsOf (cr [.r, .r, .r, .l, .r, .i, .i, .l])).headD default
noncomputable def oI : List Oper := opsOf (cr [.r, .r, .r, .l, .r, .i, .i, .r, .r, .r])
noncomputable def bodyL : Code := .block 1 (.seq (cr [.r, .r, .r, .l, .r, .i, .i, .r, .r, .l, .i, .l]) (cr [.r, .r, .r, .l, .r, .i, .i, .r, .r, .l, .i, .r]))
theorem loop_eq : cr [.r, .r, .r, .l, .r] = .block 0 (.loop (.seq (.region 5 #[oT] false) (.seq (.cond (.tmp 18) .skip (.exit 0)) (.seq bodyL (.region 9 #[oI.headD default, (oI.drop 1).headD default] false))))) := by kernel_rfl
/-- What holds ahead of round k. -/
def J (h : Nat) (σ0 : AS) (a : Nat) (m : Int) (L : List Vt) (k : Nat) (env : Env) (σ : AS) : Prop :=
  Env.get env 0 = .ptr (.hp a) 0 ∧ Env.get env 1 = .int .i64 m ∧ Env.get env 15 = slK ((L.map (·.s)).map (.int .i64)) ∧ (∃ R, Env.get env 5 = R ∧ Rows h σ [(4, R, (fromV (L.take k) m).map encV)]) ∧ Outside h σ0 σ
theorem J_stable {h : Nat} {σ0 : AS} {a : Nat} {m : Int} {L : List Vt} : ∀ k env env' σ, env.length = 35 → env'.length = 35 → (∀ i, i ≠ 18 → i ≠ 33 → i ≠ 17 → Env.get env' i = Env.get env i) → J h σ0 a m L k env σ → J h σ0 a m L k env' σ := by
  rintro k env env' σ _ _ hf ⟨j0, j1, j2, ⟨R, j3, j4⟩, j5⟩
  exact ⟨(hf 0 (by decide) (by decide) (by decide)).trans j0, (hf 1 (by decide) (by decide) (by decide)).trans j1, (hf 15 (by decide) (by decide) (by decide)).trans j2, ⟨R, (hf 5 (by decide) (by decide) (by decide)).trans j3, j4⟩, j5⟩
theorem step (cx : Cx) (hcx : cx.esc = []) (hro : ∀ k, cx.ro = some k → k ≤ cx.h) (σ0 : AS) (a mm : Nat) (pr pn m : Int) (M L : List Vt) (hM : M.Perm L) (hRi : Rising L) (hL : L.length ≤ 1000) (hA : σ0.hp[a]? = some (.cells [.int .u64 pr, .int .i64 pn, .map (.hp mm)])) (hmm : σ0.hp[mm]? = some (.map (M.map entV))) :
    ∀ k env σ, k < L.length → env.length = 35 → Env.get env 17 = .int .i64 (k : Int) → Env.get env 16 = .int .i64 (L.length : Int) → J cx.h σ0 a m L k env σ → ∃ e env' σ', execW Try.prog cx [] (callW Try.prog how) bodyL (env, σ) = some (e, (env', σ')) ∧
      ((e = .normal ∧ env'.length = 35 ∧ Env.get env' 17 = .int .i64 (k : Int) ∧ Env.get env' 16 = .int .i64 (L.length : Int) ∧ J cx.h σ0 a m L (k + 1) env' σ') ∨ (e ≠ .normal ∧ False)) := by
  rintro k env σ hk hlen f17 f16 ⟨f0, f1, f15, ⟨R, f5, hR⟩, ho⟩
  have hhp : σ.hp = σ0.hp := ho.1
  have hAσ : σ.get (.hp a) = some (.cells [.int .u64 pr, .int .i64 pn, .map (.hp mm)]) := by simp only [AS.get, hhp]; exact hA
  have hMσ : σ.get (.hp mm) = some (.map (M.map entV)) := by simp only [AS.get, hhp]; exact hmm
  have hst : fromV (L.take (k + 1)) m = fromV (L.take k) m ++ (if m ≤ L[k].s then [L[k]] else []) := by
    unfold fromV
    rw [List.take_succ_eq_append_getElem hk, List.filter_append]
    congr 1
    by_cases h : m ≤ L[k].s <;> simp [h]
  have hsl : slK ((L.map (·.s)).map (.int .i64)) = .sl false 1 ((L.map (·.s)).map (.int .i64)) := by
    cases L with
    | nil => cases hk
    | cons => rfl
  rw [hsl] at f15
  have hfind : findA (.int .i64 L[k].s) (M.map entV) = some (some (encV L[k])) := find_of (hM.mem_iff.2 (List.getElem_mem hk)) (rising_ne hM hRi)
  obtain ⟨env1, a1, a2, a3, a4⟩ := rE cx env σ k ((L.map (·.s)).map (.int .i64)) L[k].s hlen hcx f15 f17 (by simpa using hk) (by simp)
  have f1' := (a4 1 (by decide)).trans f1
  have f0' := (a4 0 (by decide)).trans f0
  have f5' := (a4 5 (by decide)).trans f5
  by_cases hm : m ≤ L[k].s
  · rw [if_pos hm] at hst
    have hlen1 : ((fromV (L.take k) m).map encV).length ≤ 1000 := by
      rw [List.length_map]
      refine Nat.le_trans (List.length_filter_le _ _) ?_
      rw [List.length_take]
      omega
    obtain ⟨R', σ', b1, b2, b3, b4, b5⟩ := append_one (cx := cx) (x := encV L[k]) (j := 0) app45 hR rfl hlen1 (by decide) hro ho.2.2
    obtain ⟨env2, c1, c2, c3, c4⟩ := rF1 cx env1 σ σ' a mm pr pn m L[k] R R' (M.map entV) a2 hcx f0' f1' f5' a3 hAσ hMσ hfind hm b1
    refine ⟨.normal, env2, σ', execW_block_of (execW_seq_of a1 c1), .inl ⟨rfl, c2, ?_, ?_, ?_, ?_, ?_, ⟨R', c3, ?_⟩, b5 _ ho⟩⟩
    · exact (c4 17 (by decide)).trans ((a4 17 (by decide)).trans f17)
    · exact (c4 16 (by decide)).trans ((a4 16 (by decide)).trans f16)
    · exact (c4 0 (by decide)).trans f0'
    · exact (c4 1 (by decide)).trans f1'
    · rw [hsl]; exact (c4 15 (by decide)).trans ((a4 15 (by decide)).trans f15)
    · rw [hst, List.map_append]
      exact b3
  · rw [if_neg hm, List.append_nil] at hst
    obtain ⟨env2, c1, c2, _, c4⟩ := rF0 cx env1 σ m L[k].s a2 hcx f1' a3 hm
    refine ⟨.normal, env2, σ, execW_block_of (execW_seq_of a1 c1), .inl ⟨rfl, c2, ?_, ?_, ?_, ?_, ?_, ⟨R, (c4 5 (by decide)).trans f5', ?_⟩, ho⟩⟩
    · exact (c4 17 (by decide)).trans ((a4 17 (by decide)).trans f17)
    · exact (c4 16 (by decide)).trans ((a4 16 (by decide)).trans f16)
    · exact (c4 0 (by decide)).trans f0'
    · exact (c4 1 (by decide)).trans f1'
    · rw [hsl]; exact (c4 15 (by decide)).trans ((a4 15 (by decide)).trans f15)
    · rw [hst]
      exact hR
theorem ok (hp s : List AObj) (a mm : Nat) (pr pn m : Int) (M L : List Vt) (hM : M.Perm L) (hRi : Rising L) (hok : ∀ v ∈ M, SlotOk v) (hL : L.length ≤ 1000) (hA : hp[a]? = some (.cells [.int .u64 pr, .int .i64 pn, .map (.hp mm)])) (hmm : hp[mm]? = some (.map (M.map entV))) :
    callW Try.prog how 19 [.ptr (.hp a) 0, .int .i64 m] ⟨hp, s⟩ none = some (slV 4 ((fromV L m).map encV), ⟨hp ++ [.cells [.map (.hp mm)]], s⟩) := by
  let cx : Cx := { h := s.length, ro := none, esc := [] }
  have hcx : cx.esc = [] := rfl
  have hro : ∀ k, cx.ro = some k → k ≤ cx.h := fun k hk => by cases hk
  have henv : ∃ e, e = frameA Try.f19 [.ptr (.hp a) 0, .int .i64 m] := ⟨_, rfl⟩
  obtain ⟨env, henv⟩ := henv
  have hl : env.length = 35 := by rw [henv]; rfl
  have h0 : Env.get env 0 = .ptr (.hp a) 0 := by rw [henv]; rfl
  have h1 : Env.get env 1 = .int .i64 m := by rw [henv]; rfl
  obtain ⟨env1, a1, a2, a3, a4⟩ := rA cx env ⟨hp, s⟩ hl hcx
  obtain ⟨env2, b1, b2, b3, b4⟩ := rB cx env1 ⟨hp, s⟩ a2 hcx
  have f0 := (b4 0 (by decide)).trans ((a4 0 (by decide)).trans h0)
  have f1 := (b4 1 (by decide)).trans ((a4 1 (by decide)).trans h1)
  obtain ⟨env3, n1, n2, _, n4⟩ := rN cx env2 ⟨hp, s⟩ a b2 hcx f0
  have f0 := (n4 0 (by decide)).trans f0
  have f1 := (n4 1 (by decide)).trans f1
  have f5 := (n4 5 (by decide)).trans b3
  have hA' : (hp ++ [AObj.cells [.map (.hp mm)]])[a]? = some (.cells [.int .u64 pr, .int .i64 pn, .map (.hp mm)]) := by rw [List.getElem?_append_left (List.getElem?_eq_some_iff.1 hA).1]; exact hA
  have hmm' : (hp ++ [AObj.cells [.map (.hp mm)]])[mm]? = some (.map (M.map entV)) := by rw [List.getElem?_append_left (List.getElem?_eq_some_iff.1 hmm).1]; exact hmm
  have hc26 := f26_ok hp s mm
  have hc25 := f25_ok (hp ++ [.cells [.map (.hp mm)]]) s mm hp.length M L hM hRi hok hL (by simp) hmm' none
  have key : ∃ env4, execW Try.prog cx [] (callW Try.prog how) (cr [.r, .r, .r, .l, .l]) (env3, ⟨hp, s⟩) = some (.normal, (env4, ⟨hp ++ [.cells [.map (.hp mm)]], s⟩)) ∧ env4.length = 35 ∧ (Env.get env4 15 = slK ((L.map (·.s)).map (.int .i64)) ∧ Env.get env4 16 = .int .i64 (L.length : Int) ∧ Env.get env4 17 = .int .i64 0) ∧ ∀ i, i ∉ [10, 11, 12, 13, 14, 15, 16, 17] → Env.get env4 i = Env.get env3 i := by
    cases L with
    | nil => exact rCn cx env3 ⟨hp, s⟩ a mm pr pn _ _ n2 hcx f0 hA hc26 hc25
    | cons v L' =>
      have := rCr cx env3 ⟨hp, s⟩ a mm pr pn _ _ (((v :: L').map (fun x : Vt => x.s)).map (AV.int .i64)) n2 hcx f0 hA hc26 hc25
      rw [List.length_map, List.length_map] at this
      exact this
  obtain ⟨env4, c1, c2, c3, c4⟩ := key
  have hJ0 : J s.length ⟨hp ++ [.cells [.map (.hp mm)]], s⟩ a m L 0 env4 ⟨hp ++ [.cells [.map (.hp mm)]], s⟩ := ⟨(c4 0 (by decide)).trans f0, (c4 1 (by decide)).trans f1, c3.1, ⟨.nils, (c4 5 (by decide)).trans f5, ⟨fun e he => by
    simp only [List.mem_cons, List.not_mem_nil, or_false] at he
    subst he
    exact .inl ⟨rfl, by simp [fromV]⟩, by simp⟩⟩, Outside.refl (Nat.le_refl _)⟩
  have hloop : ∃ e env' σ', execW Try.prog cx [] (callW Try.prog how) (cr [.r, .r, .r, .l, .r]) (env4, ⟨hp ++ [.cells [.map (.hp mm)]], s⟩) = some (e, (env', σ')) ∧ ((e = .normal ∧ ((env'.length = 35 ∧ J s.length ⟨hp ++ [.cells [.map (.hp mm)]], s⟩ a m L L.length env' σ') ∨ False)) ∨ (e ≠ .normal ∧ e ≠ .exit 0 ∧ False)) := by
    rw [loop_eq]
    exact range_std (Ex := fun _ _ _ => False) (N := 35) (tc := 18) (ti := 17) (tl := 16) (tx := 33) (ty1 := 3) (ty2 := 3) (ty3 := 3) (ty4 := 3) ⟨by kernel_rfl, by kernel_rfl, by kernel_rfl⟩ ⟨by kernel_rfl, by kernel_rfl, by kernel_rfl⟩ ⟨by kernel_rfl, by kernel_rfl, by kernel_rfl⟩ (by decide) (by omega) J_stable (step cx hcx hro ⟨hp ++ [.cells [.map (.hp mm)]], s⟩ a mm pr pn m M L hM hRi hL hA' hmm') c2 c3.2.2 c3.2.1 hJ0
  obtain ⟨e, env5, σ5, d1, d2⟩ := hloop
  rcases d2 with ⟨rfl, ⟨d2, d3, d4, _, ⟨R, d5, d6⟩, d7⟩ | d2⟩ | ⟨_, _, d2⟩
  · obtain ⟨env6, g1, g2, g3, g4⟩ := rD cx env5 σ5 R d2 hcx d5
    refine callW_body (fl := {}) (fn := Try.f19) rfl Try.func19 body ?_
    have run := execW_seq_of a1 (execW_seq_of b1 (execW_seq_of n1 (execW_seq_of (execW_seq_of c1 d1) (execW_seq_of (b := .ret) (r := some (.ret, (env6, σ5))) g1 rfl))))
    rw [List.take_length] at d6
    have hb := (d6.1 (4, R, (fromV L m).map encV) (by simp)).back
    simp only at hb
    have hpl : Plain (slV 4 ((fromV L m).map encV)) := slV_plain
    obtain ⟨q1, q2, _⟩ := d7
    have q2' : List.take s.length σ5.st = s := by rw [q2]; exact List.take_length
    have q1' : σ5.hp = hp ++ [.cells [.map (.hp mm)]] := q1
    rw [← henv]
    refine (congrArg (finishA Try.prog {} Try.f19 s.length) run).trans ?_
    simp -implicitDefEqProofs [finishA, resA, Try.f19, g3, oneA, hb, hpl.inb, q1', q2']
  · exact d2.elim
  · exact d2.elim

end F19