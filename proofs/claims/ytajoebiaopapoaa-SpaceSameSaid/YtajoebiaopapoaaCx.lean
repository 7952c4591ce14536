/- What the program's turn does. -/

import Derived.Test.YtajoebiaopapoaaCw
open Go Go.Abs Go.Proofs
set_option maxRecDepth 100000
set_option maxHeartbeats 4000000
set_option linter.unusedSimpArgs false
set_option linter.unusedVariables false

section
attribute [local simp] ofV ofCell ofCells seqA_nil seqA_cons seqVK_eq seqEK_eq wantedA yieldedA isVal effA ev evs evps putE optsA optsOk valA fieldAddrA fieldA loadA partA aggA isAggD buildA placesA fillA lay storeA AV.withCells buildSliceA elemsA rowParts fzL promL okE isSrc bytesOk pushA cxOf lenA binA intBinA strBinA unA indexAddrA eqA AVs.inb AV.inb Loc.inb calleeA opsOf sub bodyOf Env.get_set quietA_nil quietA_cons quietK_none quietK_some qstep newA isNew escNew boxOk newLoc flat rowPartsQ quietN quietOp isBS List.takeWhile finishA_eq finK_ret finK_normal retK backK resA oneA AV.back AVs.back execW_seq_eq seqK_normal seqK_ret seqK_exit execW_cond_eq condK_true condK_false execW_block_eq blockK_exit blockK_normal blockK_ret execW_region_eq regK_eq execW_skip execW_exit execW_ret regionA_plain regionA_quiet0 tailK_eq nilCheckA guardOk isConst lookupA keyFits mapUpdateA beqI bneI
theorem f53_raw (hp s : List AObj) (q : Nat) (m : Int) (X R : AV) (hp2 : List AObj) (hX : Plain X) (gq : (AS.mk hp (s ++ [.cells [X], .cells [.nils]])).get (.st q) = some (.cells [.int .i64 m])) (hcl : callW Try.prog how 54 [.agg [X], .int .i64 m] ⟨hp, s ++ [.cells [X], .cells [.nils]]⟩ none = some (.agg [R], ⟨hp2, s ++ [.cells [X], .cells [.nils]]⟩)) (hR1 : R.one = true) (hR2 : R.cells = [R]) (hR3 : ∀ n, R.inb n = true) (hR4 : ∀ n σ, R.back n σ = some R) :
    callW Try.prog how 53 [.agg [X], .ptr (.st q) 0] ⟨hp, s⟩ none = some (.agg [R], ⟨hp2, s⟩) := by
  refine callW_body (fl := {}) (fn := Try.f53) (c := bodyOf Try.f53) rfl Try.func53 rfl ?_
  have henv : ∃ e, e = frameA Try.f53 [.agg [X], .ptr (.st q) 0] := ⟨_, rfl⟩
  obtain ⟨env, henv⟩ := henv
  have hl : env.length = 7 := by rw [henv]; rfl
  have h0 : Env.get env 0 = .agg [X] := by rw [henv]; rfl
  have h1 : Env.get env 1 = .ptr (.st q) 0 := by rw [henv]; rfl
  rw [← henv]
  clear henv
  simp -implicitDefEqProofs [Try.f53, hl, h0, h1, hX.one, hX.inb, hX.row, gq, hcl, hR1, hR2, hR3, hR4]

end
theorem f53_ok (hp s : List AObj) (q : Nat) (m : Int) (L : List Vn) (hG : GoodO L) (hL : L ≠ []) (hq : s[q]? = some (.cells [.int .i64 m])) : callW Try.prog how 53 [.agg [slV 4 (L.map encVn)], .ptr (.st q) 0] ⟨hp, s⟩ none = some (.agg [clR hp.length ((L.take (uptoN L m)).map encVn)], ⟨hp ++ [clO ((L.take (uptoN L m)).map encVn)], s⟩) :=
  f53_raw hp s q m _ _ _ slV_plain (by simp only [AS.get]; rw [List.getElem?_append_left (at_lt hq)]; exact hq) (F54.ok hp _ L m hG hL) rfl rfl (fun _ => rfl) (fun _ _ => rfl)
section
attribute [local simp] ofV ofCell ofCells seqA_nil seqA_cons seqVK_eq seqEK_eq wantedA yieldedA isVal effA ev evs evps putE optsA optsOk valA fieldAddrA fieldA loadA partA aggA isAggD buildA placesA fillA lay storeA AV.withCells buildSliceA elemsA rowParts fzL promL okE isSrc bytesOk pushA cxOf lenA binA intBinA strBinA unA indexAddrA eqA AVs.inb AV.inb Loc.inb calleeA opsOf sub bodyOf Env.get_set quietA_nil quietA_cons quietK_none quietK_some qstep newA isNew escNew boxOk newLoc flat rowPartsQ quietN quietOp isBS List.takeWhile finishA_eq finK_ret finK_normal retK backK resA oneA AV.back AVs.back execW_seq_eq seqK_normal seqK_ret seqK_exit execW_cond_eq condK_true condK_false execW_block_eq blockK_exit blockK_normal blockK_ret execW_region_eq regK_eq execW_skip execW_exit execW_ret regionA_plain regionA_quiet0 tailK_eq nilCheckA guardOk isConst lookupA keyFits mapUpdateA beqI bneI
theorem f55_raw (hp s : List AObj) (q : Nat) (m : Int) (X R : AV) (hp2 : List AObj) (hX : Plain X) (gq : (AS.mk hp (s ++ [.cells [X], .cells [.nils]])).get (.st q) = some (.cells [.int .i64 m])) (hcl : callW Try.prog how 56 [.agg [X], .int .i64 m] ⟨hp, s ++ [.cells [X], .cells [.nils]]⟩ none = some (.agg [R], ⟨hp2, s ++ [.cells [X], .cells [.nils]]⟩)) (hR1 : R.one = true) (hR2 : R.cells = [R]) (hR3 : ∀ n, R.inb n = true) (hR4 : ∀ n σ, R.back n σ = some R) :
    callW Try.prog how 55 [.agg [X], .ptr (.st q) 0] ⟨hp, s⟩ none = some (.agg [R], ⟨hp2, s⟩) := by
  refine callW_body (fl := {}) (fn := Try.f55) (c := bodyOf Try.f55) rfl Try.func55 rfl ?_
  have henv : ∃ e, e = frameA Try.f55 [.agg [X], .ptr (.st q) 0] := ⟨_, rfl⟩
  obtain ⟨env, henv⟩ := henv
  have hl : env.length = 7 := by rw [henv]; rfl
  have h0 : Env.get env 0 = .agg [X] := by rw [henv]; rfl
  have h1 : Env.get env 1 = .ptr (.st q) 0 := by rw [henv]; rfl
  rw [← henv]
  clear henv
  simp -implicitDefEqProofs [Try.f55, hl, h0, h1, hX.one, hX.inb, hX.row, gq, hcl, hR1, hR2, hR3, hR4]

end
theorem f55_ok (hp s : List AObj) (q : Nat) (m : Int) (L : List Vn) (hG : GoodO L) (hL : L ≠ []) (hq : s[q]? = some (.cells [.int .i64 m])) : callW Try.prog how 55 [.agg [slV 4 (L.map encVn)], .ptr (.st q) 0] ⟨hp, s⟩ none = some (.agg [clR hp.length ((L.drop (uptoN L m - 1)).map encVn)], ⟨hp ++ [clO ((L.drop (uptoN L m - 1)).map encVn)], s⟩) :=
  f55_raw hp s q m _ _ _ slV_plain (by simp only [AS.get]; rw [List.getElem?_append_left (at_lt hq)]; exact hq) (F56.ok hp _ L m hG hL) rfl rfl (fun _ => rfl) (fun _ _ => rfl)
theorem newCl (hp : List AObj) (es : List AV) : NewY hp (hp ++ [clO es]) (clR hp.length es) es := .inr ⟨_, rfl, rfl⟩
theorem mapDel {hp s : List AObj} {mm : Nat} {M : List Rw} {key : ByteArray} {cx : Cx} (hro : cx.ro = none) (hm : hp[mm]? = some (.map (M.map entS))) : deleteA Try.prog cx ⟨hp, s⟩ 65 (.map (.hp mm)) (.str key) = some ⟨hp.set mm (.map ((dropM key M).map entS)), s⟩ := by
  have hg : (AS.mk hp s).get (.hp mm) = some (.map (M.map entS)) := hm
  simp [deleteA, keyFits, hg, wok, hro, dropA_ofS, AS.set]
namespace F52
noncomputable def cr (p : List Dir) : Code := sub p (bodyOf Try.f52)

section
attribute [local simp] ofV ofCell ofCells seqA_nil seqA_cons seqVK_eq seqEK_eq wantedA yieldedA isVal effA ev evs evps putE optsA optsOk valA fieldAddrA fieldA loadA partA aggA isAggD buildA placesA fillA lay storeA AV.withCells buildSliceA elemsA rowParts fzL promL okE isSrc bytesOk pushA cxOf lenA binA intBinA strBinA unA indexAddrA eqA AVs.inb AV.inb Loc.inb calleeA opsOf sub bodyOf Env.get_set quietA_nil quietA_cons quietK_none quietK_some qstep newA isNew escNew boxOk newLoc flat rowPartsQ quietN quietOp isBS List.takeWhile finishA_eq finK_ret finK_normal retK backK resA oneA AV.back AVs.back execW_seq_eq seqK_normal seqK_ret seqK_exit execW_cond_eq condK_true condK_false execW_block_eq blockK_exit blockK_normal blockK_ret execW_region_eq regK_eq execW_skip execW_exit execW_ret regionA_plain regionA_quiet0 tailK_eq nilCheckA guardOk isConst lookupA keyFits mapUpdateA beqI bneI
theorem rA (cx : Cx) (env : Env) (σ : AS) (a n : Nat) (K : AV) (σ' : AS) (hlen : env.length = 38) (hcx : cx.esc = []) (f0 : Env.get env 0 = .ptr (.hp a) 0) (hc : callW Try.prog how 12 [.ptr (.hp a) 0] σ cx.ro = some (K, σ')) (hX : lenA Try.prog σ' 33 K = some n) :
    Pc Try.prog how cx [] 38 [7, 8, 9, 10] (cr [.l]) env σ (.normal) (σ') (fun env' => Env.get env' 8 = K ∧ Env.get env' 9 = .int .i64 (n : Int) ∧ Env.get env' 10 = .int .i64 0) := by
  refine pc_of fun res hr => ?_
  simp -implicitDefEqProofs [-lenA, -indexAddrA, -lookupA, -mapUpdateA, AS.get_push_at, AS.get_push_old, AS.push_len, AS.set_st_len, AS.next_st', AS.set_push_at, AS.get_set_self, AS.get_set_other, cr, Try.f52, hlen, hcx, f0, hc, hX] at hr
  subst hr
  refine ⟨_, rfl, by simp [hlen], by simp [Env.get_set, hlen, f0, hc, hX], fun i hi => ?_⟩
  simp only [List.mem_cons, List.not_mem_nil, or_false, not_or] at hi
  simp only [get_set2, hi, false_and, if_false]

theorem rE (cx : Cx) (env : Env) (σ : AS) (k : Nat) (K p : AV) (k0 : ByteArray) (hlen : env.length = 38) (hcx : cx.esc = []) (f8 : Env.get env 8 = K) (f10 : Env.get env 10 = .int .i64 (k : Int)) (hia : indexAddrA Try.prog σ 33 K (.int .i64 (k : Int)) = some p) (hpa : loadA Try.prog σ 9 p = some (.str k0)) :
    Pc Try.prog how cx [] 38 [5, 12, 13] (cr [.r, .i, .i, .r, .r, .l, .i, .l]) env σ (.normal) (σ) (fun env' => Env.get env' 5 = .str k0) := by
  refine pc_of fun res hr => ?_
  simp -implicitDefEqProofs [-lenA, -indexAddrA, -loadA, AS.get_push_at, AS.get_push_old, AS.push_len, AS.set_st_len, AS.next_st', AS.set_push_at, AS.get_set_self, AS.get_set_other, cr, Try.f52, hlen, hcx, f8, f10, hia, hpa] at hr
  subst hr
  refine ⟨_, rfl, by simp [hlen], by simp [Env.get_set, hlen, f8, f10, hia, hpa], fun i hi => ?_⟩
  simp only [List.mem_cons, List.not_mem_nil, or_false, not_or] at hi
  simp only [get_set2, hi, false_and, if_false]

theorem rH (cx : Cx) (env : Env) (σ : AS) (hp s hp2 : List AObj) (a mm q G : Nat) (key : ByteArray) (Y R : AV) (hlen : env.length = 38) (hcx : cx.esc = []) (f0 : Env.get env 0 = .ptr (.hp a) 0) (f1 : Env.get env 1 = .fn (.func G) [] [.ptr (.st q) 0]) (f5 : Env.get env 5 = .str key) (hσ : σ = ⟨hp, s⟩) (hA : (AS.mk hp s).get (.hp a) = some (.cells [.map (.hp mm)])) (hlk : lookupA Try.prog ⟨hp, s⟩ 65 (.map (.hp mm)) (.str key) false = some (.agg [Y])) (hY : Plain Y) (hc : callW Try.prog how G [.agg [Y], .ptr (.st q) 0] ⟨hp, s⟩ cx.ro = some (.agg [R], ⟨hp2, s⟩)) (hq : q < s.length) (hR1 : R.one = true) (hR2 : R.cells = [R]) (hR3 : ∀ n, R.inb n = true) (hww : wok cx.ro (.st s.length) = true) (hhr : cx.h ≤ s.length) :
    Pc Try.prog how cx [] 38 [6, 14, 15, 16, 17, 18, 19, 20, 21] (cr [.r, .i, .i, .r, .r, .l, .i, .r, .l]) env σ (.normal) (AS.mk hp2 (s ++ [.cells [R]])) (fun env' => Env.get env' 6 = .ptr (.st s.length) 0) := by
  refine pc_of fun res hr => ?_
  simp -implicitDefEqProofs [-lenA, -indexAddrA, -lookupA, -mapUpdateA, AS.get_push_at, AS.get_push_old, AS.push_len, AS.set_st_len, AS.next_st', AS.set_push_at, AS.get_set_self, AS.get_set_other, cr, Try.f52, hlen, hcx, f0, f1, f5, hσ, hA, hlk, hY.one, hY.inb, hY.row, hc, hq, hR1, hR2, hR3, hww, hhr] at hr
  subst hr
  refine ⟨_, rfl, by simp [hlen], by simp [Env.get_set, hlen, f0, f1, f5, hσ, hA, hlk, hY.one, hY.inb, hY.row, hc, hq, hR1, hR2, hR3, hww, hhr], fun i hi => ?_⟩
  simp only [List.mem_cons, List.not_mem_nil, or_false, not_or] at hi
  simp only [get_set2, hi, false_and, if_false]

theorem rK (cx : Cx) (env : Env) (σ : AS) (c n : Nat) (R : AV) (hlen : env.length = 38) (hcx : cx.esc = []) (f6 : Env.get env 6 = .ptr (.st c) 0) (gc : σ.get (.st c) = some (.cells [R])) (hl : lenA Try.prog σ 72 R = some n) (hn : ¬ n = 0) (hn2 : ¬ (n : Int) = 0) :
    Pc Try.prog how cx [] 38 [22, 23, 24, 25] (cr [.r, .i, .i, .r, .r, .l, .i, .r, .r, .l]) env σ (.normal) (σ) (fun _ => True) := by
  refine pc_of fun res hr => ?_
  simp -implicitDefEqProofs [-lenA, -indexAddrA, -lookupA, -mapUpdateA, AS.get_push_at, AS.get_push_old, AS.push_len, AS.set_st_len, AS.next_st', AS.set_push_at, AS.get_set_self, AS.get_set_other, cr, Try.f52, hlen, hcx, f6, gc, hl, hn, hn2] at hr
  subst hr
  refine ⟨_, rfl, by simp [hlen], by simp [Env.get_set, hlen, f6, gc, hl, hn, hn2], fun i hi => ?_⟩
  simp only [List.mem_cons, List.not_mem_nil, or_false, not_or] at hi
  simp only [get_set2, hi, false_and, if_false]

theorem rD (cx : Cx) (env : Env) (σ : AS) (c a mm : Nat) (key : ByteArray) (R : AV) (σ' : AS) (hlen : env.length = 38) (hcx : cx.esc = []) (f0 : Env.get env 0 = .ptr (.hp a) 0) (f5 : Env.get env 5 = .str key) (f6 : Env.get env 6 = .ptr (.st c) 0) (gc : σ.get (.st c) = some (.cells [R])) (hl : lenA Try.prog σ 72 R = some 0) (hA : σ.get (.hp a) = some (.cells [.map (.hp mm)])) (hdel : deleteA Try.prog cx σ 65 (.map (.hp mm)) (.str key) = some σ') :
    Pc Try.prog how cx [] 38 [22, 23, 24, 25, 26, 27, 28, 29, 30] (cr [.r, .i, .i, .r, .r, .l, .i, .r, .r, .l]) env σ (.exit 1) (σ') (fun _ => True) := by
  refine pc_of fun res hr => ?_
  simp -implicitDefEqProofs [-lenA, -indexAddrA, -lookupA, -mapUpdateA, AS.get_push_at, AS.get_push_old, AS.push_len, AS.set_st_len, AS.next_st', AS.set_push_at, AS.get_set_self, AS.get_set_other, cr, Try.f52, hlen, hcx, f0, f5, f6, gc, hl, hA, hdel] at hr
  subst hr
  refine ⟨_, rfl, by simp [hlen], by simp [Env.get_set, hlen, f0, f5, f6, gc, hl, hA, hdel], fun i hi => ?_⟩
  simp only [List.mem_cons, List.not_mem_nil, or_false, not_or] at hi
  simp only [get_set2, hi, false_and, if_false]

theorem rM (cx : Cx) (env : Env) (σ : AS) (hp s : List AObj) (a mm c : Nat) (key : ByteArray) (R : AV) (σ' : AS) (hlen : env.length = 38) (hcx : cx.esc = []) (f0 : Env.get env 0 = .ptr (.hp a) 0) (f5 : Env.get env 5 = .str key) (f6 : Env.get env 6 = .ptr (.st c) 0) (hσ : σ = ⟨hp, s⟩) (hA : (AS.mk hp s).get (.hp a) = some (.cells [.map (.hp mm)])) (gc : (AS.mk hp s).get (.st c) = some (.cells [R])) (hR1 : R.one = true) (hmu : mapUpdateA Try.prog cx ⟨hp, s⟩ 65 (.map (.hp mm)) (.str key) (.agg [R]) = some σ') :
    Pc Try.prog how cx [] 38 [31, 32, 33, 34, 35, 36] (cr [.r, .i, .i, .r, .r, .l, .i, .r, .r, .r]) env σ (.normal) (σ') (fun _ => True) := by
  refine pc_of fun res hr => ?_
  simp -implicitDefEqProofs [-lenA, -indexAddrA, -lookupA, -mapUpdateA, AS.get_push_at, AS.get_push_old, AS.push_len, AS.set_st_len, AS.next_st', AS.set_push_at, AS.get_set_self, AS.get_set_other, cr, Try.f52, hlen, hcx, f0, f5, f6, hσ, hA, gc, hR1, hmu] at hr
  subst hr
  refine ⟨_, rfl, by simp [hlen], by simp [Env.get_set, hlen, f0, f5, f6, hσ, hA, gc, hR1, hmu], fun i hi => ?_⟩
  simp only [List.mem_cons, List.not_mem_nil, or_false, not_or] at hi
  simp only [get_set2, hi, false_and, if_false]

end
noncomputable def bodyC : Code := (.seq (cr [.l]) (cr [.r]))
theorem body : Try.f52.body = some bodyC := by kernel_rfl
/-- What holds ahead of round k. -/
def J (h : Nat) (σ0 : AS) (a mm q G : Nat) (gf : List Vn → List Vn) (S : List Rw) (k : Nat) (env : Env) (σ : AS) : Prop :=
  Env.get env 0 = .ptr (.hp a) 0 ∧ Env.get env 1 = .fn (.func G) [] [.ptr (.st q) 0] ∧ Env.get env 8 = slV 1 (keysS S) ∧ (∃ M : List Rw, σ.hp[mm]? = some (.map (M.map entS)) ∧ M.Perm (turnS gf (S.take k) ++ S.drop k)) ∧ (σ.hp[a]? = some (.cells [.map (.hp mm)]) ∧ Keep1 σ0.hp σ.hp mm) ∧ Outside h (AS.mk σ.hp σ0.st) σ
def Ex (h : Nat) (σ0 : AS) (a mm q G : Nat) (gf : List Vn → List Vn) (S : List Rw) (e : AExit) (env : Env) (σ : AS) : Prop := False
theorem J_stable {h : Nat} {σ0 : AS} {a mm q G : Nat} {gf : List Vn → List Vn} {S : List Rw} : ∀ k env env' σ, env.length = 38 → env'.length = 38 → (∀ i, i ≠ 11 → i ≠ 37 → i ≠ 10 → Env.get env' i = Env.get env i) → J h σ0 a mm q G gf S k env σ → J h σ0 a mm q G gf S k env' σ := by
  rintro k env env' σ _ _ hf ⟨j0, j1, j8, q0, q1, ho⟩
  exact ⟨(hf 0 (by decide) (by decide) (by decide)).trans j0, (hf 1 (by decide) (by decide) (by decide)).trans j1, (hf 8 (by decide) (by decide) (by decide)).trans j8, q0, q1, ho⟩
noncomputable def oT : Oper := (opsOf (cr [.r, .i, .i, .l])).headD default
noncomputable def oI : List Oper := opsOf (cr [.r, .i, .i, .r, .r, .r])
theorem loop_eq : (cr [.r]) = .block 0 (.loop (.seq (.region 1 #[oT] false) (.seq (.cond (.tmp 11) .skip (.exit 0)) (.seq (.block 1 (.seq (cr [.r, .i, .i, .r, .r, .l, .i, .l]) (.seq (cr [.r, .i, .i, .r, .r, .l, .i, .r, .l]) (.seq (cr [.r, .i, .i, .r, .r, .l, .i, .r, .r, .l]) (cr [.r, .i, .i, .r, .r, .l, .i, .r, .r, .r]))))) (.region 7 #[oI.headD default, (oI.drop 1).headD default] false))))) := by kernel_rfl
theorem step (cx : Cx) (hcx : cx.esc = []) (hro : ∀ k, cx.ro = some k → k ≤ cx.h) (σ0 : AS) (a mm q G : Nat) (gf : List Vn → List Vn) (S : List Rw) (hr0 : cx.ro = none) (m : Int) (hq : σ0.st[q]? = some (.cells [.int .i64 m])) (hqh : q < cx.h) (ham : a ≠ mm) (hS : GoodS S) (hcl : ∀ hp s L, GoodO L → L ≠ [] → s[q]? = some (.cells [.int .i64 m]) → callW Try.prog how G [.agg [slV 4 (L.map encVn)], .ptr (.st q) 0] ⟨hp, s⟩ none = some (.agg [clR hp.length ((gf L).map encVn)], ⟨hp ++ [clO ((gf L).map encVn)], s⟩)) :
    ∀ k env σ, k < S.length → env.length = 38 → Env.get env 10 = .int .i64 (k : Int) → Env.get env 9 = .int .i64 ((S.length : Nat) : Int) → J cx.h σ0 a mm q G gf S k env σ → ∃ e env' σ', execW Try.prog cx [] (callW Try.prog how) (.block 1 (.seq (cr [.r, .i, .i, .r, .r, .l, .i, .l]) (.seq (cr [.r, .i, .i, .r, .r, .l, .i, .r, .l]) (.seq (cr [.r, .i, .i, .r, .r, .l, .i, .r, .r, .l]) (cr [.r, .i, .i, .r, .r, .l, .i, .r, .r, .r]))))) (env, σ) = some (e, (env', σ')) ∧
      ((e = .normal ∧ env'.length = 38 ∧ Env.get env' 10 = .int .i64 (k : Int) ∧ Env.get env' 9 = .int .i64 ((S.length : Nat) : Int) ∧ J cx.h σ0 a mm q G gf S (k + 1) env' σ') ∨ (e ≠ .normal ∧ Ex cx.h σ0 a mm q G gf S e env' σ')) := by
  rintro k env σ hk hlen f10 f9 ⟨f0, f1, f8, q0, q1, ho⟩
  obtain ⟨p, hia, hpa⟩ := (rdK σ S).2 k _ (keysS_at hk)
  obtain ⟨M, hM, hP⟩ := q0
  obtain ⟨hA, hKp⟩ := q1
  obtain ⟨hp1, hof⟩ := turn_perm (g := gf) hS.so hk hP
  have hSk := List.getElem_mem hk
  obtain ⟨env1, x1a, x1b, x1c, x1d⟩ := rE cx env σ k _ p (S[k].1) hlen hcx f8 f10 hia hpa 
  have f0 := (x1d 0 (by decide)).trans f0
  have f1 := (x1d 1 (by decide)).trans f1
  have f8 := (x1d 8 (by decide)).trans f8
  have f9 := (x1d 9 (by decide)).trans f9
  have f10 := (x1d 10 (by decide)).trans f10
  have f5 := x1c
  have hqσ : σ.st[q]? = some (.cells [.int .i64 m]) := by
    have := congrArg (fun l : List AObj => l[q]?) ho.2.1
    simp only [List.getElem?_take, if_pos hqh] at this
    rw [this]; exact hq
  have hlk := lookup_ofS σ mm M S[k].1 hM
  rw [hof] at hlk
  have hc := hcl σ.hp σ.st S[k].2 (hS.go _ hSk) (hS.ne _ hSk) hqσ
  rw [← hr0] at hc
  obtain ⟨env2, x2a, x2b, x2c, x2d⟩ := rH cx env1 σ σ.hp σ.st _ a mm q G (S[k].1) _ _ x1b hcx f0 f1 f5 rfl hA hlk slV_plain hc (at_lt hqσ) rfl rfl (fun n => rfl) (by rw [hr0]; rfl) ho.2.2 
  have f0 := (x2d 0 (by decide)).trans f0
  have f1 := (x2d 1 (by decide)).trans f1
  have f5 := (x2d 5 (by decide)).trans f5
  have f8 := (x2d 8 (by decide)).trans f8
  have f9 := (x2d 9 (by decide)).trans f9
  have f10 := (x2d 10 (by decide)).trans f10
  have f6 := x2c
  have hN := newCl σ.hp ((gf S[k].2).map encVn)
  have hkp := hN.keep mm
  have gc : (AS.mk (σ.hp ++ [clO ((gf S[k].2).map encVn)]) (σ.st ++ [AObj.cells [(clR σ.hp.length ((gf S[k].2).map encVn))]])).get (.st σ.st.length) = some (.cells [(clR σ.hp.length ((gf S[k].2).map encVn))]) := by simp [AS.get]
  have hA2 : (AS.mk (σ.hp ++ [clO ((gf S[k].2).map encVn)]) (σ.st ++ [AObj.cells [(clR σ.hp.length ((gf S[k].2).map encVn))]])).get (.hp a) = some (.cells [.map (.hp mm)]) := (hkp.2 a ham (at_lt hA)).trans hA
  have hl := hN.len (AS.mk (σ.hp ++ [clO ((gf S[k].2).map encVn)]) (σ.st ++ [AObj.cells [(clR σ.hp.length ((gf S[k].2).map encVn))]]))
  rw [List.length_map] at hl
  have ho2 : ∀ hp3, Outside cx.h (AS.mk hp3 σ0.st) (AS.mk hp3 (σ.st ++ [AObj.cells [(clR σ.hp.length ((gf S[k].2).map encVn))]])) := fun hp3 => ⟨rfl, by simp only; rw [List.take_append_of_le_length ho.2.2]; exact ho.2.1, by simp; have := ho.2.2; omega⟩
  by_cases hg : gf S[k].2 = []
  · skip
    rw [show (gf S[k].2).length = 0 by rw [hg]; rfl] at hl
    rw [hg, if_pos (show ([] : List Vn).isEmpty = true from rfl)] at hp1
    have hM2 : (σ.hp ++ [clO ((gf S[k].2).map encVn)])[mm]? = some (.map (M.map entS)) := by rw [List.getElem?_append_left (at_lt hM)]; exact hM
    have hdel := mapDel (cx := cx) (s := (σ.st ++ [AObj.cells [(clR σ.hp.length ((gf S[k].2).map encVn))]])) (key := S[k].1) hr0 hM2
    obtain ⟨env3, x3a, x3b, x3c, x3d⟩ := rD cx env2 (AS.mk (σ.hp ++ [clO ((gf S[k].2).map encVn)]) (σ.st ++ [AObj.cells [(clR σ.hp.length ((gf S[k].2).map encVn))]])) _ a mm (S[k].1) _ _ x2b hcx f0 f5 f6 gc hl hA2 hdel 
    have f0 := (x3d 0 (by decide)).trans f0
    have f1 := (x3d 1 (by decide)).trans f1
    have f5 := (x3d 5 (by decide)).trans f5
    have f6 := (x3d 6 (by decide)).trans f6
    have f8 := (x3d 8 (by decide)).trans f8
    have f9 := (x3d 9 (by decide)).trans f9
    have f10 := (x3d 10 (by decide)).trans f10
    exact ⟨.normal, env3, _, (block_out (execW_seq_of x1a (execW_seq_of x2a (execW_seq_exit x3a)))), .inl ⟨rfl, x3b, f10, f9, f0, f1, f8, ⟨_, List.getElem?_set_self (at_lt hM2), hp1⟩, ⟨(by rw [List.getElem?_set_ne (fun e => ham e.symm)]; exact hA2), (hKp.trans hkp).trans (Keep1.set _ _ _)⟩, ho2 _⟩⟩
  · skip
    have hge : (gf S[k].2).isEmpty = false := by cases hh : gf S[k].2 with | nil => exact absurd hh hg | cons => rfl
    rw [hge, if_neg (by simp)] at hp1
    have hgl : 0 < (gf S[k].2).length := by cases hh : gf S[k].2 with | nil => exact absurd hh hg | cons => simp
    obtain ⟨env3, x3a, x3b, x3c, x3d⟩ := rK cx env2 (AS.mk (σ.hp ++ [clO ((gf S[k].2).map encVn)]) (σ.st ++ [AObj.cells [(clR σ.hp.length ((gf S[k].2).map encVn))]])) _ _ _ x2b hcx f6 gc hl (by omega) (by omega) 
    have f0 := (x3d 0 (by decide)).trans f0
    have f1 := (x3d 1 (by decide)).trans f1
    have f5 := (x3d 5 (by decide)).trans f5
    have f6 := (x3d 6 (by decide)).trans f6
    have f8 := (x3d 8 (by decide)).trans f8
    have f9 := (x3d 9 (by decide)).trans f9
    have f10 := (x3d 10 (by decide)).trans f10
    obtain ⟨hp3, hmu, hm3, hk3⟩ := mapUp (cx := cx) (s := (σ.st ++ [AObj.cells [(clR σ.hp.length ((gf S[k].2).map encVn))]])) (key := S[k].1) hr0 hM hN hg
    obtain ⟨env4, x4a, x4b, x4c, x4d⟩ := rM cx env3 (AS.mk (σ.hp ++ [clO ((gf S[k].2).map encVn)]) (σ.st ++ [AObj.cells [(clR σ.hp.length ((gf S[k].2).map encVn))]])) ((σ.hp ++ [clO ((gf S[k].2).map encVn)])) ((σ.st ++ [AObj.cells [(clR σ.hp.length ((gf S[k].2).map encVn))]])) a mm _ (S[k].1) _ _ x3b hcx f0 f5 f6 rfl hA2 gc rfl hmu 
    have f0 := (x4d 0 (by decide)).trans f0
    have f1 := (x4d 1 (by decide)).trans f1
    have f5 := (x4d 5 (by decide)).trans f5
    have f6 := (x4d 6 (by decide)).trans f6
    have f8 := (x4d 8 (by decide)).trans f8
    have f9 := (x4d 9 (by decide)).trans f9
    have f10 := (x4d 10 (by decide)).trans f10
    exact ⟨.normal, env4, _, (execW_block_of (execW_seq_of x1a (execW_seq_of x2a (execW_seq_of x3a x4a)))), .inl ⟨rfl, x4b, f10, f9, f0, f1, f8, ⟨_, hm3, hp1⟩, ⟨(hk3.2 a ham (at_lt hA)).trans hA, hKp.trans hk3⟩, ho2 _⟩⟩
theorem loop (cx : Cx) (hcx : cx.esc = []) (hro : ∀ k, cx.ro = some k → k ≤ cx.h) (σ0 : AS) (a mm q G : Nat) (gf : List Vn → List Vn) (S : List Rw) (hr0 : cx.ro = none) (m : Int) (hq : σ0.st[q]? = some (.cells [.int .i64 m])) (hqh : q < cx.h) (ham : a ≠ mm) (hS : GoodS S) (hcl : ∀ hp s L, GoodO L → L ≠ [] → s[q]? = some (.cells [.int .i64 m]) → callW Try.prog how G [.agg [slV 4 (L.map encVn)], .ptr (.st q) 0] ⟨hp, s⟩ none = some (.agg [clR hp.length ((gf L).map encVn)], ⟨hp ++ [clO ((gf L).map encVn)], s⟩)) (hnn : S.length ≤ 9223372036854775807) {env : Env} {σ : AS} (hl : env.length = 38) (h1 : Env.get env 10 = .int .i64 0) (h2 : Env.get env 9 = .int .i64 ((S.length : Nat) : Int)) (h0 : J cx.h σ0 a mm q G gf S 0 env σ) :
    ∃ e env' σ', execW Try.prog cx [] (callW Try.prog how) (cr [.r]) (env, σ) = some (e, (env', σ')) ∧ ((e = .normal ∧ ((env'.length = 38 ∧ J cx.h σ0 a mm q G gf S (S.length) env' σ') ∨ Ex cx.h σ0 a mm q G gf S (.exit 0) env' σ')) ∨ (e ≠ .normal ∧ e ≠ .exit 0 ∧ Ex cx.h σ0 a mm q G gf S e env' σ')) := by
  rw [loop_eq]
  exact range_std (Ex := Ex cx.h σ0 a mm q G gf S) (N := 38) (tc := 11) (ti := 10) (tl := 9) (tx := 37) (ty1 := 3) (ty2 := 3) (ty3 := 3) (ty4 := 3) ⟨by kernel_rfl, by kernel_rfl, by kernel_rfl⟩ ⟨by kernel_rfl, by kernel_rfl, by kernel_rfl⟩ ⟨by kernel_rfl, by kernel_rfl, by kernel_rfl⟩ (by decide) hnn J_stable (step cx hcx hro σ0 a mm q G gf S hr0 m hq hqh ham hS hcl) hl h1 h2 h0
theorem ok (hp s : List AObj) (a mm q G : Nat) (gf : List Vn → List Vn) (m : Int) (M S : List Rw) (h : PS hp a mm M S) (hS : GoodS S) (hq : s[q]? = some (.cells [.int .i64 m])) (hcl : ∀ hp s L, GoodO L → L ≠ [] → s[q]? = some (.cells [.int .i64 m]) → callW Try.prog how G [.agg [slV 4 (L.map encVn)], .ptr (.st q) 0] ⟨hp, s⟩ none = some (.agg [clR hp.length ((gf L).map encVn)], ⟨hp ++ [clO ((gf L).map encVn)], s⟩)) :
    ∃ hp' M', callW Try.prog how 52 [.ptr (.hp a) 0, .fn (.func G) [] [.ptr (.st q) 0]] ⟨hp, s⟩ none = some (.tup [], ⟨hp', s⟩) ∧ PS hp' a mm M' (turnS gf S) ∧ Keep1 hp hp' mm := by
  let cx : Cx := { h := s.length, ro := none, esc := [] }
  have hcx : cx.esc = [] := rfl
  have hro : ∀ k, cx.ro = some k → k ≤ cx.h := fun k hk => by cases hk
  obtain ⟨env, henv⟩ : ∃ e, e = frameA Try.f52 [.ptr (.hp a) 0, .fn (.func G) [] [.ptr (.st q) 0]] := ⟨_, rfl⟩
  have hlen : env.length = 38 := by rw [henv]; rfl
  have f0 : Env.get env 0 = .ptr (.hp a) 0 := by rw [henv]; rfl
  have f1 : Env.get env 1 = .fn (.func G) [] [.ptr (.st q) 0] := by rw [henv]; rfl
  have ho : Outside s.length (AS.mk hp s) (AS.mk hp s) := Outside.refl (Nat.le_refl _)
  have ham : a ≠ mm := by rintro rfl; have e1 := h.oA; rw [h.oM] at e1; cases e1
  have hl9 := hS.len
  have hc := f12_ok hp s a mm M S h hS
  have hlx := (rdK ⟨(hp ++ [AObj.cells [.map (.hp mm)]]), s⟩ S).1
  rw [keysS_len] at hlx
  obtain ⟨env1, x1a, x1b, x1c, x1d⟩ := rA cx env (AS.mk hp s) a S.length _ _ hlen hcx f0 hc hlx 
  have f0 := (x1d 0 (by decide)).trans f0
  have f1 := (x1d 1 (by decide)).trans f1
  have f8 := x1c.1
  have f9 := x1c.2.1
  have f10 := x1c.2.2
  have h1 := h.app [AObj.cells [.map (.hp mm)]]
  obtain ⟨e2, env2, σ2, x2a, x2p⟩ := loop cx hcx hro ⟨(hp ++ [AObj.cells [.map (.hp mm)]]), s⟩ a mm q G gf S rfl m hq (at_lt hq) ham hS hcl (by omega) (σ := AS.mk (hp ++ [AObj.cells [.map (.hp mm)]]) s) x1b f10 f9 (⟨f0, f1, f8, ⟨M, h1.oM, h1.p⟩, ⟨h1.oA, Keep1.refl _ _⟩, ⟨rfl, rfl, Nat.le_refl _⟩⟩)
  rcases x2p with ⟨rfl, ⟨x2b, f0, f1, f8, q0, q1, ho⟩ | x2p⟩ | ⟨x2q, x2r, x2p⟩
  · skip
    have htk : σ2.st.take s.length = s := by rw [ho.2.1]; exact List.take_length
    rw [List.take_length, List.drop_length, List.append_nil] at q0
    obtain ⟨M', hM', hP'⟩ := q0
    exact ⟨σ2.hp, M', call_of (fl := {}) (fn := Try.f52) (c := bodyC) (env := env) (e := (.normal, (env2, σ2))) rfl Try.func52 body henv (by unfold bodyC; exact (execW_seq_of x1a x2a)) ((fin_none (.inr rfl) rfl rfl).trans (by rw [htk])), ⟨q1.1, hM', hP'⟩, (Keep1.app _ _ _).trans q1.2⟩
  · cases x2p
  · cases x2p
end F52
