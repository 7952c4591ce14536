/- What a key has in the program's map; whether reads are fresh. -/

import Derived.Test.YtcafckfmhoklkaaCl
open Go Go.Abs Go.Proofs
set_option maxRecDepth 100000
set_option maxHeartbeats 4000000
set_option linter.unusedSimpArgs false
set_option linter.unusedVariables false

/-- An entry of the program's map. -/
def vlA (v : Vl) : List AV := [.int .u64 v.1, .str v.2.1, .bool v.2.2]
def entK (k : KeyD) : AV × AV := (.str k.1, .agg (vlA k.2))
theorem keyEq_K (key : ByteArray) (r : KeyD) : keyEq (.str key) (entK r).1 = some (decide (r.1 = key)) := by
  simp only [keyEq, entK, beqS_dec]
  congr 1
  by_cases q : key = r.1
  · rw [decide_eq_true q, decide_eq_true q.symm]
  · rw [decide_eq_false q, decide_eq_false (fun e => q e.symm)]
theorem find_K (key : ByteArray) : ∀ M : List KeyD, findA (.str key) (M.map entK) = some ((M.find? fun r => decide (r.1 = key)).map fun r => .agg (vlA r.2))
  | [] => rfl
  | r :: M => by
    have h := keyEq_K key r
    have ih := find_K key M
    simp only [List.map_cons, findA, h]
    by_cases q : r.1 = key
    · simp [q, entK]
    · simp only [q, decide_false, List.find?_cons_of_neg, Bool.false_eq_true, not_false_eq_true]
      exact ih
theorem lookup_K (σ : AS) (mm : Nat) (M : List KeyD) (key : ByteArray) (hm : σ.get (.hp mm) = some (.map (M.map entK))) : lookupA Try.prog σ 89 (.map (.hp mm)) (.str key) false = some (.agg (vlA (ofK M key))) := by
  unfold lookupA ofK
  simp only [Try.underlying89, Try.underlying9, z98, keyFits, if_true, hm, find_K]
  cases M.find? fun r => decide (r.1 = key) with
  | none => rfl
  | some r => rfl
def putP (key : ByteArray) (v : Vl) : List KeyD → List KeyD
  | [] => [(key, v)]
  | r :: M => if r.1 = key then (key, v) :: M else r :: putP key v M
theorem putA_K (key : ByteArray) (v : Vl) : ∀ M : List KeyD, putA (.str key) (.agg (vlA v)) (M.map entK) = some ((putP key v M).map entK)
  | [] => rfl
  | r :: M => by
    have ih := putA_K key v M
    simp only [List.map_cons, putA, keyEq_K, putP]
    by_cases q : r.1 = key
    · simp only [q, decide_true, if_true, List.map_cons]
      rfl
    · simp only [q, decide_false, if_false, ih, List.map_cons]
theorem ofK_putP (key : ByteArray) (v : Vl) (k : ByteArray) : ∀ M : List KeyD, ofK (putP key v M) k = if k = key then v else ofK M k
  | [] => by
    by_cases q : k = key
    · subst q; simp [putP, ofK]
    · have q4 : ¬ key = k := fun e => q e.symm
      simp [putP, ofK, q, q4]
  | r :: M => by
    have ih := ofK_putP key v k M
    unfold putP
    by_cases q : r.1 = key
    · rw [if_pos q]
      by_cases q2 : k = key
      · subst q2; simp [ofK]
      · have q3 : ¬ r.1 = k := fun e => q2 (e.symm.trans q)
        have q4 : ¬ key = k := fun e => q2 e.symm
        simp [ofK, q2, q3, q4]
    · rw [if_neg q]
      by_cases q2 : r.1 = k
      · have q3 : ¬ k = key := fun e => q (q2.trans e)
        simp [ofK, q2, q3]
      · have e1 : ofK (r :: putP key v M) k = ofK (putP key v M) k := by simp [ofK, q2]
        have e2 : ofK (r :: M) k = ofK M k := by simp [ofK, q2]
        rw [e1, e2, ih]
/-- The program's map in the heap. -/
structure PM (hp : List AObj) (a mm : Nat) (M : List KeyD) : Prop where
  oA : hp[a]? = some (.cells [.map (.hp mm)])
  oM : hp[mm]? = some (.map (M.map entK))
  ne : a ≠ mm
theorem PM.look {hp : List AObj} {a mm : Nat} {M : List KeyD} (h : PM hp a mm M) (s : List AObj) (key : ByteArray) : lookupA Try.prog ⟨hp, s⟩ 89 (.map (.hp mm)) (.str key) false = some (.agg (vlA (ofK M key))) := lookup_K _ mm M key h.oM
theorem mapUp {hp s : List AObj} {mm : Nat} {M : List KeyD} {key : ByteArray} {v : Vl} {cx : Cx} (hro : cx.ro = none) (hm : hp[mm]? = some (.map (M.map entK))) :
    mapUpdateA Try.prog cx ⟨hp, s⟩ 89 (.map (.hp mm)) (.str key) (.agg (vlA v)) = some ⟨hp.set mm (.map ((putP key v M).map entK)), s⟩ := by
  have hg : (AS.mk hp s).get (.hp mm) = some (.map (M.map entK)) := hm
  have hpu := putA_K key v M
  unfold vlA at hpu
  simp [mapUpdateA, keyFits, fzL, AV.cells, AV.withCells, hg, wok, hro, AV.inb, AVs.inb, vlA, hpu, AS.set]
section
attribute [local simp] ofV ofCell ofCells seqA_nil seqA_cons seqVK_eq seqEK_eq wantedA yieldedA isVal effA ev evs evps putE optsA optsOk valA fieldAddrA fieldA loadA partA aggA isAggD buildA placesA fillA lay storeA AV.withCells buildSliceA elemsA rowParts fzL promL okE isSrc bytesOk pushA cxOf lenA binA intBinA strBinA unA indexAddrA eqA AVs.inb AV.inb Loc.inb calleeA opsOf sub bodyOf Env.get_set quietA_nil quietA_cons quietK_none quietK_some qstep newA isNew escNew boxOk newLoc flat rowPartsQ quietN quietOp isBS List.takeWhile finishA_eq finK_ret finK_normal retK backK resA oneA AV.back AVs.back execW_seq_eq seqK_normal seqK_ret seqK_exit execW_cond_eq condK_true condK_false execW_block_eq blockK_exit blockK_normal blockK_ret execW_region_eq regK_eq execW_skip execW_exit execW_ret regionA_plain regionA_quiet0 tailK_eq nilCheckA guardOk isConst lookupA keyFits mapUpdateA beqI bneI
theorem f22_ok (hp s : List AObj)  :
    callW Try.prog how 22 [] ⟨hp, s⟩ none = some (.ptr (.hp (hp.length + 1)) 0, ⟨hp ++ [.map [], .cells [.map (.hp hp.length)]], s⟩) := by
  refine callW_body (fl := { esc := [1, 3] }) (fn := Try.f22) (c := bodyOf Try.f22) rfl Try.func22 rfl ?_
  have henv : ∃ e, e = frameA Try.f22 [] := ⟨_, rfl⟩
  obtain ⟨env, henv⟩ := henv
  have hl : env.length = 4 := by rw [henv]; rfl
  rw [← henv]
  clear henv
  simp -implicitDefEqProofs [Try.f22, hl]

theorem f25_c (hp s : List AObj) (ro : Option Nat) (a mm : Nat) (key : ByteArray) (v : Vl) (hro : ∀ k, ro = some k → k ≤ s.length) (hA : ∀ s, (AS.mk hp s).get (.hp a) = some (.cells [.map (.hp mm)])) (hlk : ∀ s, lookupA Try.prog ⟨hp, s⟩ 89 (.map (.hp mm)) (.str key) false = some (.agg [.int .u64 v.1, .str v.2.1, .bool v.2.2])) :
    callW Try.prog how 25 [.ptr (.hp a) 0, .str key] ⟨hp, s⟩ ro = some (.tup [.str v.2.1, .int .u64 v.1, .bool v.2.2], ⟨hp, s⟩) := by
  refine callW_body (fl := {}) (fn := Try.f25) (c := bodyOf Try.f25) rfl Try.func25 rfl ?_
  have henv : ∃ e, e = frameA Try.f25 [.ptr (.hp a) 0, .str key] := ⟨_, rfl⟩
  obtain ⟨env, henv⟩ := henv
  have hl : env.length = 22 := by rw [henv]; rfl
  have h0 : Env.get env 0 = .ptr (.hp a) 0 := by rw [henv]; rfl
  have h1 : Env.get env 1 = .str key := by rw [henv]; rfl
  rw [← henv]
  clear henv
  simp -implicitDefEqProofs [-lookupA, Try.f25, hl, h0, h1, wok_le hro, wok_le' hro, hA, hlk, fieldValA]

theorem f43_c (hp s : List AObj) (ro : Option Nat) (a mm i : Nat) (key : ByteArray) (num : Int) (v : Vl) (hro : ∀ k, ro = some k → k ≤ s.length) (hA : ∀ s, (AS.mk hp s).get (.hp a) = some (.cells [.map (.hp mm)])) (hlk : ∀ s, lookupA Try.prog ⟨hp, s⟩ 89 (.map (.hp mm)) (.str key) false = some (.agg [.int .u64 v.1, .str v.2.1, .bool v.2.2])) (hi : i < s.length) (hi2 : ∀ t, (AS.mk hp (s ++ t)).get (.st i) = some (.cells [.ptr (.hp a) 0])) :
    callW Try.prog how 43 [.agg [.str key, .int .u64 num], .ptr (.st i) 0] ⟨hp, s⟩ ro = some (.bool (decide (v.1 ≠ num)), ⟨hp, s⟩) := by
  refine callW_body (fl := {}) (fn := Try.f43) (c := bodyOf Try.f43) rfl Try.func43 rfl ?_
  have henv : ∃ e, e = frameA Try.f43 [.agg [.str key, .int .u64 num], .ptr (.st i) 0] := ⟨_, rfl⟩
  obtain ⟨env, henv⟩ := henv
  have hl : env.length = 15 := by rw [henv]; rfl
  have h0 : Env.get env 0 = .agg [.str key, .int .u64 num] := by rw [henv]; rfl
  have h1 : Env.get env 1 = .ptr (.st i) 0 := by rw [henv]; rfl
  rw [← henv]
  clear henv
  by_cases p1 : v.1 = num
  all_goals simp -implicitDefEqProofs [-lookupA, Try.f43, hl, h0, h1, wok_le hro, wok_le' hro, hA, hlk, hi, hi2, fieldValA, p1]

end
theorem any_true {α : Type} {p : α → Bool} {l : List α} {k : Nat} (hk : k < l.length) (h : p l[k] = true) : l.any p = true := List.any_eq_true.2 ⟨_, List.getElem_mem hk, h⟩
namespace F45
noncomputable def cr (p : List Dir) : Code := sub p (bodyOf Try.f45)

section
attribute [local simp] ofV ofCell ofCells seqA_nil seqA_cons seqVK_eq seqEK_eq wantedA yieldedA isVal effA ev evs evps putE optsA optsOk valA fieldAddrA fieldA loadA partA aggA isAggD buildA placesA fillA lay storeA AV.withCells buildSliceA elemsA rowParts fzL promL okE isSrc bytesOk pushA cxOf lenA binA intBinA strBinA unA indexAddrA eqA AVs.inb AV.inb Loc.inb calleeA opsOf sub bodyOf Env.get_set quietA_nil quietA_cons quietK_none quietK_some qstep newA isNew escNew boxOk newLoc flat rowPartsQ quietN quietOp isBS List.takeWhile finishA_eq finK_ret finK_normal retK backK resA oneA AV.back AVs.back execW_seq_eq seqK_normal seqK_ret seqK_exit execW_cond_eq condK_true condK_false execW_block_eq blockK_exit blockK_normal blockK_ret execW_region_eq regK_eq execW_skip execW_exit execW_ret regionA_plain regionA_quiet0 tailK_eq nilCheckA guardOk isConst lookupA keyFits mapUpdateA beqI bneI
theorem rA (cx : Cx) (env : Env) (σ : AS)  (hlen : env.length = 19) (hcx : cx.esc = [])  :
    Pc Try.prog how cx [] 19 [4] (cr [.l]) env σ (.normal) (σ) (fun env' => Env.get env' 4 = .int .i64 0) := by
  refine pc_of fun res hr => ?_
  simp -implicitDefEqProofs [-lenA, -indexAddrA, -loadA, AS.get_push_at, AS.get_push_old, AS.push_len, AS.set_st_len, AS.next_st', AS.set_push_at, AS.get_set_self, AS.get_set_other, cr, Try.f45, hlen, hcx] at hr
  subst hr
  refine ⟨_, rfl, by simp [hlen], by simp [Env.get_set, hlen], fun i hi => ?_⟩
  simp only [List.mem_cons, List.not_mem_nil, or_false, not_or] at hi
  simp only [get_set2, hi, false_and, if_false]

theorem rB (cx : Cx) (env : Env) (σ : AS) (X : AV) (n : Nat) (hlen : env.length = 19) (hcx : cx.esc = []) (f0 : Env.get env 0 = X) (hX : Plain X) (hl : lenA Try.prog σ 33 X = some n) :
    Pc Try.prog how cx [] 19 [6, 7, 8] (cr [.r, .l, .l]) env σ (.normal) (σ) (fun env' => Env.get env' 6 = X ∧ Env.get env' 7 = .int .i64 (n : Int) ∧ Env.get env' 8 = .int .i64 0) := by
  refine pc_of fun res hr => ?_
  simp -implicitDefEqProofs [-lenA, -indexAddrA, -loadA, AS.get_push_at, AS.get_push_old, AS.push_len, AS.set_st_len, AS.next_st', AS.set_push_at, AS.get_set_self, AS.get_set_other, cr, Try.f45, hlen, hcx, f0, hX.one, hX.inb, hX.row, hl] at hr
  subst hr
  refine ⟨_, rfl, by simp [hlen], by simp [Env.get_set, hlen, f0, hX.one, hX.inb, hX.row, hl], fun i hi => ?_⟩
  simp only [List.mem_cons, List.not_mem_nil, or_false, not_or] at hi
  simp only [get_set2, hi, false_and, if_false]

theorem rC (cx : Cx) (env : Env) (σ : AS) (k : Nat) (hlen : env.length = 19) (hcx : cx.esc = []) (f8 : Env.get env 8 = .int .i64 (k : Int)) :
    Pc Try.prog how cx [] 19 [5, 10] (cr [.r, .l, .r, .i, .i, .r, .r, .l, .i, .l]) env σ (.normal) (σ) (fun env' => Env.get env' 5 = .int .i64 (k : Int)) := by
  refine pc_of fun res hr => ?_
  simp -implicitDefEqProofs [-lenA, -indexAddrA, -loadA, AS.get_push_at, AS.get_push_old, AS.push_len, AS.set_st_len, AS.next_st', AS.set_push_at, AS.get_set_self, AS.get_set_other, cr, Try.f45, hlen, hcx, f8] at hr
  subst hr
  refine ⟨_, rfl, by simp [hlen], by simp [Env.get_set, hlen, f8], fun i hi => ?_⟩
  simp only [List.mem_cons, List.not_mem_nil, or_false, not_or] at hi
  simp only [get_set2, hi, false_and, if_false]

theorem rD (cx : Cx) (env : Env) (σ : AS) (k i : Nat) (X p : AV) (key : ByteArray) (num : Int) (b : Bool) (hlen : env.length = 19) (hcx : cx.esc = []) (f0 : Env.get env 0 = X) (f1 : Env.get env 1 = .fn (.func 43) [] [.ptr (.st i) 0]) (f5 : Env.get env 5 = .int .i64 (k : Int)) (hX : Plain X) (hia : indexAddrA Try.prog σ 33 X (.int .i64 (k : Int)) = some p) (hpa : loadA Try.prog σ 84 p = some (.agg [.str key, .int .u64 num])) (h43 : callW Try.prog how 43 [.agg [.str key, .int .u64 num], .ptr (.st i) 0] σ cx.ro = some (.bool b, σ)) :
    Pc Try.prog how cx [] 19 [11, 12, 13, 14, 15, 16] (cr [.r, .l, .r, .i, .i, .r, .r, .l, .i, .r, .l]) env σ (.normal) (σ) (fun env' => Env.get env' 16 = .bool b) := by
  refine pc_of fun res hr => ?_
  simp -implicitDefEqProofs [-lenA, -indexAddrA, -loadA, AS.get_push_at, AS.get_push_old, AS.push_len, AS.set_st_len, AS.next_st', AS.set_push_at, AS.get_set_self, AS.get_set_other, cr, Try.f45, hlen, hcx, f0, f1, f5, hX.one, hX.inb, hX.row, hia, hpa, h43] at hr
  subst hr
  refine ⟨_, rfl, by simp [hlen], by simp [Env.get_set, hlen, f0, f1, f5, hX.one, hX.inb, hX.row, hia, hpa, h43], fun i hi => ?_⟩
  simp only [List.mem_cons, List.not_mem_nil, or_false, not_or] at hi
  simp only [get_set2, hi, false_and, if_false]

theorem rE (cx : Cx) (env : Env) (σ : AS) (k : Nat) (hlen : env.length = 19) (hcx : cx.esc = []) (f5 : Env.get env 5 = .int .i64 (k : Int)) :
    Pc Try.prog how cx [] 19 [4, 17] (cr [.r, .l, .r, .i, .i, .r, .r, .l, .i, .r, .r, .l]) env σ (.ret) (σ) (fun env' => Env.get env' 4 = .int .i64 (k : Int)) := by
  refine pc_of fun res hr => ?_
  simp -implicitDefEqProofs [-lenA, -indexAddrA, -loadA, AS.get_push_at, AS.get_push_old, AS.push_len, AS.set_st_len, AS.next_st', AS.set_push_at, AS.get_set_self, AS.get_set_other, cr, Try.f45, hlen, hcx, f5] at hr
  subst hr
  refine ⟨_, rfl, by simp [hlen], by simp [Env.get_set, hlen, f5], fun i hi => ?_⟩
  simp only [List.mem_cons, List.not_mem_nil, or_false, not_or] at hi
  simp only [get_set2, hi, false_and, if_false]

theorem rZ (cx : Cx) (env : Env) (σ : AS)  (hlen : env.length = 19) (hcx : cx.esc = [])  :
    Pc Try.prog how cx [] 19 [4] (cr [.r, .r, .l]) env σ (.normal) (σ) (fun env' => Env.get env' 4 = .int .i64 (-1)) := by
  refine pc_of fun res hr => ?_
  simp -implicitDefEqProofs [-lenA, -indexAddrA, -loadA, AS.get_push_at, AS.get_push_old, AS.push_len, AS.set_st_len, AS.next_st', AS.set_push_at, AS.get_set_self, AS.get_set_other, cr, Try.f45, hlen, hcx] at hr
  subst hr
  refine ⟨_, rfl, by simp [hlen], by simp [Env.get_set, hlen], fun i hi => ?_⟩
  simp only [List.mem_cons, List.not_mem_nil, or_false, not_or] at hi
  simp only [get_set2, hi, false_and, if_false]

end
noncomputable def bodyC : Code := (.seq (cr [.l]) (.seq (.seq (cr [.r, .l, .l]) (cr [.r, .l, .r])) (.seq (cr [.r, .r, .l]) .ret)))
theorem body : Try.f45.body = some bodyC := by kernel_rfl
/-- What holds ahead of round k. -/
def J (h : Nat) (σ0 : AS) (i : Nat) (X : AV) (rs : List RdI) (p : RdI → Bool) (k : Nat) (env : Env) (σ : AS) : Prop :=
  Env.get env 0 = X ∧ Env.get env 1 = .fn (.func 43) [] [.ptr (.st i) 0] ∧ Env.get env 6 = X ∧ ((rs.take k).any p = false) ∧ σ = σ0
def Ex (h : Nat) (σ0 : AS) (i : Nat) (X : AV) (rs : List RdI) (p : RdI → Bool) (e : AExit) (env : Env) (σ : AS) : Prop := e = .ret ∧ σ = σ0 ∧ rs.any p = true ∧ env.length = 19 ∧ ∃ j : Nat, Env.get env 4 = .int .i64 (j : Int)
theorem J_stable {h : Nat} {σ0 : AS} {i : Nat} {X : AV} {rs : List RdI} {p : RdI → Bool} : ∀ k env env' σ, env.length = 19 → env'.length = 19 → (∀ i, i ≠ 9 → i ≠ 18 → i ≠ 8 → Env.get env' i = Env.get env i) → J h σ0 i X rs p k env σ → J h σ0 i X rs p k env' σ := by
  rintro k env env' σ _ _ hf ⟨j0, j1, j6, q0, ho⟩
  exact ⟨(hf 0 (by decide) (by decide) (by decide)).trans j0, (hf 1 (by decide) (by decide) (by decide)).trans j1, (hf 6 (by decide) (by decide) (by decide)).trans j6, q0, ho⟩
noncomputable def oT : Oper := (opsOf (cr [.r, .l, .r, .i, .i, .l])).headD default
noncomputable def oI : List Oper := opsOf (cr [.r, .l, .r, .i, .i, .r, .r, .r])
theorem loop_eq : (cr [.r, .l, .r]) = .block 0 (.loop (.seq (.region 2 #[oT] false) (.seq (.cond (.tmp 9) .skip (.exit 0)) (.seq (.block 1 (.seq (cr [.r, .l, .r, .i, .i, .r, .r, .l, .i, .l]) (.seq (cr [.r, .l, .r, .i, .i, .r, .r, .l, .i, .r, .l]) (.cond (.tmp 16) (cr [.r, .l, .r, .i, .i, .r, .r, .l, .i, .r, .r, .l]) .skip)))) (.region 6 #[oI.headD default, (oI.drop 1).headD default] false))))) := by kernel_rfl
theorem step (cx : Cx) (hcx : cx.esc = []) (hro : ∀ k, cx.ro = some k → k ≤ cx.h) (σ0 : AS) (i : Nat) (X : AV) (rs : List RdI) (p : RdI → Bool) (hS : SlOf 2 X (rs.map encRd)) (h43 : ∀ r : RdI, callW Try.prog how 43 [encRd r, .ptr (.st i) 0] σ0 cx.ro = some (.bool (p r), σ0)) :
    ∀ k env σ, k < rs.length → env.length = 19 → Env.get env 8 = .int .i64 (k : Int) → Env.get env 7 = .int .i64 ((rs.length : Nat) : Int) → J cx.h σ0 i X rs p k env σ → ∃ e env' σ', execW Try.prog cx [] (callW Try.prog how) (.block 1 (.seq (cr [.r, .l, .r, .i, .i, .r, .r, .l, .i, .l]) (.seq (cr [.r, .l, .r, .i, .i, .r, .r, .l, .i, .r, .l]) (.cond (.tmp 16) (cr [.r, .l, .r, .i, .i, .r, .r, .l, .i, .r, .r, .l]) .skip)))) (env, σ) = some (e, (env', σ')) ∧
      ((e = .normal ∧ env'.length = 19 ∧ Env.get env' 8 = .int .i64 (k : Int) ∧ Env.get env' 7 = .int .i64 ((rs.length : Nat) : Int) ∧ J cx.h σ0 i X rs p (k + 1) env' σ') ∨ (e ≠ .normal ∧ Ex cx.h σ0 i X rs p e env' σ')) := by
  rintro k env σ hk hlen f8 f7 ⟨f0, f1, f6, q0, rfl⟩
  obtain ⟨pp, hia, hpa⟩ := (rd33 (σ := σ) hS).2 k (encRd rs[k]) (get_el hk)
  obtain ⟨env1, x1a, x1b, x1c, x1d⟩ := rC cx env σ k hlen hcx f8  
  have f0 := (x1d 0 (by decide)).trans f0
  have f1 := (x1d 1 (by decide)).trans f1
  have f6 := (x1d 6 (by decide)).trans f6
  have f7 := (x1d 7 (by decide)).trans f7
  have f8 := (x1d 8 (by decide)).trans f8
  have f5 := x1c
  obtain ⟨env2, x2a, x2b, x2c, x2d⟩ := rD cx env1 σ k i X pp (rs[k].1) (rs[k].2) _ x1b hcx f0 f1 f5 hS.plain hia hpa (h43 rs[k]) 
  have f0 := (x2d 0 (by decide)).trans f0
  have f1 := (x2d 1 (by decide)).trans f1
  have f5 := (x2d 5 (by decide)).trans f5
  have f6 := (x2d 6 (by decide)).trans f6
  have f7 := (x2d 7 (by decide)).trans f7
  have f8 := (x2d 8 (by decide)).trans f8
  have f16 := x2c
  have ev1 := ev_tmp f16
  cases q : p rs[k] with
  | true =>
    rw [q] at ev1
    obtain ⟨env3, x3a, x3b, x3c, x3d⟩ := rE cx env2 σ k x2b hcx f5  
    have f0 := (x3d 0 (by decide)).trans f0
    have f1 := (x3d 1 (by decide)).trans f1
    have f5 := (x3d 5 (by decide)).trans f5
    have f6 := (x3d 6 (by decide)).trans f6
    have f7 := (x3d 7 (by decide)).trans f7
    have f8 := (x3d 8 (by decide)).trans f8
    have f16 := (x3d 16 (by decide)).trans f16
    have f4 := x3c
    exact ⟨.ret, env3, _, (block_exit (execW_seq_of x1a (execW_seq_of x2a (execW_cond_t ev1 x3a))) (by simp)), .inr ⟨by simp, rfl, rfl, any_true hk q, x3b, k, f4⟩⟩
  | false =>
    rw [q] at ev1
    exact ⟨.normal, env2, _, (execW_block_of (execW_seq_of x1a (execW_seq_of x2a (execW_cond_f ev1 (by rfl))))), .inl ⟨rfl, x2b, f8, f7, f0, f1, f6, (by rw [any_take_succ hk, q0, q]; rfl), rfl⟩⟩
theorem loop (cx : Cx) (hcx : cx.esc = []) (hro : ∀ k, cx.ro = some k → k ≤ cx.h) (σ0 : AS) (i : Nat) (X : AV) (rs : List RdI) (p : RdI → Bool) (hS : SlOf 2 X (rs.map encRd)) (h43 : ∀ r : RdI, callW Try.prog how 43 [encRd r, .ptr (.st i) 0] σ0 cx.ro = some (.bool (p r), σ0)) (hnn : rs.length ≤ 9223372036854775807) {env : Env} {σ : AS} (hl : env.length = 19) (h1 : Env.get env 8 = .int .i64 0) (h2 : Env.get env 7 = .int .i64 ((rs.length : Nat) : Int)) (h0 : J cx.h σ0 i X rs p 0 env σ) :
    ∃ e env' σ', execW Try.prog cx [] (callW Try.prog how) (cr [.r, .l, .r]) (env, σ) = some (e, (env', σ')) ∧ ((e = .normal ∧ ((env'.length = 19 ∧ J cx.h σ0 i X rs p (rs.length) env' σ') ∨ Ex cx.h σ0 i X rs p (.exit 0) env' σ')) ∨ (e ≠ .normal ∧ e ≠ .exit 0 ∧ Ex cx.h σ0 i X rs p e env' σ')) := by
  rw [loop_eq]
  exact range_std (Ex := Ex cx.h σ0 i X rs p) (N := 19) (tc := 9) (ti := 8) (tl := 7) (tx := 18) (ty1 := 3) (ty2 := 3) (ty3 := 3) (ty4 := 3) ⟨by kernel_rfl, by kernel_rfl, by kernel_rfl⟩ ⟨by kernel_rfl, by kernel_rfl, by kernel_rfl⟩ ⟨by kernel_rfl, by kernel_rfl, by kernel_rfl⟩ (by decide) hnn J_stable (step cx hcx hro σ0 i X rs p hS h43) hl h1 h2 h0
theorem ok (hp s : List AObj) (ro : Option Nat) (i : Nat) (X : AV) (rs : List RdI) (p : RdI → Bool) (hro' : ∀ k, ro = some k → k ≤ s.length) (hS : SlOf 2 X (rs.map encRd)) (hn1 : rs.length ≤ 900) (h43 : ∀ r : RdI, callW Try.prog how 43 [encRd r, .ptr (.st i) 0] ⟨hp, s⟩ ro = some (.bool (p r), ⟨hp, s⟩)) :
    ∃ n : Int, callW Try.prog how 45 [X, .fn (.func 43) [] [.ptr (.st i) 0]] ⟨hp, s⟩ ro = some (.int .i64 n, ⟨hp, s⟩) ∧ decide (0 ≤ n) = rs.any p := by
  let cx : Cx := { h := s.length, ro := ro, esc := [] }
  have hcx : cx.esc = [] := rfl
  have hro : ∀ k, cx.ro = some k → k ≤ cx.h := hro'
  obtain ⟨env, henv⟩ : ∃ e, e = frameA Try.f45 [X, .fn (.func 43) [] [.ptr (.st i) 0]] := ⟨_, rfl⟩
  have hlen : env.length = 19 := by rw [henv]; rfl
  have f0 : Env.get env 0 = X := by rw [henv]; rfl
  have f1 : Env.get env 1 = .fn (.func 43) [] [.ptr (.st i) 0] := by rw [henv]; rfl
  have ho : Outside s.length (AS.mk hp s) (AS.mk hp s) := Outside.refl (Nat.le_refl _)
  have hl1 := (rd33 (σ := AS.mk hp s) hS).1
  rw [List.length_map] at hl1
  obtain ⟨env1, x1a, x1b, x1c, x1d⟩ := rA cx env (AS.mk hp s)  hlen hcx   
  have f0 := (x1d 0 (by decide)).trans f0
  have f1 := (x1d 1 (by decide)).trans f1
  have f4 := x1c
  obtain ⟨env2, x2a, x2b, x2c, x2d⟩ := rB cx env1 (AS.mk hp s) X rs.length x1b hcx f0 hS.plain hl1 
  have f0 := (x2d 0 (by decide)).trans f0
  have f1 := (x2d 1 (by decide)).trans f1
  have f4 := (x2d 4 (by decide)).trans f4
  have f6 := x2c.1
  have f7 := x2c.2.1
  have f8 := x2c.2.2
  obtain ⟨e3, env3, σ3, x3a, x3p⟩ := loop cx hcx hro ⟨hp, s⟩ i X rs p hS h43 (by omega) (σ := AS.mk hp s) x2b f8 f7 (⟨f0, f1, f6, rfl, rfl⟩)
  rcases x3p with ⟨rfl, ⟨x3b, f0, f1, f6, q0, rfl⟩ | x3p⟩ | ⟨x3q, x3r, x3p⟩
  · skip
    rw [List.take_length] at q0
    obtain ⟨env4, x4a, x4b, x4c, x4d⟩ := rZ cx env3 (⟨hp, s⟩)  x3b hcx   
    have f0 := (x4d 0 (by decide)).trans f0
    have f1 := (x4d 1 (by decide)).trans f1
    have f6 := (x4d 6 (by decide)).trans f6
    have f4 := x4c
    exact ⟨-1, call_of (fl := {}) (fn := Try.f45) (c := bodyC) (env := env) (e := (.ret, (env4, ⟨hp, s⟩))) rfl Try.func45 body henv (by unfold bodyC; exact (execW_seq_of x1a (execW_seq_of (execW_seq_of x2a x3a) (execW_seq_of x4a (by rfl))))) ((fin_tmp (k := 4) (.inl rfl) rfl rfl f4 (by simp [AV.back]) (by simp [AV.inb])).trans (congrArg (fun x => some (_, x)) (outside_st ho))), by rw [q0]; rfl⟩
  · cases x3p.1
  · obtain ⟨rfl, rfl, hq, x3b, j, f4⟩ := x3p
    exact ⟨j, call_of (fl := {}) (fn := Try.f45) (c := bodyC) (env := env) (e := (.ret, (env3, ⟨hp, s⟩))) rfl Try.func45 body henv (by unfold bodyC; exact (execW_seq_of x1a (execW_seq_ret (execW_seq_of x2a x3a)))) ((fin_tmp (k := 4) (.inl rfl) rfl rfl f4 (by simp [AV.back]) (by simp [AV.inb])).trans (congrArg (fun x => some (_, x)) (outside_st ho))), by rw [hq]; exact decide_eq_true (by omega)⟩
end F45

section
attribute [local simp] ofV ofCell ofCells seqA_nil seqA_cons seqVK_eq seqEK_eq wantedA yieldedA isVal effA ev evs evps putE optsA optsOk valA fieldAddrA fieldA loadA partA aggA isAggD buildA placesA fillA lay storeA AV.withCells buildSliceA elemsA rowParts fzL promL okE isSrc bytesOk pushA cxOf lenA binA intBinA strBinA unA indexAddrA eqA AVs.inb AV.inb Loc.inb calleeA opsOf sub bodyOf Env.get_set quietA_nil quietA_cons quietK_none quietK_some qstep newA isNew escNew boxOk newLoc flat rowPartsQ quietN quietOp isBS List.takeWhile finishA_eq finK_ret finK_normal retK backK resA oneA AV.back AVs.back execW_seq_eq seqK_normal seqK_ret seqK_exit execW_cond_eq condK_true condK_false execW_block_eq blockK_exit blockK_normal blockK_ret execW_region_eq regK_eq execW_skip execW_exit execW_ret regionA_plain regionA_quiet0 tailK_eq nilCheckA guardOk isConst lookupA keyFits mapUpdateA beqI bneI
theorem f42_c (hp s : List AObj) (ro : Option Nat) (X F : AV) (n : Int) (hro : ∀ k, ro = some k → k ≤ s.length) (hX : Plain X) (hF1 : F.one = true) (h45 : callW Try.prog how 45 [X, F] ⟨hp, s⟩ ro = some (.int .i64 n, ⟨hp, s⟩)) :
    callW Try.prog how 42 [X, F] ⟨hp, s⟩ ro = some (.bool (decide (0 ≤ n)), ⟨hp, s⟩) := by
  refine callW_body (fl := {}) (fn := Try.f42) (c := bodyOf Try.f42) rfl Try.func42 rfl ?_
  have henv : ∃ e, e = frameA Try.f42 [X, F] := ⟨_, rfl⟩
  obtain ⟨env, henv⟩ := henv
  have hl : env.length = 9 := by rw [henv]; rfl
  have h0 : Env.get env 0 = X := by rw [henv]; rfl
  have h1 : Env.get env 1 = F := by rw [henv]; rfl
  rw [← henv]
  clear henv
  by_cases p1 : 0 ≤ n
  all_goals simp -implicitDefEqProofs [Try.f42, hl, h0, h1, wok_le hro, wok_le' hro, hX.one, hX.inb, hX.row, hF1, h45, p1]

theorem f39_c (hp s : List AObj) (ro : Option Nat) (a : Nat) (b : Bool) (tc ts : Int) (pl : Bool) (X Y : AV) (hro : ∀ k, ro = some k → k ≤ s.length) (hX : Plain X) (hY : Plain Y) (st : List AObj) (hst : st = [.cells [.ptr (.hp a) 0], .cells [.int .i64 tc, .int .u64 ts, .bool pl, X, Y]]) (h42 : callW Try.prog how 42 [X, .fn (.func 43) [] [.ptr (.st s.length) 0]] ⟨hp, s ++ st⟩ ro = some (.bool b, ⟨hp, s ++ st⟩)) :
    callW Try.prog how 39 [.ptr (.hp a) 0, .agg [.int .i64 tc, .int .u64 ts, .bool pl, X, Y]] ⟨hp, s⟩ ro = some (.bool (!b), ⟨hp, s⟩) := by
  refine callW_body (fl := {}) (fn := Try.f39) (c := bodyOf Try.f39) rfl Try.func39 rfl ?_
  have henv : ∃ e, e = frameA Try.f39 [.ptr (.hp a) 0, .agg [.int .i64 tc, .int .u64 ts, .bool pl, X, Y]] := ⟨_, rfl⟩
  obtain ⟨env, henv⟩ := henv
  have hl : env.length = 10 := by rw [henv]; rfl
  have h0 : Env.get env 0 = .ptr (.hp a) 0 := by rw [henv]; rfl
  have h1 : Env.get env 1 = .agg [.int .i64 tc, .int .u64 ts, .bool pl, X, Y] := by rw [henv]; rfl
  rw [← henv]
  clear henv
  subst hst
  simp -implicitDefEqProofs [Try.f39, hl, h0, h1, wok_le hro, wok_le' hro, hX.one, hX.inb, hX.row, hX.cells, hY.one, hY.inb, hY.row, hY.cells, h42]

end