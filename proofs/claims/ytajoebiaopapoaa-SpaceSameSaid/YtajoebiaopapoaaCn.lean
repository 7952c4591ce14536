/- The document's row with a key turned: its loop. -/

import Derived.Test.YtajoebiaopapoaaCm
open Go Go.Abs Go.Proofs
set_option maxRecDepth 100000
set_option maxHeartbeats 4000000
set_option linter.unusedSimpArgs false
set_option linter.unusedVariables false

def stepS (key : ByteArray) (l : List Vn) (a : List Rw × Bool) (r : Rw) : List Rw × Bool :=
  ((if (!a.2 && !ltS r.1 key) = true then a.1 ++ [(key, l)] else a.1) ++ (if r.1 = key then [] else [r]), a.2 || (!a.2 && !ltS r.1 key))
def accS (key : ByteArray) (l : List Vn) (S : List Rw) : List Rw × Bool := S.foldl (stepS key l) ([], l.isEmpty)
def setS (key : ByteArray) (l : List Vn) (S : List Rw) : List Rw := if (accS key l S).2 = true then (accS key l S).1 else (accS key l S).1 ++ [(key, l)]
theorem accS_succ {key : ByteArray} {l : List Vn} {S : List Rw} {k : Nat} (hk : k < S.length) : accS key l (S.take (k + 1)) = stepS key l (accS key l (S.take k)) S[k] := by
  unfold accS
  rw [List.take_succ_eq_append_getElem hk, List.foldl_append]
  rfl
theorem foldS_len (key : ByteArray) (l : List Vn) : ∀ (S : List Rw) (a : List Rw × Bool), (S.foldl (stepS key l) a).1.length ≤ a.1.length + 2 * S.length
  | [], a => by simp
  | r :: S, a => by
    rw [List.foldl_cons]
    refine Nat.le_trans (foldS_len key l S _) ?_
    have h : (stepS key l a r).1.length ≤ a.1.length + 2 := by
      unfold stepS
      simp only [List.length_append]
      split <;> split <;> simp
    simp only [List.length_cons]
    omega
theorem accS_len (key : ByteArray) (l : List Vn) (S : List Rw) : (accS key l S).1.length ≤ 2 * S.length := by
  have := foldS_len key l S ([], l.isEmpty)
  unfold accS
  simpa using this
theorem foldS_done (key : ByteArray) (l : List Vn) : ∀ (S : List Rw) (a : List Rw × Bool), a.2 = true → (S.foldl (stepS key l) a).2 = true
  | [], a, h => h
  | r :: S, a, h => by
    rw [List.foldl_cons]
    exact foldS_done key l S _ (by simp [stepS, h])
theorem accS_ne {key : ByteArray} {l : List Vn} {S : List Rw} (h : (accS key l S).2 = false) : l ≠ [] := by
  rintro rfl
  have := foldS_done key [] S ([], true) rfl
  unfold accS at h
  rw [show ([] : List Vn).isEmpty = true from rfl] at h
  rw [this] at h
  cases h
def sel (a b : AS) (d : Bool) : AS := if d = true then b else a
/-- A slice that becomes part of an element: what of it is written no more. -/
structure FzOk (h : Nat) (ro : Option Nat) (σ0 σ1 : AS) (key : ByteArray) (Y Y' : AV) : Prop where
  fz : ∀ σ, Outside h σ0 σ → ∃ σ', fzL ro σ [.str key, Y] = some ([.str key, Y'], σ') ∧ Outside h σ1 σ' ∧ (∀ i c, σ.get (.st i) = some (.cells c) → σ'.get (.st i) = some (.cells c)) ∧ (∀ L, Rows h σ L → Rows h σ' L)
theorem fz_slV {h : Nat} {ro : Option Nat} {σ0 : AS} {key : ByteArray} {l : List AV} : FzOk h ro σ0 σ0 key (slV 4 l) (slV 4 l) := ⟨fun σ ho => ⟨σ, by unfold slV; split <;> rfl, ho, fun i c h => h, fun L h => h⟩⟩
theorem fz_plain {ro : Option Nat} {σ : AS} {key : ByteArray} {l : List AV} : fzL ro σ [.str key, slV 4 l] = some ([.str key, slV 4 l], σ) := by unfold slV; split <;> rfl
theorem fz_row {s : List AObj} {hp : List AObj} {key : ByteArray} {i v : Nat} {es : List AV} (hi : s[i]? = some (.row es 4 v false)) : FzOk s.length none ⟨hp, s⟩ ⟨hp, s.set i (.row es 4 v true)⟩ key (.row (.st i) v 0 es.length) (.sl false 4 es) := by
  have hlt : i < s.length := (List.getElem?_eq_some_iff.1 hi).1
  refine ⟨fun σ ho => ⟨σ.set (.st i) (.row es 4 v true), ?_, ?_, fun j c hc => ?_, fun L hL => ⟨fun e he => ?_, hL.2⟩⟩⟩
  · have hg : σ.get (.st i) = some (.row es 4 v false) := by
      have := congrArg (fun l : List AObj => l[i]?) ho.2.1
      simp only [List.getElem?_take, if_pos hlt] at this
      simp only [AS.get]
      rw [this]; exact hi
    simp [fzL, hg, wok]
  · obtain ⟨o1, o2, o3⟩ := ho
    refine ⟨o1, ?_, by simp [AS.set]; exact o3⟩
    simp only [AS.set]
    rw [List.take_set, o2, List.take_set]
  · refine get_set' hc ?_
    rintro rfl
    have hg : σ.get (.st j) = some (.row es 4 v false) := by
      have := congrArg (fun l : List AObj => l[j]?) ho.2.1
      simp only [List.getElem?_take, if_pos hlt] at this
      simp only [AS.get]
      rw [this]; exact hi
    rw [hg] at hc
    cases hc
  · rcases hL.1 e he with hh | ⟨hn, im, v', hR, hg, him⟩
    · exact .inl hh
    · exact .inr ⟨hn, im, v', hR, get_set' hg (by omega), him⟩
namespace F51
noncomputable def cr (p : List Dir) : Code := sub p (bodyOf Try.f51)

section
attribute [local simp] ofV ofCell ofCells seqA_nil seqA_cons seqVK_eq seqEK_eq wantedA yieldedA isVal effA ev evs evps putE optsA optsOk valA fieldAddrA fieldA loadA partA aggA isAggD buildA placesA fillA lay storeA AV.withCells buildSliceA elemsA rowParts fzL promL okE isSrc bytesOk pushA cxOf lenA binA intBinA strBinA unA indexAddrA eqA AVs.inb AV.inb Loc.inb calleeA opsOf sub bodyOf Env.get_set quietA_nil quietA_cons quietK_none quietK_some qstep newA isNew escNew boxOk newLoc flat rowPartsQ quietN quietOp isBS List.takeWhile finishA_eq finK_ret finK_normal retK backK resA oneA AV.back AVs.back execW_seq_eq seqK_normal seqK_ret seqK_exit execW_cond_eq condK_true condK_false execW_block_eq blockK_exit blockK_normal blockK_ret execW_region_eq regK_eq execW_skip execW_exit execW_ret regionA_plain regionA_quiet0 tailK_eq nilCheckA guardOk isConst lookupA keyFits mapUpdateA beqI bneI
theorem rA (cx : Cx) (env : Env) (σ : AS)  (hlen : env.length = 57) (hcx : cx.esc = [])  :
    Pc Try.prog how cx [] 57 [6] (cr [.l]) env σ (.normal) (σ) (fun env' => Env.get env' 6 = .nils) := by
  refine pc_of fun res hr => ?_
  simp -implicitDefEqProofs [-lenA, -indexAddrA, -fzL, AS.get_push_at, AS.get_push_old, AS.push_len, AS.set_st_len, AS.next_st', AS.set_push_at, AS.get_set_self, AS.get_set_other, cr, Try.f51, hlen, hcx] at hr
  subst hr
  refine ⟨_, rfl, by simp [hlen], by simp [Env.get_set, hlen], fun i hi => ?_⟩
  simp only [List.mem_cons, List.not_mem_nil, or_false, not_or] at hi
  simp only [get_set2, hi, false_and, if_false]

theorem rB0 (cx : Cx) (env : Env) (σ : AS) (Y : AV) (hlen : env.length = 57) (hcx : cx.esc = []) (f2 : Env.get env 2 = Y) (hY : lenA Try.prog σ 34 Y = some 0) :
    Pc Try.prog how cx [] 57 [7, 10, 11, 12] (cr [.r, .l]) env σ (.normal) (σ) (fun env' => Env.get env' 7 = .bool true) := by
  refine pc_of fun res hr => ?_
  simp -implicitDefEqProofs [-lenA, -indexAddrA, -fzL, AS.get_push_at, AS.get_push_old, AS.push_len, AS.set_st_len, AS.next_st', AS.set_push_at, AS.get_set_self, AS.get_set_other, cr, Try.f51, hlen, hcx, f2, hY] at hr
  subst hr
  refine ⟨_, rfl, by simp [hlen], by simp [Env.get_set, hlen, f2, hY], fun i hi => ?_⟩
  simp only [List.mem_cons, List.not_mem_nil, or_false, not_or] at hi
  simp only [get_set2, hi, false_and, if_false]

theorem rB1 (cx : Cx) (env : Env) (σ : AS) (Y : AV) (n : Nat) (hlen : env.length = 57) (hcx : cx.esc = []) (f2 : Env.get env 2 = Y) (hY : lenA Try.prog σ 34 Y = some n) (hn : ¬ n = 0) (hn2 : ¬ (n : Int) = 0) :
    Pc Try.prog how cx [] 57 [7, 10, 11, 12] (cr [.r, .l]) env σ (.normal) (σ) (fun env' => Env.get env' 7 = .bool false) := by
  refine pc_of fun res hr => ?_
  simp -implicitDefEqProofs [-lenA, -indexAddrA, -fzL, AS.get_push_at, AS.get_push_old, AS.push_len, AS.set_st_len, AS.next_st', AS.set_push_at, AS.get_set_self, AS.get_set_other, cr, Try.f51, hlen, hcx, f2, hY, hn, hn2] at hr
  subst hr
  refine ⟨_, rfl, by simp [hlen], by simp [Env.get_set, hlen, f2, hY, hn, hn2], fun i hi => ?_⟩
  simp only [List.mem_cons, List.not_mem_nil, or_false, not_or] at hi
  simp only [get_set2, hi, false_and, if_false]

theorem rC (cx : Cx) (env : Env) (σ : AS) (b n : Nat) (X : AV) (hlen : env.length = 57) (hcx : cx.esc = []) (f0 : Env.get env 0 = .ptr (.hp b) 0) (hA : σ.get (.hp b) = some (.cells [X])) (hX : lenA Try.prog σ 26 X = some n) :
    Pc Try.prog how cx [] 57 [13, 14, 15, 16, 17, 18] (cr [.r, .r, .l, .l]) env σ (.normal) (σ) (fun env' => Env.get env' 16 = X ∧ Env.get env' 17 = .int .i64 (n : Int) ∧ Env.get env' 18 = .int .i64 0) := by
  refine pc_of fun res hr => ?_
  simp -implicitDefEqProofs [-lenA, -indexAddrA, -fzL, AS.get_push_at, AS.get_push_old, AS.push_len, AS.set_st_len, AS.next_st', AS.set_push_at, AS.get_set_self, AS.get_set_other, cr, Try.f51, hlen, hcx, f0, hA, hX] at hr
  subst hr
  refine ⟨_, rfl, by simp [hlen], by simp [Env.get_set, hlen, f0, hA, hX], fun i hi => ?_⟩
  simp only [List.mem_cons, List.not_mem_nil, or_false, not_or] at hi
  simp only [get_set2, hi, false_and, if_false]

theorem rE (cx : Cx) (env : Env) (σ : AS) (k : Nat) (X p Y0 : AV) (k0 : ByteArray) (hlen : env.length = 57) (hcx : cx.esc = []) (f16 : Env.get env 16 = X) (f18 : Env.get env 18 = .int .i64 (k : Int)) (hia : indexAddrA Try.prog σ 26 X (.int .i64 (k : Int)) = some p) (hpa : loadA Try.prog σ 36 p = some (.agg [.str k0, Y0])) (hY : Plain Y0) (hw : wok cx.ro (.st σ.st.length) = true) (hh : cx.h ≤ σ.st.length) :
    Pc Try.prog how cx [] 57 [9, 20, 21] (cr [.r, .r, .l, .r, .i, .i, .r, .r, .l, .i, .l]) env σ (.normal) (σ.push false (.cells [.str k0, Y0])) (fun env' => Env.get env' 9 = .ptr (.st σ.st.length) 0) := by
  refine pc_of fun res hr => ?_
  simp -implicitDefEqProofs [-lenA, -indexAddrA, -loadA, AS.get_push_at, AS.get_push_old, AS.push_len, AS.set_st_len, AS.next_st', AS.set_push_at, AS.get_set_self, AS.get_set_other, cr, Try.f51, hlen, hcx, f16, f18, hia, hpa, hY.one, hY.inb, hY.row, hw, hh] at hr
  subst hr
  refine ⟨_, rfl, by simp [hlen], by simp [Env.get_set, hlen, f16, f18, hia, hpa, hY.one, hY.inb, hY.row, hw, hh], fun i hi => ?_⟩
  simp only [List.mem_cons, List.not_mem_nil, or_false, not_or] at hi
  simp only [get_set2, hi, false_and, if_false]

theorem rG1 (cx : Cx) (env : Env) (σ : AS) (c : Nat) (Y0 : AV) (k0 key : ByteArray) (hlen : env.length = 57) (hcx : cx.esc = []) (f1 : Env.get env 1 = .str key) (f9 : Env.get env 9 = .ptr (.st c) 0) (f7 : Env.get env 7 = .bool true) (gc : σ.get (.st c) = some (.cells [.str k0, Y0])) :
    Pc Try.prog how cx [] 57 [22, 23, 24, 25, 26, 27, 28, 29] (cr [.r, .r, .l, .r, .i, .i, .r, .r, .l, .i, .r, .l]) env σ (.normal) (σ) (fun _ => True) := by
  refine pc_of fun res hr => ?_
  simp -implicitDefEqProofs [-lenA, -indexAddrA, -fzL, AS.get_push_at, AS.get_push_old, AS.push_len, AS.set_st_len, AS.next_st', AS.set_push_at, AS.get_set_self, AS.get_set_other, cr, Try.f51, hlen, hcx, f1, f9, f7, gc] at hr
  subst hr
  refine ⟨_, rfl, by simp [hlen], by simp [Env.get_set, hlen, f1, f9, f7, gc], fun i hi => ?_⟩
  simp only [List.mem_cons, List.not_mem_nil, or_false, not_or] at hi
  simp only [get_set2, hi, false_and, if_false]

theorem rG2 (cx : Cx) (env : Env) (σ : AS) (c : Nat) (Y0 : AV) (k0 key : ByteArray) (hlen : env.length = 57) (hcx : cx.esc = []) (f1 : Env.get env 1 = .str key) (f9 : Env.get env 9 = .ptr (.st c) 0) (f7 : Env.get env 7 = .bool false) (gc : σ.get (.st c) = some (.cells [.str k0, Y0])) (hq : ltS k0 key = true) :
    Pc Try.prog how cx [] 57 [22, 23, 24, 25, 26, 27, 28, 29] (cr [.r, .r, .l, .r, .i, .i, .r, .r, .l, .i, .r, .l]) env σ (.normal) (σ) (fun _ => True) := by
  refine pc_of fun res hr => ?_
  simp -implicitDefEqProofs [-lenA, -indexAddrA, -fzL, AS.get_push_at, AS.get_push_old, AS.push_len, AS.set_st_len, AS.next_st', AS.set_push_at, AS.get_set_self, AS.get_set_other, cr, Try.f51, hlen, hcx, f1, f9, f7, gc, hq] at hr
  subst hr
  refine ⟨_, rfl, by simp [hlen], by simp [Env.get_set, hlen, f1, f9, f7, gc, hq], fun i hi => ?_⟩
  simp only [List.mem_cons, List.not_mem_nil, or_false, not_or] at hi
  simp only [get_set2, hi, false_and, if_false]

theorem rG3 (cx : Cx) (env : Env) (σ : AS) (c : Nat) (Y0 : AV) (k0 key : ByteArray) (Y Y' : AV) (σa : AS) (R' : AV) (R : AV) (σ' : AS) (hlen : env.length = 57) (hcx : cx.esc = []) (f1 : Env.get env 1 = .str key) (f9 : Env.get env 9 = .ptr (.st c) 0) (f2 : Env.get env 2 = Y) (f6 : Env.get env 6 = R) (f7 : Env.get env 7 = .bool false) (gc : σ.get (.st c) = some (.cells [.str k0, Y0])) (hq : ltS k0 key = false) (hY1 : Y.one = true) (hYc : Y.cells = [Y]) (hZ : Plain Y') (hfz : fzL cx.ro σ [.str key, Y] = some ([.str key, Y'], σa)) (hap : appendA Try.prog cx (σa.push false (.row [.agg [.str key, Y']] 2 0 false)) [26, 26] R (.row (.st σa.st.length) 0 0 1) = some (R', σ')) :
    Pc Try.prog how cx [] 57 [6, 7, 22, 23, 24, 25, 26, 27, 28, 29, 30, 31, 32, 33, 34, 35] (cr [.r, .r, .l, .r, .i, .i, .r, .r, .l, .i, .r, .l]) env σ (.normal) (σ') (fun env' => Env.get env' 6 = R' ∧ Env.get env' 7 = .bool true) := by
  refine pc_of fun res hr => ?_
  simp -implicitDefEqProofs [-lenA, -indexAddrA, -fzL, AS.get_push_at, AS.get_push_old, AS.push_len, AS.set_st_len, AS.next_st', AS.set_push_at, AS.get_set_self, AS.get_set_other, cr, Try.f51, hlen, hcx, f1, f9, f2, f6, f7, gc, hq, hY1, hYc, hZ.one, hZ.inb, hZ.row, hZ.cells, hfz, hap, elemA] at hr
  subst hr
  refine ⟨_, rfl, by simp [hlen], by simp [Env.get_set, hlen, f1, f9, f2, f6, f7, gc, hq, hY1, hYc, hZ.one, hZ.inb, hZ.row, hZ.cells, hfz, hap, elemA], fun i hi => ?_⟩
  simp only [List.mem_cons, List.not_mem_nil, or_false, not_or] at hi
  simp only [get_set2, hi, false_and, if_false]

theorem rH1 (cx : Cx) (env : Env) (σ : AS) (c : Nat) (Y0 : AV) (k0 key : ByteArray) (hlen : env.length = 57) (hcx : cx.esc = []) (f1 : Env.get env 1 = .str key) (f9 : Env.get env 9 = .ptr (.st c) 0) (gc : σ.get (.st c) = some (.cells [.str k0, Y0])) (hq : beqS k0 key = true) :
    Pc Try.prog how cx [] 57 [36, 37, 38, 39] (cr [.r, .r, .l, .r, .i, .i, .r, .r, .l, .i, .r, .r]) env σ (.normal) (σ) (fun _ => True) := by
  refine pc_of fun res hr => ?_
  simp -implicitDefEqProofs [-lenA, -indexAddrA, -fzL, AS.get_push_at, AS.get_push_old, AS.push_len, AS.set_st_len, AS.next_st', AS.set_push_at, AS.get_set_self, AS.get_set_other, cr, Try.f51, hlen, hcx, f1, f9, gc, hq] at hr
  subst hr
  refine ⟨_, rfl, by simp [hlen], by simp [Env.get_set, hlen, f1, f9, gc, hq], fun i hi => ?_⟩
  simp only [List.mem_cons, List.not_mem_nil, or_false, not_or] at hi
  simp only [get_set2, hi, false_and, if_false]

theorem rH2 (cx : Cx) (env : Env) (σ : AS) (c : Nat) (Y0 : AV) (k0 key : ByteArray) (R' : AV) (R : AV) (σ' : AS) (hlen : env.length = 57) (hcx : cx.esc = []) (f1 : Env.get env 1 = .str key) (f9 : Env.get env 9 = .ptr (.st c) 0) (f6 : Env.get env 6 = R) (gc : σ.get (.st c) = some (.cells [.str k0, Y0])) (hq : beqS k0 key = false) (hZ : Plain Y0) (hfz : fzL cx.ro σ [.str k0, Y0] = some ([.str k0, Y0], σ)) (hap : appendA Try.prog cx (σ.push false (.row [.agg [.str k0, Y0]] 2 0 false)) [26, 26] R (.row (.st σ.st.length) 0 0 1) = some (R', σ')) :
    Pc Try.prog how cx [] 57 [6, 36, 37, 38, 39, 40, 41, 42, 43] (cr [.r, .r, .l, .r, .i, .i, .r, .r, .l, .i, .r, .r]) env σ (.normal) (σ') (fun env' => Env.get env' 6 = R') := by
  refine pc_of fun res hr => ?_
  simp -implicitDefEqProofs [-lenA, -indexAddrA, -fzL, AS.get_push_at, AS.get_push_old, AS.push_len, AS.set_st_len, AS.next_st', AS.set_push_at, AS.get_set_self, AS.get_set_other, cr, Try.f51, hlen, hcx, f1, f9, f6, gc, hq, hZ.one, hZ.inb, hZ.row, hZ.cells, hfz, hap, elemA] at hr
  subst hr
  refine ⟨_, rfl, by simp [hlen], by simp [Env.get_set, hlen, f1, f9, f6, gc, hq, hZ.one, hZ.inb, hZ.row, hZ.cells, hfz, hap, elemA], fun i hi => ?_⟩
  simp only [List.mem_cons, List.not_mem_nil, or_false, not_or] at hi
  simp only [get_set2, hi, false_and, if_false]

theorem rT1 (cx : Cx) (env : Env) (σ : AS)  (hlen : env.length = 57) (hcx : cx.esc = []) (f7 : Env.get env 7 = .bool true) :
    Pc Try.prog how cx [] 57 [45, 46] (cr [.r, .r, .r, .l]) env σ (.normal) (σ) (fun _ => True) := by
  refine pc_of fun res hr => ?_
  simp -implicitDefEqProofs [-lenA, -indexAddrA, -fzL, AS.get_push_at, AS.get_push_old, AS.push_len, AS.set_st_len, AS.next_st', AS.set_push_at, AS.get_set_self, AS.get_set_other, cr, Try.f51, hlen, hcx, f7] at hr
  subst hr
  refine ⟨_, rfl, by simp [hlen], by simp [Env.get_set, hlen, f7], fun i hi => ?_⟩
  simp only [List.mem_cons, List.not_mem_nil, or_false, not_or] at hi
  simp only [get_set2, hi, false_and, if_false]

theorem rT2 (cx : Cx) (env : Env) (σ : AS) (key : ByteArray) (Y Y' : AV) (σa : AS) (R' : AV) (R : AV) (σ' : AS) (hlen : env.length = 57) (hcx : cx.esc = []) (f1 : Env.get env 1 = .str key) (f2 : Env.get env 2 = Y) (f6 : Env.get env 6 = R) (f7 : Env.get env 7 = .bool false) (hY1 : Y.one = true) (hYc : Y.cells = [Y]) (hZ : Plain Y') (hfz : fzL cx.ro σ [.str key, Y] = some ([.str key, Y'], σa)) (hap : appendA Try.prog cx (σa.push false (.row [.agg [.str key, Y']] 2 0 false)) [26, 26] R (.row (.st σa.st.length) 0 0 1) = some (R', σ')) :
    Pc Try.prog how cx [] 57 [6, 45, 46, 47, 48, 49, 50, 51, 52] (cr [.r, .r, .r, .l]) env σ (.normal) (σ') (fun env' => Env.get env' 6 = R') := by
  refine pc_of fun res hr => ?_
  simp -implicitDefEqProofs [-lenA, -indexAddrA, -fzL, AS.get_push_at, AS.get_push_old, AS.push_len, AS.set_st_len, AS.next_st', AS.set_push_at, AS.get_set_self, AS.get_set_other, cr, Try.f51, hlen, hcx, f1, f2, f6, f7, hY1, hYc, hZ.one, hZ.inb, hZ.row, hZ.cells, hfz, hap, elemA] at hr
  subst hr
  refine ⟨_, rfl, by simp [hlen], by simp [Env.get_set, hlen, f1, f2, f6, f7, hY1, hYc, hZ.one, hZ.inb, hZ.row, hZ.cells, hfz, hap, elemA], fun i hi => ?_⟩
  simp only [List.mem_cons, List.not_mem_nil, or_false, not_or] at hi
  simp only [get_set2, hi, false_and, if_false]

theorem rZ1 (cx : Cx) (env : Env) (σ : AS) (b : Nat) (X : AV) (hlen : env.length = 57) (hcx : cx.esc = []) (f0 : Env.get env 0 = .ptr (.hp b) 0) (f6 : Env.get env 6 = .nils) (hA : σ.get (.hp b) = some (.cells [X])) (hro0 : cx.ro = none) :
    Pc Try.prog how cx [] 57 [53, 54, 55, 56] (cr [.r, .r, .r, .r]) env σ (.normal) (σ.set (.hp b) (.cells [.nils])) (fun _ => True) := by
  refine pc_of fun res hr => ?_
  simp -implicitDefEqProofs [-lenA, -indexAddrA, -fzL, AS.get_push_at, AS.get_push_old, AS.push_len, AS.set_st_len, AS.next_st', AS.set_push_at, AS.get_set_self, AS.get_set_other, cr, Try.f51, hlen, hcx, f0, f6, hA, hro0] at hr
  subst hr
  refine ⟨_, rfl, by simp [hlen], by simp [Env.get_set, hlen, f0, f6, hA, hro0], fun i hi => ?_⟩
  simp only [List.mem_cons, List.not_mem_nil, or_false, not_or] at hi
  simp only [get_set2, hi, false_and, if_false]

theorem rZ2 (cx : Cx) (env : Env) (σ : AS) (b i w n : Nat) (es : List AV) (X : AV) (hlen : env.length = 57) (hcx : cx.esc = []) (f0 : Env.get env 0 = .ptr (.hp b) 0) (f6 : Env.get env 6 = .row (.st i) w 0 n) (hA : σ.get (.hp b) = some (.cells [X])) (hro0 : cx.ro = none) (hi : σ.st[i]? = some (.row es 2 w false)) :
    Pc Try.prog how cx [] 57 [53, 54, 55, 56] (cr [.r, .r, .r, .r]) env σ (.normal) (AS.set (AS.mk (σ.hp ++ [.row es 2 w false]) (σ.st.set i .dead)) (.hp b) (.cells [.row (.hp σ.hp.length) w 0 n])) (fun _ => True) := by
  refine pc_of fun res hr => ?_
  simp -implicitDefEqProofs [-lenA, -indexAddrA, -fzL, AS.get_push_at, AS.get_push_old, AS.push_len, AS.set_st_len, AS.next_st', AS.set_push_at, AS.get_set_self, AS.get_set_other, cr, Try.f51, hlen, hcx, f0, f6, hA, hro0, hi] at hr
  subst hr
  refine ⟨_, rfl, by simp [hlen], by simp [Env.get_set, hlen, f0, f6, hA, hro0, hi], fun i hi => ?_⟩
  simp only [List.mem_cons, List.not_mem_nil, or_false, not_or] at hi
  simp only [get_set2, hi, false_and, if_false]

end
noncomputable def bodyC : Code := (.seq (cr [.l]) (.seq (cr [.r, .l]) (.seq (.seq (cr [.r, .r, .l, .l]) (cr [.r, .r, .l, .r])) (.seq (cr [.r, .r, .r, .l]) (cr [.r, .r, .r, .r])))))
theorem body : Try.f51.body = some bodyC := by kernel_rfl
/-- What holds ahead of round k. -/
def J (h : Nat) (σ0 : AS) (σ1 : AS) (b : Nat) (key : ByteArray) (l : List Vn) (Y X : AV) (S : List Rw) (k : Nat) (env : Env) (σ : AS) : Prop :=
  Env.get env 0 = .ptr (.hp b) 0 ∧ Env.get env 1 = .str key ∧ Env.get env 2 = Y ∧ Env.get env 16 = X ∧ Env.get env 7 = .bool (accS key l (S.take k)).2 ∧ (∃ R0, Env.get env 6 = R0 ∧ Rows h σ [(2, R0, (accS key l (S.take k)).1.map encRow)]) ∧ Outside h (sel σ0 σ1 (accS key l (S.take k)).2) σ
def Ex (h : Nat) (σ0 : AS) (σ1 : AS) (b : Nat) (key : ByteArray) (l : List Vn) (Y X : AV) (S : List Rw) (e : AExit) (env : Env) (σ : AS) : Prop := False
theorem J_stable {h : Nat} {σ0 : AS} {σ1 : AS} {b : Nat} {key : ByteArray} {l : List Vn} {Y X : AV} {S : List Rw} : ∀ k env env' σ, env.length = 57 → env'.length = 57 → (∀ i, i ≠ 19 → i ≠ 44 → i ≠ 18 → Env.get env' i = Env.get env i) → J h σ0 σ1 b key l Y X S k env σ → J h σ0 σ1 b key l Y X S k env' σ := by
  rintro k env env' σ _ _ hf ⟨j0, j1, j2, j16, j7, ⟨R0, r0, hR⟩, ho⟩
  exact ⟨(hf 0 (by decide) (by decide) (by decide)).trans j0, (hf 1 (by decide) (by decide) (by decide)).trans j1, (hf 2 (by decide) (by decide) (by decide)).trans j2, (hf 16 (by decide) (by decide) (by decide)).trans j16, (hf 7 (by decide) (by decide) (by decide)).trans j7, ⟨R0, (hf 6 (by decide) (by decide) (by decide)).trans r0, hR⟩, ho⟩
noncomputable def oT : Oper := (opsOf (cr [.r, .r, .l, .r, .i, .i, .l])).headD default
noncomputable def oI : List Oper := opsOf (cr [.r, .r, .l, .r, .i, .i, .r, .r, .r])
theorem loop_eq : (cr [.r, .r, .l, .r]) = .block 0 (.loop (.seq (.region 3 #[oT] false) (.seq (.cond (.tmp 19) .skip (.exit 0)) (.seq (.block 1 (.seq (cr [.r, .r, .l, .r, .i, .i, .r, .r, .l, .i, .l]) (.seq (cr [.r, .r, .l, .r, .i, .i, .r, .r, .l, .i, .r, .l]) (cr [.r, .r, .l, .r, .i, .i, .r, .r, .l, .i, .r, .r])))) (.region 10 #[oI.headD default, (oI.drop 1).headD default] false))))) := by kernel_rfl
theorem step (cx : Cx) (hcx : cx.esc = []) (hro : ∀ k, cx.ro = some k → k ≤ cx.h) (σ0 : AS) (σ1 : AS) (b : Nat) (key : ByteArray) (l : List Vn) (Y X : AV) (S : List Rw) (hX : HRow σ0.hp X (S.map encRow)) (hsh : σ1.hp = σ0.hp) (hlen2 : S.length ≤ 200) (hY1 : Y.one = true) (hF : l ≠ [] → FzOk cx.h cx.ro σ0 σ1 key Y (slV 4 (l.map encVn))) :
    ∀ k env σ, k < S.length → env.length = 57 → Env.get env 18 = .int .i64 (k : Int) → Env.get env 17 = .int .i64 ((S.length : Nat) : Int) → J cx.h σ0 σ1 b key l Y X S k env σ → ∃ e env' σ', execW Try.prog cx [] (callW Try.prog how) (.block 1 (.seq (cr [.r, .r, .l, .r, .i, .i, .r, .r, .l, .i, .l]) (.seq (cr [.r, .r, .l, .r, .i, .i, .r, .r, .l, .i, .r, .l]) (cr [.r, .r, .l, .r, .i, .i, .r, .r, .l, .i, .r, .r])))) (env, σ) = some (e, (env', σ')) ∧
      ((e = .normal ∧ env'.length = 57 ∧ Env.get env' 18 = .int .i64 (k : Int) ∧ Env.get env' 17 = .int .i64 ((S.length : Nat) : Int) ∧ J cx.h σ0 σ1 b key l Y X S (k + 1) env' σ') ∨ (e ≠ .normal ∧ Ex cx.h σ0 σ1 b key l Y X S e env' σ')) := by
  rintro k env σ hk hlen f18 f17 ⟨f0, f1, f2, f16, f7, ⟨R0, f6, hR⟩, ho⟩
  have hs := accS_succ (key := key) (l := l) hk
  have hal := accS_len key l (S.take k)
  rw [List.length_take] at hal
  have hne := accS_ne (key := key) (l := l) (S := S.take k)
  have hhp : σ.hp = σ0.hp := by have := ho.1; unfold sel at this; split at this <;> rw [this]; exact hsh
  have hXσ : Rd Try.prog σ 26 36 X (S.map encRow) := by have := hX.rd σ.st; rw [← hhp] at this; exact this
  obtain ⟨p, hia, hpa⟩ := hXσ.2 k (encRow S[k]) (by rw [List.getElem?_map, List.getElem?_eq_getElem hk]; rfl)
  generalize accS key l (S.take k) = a at *
  obtain ⟨od, d⟩ := a
  simp only at hal hne f7 hR ho
  obtain ⟨env1, x1a, x1b, x1c, x1d⟩ := rE cx env σ k X p (slV 4 (S[k].2.map encVn)) (S[k].1) hlen hcx f16 f18 hia hpa slV_plain (wokst hro ho.2.2) ho.2.2
  have f0 := (x1d 0 (by decide)).trans f0
  have f1 := (x1d 1 (by decide)).trans f1
  have f2 := (x1d 2 (by decide)).trans f2
  have f6 := (x1d 6 (by decide)).trans f6
  have f7 := (x1d 7 (by decide)).trans f7
  have f16 := (x1d 16 (by decide)).trans f16
  have f17 := (x1d 17 (by decide)).trans f17
  have f18 := (x1d 18 (by decide)).trans f18
  have f9 := x1c
  have g1 : ((σ : AS).push false (.cells [.str S[k].1, slV 4 (S[k].2.map encVn)])).get (.st (σ : AS).st.length) = some (.cells [.str S[k].1, slV 4 (S[k].2.map encVn)]) := AS.get_push_at rfl
  have hR := hR.push (ob := .cells [.str S[k].1, slV 4 (S[k].2.map encVn)])
  have ho := ho.push (ob := .cells [.str S[k].1, slV 4 (S[k].2.map encVn)])
  generalize hib1 : (σ : AS).st.length = ib1 at g1 f9
  generalize (σ : AS).push false (.cells [.str S[k].1, slV 4 (S[k].2.map encVn)]) = σ1 at x1a g1 hR ho
  have hq := beqS_dec S[k].1 key
  cases d with
  | true =>
    obtain ⟨env2, x2a, x2b, x2c, x2d⟩ := rG1 cx env1 σ1 _ _ (S[k].1) key x1b hcx f1 f9 f7 g1 
    have f0 := (x2d 0 (by decide)).trans f0
    have f1 := (x2d 1 (by decide)).trans f1
    have f2 := (x2d 2 (by decide)).trans f2
    have f6 := (x2d 6 (by decide)).trans f6
    have f7 := (x2d 7 (by decide)).trans f7
    have f9 := (x2d 9 (by decide)).trans f9
    have f16 := (x2d 16 (by decide)).trans f16
    have f17 := (x2d 17 (by decide)).trans f17
    have f18 := (x2d 18 (by decide)).trans f18
    by_cases qe : S[k].1 = key
    · skip
      rw [decide_eq_true qe] at hq
      have hs2 : accS key l (S.take (k + 1)) = (od, true) := by rw [hs]; simp [stepS, Bool.not_true, qe]
      obtain ⟨env3, x3a, x3b, x3c, x3d⟩ := rH1 cx env2 σ1 _ _ (S[k].1) key x2b hcx f1 f9 g1 hq 
      have f0 := (x3d 0 (by decide)).trans f0
      have f1 := (x3d 1 (by decide)).trans f1
      have f2 := (x3d 2 (by decide)).trans f2
      have f6 := (x3d 6 (by decide)).trans f6
      have f7 := (x3d 7 (by decide)).trans f7
      have f9 := (x3d 9 (by decide)).trans f9
      have f16 := (x3d 16 (by decide)).trans f16
      have f17 := (x3d 17 (by decide)).trans f17
      have f18 := (x3d 18 (by decide)).trans f18
      exact ⟨.normal, env3, _, (execW_block_of (execW_seq_of x1a (execW_seq_of x2a x3a))), .inl ⟨rfl, x3b, f18, f17, f0, f1, f2, f16, (by rw [hs2]; exact f7), ⟨_, f6, (by rw [hs2]; simpa using hR)⟩, (by rw [hs2]; exact ho)⟩⟩
    · skip
      rw [decide_eq_false qe] at hq
      have hs2 : accS key l (S.take (k + 1)) = (od ++ [S[k]], true) := by rw [hs]; simp [stepS, Bool.not_true, qe]
      obtain ⟨R3, τ3, y3a, y3b, y3c, y3d, y3e⟩ := append_one (cx := cx) (x := encRow S[k]) (j := 0) app26 hR rfl (by simp; omega) (by decide) hro ho.2.2
      obtain ⟨env3, x3a, x3b, x3c, x3d⟩ := rH2 cx env2 σ1 _ _ (S[k].1) key R3 _ τ3 x2b hcx f1 f9 f6 g1 hq slV_plain fz_plain y3a 
      have f0 := (x3d 0 (by decide)).trans f0
      have f1 := (x3d 1 (by decide)).trans f1
      have f2 := (x3d 2 (by decide)).trans f2
      have f7 := (x3d 7 (by decide)).trans f7
      have f9 := (x3d 9 (by decide)).trans f9
      have f16 := (x3d 16 (by decide)).trans f16
      have f17 := (x3d 17 (by decide)).trans f17
      have f18 := (x3d 18 (by decide)).trans f18
      have f6 := x3c
      have hR := y3c
      have ho := y3e _ ho
      have g1 := y3d _ _ g1
      exact ⟨.normal, env3, _, (execW_block_of (execW_seq_of x1a (execW_seq_of x2a x3a))), .inl ⟨rfl, x3b, f18, f17, f0, f1, f2, f16, (by rw [hs2]; exact f7), ⟨_, f6, (by rw [hs2]; simpa using hR)⟩, (by rw [hs2]; exact ho)⟩⟩
  | false =>
    cases hlt : ltS S[k].1 key with
    | true =>
      obtain ⟨env2, x2a, x2b, x2c, x2d⟩ := rG2 cx env1 σ1 _ _ (S[k].1) key x1b hcx f1 f9 f7 g1 hlt 
      have f0 := (x2d 0 (by decide)).trans f0
      have f1 := (x2d 1 (by decide)).trans f1
      have f2 := (x2d 2 (by decide)).trans f2
      have f6 := (x2d 6 (by decide)).trans f6
      have f7 := (x2d 7 (by decide)).trans f7
      have f9 := (x2d 9 (by decide)).trans f9
      have f16 := (x2d 16 (by decide)).trans f16
      have f17 := (x2d 17 (by decide)).trans f17
      have f18 := (x2d 18 (by decide)).trans f18
      by_cases qe : S[k].1 = key
      · skip
        rw [decide_eq_true qe] at hq
        have hlt2 := hlt
        rw [qe] at hlt2
        have hs2 : accS key l (S.take (k + 1)) = (od, false) := by rw [hs]; simp [stepS, hlt, hlt2, qe]
        obtain ⟨env3, x3a, x3b, x3c, x3d⟩ := rH1 cx env2 σ1 _ _ (S[k].1) key x2b hcx f1 f9 g1 hq 
        have f0 := (x3d 0 (by decide)).trans f0
        have f1 := (x3d 1 (by decide)).trans f1
        have f2 := (x3d 2 (by decide)).trans f2
        have f6 := (x3d 6 (by decide)).trans f6
        have f7 := (x3d 7 (by decide)).trans f7
        have f9 := (x3d 9 (by decide)).trans f9
        have f16 := (x3d 16 (by decide)).trans f16
        have f17 := (x3d 17 (by decide)).trans f17
        have f18 := (x3d 18 (by decide)).trans f18
        exact ⟨.normal, env3, _, (execW_block_of (execW_seq_of x1a (execW_seq_of x2a x3a))), .inl ⟨rfl, x3b, f18, f17, f0, f1, f2, f16, (by rw [hs2]; exact f7), ⟨_, f6, (by rw [hs2]; simpa using hR)⟩, (by rw [hs2]; exact ho)⟩⟩
      · skip
        rw [decide_eq_false qe] at hq
        have hs2 : accS key l (S.take (k + 1)) = (od ++ [S[k]], false) := by rw [hs]; simp [stepS, hlt, qe]
        obtain ⟨R3, τ3, y3a, y3b, y3c, y3d, y3e⟩ := append_one (cx := cx) (x := encRow S[k]) (j := 0) app26 hR rfl (by simp; omega) (by decide) hro ho.2.2
        obtain ⟨env3, x3a, x3b, x3c, x3d⟩ := rH2 cx env2 σ1 _ _ (S[k].1) key R3 _ τ3 x2b hcx f1 f9 f6 g1 hq slV_plain fz_plain y3a 
        have f0 := (x3d 0 (by decide)).trans f0
        have f1 := (x3d 1 (by decide)).trans f1
        have f2 := (x3d 2 (by decide)).trans f2
        have f7 := (x3d 7 (by decide)).trans f7
        have f9 := (x3d 9 (by decide)).trans f9
        have f16 := (x3d 16 (by decide)).trans f16
        have f17 := (x3d 17 (by decide)).trans f17
        have f18 := (x3d 18 (by decide)).trans f18
        have f6 := x3c
        have hR := y3c
        have ho := y3e _ ho
        have g1 := y3d _ _ g1
        exact ⟨.normal, env3, _, (execW_block_of (execW_seq_of x1a (execW_seq_of x2a x3a))), .inl ⟨rfl, x3b, f18, f17, f0, f1, f2, f16, (by rw [hs2]; exact f7), ⟨_, f6, (by rw [hs2]; simpa using hR)⟩, (by rw [hs2]; exact ho)⟩⟩
    | false =>
      have hln := hne rfl
      obtain ⟨σa2, z21, z22, z23, z24⟩ := (hF hln).fz _ ho
      have hR := z24 _ hR
      have ho := z22
      have g1z := g1
      have g1 := z23 _ _ g1
      obtain ⟨R2, τ2, y2a, y2b, y2c, y2d, y2e⟩ := append_one (cx := cx) (x := encRow (key, l)) (j := 0) app26 hR rfl (by simp; omega) (by decide) hro ho.2.2
      obtain ⟨env2, x2a, x2b, x2c, x2d⟩ := rG3 cx env1 σ1 _ _ (S[k].1) key Y ((slV 4 (l.map encVn))) σa2 R2 _ τ2 x1b hcx f1 f9 f2 f6 f7 g1z hlt hY1 (one_cells hY1) slV_plain z21 y2a 
      have f0 := (x2d 0 (by decide)).trans f0
      have f1 := (x2d 1 (by decide)).trans f1
      have f2 := (x2d 2 (by decide)).trans f2
      have f9 := (x2d 9 (by decide)).trans f9
      have f16 := (x2d 16 (by decide)).trans f16
      have f17 := (x2d 17 (by decide)).trans f17
      have f18 := (x2d 18 (by decide)).trans f18
      have f6 := x2c.1
      have f7 := x2c.2
      have hR := y2c
      have ho := y2e _ ho
      have g1 := y2d _ _ g1
      by_cases qe : S[k].1 = key
      · skip
        rw [decide_eq_true qe] at hq
        have hlt2 := hlt
        rw [qe] at hlt2
        have hs2 : accS key l (S.take (k + 1)) = (od ++ [(key, l)], true) := by rw [hs]; simp [stepS, hlt, hlt2, qe]
        obtain ⟨env3, x3a, x3b, x3c, x3d⟩ := rH1 cx env2 τ2 _ _ (S[k].1) key x2b hcx f1 f9 g1 hq 
        have f0 := (x3d 0 (by decide)).trans f0
        have f1 := (x3d 1 (by decide)).trans f1
        have f2 := (x3d 2 (by decide)).trans f2
        have f6 := (x3d 6 (by decide)).trans f6
        have f7 := (x3d 7 (by decide)).trans f7
        have f9 := (x3d 9 (by decide)).trans f9
        have f16 := (x3d 16 (by decide)).trans f16
        have f17 := (x3d 17 (by decide)).trans f17
        have f18 := (x3d 18 (by decide)).trans f18
        exact ⟨.normal, env3, _, (execW_block_of (execW_seq_of x1a (execW_seq_of x2a x3a))), .inl ⟨rfl, x3b, f18, f17, f0, f1, f2, f16, (by rw [hs2]; exact f7), ⟨_, f6, (by rw [hs2]; simpa using hR)⟩, (by rw [hs2]; exact ho)⟩⟩
      · skip
        rw [decide_eq_false qe] at hq
        have hs2 : accS key l (S.take (k + 1)) = (od ++ [(key, l)] ++ [S[k]], true) := by rw [hs]; simp [stepS, hlt, qe]
        obtain ⟨R3, τ3, y3a, y3b, y3c, y3d, y3e⟩ := append_one (cx := cx) (x := encRow S[k]) (j := 0) app26 hR rfl (by simp; omega) (by decide) hro ho.2.2
        obtain ⟨env3, x3a, x3b, x3c, x3d⟩ := rH2 cx env2 τ2 _ _ (S[k].1) key R3 _ τ3 x2b hcx f1 f9 f6 g1 hq slV_plain fz_plain y3a 
        have f0 := (x3d 0 (by decide)).trans f0
        have f1 := (x3d 1 (by decide)).trans f1
        have f2 := (x3d 2 (by decide)).trans f2
        have f7 := (x3d 7 (by decide)).trans f7
        have f9 := (x3d 9 (by decide)).trans f9
        have f16 := (x3d 16 (by decide)).trans f16
        have f17 := (x3d 17 (by decide)).trans f17
        have f18 := (x3d 18 (by decide)).trans f18
        have f6 := x3c
        have hR := y3c
        have ho := y3e _ ho
        have g1 := y3d _ _ g1
        exact ⟨.normal, env3, _, (execW_block_of (execW_seq_of x1a (execW_seq_of x2a x3a))), .inl ⟨rfl, x3b, f18, f17, f0, f1, f2, f16, (by rw [hs2]; exact f7), ⟨_, f6, (by rw [hs2]; simpa using hR)⟩, (by rw [hs2]; exact ho)⟩⟩
theorem loop (cx : Cx) (hcx : cx.esc = []) (hro : ∀ k, cx.ro = some k → k ≤ cx.h) (σ0 : AS) (σ1 : AS) (b : Nat) (key : ByteArray) (l : List Vn) (Y X : AV) (S : List Rw) (hX : HRow σ0.hp X (S.map encRow)) (hsh : σ1.hp = σ0.hp) (hlen2 : S.length ≤ 200) (hY1 : Y.one = true) (hF : l ≠ [] → FzOk cx.h cx.ro σ0 σ1 key Y (slV 4 (l.map encVn))) (hnn : S.length ≤ 9223372036854775807) {env : Env} {σ : AS} (hl : env.length = 57) (h1 : Env.get env 18 = .int .i64 0) (h2 : Env.get env 17 = .int .i64 ((S.length : Nat) : Int)) (h0 : J cx.h σ0 σ1 b key l Y X S 0 env σ) :
    ∃ e env' σ', execW Try.prog cx [] (callW Try.prog how) (cr [.r, .r, .l, .r]) (env, σ) = some (e, (env', σ')) ∧ ((e = .normal ∧ ((env'.length = 57 ∧ J cx.h σ0 σ1 b key l Y X S (S.length) env' σ') ∨ Ex cx.h σ0 σ1 b key l Y X S (.exit 0) env' σ')) ∨ (e ≠ .normal ∧ e ≠ .exit 0 ∧ Ex cx.h σ0 σ1 b key l Y X S e env' σ')) := by
  rw [loop_eq]
  exact range_std (Ex := Ex cx.h σ0 σ1 b key l Y X S) (N := 57) (tc := 19) (ti := 18) (tl := 17) (tx := 44) (ty1 := 3) (ty2 := 3) (ty3 := 3) (ty4 := 3) ⟨by kernel_rfl, by kernel_rfl, by kernel_rfl⟩ ⟨by kernel_rfl, by kernel_rfl, by kernel_rfl⟩ ⟨by kernel_rfl, by kernel_rfl, by kernel_rfl⟩ (by decide) hnn J_stable (step cx hcx hro σ0 σ1 b key l Y X S hX hsh hlen2 hY1 hF) hl h1 h2 h0
end F51
