/- A transaction as the program's. -/

import Derived.Test.YtcafckfmhoklkaaCb
open Go Go.Abs Go.Proofs
set_option maxRecDepth 100000
set_option maxHeartbeats 4000000
set_option linter.unusedSimpArgs false
set_option linter.unusedVariables false

theorem app33 : AppOk Try.prog 33 2 24 := ⟨84, .slice 84, by simp [elemA], by simp, by simp, by kernel_rfl, rfl, by decide, by simp [AV.cells]⟩
theorem app34 : AppOk Try.prog 34 3 40 := ⟨85, .slice 85, by simp [elemA], by simp, by simp, by kernel_rfl, rfl, by decide, by simp [AV.cells]⟩
theorem app29 : AppOk Try.prog 29 2 24 := ⟨55, .slice 55, by simp [elemA], by simp, by simp, by kernel_rfl, rfl, by decide, by simp [AV.cells]⟩
theorem app30 : AppOk Try.prog 30 3 40 := ⟨76, .slice 76, by simp [elemA], by simp, by simp, by kernel_rfl, rfl, by decide, by simp [AV.cells]⟩
theorem app25 : AppOk Try.prog 25 4 48 := ⟨49, .slice 49, by simp [elemA], by simp, by simp, by kernel_rfl, rfl, by decide, by simp [AV.cells]⟩
theorem app28 : AppOk Try.prog 28 17 192 := ⟨59, .slice 59, by simp [elemA], by simp, by simp, by kernel_rfl, rfl, by decide, by simp [AV.cells]⟩
theorem fin_one {P : Program} {fl : Flags} {fn : Func} {h : Nat} {en : Env} {σ : AS} {v w : AV} {e : AExit} (he : e = .ret ∨ e = .normal) (hk : fl.keep = false) (hr : resA P σ en fn.results.toList = some [v]) (hb : v.back h σ = some w) (hi : w.inb h = true) : finishA P fl fn h (some (e, (en, σ))) = some (w, ⟨σ.hp, σ.st.take h⟩) := by
  rcases he with rfl | rfl <;> simp [finishA, hr, hk, oneA, hb, hi]
/-- A read, a write. -/
abbrev RdI := ByteArray × Int
abbrev WrI := ByteArray × ByteArray × Bool
def encRd (r : RdI) : AV := .agg [.str r.1, .int .u64 r.2]
def encWr (w : WrI) : AV := .agg [.str w.1, .str w.2.1, .bool w.2.2]
/-- A slice of such elements, that is written no more. -/
def SlOf (sz : Nat) (X : AV) (l : List AV) : Prop := (X = .nils ∧ l = []) ∨ X = .sl false sz l
theorem SlOf.plain {sz : Nat} {X : AV} {l : List AV} (h : SlOf sz X l) : Plain X := by
  rcases h with ⟨rfl, _⟩ | rfl
  · exact ⟨rfl, fun _ => rfl, rfl⟩
  · exact ⟨rfl, fun _ => rfl, rfl⟩
theorem slOf_slV {sz : Nat} {l : List AV} : SlOf sz (slV sz l) l := by
  cases l with
  | nil => exact .inl ⟨rfl, rfl⟩
  | cons => exact .inr rfl
theorem SlOf.rd {P : Program} {σ : AS} {t e sz : Nat} {X : AV} {l : List AV} (hX : SlOf sz X l) (h : P.underlying t = some (.slice e)) (hs : sizeA P e = some sz) (hz : 0 < sz) (he : ∀ c ∈ l, partA P e c.cells 0 = some c) : Rd P σ t e X l := by
  rcases hX with ⟨rfl, rfl⟩ | rfl
  · exact rd_slV (sz := sz) (l := []) h hs hz he
  · refine ⟨by simp [lenA, h], fun k c hk => ⟨.rptr c.cells 0, ?_, by unfold loadA; exact he c (List.mem_of_getElem? hk)⟩⟩
    unfold indexAddrA
    simp [h, hs, hk, hz]
theorem elRd55 (r : RdI) : partA Try.prog 55 (encRd r).cells 0 = some (encRd r) := by simp [partA, aggA, isAggD, encRd, AV.cells]
theorem elRd84 (r : RdI) : partA Try.prog 84 (encRd r).cells 0 = some (encRd r) := by simp [partA, aggA, isAggD, encRd, AV.cells]
theorem elWr76 (r : WrI) : partA Try.prog 76 (encWr r).cells 0 = some (encWr r) := by simp [partA, aggA, isAggD, encWr, AV.cells]
theorem elWr85 (r : WrI) : partA Try.prog 85 (encWr r).cells 0 = some (encWr r) := by simp [partA, aggA, isAggD, encWr, AV.cells]
theorem rd29 {σ : AS} {X : AV} {l : List RdI} (h : SlOf 2 X (l.map encRd)) : Rd Try.prog σ 29 55 X (l.map encRd) := h.rd Try.underlying29 s55 (by decide) (fun c hc => by obtain ⟨r, _, rfl⟩ := List.mem_map.1 hc; exact elRd55 r)
theorem rd33 {σ : AS} {X : AV} {l : List RdI} (h : SlOf 2 X (l.map encRd)) : Rd Try.prog σ 33 84 X (l.map encRd) := h.rd Try.underlying33 s84 (by decide) (fun c hc => by obtain ⟨r, _, rfl⟩ := List.mem_map.1 hc; exact elRd84 r)
theorem rd30 {σ : AS} {X : AV} {l : List WrI} (h : SlOf 3 X (l.map encWr)) : Rd Try.prog σ 30 76 X (l.map encWr) := h.rd Try.underlying30 s76 (by decide) (fun c hc => by obtain ⟨r, _, rfl⟩ := List.mem_map.1 hc; exact elWr76 r)
theorem rd34 {σ : AS} {X : AV} {l : List WrI} (h : SlOf 3 X (l.map encWr)) : Rd Try.prog σ 34 85 X (l.map encWr) := h.rd Try.underlying34 s85 (by decide) (fun c hc => by obtain ⟨r, _, rfl⟩ := List.mem_map.1 hc; exact elWr85 r)
theorem Rows0N {h : Nat} {σ : AS} {sz : Nat} {α : Type} {f : α → AV} {l : List α} : Rows h σ [(sz, .nils, (l.take 0).map f)] :=
  ⟨fun e he => by rw [List.mem_singleton] at he; subst he; exact .inl ⟨rfl, rfl⟩, List.pairwise_singleton _ _⟩
theorem Rows1N {h : Nat} {σ : AS} {a b : Nat} {R : AV} {α β : Type} {f : α → AV} {g : β → AV} {l l' : List α} {m : List β} (hR : Rows h σ [(a, R, l'.map f)]) (e : l' = l) : Rows h σ [(a, R, l.map f), (b, .nils, (m.take 0).map g)] := by
  subst e
  refine ⟨fun e he => ?_, ?_⟩
  · rcases List.mem_cons.1 he with rfl | he
    · exact hR.1 _ (List.mem_singleton_self _)
    · rw [List.mem_singleton] at he; subst he; exact .inl ⟨rfl, rfl⟩
  · refine List.pairwise_cons.2 ⟨fun x hx => ?_, List.pairwise_singleton _ _⟩
    rw [List.mem_singleton] at hx
    subst hx
    exact Sep2.nil.symm
theorem Built.setc {h : Nat} {σ : AS} {sz : Nat} {R : AV} {l : List AV} {i : Nat} {c : List AV} (b : Built h σ sz R l) (hi : σ.get (.st i) = some (.cells c)) (ob : AObj) : Built h (σ.set (.st i) ob) sz R l :=
  b.keep (fun im es s v hg _ => get_set' hg (st_ne hg hi (by simp)))
theorem get_el {α : Type} {f : α → AV} {l : List α} {k : Nat} (hk : k < l.length) : (l.map f)[k]? = some (f l[k]) := by rw [List.getElem?_map, List.getElem?_eq_getElem hk]; rfl
theorem take_min {α : Type} {f : α → AV} {l : List α} {k m : Nat} (hk : k < l.length) (hm : k < m) : ((l.take m).take (k + 1)).map f = ((l.take m).take k).map f ++ [f l[k]] := by
  rw [List.take_succ_eq_append_getElem (by rw [List.length_take]; omega), List.map_append, List.getElem_take]
  rfl
theorem take_min' {α : Type} {l : List α} {k m : Nat} (hm : m ≤ k) : (l.take m).take (k + 1) = (l.take m).take k := by
  have h : (l.take m).length ≤ k := by rw [List.length_take]; omega
  rw [List.take_of_length_le h, List.take_of_length_le (Nat.le_succ_of_le h)]

namespace F15
noncomputable def cr (p : List Dir) : Code := sub p (bodyOf Try.f15)

section
attribute [local simp] ofV ofCell ofCells seqA_nil seqA_cons seqVK_eq seqEK_eq wantedA yieldedA isVal effA ev evs evps putE optsA optsOk valA fieldAddrA fieldA loadA partA aggA isAggD buildA placesA fillA lay storeA AV.withCells buildSliceA elemsA rowParts fzL promL okE isSrc bytesOk pushA cxOf lenA binA intBinA strBinA unA indexAddrA eqA AVs.inb AV.inb Loc.inb calleeA opsOf sub bodyOf Env.get_set quietA_nil quietA_cons quietK_none quietK_some qstep newA isNew escNew boxOk newLoc flat rowPartsQ quietN quietOp isBS List.takeWhile finishA_eq finK_ret finK_normal retK backK resA oneA AV.back AVs.back execW_seq_eq seqK_normal seqK_ret seqK_exit execW_cond_eq condK_true condK_false execW_block_eq blockK_exit blockK_normal blockK_ret execW_region_eq regK_eq execW_skip execW_exit execW_ret regionA_plain regionA_quiet0 tailK_eq nilCheckA guardOk isConst lookupA keyFits mapUpdateA beqI bneI
theorem rA (cx : Cx) (env : Env) (σ : AS) (cl sq : Int) (pl : Bool) (X Y : AV) (hp s : List AObj) (hlen : env.length = 58) (hcx : cx.esc = []) (f0 : Env.get env 0 = .agg [.int .i64 cl, .int .u64 sq, .bool pl, X, Y]) (hσ : σ = ⟨hp, s⟩) (hX : Plain X) (hY : Plain Y) (hw : wok cx.ro (.st s.length) = true) (hw2 : wok cx.ro (.st (s.length + 1)) = true) (hh : cx.h ≤ s.length) (hh2 : cx.h ≤ s.length + 1) :
    Pc Try.prog how cx [] 58 [1, 2] (cr [.l]) env σ (.normal) (AS.mk hp (s ++ [.cells [.int .i64 cl, .int .u64 sq, .bool pl, X, Y], .cells [.int .i64 0, .int .u64 0, .bool false, .nils, .nils]])) (fun env' => Env.get env' 1 = .ptr (.st s.length) 0 ∧ Env.get env' 2 = .ptr (.st (s.length + 1)) 0) := by
  refine pc_of fun res hr => ?_
  simp -implicitDefEqProofs [-lenA, -indexAddrA, -loadA, AS.get_push_at, AS.get_push_old, AS.push_len, AS.set_st_len, AS.next_st', AS.set_push_at, AS.get_set_self, AS.get_set_other, cr, Try.f15, hlen, hcx, f0, hσ, hX.one, hX.inb, hX.row, hY.one, hY.inb, hY.row, hw, hw2, hh, hh2] at hr
  subst hr
  refine ⟨_, rfl, by simp [hlen], by simp [Env.get_set, hlen, f0, hσ, hX.one, hX.inb, hX.row, hY.one, hY.inb, hY.row, hw, hw2, hh, hh2], fun i hi => ?_⟩
  simp only [List.mem_cons, List.not_mem_nil, or_false, not_or] at hi
  simp only [get_set2, hi, false_and, if_false]

theorem rB (cx : Cx) (env : Env) (σ : AS) (a : Nat) (cl sq : Int) (pl : Bool) (X Y : AV) (hlen : env.length = 58) (hcx : cx.esc = []) (f1 : Env.get env 1 = .ptr (.st a) 0) (g1 : σ.get (.st a) = some (.cells [.int .i64 cl, .int .u64 sq, .bool pl, X, Y])) (hw : wok cx.ro (.st σ.st.length) = true) (hh : cx.h ≤ σ.st.length) :
    Pc Try.prog how cx [] 58 [3, 8, 9, 10, 11, 12] (cr [.r, .l]) env σ (.normal) (σ.push false (.cells [.int .i64 cl, .int .u64 sq, .bool pl, .nils, .nils])) (fun env' => Env.get env' 3 = .ptr (.st σ.st.length) 0) := by
  refine pc_of fun res hr => ?_
  simp -implicitDefEqProofs [AS.get_push_at, AS.get_push_old, AS.push_len, AS.set_st_len, AS.next_st', AS.set_push_at, AS.get_set_self, AS.get_set_other, cr, Try.f15, hlen, hcx, f1, g1, hw, hh] at hr
  subst hr
  refine ⟨_, rfl, by simp [hlen], by simp [Env.get_set, hlen, f1, g1, hw, hh], fun i hi => ?_⟩
  simp only [List.mem_cons, List.not_mem_nil, or_false, not_or] at hi
  simp only [get_set2, hi, false_and, if_false]

theorem rH1 (cx : Cx) (env : Env) (σ : AS) (a n : Nat) (cl sq : Int) (pl : Bool) (X Y : AV) (hlen : env.length = 58) (hcx : cx.esc = []) (f1 : Env.get env 1 = .ptr (.st a) 0) (g1 : σ.get (.st a) = some (.cells [.int .i64 cl, .int .u64 sq, .bool pl, X, Y])) (hl : lenA Try.prog σ 29 X = some n) (hX : Plain X) (hY : Plain Y) :
    Pc Try.prog how cx [] 58 [13, 14, 15, 16] (cr [.r, .r, .l, .l]) env σ (.normal) (σ) (fun env' => Env.get env' 14 = X ∧ Env.get env' 15 = .int .i64 (n : Int) ∧ Env.get env' 16 = .int .i64 0) := by
  refine pc_of fun res hr => ?_
  simp -implicitDefEqProofs [-lenA, AS.get_push_at, AS.get_push_old, AS.push_len, AS.set_st_len, AS.next_st', AS.set_push_at, AS.get_set_self, AS.get_set_other, cr, Try.f15, hlen, hcx, f1, g1, hl, hX.one, hX.inb, hX.row, hY.one, hY.inb, hY.row] at hr
  subst hr
  refine ⟨_, rfl, by simp [hlen], by simp [Env.get_set, hlen, f1, g1, hl, hX.one, hX.inb, hX.row, hY.one, hY.inb, hY.row], fun i hi => ?_⟩
  simp only [List.mem_cons, List.not_mem_nil, or_false, not_or] at hi
  simp only [get_set2, hi, false_and, if_false]

theorem rE1 (cx : Cx) (env : Env) (σ : AS) (k : Nat) (Z p : AV) (key : ByteArray) (num : Int) (hlen : env.length = 58) (hcx : cx.esc = []) (f14 : Env.get env 14 = Z) (f16 : Env.get env 16 = .int .i64 (k : Int)) (hia : indexAddrA Try.prog σ 29 Z (.int .i64 (k : Int)) = some p) (hpa : loadA Try.prog σ 55 p = some (.agg [.str key, .int .u64 num])) (hw : wok cx.ro (.st σ.st.length) = true) (hh : cx.h ≤ σ.st.length) :
    Pc Try.prog how cx [] 58 [4, 5, 18, 19, 20] (cr [.r, .r, .l, .r, .i, .i, .r, .r, .l, .i, .l]) env σ (.normal) (σ.push false (.cells [.str key, .int .u64 num])) (fun env' => Env.get env' 5 = .ptr (.st σ.st.length) 0 ∧ Env.get env' 4 = .int .i64 (k : Int)) := by
  refine pc_of fun res hr => ?_
  simp -implicitDefEqProofs [-lenA, -indexAddrA, -loadA, AS.get_push_at, AS.get_push_old, AS.push_len, AS.set_st_len, AS.next_st', AS.set_push_at, AS.get_set_self, AS.get_set_other, cr, Try.f15, hlen, hcx, f14, f16, hia, hpa, hw, hh] at hr
  subst hr
  refine ⟨_, rfl, by simp [hlen], by simp [Env.get_set, hlen, f14, f16, hia, hpa, hw, hh], fun i hi => ?_⟩
  simp only [List.mem_cons, List.not_mem_nil, or_false, not_or] at hi
  simp only [get_set2, hi, false_and, if_false]

theorem rY1 (cx : Cx) (env : Env) (σ : AS) (k : Nat) (hlen : env.length = 58) (hcx : cx.esc = []) (f4 : Env.get env 4 = .int .i64 (k : Int)) (q : (k : Int) < 10) :
    Pc Try.prog how cx [] 58 [21, 22] (cr [.r, .r, .l, .r, .i, .i, .r, .r, .l, .i, .r, .l]) env σ (.normal) (σ) (fun env' => Env.get env' 22 = .bool true) := by
  refine pc_of fun res hr => ?_
  simp -implicitDefEqProofs [-lenA, -indexAddrA, -loadA, AS.get_push_at, AS.get_push_old, AS.push_len, AS.set_st_len, AS.next_st', AS.set_push_at, AS.get_set_self, AS.get_set_other, cr, Try.f15, hlen, hcx, f4, q] at hr
  subst hr
  refine ⟨_, rfl, by simp [hlen], by simp [Env.get_set, hlen, f4, q], fun i hi => ?_⟩
  simp only [List.mem_cons, List.not_mem_nil, or_false, not_or] at hi
  simp only [get_set2, hi, false_and, if_false]

theorem rN1 (cx : Cx) (env : Env) (σ : AS) (k : Nat) (hlen : env.length = 58) (hcx : cx.esc = []) (f4 : Env.get env 4 = .int .i64 (k : Int)) (q : ¬ (k : Int) < 10) :
    Pc Try.prog how cx [] 58 [21, 22] (cr [.r, .r, .l, .r, .i, .i, .r, .r, .l, .i, .r, .l]) env σ (.normal) (σ) (fun env' => Env.get env' 22 = .bool false) := by
  refine pc_of fun res hr => ?_
  simp -implicitDefEqProofs [-lenA, -indexAddrA, -loadA, AS.get_push_at, AS.get_push_old, AS.push_len, AS.set_st_len, AS.next_st', AS.set_push_at, AS.get_set_self, AS.get_set_other, cr, Try.f15, hlen, hcx, f4, q] at hr
  subst hr
  refine ⟨_, rfl, by simp [hlen], by simp [Env.get_set, hlen, f4, q], fun i hi => ?_⟩
  simp only [List.mem_cons, List.not_mem_nil, or_false, not_or] at hi
  simp only [get_set2, hi, false_and, if_false]

theorem rP1 (cx : Cx) (env : Env) (σ : AS) (c e : Nat) (cl sq : Int) (pl : Bool) (Q R R' : AV) (key : ByteArray) (num : Int) (σ' : AS) (hlen : env.length = 58) (hcx : cx.esc = []) (f3 : Env.get env 3 = .ptr (.st c) 0) (f5 : Env.get env 5 = .ptr (.st e) 0) (g3 : σ.get (.st c) = some (.cells [.int .i64 cl, .int .u64 sq, .bool pl, R, .nils])) (g5 : σ.get (.st e) = some (.cells [.str key, .int .u64 num])) (h1 : R.one = true) (h2 : R'.one = true) (h2c : R'.cells = [R']) (hq : Q.one = true) (hap : appendA Try.prog cx (σ.push false (.row [.agg [.str key, .int .u64 num]] 2 0 false)) [33, 33] R (.row (.st σ.st.length) 0 0 1) = some (R', σ')) (g3b : σ'.get (.st c) = some (.cells [.int .i64 cl, .int .u64 sq, .bool pl, R, .nils])) (hw : wok cx.ro (.st c) = true) (hh : cx.h ≤ c) :
    Pc Try.prog how cx [] 58 [23, 24, 25, 26, 27, 28, 29, 30, 31, 32] (cr [.r, .r, .l, .r, .i, .i, .r, .r, .l, .i, .r, .r, .l]) env σ (.normal) (σ'.set (.st c) (.cells [.int .i64 cl, .int .u64 sq, .bool pl, R', .nils])) (fun _ => True) := by
  refine pc_of fun res hr => ?_
  simp -implicitDefEqProofs [-lenA, -indexAddrA, AS.get_push_at, AS.get_push_old, AS.push_len, AS.set_st_len, AS.next_st', AS.set_push_at, AS.get_set_self, AS.get_set_other, cr, Try.f15, hlen, hcx, f3, f5, g3, g5, h1, h2, h2c, hq, hap, g3b, hw, hh, elemA] at hr
  subst hr
  refine ⟨_, rfl, by simp [hlen], by simp [Env.get_set, hlen, f3, f5, g3, g5, h1, h2, h2c, hq, hap, g3b, hw, hh, elemA], fun i hi => ?_⟩
  simp only [List.mem_cons, List.not_mem_nil, or_false, not_or] at hi
  simp only [get_set2, hi, false_and, if_false]

theorem rH2 (cx : Cx) (env : Env) (σ : AS) (a n : Nat) (cl sq : Int) (pl : Bool) (X Y : AV) (hlen : env.length = 58) (hcx : cx.esc = []) (f1 : Env.get env 1 = .ptr (.st a) 0) (g1 : σ.get (.st a) = some (.cells [.int .i64 cl, .int .u64 sq, .bool pl, X, Y])) (hl : lenA Try.prog σ 30 Y = some n) (hX : Plain X) (hY : Plain Y) :
    Pc Try.prog how cx [] 58 [34, 35, 36, 37] (cr [.r, .r, .r, .l, .l]) env σ (.normal) (σ) (fun env' => Env.get env' 35 = Y ∧ Env.get env' 36 = .int .i64 (n : Int) ∧ Env.get env' 37 = .int .i64 0) := by
  refine pc_of fun res hr => ?_
  simp -implicitDefEqProofs [-lenA, AS.get_push_at, AS.get_push_old, AS.push_len, AS.set_st_len, AS.next_st', AS.set_push_at, AS.get_set_self, AS.get_set_other, cr, Try.f15, hlen, hcx, f1, g1, hl, hX.one, hX.inb, hX.row, hY.one, hY.inb, hY.row] at hr
  subst hr
  refine ⟨_, rfl, by simp [hlen], by simp [Env.get_set, hlen, f1, g1, hl, hX.one, hX.inb, hX.row, hY.one, hY.inb, hY.row], fun i hi => ?_⟩
  simp only [List.mem_cons, List.not_mem_nil, or_false, not_or] at hi
  simp only [get_set2, hi, false_and, if_false]

theorem rE2 (cx : Cx) (env : Env) (σ : AS) (k : Nat) (Z p : AV) (key : ByteArray) (val : ByteArray) (gone : Bool) (hlen : env.length = 58) (hcx : cx.esc = []) (f35 : Env.get env 35 = Z) (f37 : Env.get env 37 = .int .i64 (k : Int)) (hia : indexAddrA Try.prog σ 30 Z (.int .i64 (k : Int)) = some p) (hpa : loadA Try.prog σ 76 p = some (.agg [.str key, .str val, .bool gone])) (hw : wok cx.ro (.st σ.st.length) = true) (hh : cx.h ≤ σ.st.length) :
    Pc Try.prog how cx [] 58 [6, 7, 39, 40, 41] (cr [.r, .r, .r, .l, .r, .i, .i, .r, .r, .l, .i, .l]) env σ (.normal) (σ.push false (.cells [.str key, .str val, .bool gone])) (fun env' => Env.get env' 7 = .ptr (.st σ.st.length) 0 ∧ Env.get env' 6 = .int .i64 (k : Int)) := by
  refine pc_of fun res hr => ?_
  simp -implicitDefEqProofs [-lenA, -indexAddrA, -loadA, AS.get_push_at, AS.get_push_old, AS.push_len, AS.set_st_len, AS.next_st', AS.set_push_at, AS.get_set_self, AS.get_set_other, cr, Try.f15, hlen, hcx, f35, f37, hia, hpa, hw, hh] at hr
  subst hr
  refine ⟨_, rfl, by simp [hlen], by simp [Env.get_set, hlen, f35, f37, hia, hpa, hw, hh], fun i hi => ?_⟩
  simp only [List.mem_cons, List.not_mem_nil, or_false, not_or] at hi
  simp only [get_set2, hi, false_and, if_false]

theorem rY2 (cx : Cx) (env : Env) (σ : AS) (k : Nat) (hlen : env.length = 58) (hcx : cx.esc = []) (f6 : Env.get env 6 = .int .i64 (k : Int)) (q : (k : Int) < 10) :
    Pc Try.prog how cx [] 58 [42, 43] (cr [.r, .r, .r, .l, .r, .i, .i, .r, .r, .l, .i, .r, .l]) env σ (.normal) (σ) (fun env' => Env.get env' 43 = .bool true) := by
  refine pc_of fun res hr => ?_
  simp -implicitDefEqProofs [-lenA, -indexAddrA, -loadA, AS.get_push_at, AS.get_push_old, AS.push_len, AS.set_st_len, AS.next_st', AS.set_push_at, AS.get_set_self, AS.get_set_other, cr, Try.f15, hlen, hcx, f6, q] at hr
  subst hr
  refine ⟨_, rfl, by simp [hlen], by simp [Env.get_set, hlen, f6, q], fun i hi => ?_⟩
  simp only [List.mem_cons, List.not_mem_nil, or_false, not_or] at hi
  simp only [get_set2, hi, false_and, if_false]

theorem rN2 (cx : Cx) (env : Env) (σ : AS) (k : Nat) (hlen : env.length = 58) (hcx : cx.esc = []) (f6 : Env.get env 6 = .int .i64 (k : Int)) (q : ¬ (k : Int) < 10) :
    Pc Try.prog how cx [] 58 [42, 43] (cr [.r, .r, .r, .l, .r, .i, .i, .r, .r, .l, .i, .r, .l]) env σ (.normal) (σ) (fun env' => Env.get env' 43 = .bool false) := by
  refine pc_of fun res hr => ?_
  simp -implicitDefEqProofs [-lenA, -indexAddrA, -loadA, AS.get_push_at, AS.get_push_old, AS.push_len, AS.set_st_len, AS.next_st', AS.set_push_at, AS.get_set_self, AS.get_set_other, cr, Try.f15, hlen, hcx, f6, q] at hr
  subst hr
  refine ⟨_, rfl, by simp [hlen], by simp [Env.get_set, hlen, f6, q], fun i hi => ?_⟩
  simp only [List.mem_cons, List.not_mem_nil, or_false, not_or] at hi
  simp only [get_set2, hi, false_and, if_false]

theorem rP2 (cx : Cx) (env : Env) (σ : AS) (c e : Nat) (cl sq : Int) (pl : Bool) (Q R R' : AV) (key : ByteArray) (val : ByteArray) (gone : Bool) (σ' : AS) (hlen : env.length = 58) (hcx : cx.esc = []) (f3 : Env.get env 3 = .ptr (.st c) 0) (f7 : Env.get env 7 = .ptr (.st e) 0) (g3 : σ.get (.st c) = some (.cells [.int .i64 cl, .int .u64 sq, .bool pl, Q, R])) (g5 : σ.get (.st e) = some (.cells [.str key, .str val, .bool gone])) (h1 : R.one = true) (h2 : R'.one = true) (h2c : R'.cells = [R']) (hq : Q.one = true) (hap : appendA Try.prog cx (σ.push false (.row [.agg [.str key, .str val, .bool gone]] 3 0 false)) [34, 34] R (.row (.st σ.st.length) 0 0 1) = some (R', σ')) (g3b : σ'.get (.st c) = some (.cells [.int .i64 cl, .int .u64 sq, .bool pl, Q, R])) (hw : wok cx.ro (.st c) = true) (hh : cx.h ≤ c) :
    Pc Try.prog how cx [] 58 [44, 45, 46, 47, 48, 49, 50, 51, 52, 53, 54, 55] (cr [.r, .r, .r, .l, .r, .i, .i, .r, .r, .l, .i, .r, .r, .l]) env σ (.normal) (σ'.set (.st c) (.cells [.int .i64 cl, .int .u64 sq, .bool pl, Q, R'])) (fun _ => True) := by
  refine pc_of fun res hr => ?_
  simp -implicitDefEqProofs [-lenA, -indexAddrA, AS.get_push_at, AS.get_push_old, AS.push_len, AS.set_st_len, AS.next_st', AS.set_push_at, AS.get_set_self, AS.get_set_other, cr, Try.f15, hlen, hcx, f3, f7, g3, g5, h1, h2, h2c, hq, hap, g3b, hw, hh, elemA] at hr
  subst hr
  refine ⟨_, rfl, by simp [hlen], by simp [Env.get_set, hlen, f3, f7, g3, g5, h1, h2, h2c, hq, hap, g3b, hw, hh, elemA], fun i hi => ?_⟩
  simp only [List.mem_cons, List.not_mem_nil, or_false, not_or] at hi
  simp only [get_set2, hi, false_and, if_false]

end
/-- What holds ahead of round k. -/
def J1 (h : Nat) (σ0 : AS) (a b c : Nat) (cl sq : Int) (pl : Bool) (X Y : AV) (Q : AV) (rs : List RdI) (ws : List WrI) (k : Nat) (env : Env) (σ : AS) : Prop :=
  Env.get env 1 = .ptr (.st a) 0 ∧ Env.get env 2 = .ptr (.st b) 0 ∧ Env.get env 3 = .ptr (.st c) 0 ∧ Env.get env 14 = X ∧ (σ.get (.st a) = some (.cells [.int .i64 cl, .int .u64 sq, .bool pl, X, Y])) ∧ (σ.get (.st b) = some (.cells [.int .i64 0, .int .u64 0, .bool false, .nils, .nils])) ∧ (∃ R, σ.get (.st c) = some (.cells [.int .i64 cl, .int .u64 sq, .bool pl, R, .nils]) ∧ Rows h σ [(2, R, ((rs.take 10).take (k)).map encRd)]) ∧ Outside h σ0 σ
def Ex1 (h : Nat) (σ0 : AS) (a b c : Nat) (cl sq : Int) (pl : Bool) (X Y : AV) (Q : AV) (rs : List RdI) (ws : List WrI) (e : AExit) (env : Env) (σ : AS) : Prop := False
theorem J1_stable {h : Nat} {σ0 : AS} {a b c : Nat} {cl sq : Int} {pl : Bool} {X Y : AV} {Q : AV} {rs : List RdI} {ws : List WrI} : ∀ k env env' σ, env.length = 58 → env'.length = 58 → (∀ i, i ≠ 17 → i ≠ 33 → i ≠ 16 → Env.get env' i = Env.get env i) → J1 h σ0 a b c cl sq pl X Y Q rs ws k env σ → J1 h σ0 a b c cl sq pl X Y Q rs ws k env' σ := by
  rintro k env env' σ _ _ hf ⟨j1, j2, j3, j14, q0, q1, q2, ho⟩
  exact ⟨(hf 1 (by decide) (by decide) (by decide)).trans j1, (hf 2 (by decide) (by decide) (by decide)).trans j2, (hf 3 (by decide) (by decide) (by decide)).trans j3, (hf 14 (by decide) (by decide) (by decide)).trans j14, q0, q1, q2, ho⟩
noncomputable def oT1 : Oper := (opsOf (cr [.r, .r, .l, .r, .i, .i, .l])).headD default
noncomputable def oI1 : List Oper := opsOf (cr [.r, .r, .l, .r, .i, .i, .r, .r, .r])
theorem loop_eq1 : (cr [.r, .r, .l, .r]) = .block 0 (.loop (.seq (.region 3 #[oT1] false) (.seq (.cond (.tmp 17) .skip (.exit 0)) (.seq (.block 1 (.seq (cr [.r, .r, .l, .r, .i, .i, .r, .r, .l, .i, .l]) (.seq (cr [.r, .r, .l, .r, .i, .i, .r, .r, .l, .i, .r, .l]) (.cond (.tmp 22) (cr [.r, .r, .l, .r, .i, .i, .r, .r, .l, .i, .r, .r, .l]) .skip)))) (.region 7 #[oI1.headD default, (oI1.drop 1).headD default] false))))) := by kernel_rfl
theorem step1 (cx : Cx) (hcx : cx.esc = []) (hro : ∀ k, cx.ro = some k → k ≤ cx.h) (σ0 : AS) (a b c : Nat) (cl sq : Int) (pl : Bool) (X Y : AV) (Q : AV) (rs : List RdI) (ws : List WrI) (hac : a < c) (hbc : b < c) (hh : cx.h ≤ c) (hS : SlOf 2 X (rs.map encRd)) (hq : Q.one = true) :
    ∀ k env σ, k < rs.length → env.length = 58 → Env.get env 16 = .int .i64 (k : Int) → Env.get env 15 = .int .i64 ((rs.length : Nat) : Int) → J1 cx.h σ0 a b c cl sq pl X Y Q rs ws k env σ → ∃ e env' σ', execW Try.prog cx [] (callW Try.prog how) (.block 1 (.seq (cr [.r, .r, .l, .r, .i, .i, .r, .r, .l, .i, .l]) (.seq (cr [.r, .r, .l, .r, .i, .i, .r, .r, .l, .i, .r, .l]) (.cond (.tmp 22) (cr [.r, .r, .l, .r, .i, .i, .r, .r, .l, .i, .r, .r, .l]) .skip)))) (env, σ) = some (e, (env', σ')) ∧
      ((e = .normal ∧ env'.length = 58 ∧ Env.get env' 16 = .int .i64 (k : Int) ∧ Env.get env' 15 = .int .i64 ((rs.length : Nat) : Int) ∧ J1 cx.h σ0 a b c cl sq pl X Y Q rs ws (k + 1) env' σ') ∨ (e ≠ .normal ∧ Ex1 cx.h σ0 a b c cl sq pl X Y Q rs ws e env' σ')) := by
  rintro k env σ hk hlen f16 f15 ⟨f1, f2, f3, f14, q0, q1, q2, ho⟩
  obtain ⟨R, g3, hR⟩ := q2
  obtain ⟨p, hia, hpa⟩ := (rd29 (σ := σ) hS).2 k (encRd rs[k]) (get_el hk)
  obtain ⟨env1, x1a, x1b, x1c, x1d⟩ := rE1 cx env σ k X p (rs[k].1) (rs[k].2) hlen hcx f14 f16 hia hpa (wokst hro ho.2.2) ho.2.2
  have f1 := (x1d 1 (by decide)).trans f1
  have f2 := (x1d 2 (by decide)).trans f2
  have f3 := (x1d 3 (by decide)).trans f3
  have f14 := (x1d 14 (by decide)).trans f14
  have f15 := (x1d 15 (by decide)).trans f15
  have f16 := (x1d 16 (by decide)).trans f16
  have f5 := x1c.1
  have f4 := x1c.2
  have g1 : ((σ : AS).push false (.cells [.str rs[k].1, .int .u64 rs[k].2])).get (.st (σ : AS).st.length) = some (.cells [.str rs[k].1, .int .u64 rs[k].2]) := AS.get_push_at rfl
  have q0 := get_push' (ob' := .cells [.str rs[k].1, .int .u64 rs[k].2]) q0
  have q1 := get_push' (ob' := .cells [.str rs[k].1, .int .u64 rs[k].2]) q1
  have g3 := get_push' (ob' := .cells [.str rs[k].1, .int .u64 rs[k].2]) g3
  have hR := hR.push (ob := .cells [.str rs[k].1, .int .u64 rs[k].2])
  have ho := ho.push (ob := .cells [.str rs[k].1, .int .u64 rs[k].2])
  generalize hib1 : (σ : AS).st.length = ib1 at g1 f5
  generalize (σ : AS).push false (.cells [.str rs[k].1, .int .u64 rs[k].2]) = σ1 at x1a g1 q0 q1 g3 hR ho
  have hw : wok cx.ro (.st c) = true := wokst hro hh
  by_cases q : (k : Int) < 10
  · skip
    obtain ⟨env2, x2a, x2b, x2c, x2d⟩ := rY1 cx env1 σ1 k x1b hcx f4 q 
    have f1 := (x2d 1 (by decide)).trans f1
    have f2 := (x2d 2 (by decide)).trans f2
    have f3 := (x2d 3 (by decide)).trans f3
    have f4 := (x2d 4 (by decide)).trans f4
    have f5 := (x2d 5 (by decide)).trans f5
    have f14 := (x2d 14 (by decide)).trans f14
    have f15 := (x2d 15 (by decide)).trans f15
    have f16 := (x2d 16 (by decide)).trans f16
    have f22 := x2c
    have ev1 := ev_tmp f22
    obtain ⟨R3, τ3, y3a, y3b, y3c, y3d, y3e⟩ := append_one (cx := cx) (x := encRd rs[k]) (j := 0) app33 hR rfl (by rw [List.length_map, List.length_take]; omega) (by decide) hro ho.2.2
    have hRo : R.one = true := (hR.1 _ (List.mem_of_getElem? (i := 0) rfl)).one
    obtain ⟨env3, x3a, x3b, x3c, x3d⟩ := rP1 cx env2 σ1 c _ cl sq pl Q R R3 (rs[k].1) (rs[k].2) τ3 x2b hcx f3 f5 g3 g1 hRo y3b (one_cells y3b) hq y3a (y3d _ _ g3) hw hh 
    have f1 := (x3d 1 (by decide)).trans f1
    have f2 := (x3d 2 (by decide)).trans f2
    have f3 := (x3d 3 (by decide)).trans f3
    have f4 := (x3d 4 (by decide)).trans f4
    have f5 := (x3d 5 (by decide)).trans f5
    have f14 := (x3d 14 (by decide)).trans f14
    have f15 := (x3d 15 (by decide)).trans f15
    have f16 := (x3d 16 (by decide)).trans f16
    have f22 := (x3d 22 (by decide)).trans f22
    have q0 := get_set' (ob' := .cells [.int .i64 cl, .int .u64 sq, .bool pl, R3, .nils]) (y3d _ _ q0) (Nat.ne_of_lt hac)
    have q1 := get_set' (ob' := .cells [.int .i64 cl, .int .u64 sq, .bool pl, R3, .nils]) (y3d _ _ q1) (Nat.ne_of_lt hbc)
    have g3n := get_set_at (ob' := .cells [.int .i64 cl, .int .u64 sq, .bool pl, R3, .nils]) (y3d _ _ g3)
    have hRn := y3c.setc (ob := .cells [.int .i64 cl, .int .u64 sq, .bool pl, R3, .nils]) (y3d _ _ g3)
    have hon := (y3e _ ho).set (ob := .cells [.int .i64 cl, .int .u64 sq, .bool pl, R3, .nils]) (L := .st c) ⟨c, rfl, hh⟩
    exact ⟨.normal, env3, _, (execW_block_of (execW_seq_of x1a (execW_seq_of x2a (execW_cond_t ev1 x3a)))), .inl ⟨rfl, x3b, f16, f15, f1, f2, f3, f14, q0, q1, ⟨R3, g3n, by rw [take_min hk (by omega)]; exact hRn⟩, hon⟩⟩
  · skip
    obtain ⟨env2, x2a, x2b, x2c, x2d⟩ := rN1 cx env1 σ1 k x1b hcx f4 q 
    have f1 := (x2d 1 (by decide)).trans f1
    have f2 := (x2d 2 (by decide)).trans f2
    have f3 := (x2d 3 (by decide)).trans f3
    have f4 := (x2d 4 (by decide)).trans f4
    have f5 := (x2d 5 (by decide)).trans f5
    have f14 := (x2d 14 (by decide)).trans f14
    have f15 := (x2d 15 (by decide)).trans f15
    have f16 := (x2d 16 (by decide)).trans f16
    have f22 := x2c
    have ev1 := ev_tmp f22
    exact ⟨.normal, env2, _, (execW_block_of (execW_seq_of x1a (execW_seq_of x2a (execW_cond_f ev1 (by rfl))))), .inl ⟨rfl, x2b, f16, f15, f1, f2, f3, f14, q0, q1, ⟨R, g3, by rw [take_min' (by omega)]; exact hR⟩, ho⟩⟩
theorem loop1 (cx : Cx) (hcx : cx.esc = []) (hro : ∀ k, cx.ro = some k → k ≤ cx.h) (σ0 : AS) (a b c : Nat) (cl sq : Int) (pl : Bool) (X Y : AV) (Q : AV) (rs : List RdI) (ws : List WrI) (hac : a < c) (hbc : b < c) (hh : cx.h ≤ c) (hS : SlOf 2 X (rs.map encRd)) (hq : Q.one = true) (hnn : rs.length ≤ 9223372036854775807) {env : Env} {σ : AS} (hl : env.length = 58) (h1 : Env.get env 16 = .int .i64 0) (h2 : Env.get env 15 = .int .i64 ((rs.length : Nat) : Int)) (h0 : J1 cx.h σ0 a b c cl sq pl X Y Q rs ws 0 env σ) :
    ∃ e env' σ', execW Try.prog cx [] (callW Try.prog how) (cr [.r, .r, .l, .r]) (env, σ) = some (e, (env', σ')) ∧ ((e = .normal ∧ ((env'.length = 58 ∧ J1 cx.h σ0 a b c cl sq pl X Y Q rs ws (rs.length) env' σ') ∨ Ex1 cx.h σ0 a b c cl sq pl X Y Q rs ws (.exit 0) env' σ')) ∨ (e ≠ .normal ∧ e ≠ .exit 0 ∧ Ex1 cx.h σ0 a b c cl sq pl X Y Q rs ws e env' σ')) := by
  rw [loop_eq1]
  exact range_std (Ex := Ex1 cx.h σ0 a b c cl sq pl X Y Q rs ws) (N := 58) (tc := 17) (ti := 16) (tl := 15) (tx := 33) (ty1 := 3) (ty2 := 3) (ty3 := 3) (ty4 := 3) ⟨by kernel_rfl, by kernel_rfl, by kernel_rfl⟩ ⟨by kernel_rfl, by kernel_rfl, by kernel_rfl⟩ ⟨by kernel_rfl, by kernel_rfl, by kernel_rfl⟩ (by decide) hnn J1_stable (step1 cx hcx hro σ0 a b c cl sq pl X Y Q rs ws hac hbc hh hS hq) hl h1 h2 h0
/-- What holds ahead of round k. -/
def J2 (h : Nat) (σ0 : AS) (a b c : Nat) (cl sq : Int) (pl : Bool) (X Y : AV) (Q : AV) (rs : List RdI) (ws : List WrI) (k : Nat) (env : Env) (σ : AS) : Prop :=
  Env.get env 1 = .ptr (.st a) 0 ∧ Env.get env 2 = .ptr (.st b) 0 ∧ Env.get env 3 = .ptr (.st c) 0 ∧ Env.get env 35 = Y ∧ (σ.get (.st a) = some (.cells [.int .i64 cl, .int .u64 sq, .bool pl, X, Y])) ∧ (σ.get (.st b) = some (.cells [.int .i64 0, .int .u64 0, .bool false, .nils, .nils])) ∧ (∃ R, σ.get (.st c) = some (.cells [.int .i64 cl, .int .u64 sq, .bool pl, Q, R]) ∧ Rows h σ [(2, Q, (rs.take 10).map encRd), (3, R, ((ws.take 10).take (k)).map encWr)]) ∧ Outside h σ0 σ
def Ex2 (h : Nat) (σ0 : AS) (a b c : Nat) (cl sq : Int) (pl : Bool) (X Y : AV) (Q : AV) (rs : List RdI) (ws : List WrI) (e : AExit) (env : Env) (σ : AS) : Prop := False
theorem J2_stable {h : Nat} {σ0 : AS} {a b c : Nat} {cl sq : Int} {pl : Bool} {X Y : AV} {Q : AV} {rs : List RdI} {ws : List WrI} : ∀ k env env' σ, env.length = 58 → env'.length = 58 → (∀ i, i ≠ 38 → i ≠ 56 → i ≠ 37 → Env.get env' i = Env.get env i) → J2 h σ0 a b c cl sq pl X Y Q rs ws k env σ → J2 h σ0 a b c cl sq pl X Y Q rs ws k env' σ := by
  rintro k env env' σ _ _ hf ⟨j1, j2, j3, j35, q0, q1, q2, ho⟩
  exact ⟨(hf 1 (by decide) (by decide) (by decide)).trans j1, (hf 2 (by decide) (by decide) (by decide)).trans j2, (hf 3 (by decide) (by decide) (by decide)).trans j3, (hf 35 (by decide) (by decide) (by decide)).trans j35, q0, q1, q2, ho⟩
noncomputable def oT2 : Oper := (opsOf (cr [.r, .r, .r, .l, .r, .i, .i, .l])).headD default
noncomputable def oI2 : List Oper := opsOf (cr [.r, .r, .r, .l, .r, .i, .i, .r, .r, .r])
theorem loop_eq2 : (cr [.r, .r, .r, .l, .r]) = .block 2 (.loop (.seq (.region 9 #[oT2] false) (.seq (.cond (.tmp 38) .skip (.exit 2)) (.seq (.block 3 (.seq (cr [.r, .r, .r, .l, .r, .i, .i, .r, .r, .l, .i, .l]) (.seq (cr [.r, .r, .r, .l, .r, .i, .i, .r, .r, .l, .i, .r, .l]) (.cond (.tmp 43) (cr [.r, .r, .r, .l, .r, .i, .i, .r, .r, .l, .i, .r, .r, .l]) .skip)))) (.region 13 #[oI2.headD default, (oI2.drop 1).headD default] false))))) := by kernel_rfl
theorem step2 (cx : Cx) (hcx : cx.esc = []) (hro : ∀ k, cx.ro = some k → k ≤ cx.h) (σ0 : AS) (a b c : Nat) (cl sq : Int) (pl : Bool) (X Y : AV) (Q : AV) (rs : List RdI) (ws : List WrI) (hac : a < c) (hbc : b < c) (hh : cx.h ≤ c) (hS : SlOf 3 Y (ws.map encWr)) (hq : Q.one = true) :
    ∀ k env σ, k < ws.length → env.length = 58 → Env.get env 37 = .int .i64 (k : Int) → Env.get env 36 = .int .i64 ((ws.length : Nat) : Int) → J2 cx.h σ0 a b c cl sq pl X Y Q rs ws k env σ → ∃ e env' σ', execW Try.prog cx [] (callW Try.prog how) (.block 3 (.seq (cr [.r, .r, .r, .l, .r, .i, .i, .r, .r, .l, .i, .l]) (.seq (cr [.r, .r, .r, .l, .r, .i, .i, .r, .r, .l, .i, .r, .l]) (.cond (.tmp 43) (cr [.r, .r, .r, .l, .r, .i, .i, .r, .r, .l, .i, .r, .r, .l]) .skip)))) (env, σ) = some (e, (env', σ')) ∧
      ((e = .normal ∧ env'.length = 58 ∧ Env.get env' 37 = .int .i64 (k : Int) ∧ Env.get env' 36 = .int .i64 ((ws.length : Nat) : Int) ∧ J2 cx.h σ0 a b c cl sq pl X Y Q rs ws (k + 1) env' σ') ∨ (e ≠ .normal ∧ Ex2 cx.h σ0 a b c cl sq pl X Y Q rs ws e env' σ')) := by
  rintro k env σ hk hlen f37 f36 ⟨f1, f2, f3, f35, q0, q1, q2, ho⟩
  obtain ⟨R, g3, hR⟩ := q2
  obtain ⟨p, hia, hpa⟩ := (rd30 (σ := σ) hS).2 k (encWr ws[k]) (get_el hk)
  obtain ⟨env1, x1a, x1b, x1c, x1d⟩ := rE2 cx env σ k Y p (ws[k].1) (ws[k].2.1) (ws[k].2.2) hlen hcx f35 f37 hia hpa (wokst hro ho.2.2) ho.2.2
  have f1 := (x1d 1 (by decide)).trans f1
  have f2 := (x1d 2 (by decide)).trans f2
  have f3 := (x1d 3 (by decide)).trans f3
  have f35 := (x1d 35 (by decide)).trans f35
  have f36 := (x1d 36 (by decide)).trans f36
  have f37 := (x1d 37 (by decide)).trans f37
  have f7 := x1c.1
  have f6 := x1c.2
  have g1 : ((σ : AS).push false (.cells [.str ws[k].1, .str ws[k].2.1, .bool ws[k].2.2])).get (.st (σ : AS).st.length) = some (.cells [.str ws[k].1, .str ws[k].2.1, .bool ws[k].2.2]) := AS.get_push_at rfl
  have q0 := get_push' (ob' := .cells [.str ws[k].1, .str ws[k].2.1, .bool ws[k].2.2]) q0
  have q1 := get_push' (ob' := .cells [.str ws[k].1, .str ws[k].2.1, .bool ws[k].2.2]) q1
  have g3 := get_push' (ob' := .cells [.str ws[k].1, .str ws[k].2.1, .bool ws[k].2.2]) g3
  have hR := hR.push (ob := .cells [.str ws[k].1, .str ws[k].2.1, .bool ws[k].2.2])
  have ho := ho.push (ob := .cells [.str ws[k].1, .str ws[k].2.1, .bool ws[k].2.2])
  generalize hib1 : (σ : AS).st.length = ib1 at g1 f7
  generalize (σ : AS).push false (.cells [.str ws[k].1, .str ws[k].2.1, .bool ws[k].2.2]) = σ1 at x1a g1 q0 q1 g3 hR ho
  have hw : wok cx.ro (.st c) = true := wokst hro hh
  by_cases q : (k : Int) < 10
  · skip
    obtain ⟨env2, x2a, x2b, x2c, x2d⟩ := rY2 cx env1 σ1 k x1b hcx f6 q 
    have f1 := (x2d 1 (by decide)).trans f1
    have f2 := (x2d 2 (by decide)).trans f2
    have f3 := (x2d 3 (by decide)).trans f3
    have f6 := (x2d 6 (by decide)).trans f6
    have f7 := (x2d 7 (by decide)).trans f7
    have f35 := (x2d 35 (by decide)).trans f35
    have f36 := (x2d 36 (by decide)).trans f36
    have f37 := (x2d 37 (by decide)).trans f37
    have f43 := x2c
    have ev1 := ev_tmp f43
    obtain ⟨R3, τ3, y3a, y3b, y3c, y3d, y3e⟩ := append_one (cx := cx) (x := encWr ws[k]) (j := 1) app34 hR rfl (by rw [List.length_map, List.length_take]; omega) (by decide) hro ho.2.2
    have hRo : R.one = true := (hR.1 _ (List.mem_of_getElem? (i := 1) rfl)).one
    obtain ⟨env3, x3a, x3b, x3c, x3d⟩ := rP2 cx env2 σ1 c _ cl sq pl Q R R3 (ws[k].1) (ws[k].2.1) (ws[k].2.2) τ3 x2b hcx f3 f7 g3 g1 hRo y3b (one_cells y3b) hq y3a (y3d _ _ g3) hw hh 
    have f1 := (x3d 1 (by decide)).trans f1
    have f2 := (x3d 2 (by decide)).trans f2
    have f3 := (x3d 3 (by decide)).trans f3
    have f6 := (x3d 6 (by decide)).trans f6
    have f7 := (x3d 7 (by decide)).trans f7
    have f35 := (x3d 35 (by decide)).trans f35
    have f36 := (x3d 36 (by decide)).trans f36
    have f37 := (x3d 37 (by decide)).trans f37
    have f43 := (x3d 43 (by decide)).trans f43
    have q0 := get_set' (ob' := .cells [.int .i64 cl, .int .u64 sq, .bool pl, Q, R3]) (y3d _ _ q0) (Nat.ne_of_lt hac)
    have q1 := get_set' (ob' := .cells [.int .i64 cl, .int .u64 sq, .bool pl, Q, R3]) (y3d _ _ q1) (Nat.ne_of_lt hbc)
    have g3n := get_set_at (ob' := .cells [.int .i64 cl, .int .u64 sq, .bool pl, Q, R3]) (y3d _ _ g3)
    have hRn := y3c.setc (ob := .cells [.int .i64 cl, .int .u64 sq, .bool pl, Q, R3]) (y3d _ _ g3)
    have hon := (y3e _ ho).set (ob := .cells [.int .i64 cl, .int .u64 sq, .bool pl, Q, R3]) (L := .st c) ⟨c, rfl, hh⟩
    exact ⟨.normal, env3, _, (execW_block_of (execW_seq_of x1a (execW_seq_of x2a (execW_cond_t ev1 x3a)))), .inl ⟨rfl, x3b, f37, f36, f1, f2, f3, f35, q0, q1, ⟨R3, g3n, by rw [take_min hk (by omega)]; exact hRn⟩, hon⟩⟩
  · skip
    obtain ⟨env2, x2a, x2b, x2c, x2d⟩ := rN2 cx env1 σ1 k x1b hcx f6 q 
    have f1 := (x2d 1 (by decide)).trans f1
    have f2 := (x2d 2 (by decide)).trans f2
    have f3 := (x2d 3 (by decide)).trans f3
    have f6 := (x2d 6 (by decide)).trans f6
    have f7 := (x2d 7 (by decide)).trans f7
    have f35 := (x2d 35 (by decide)).trans f35
    have f36 := (x2d 36 (by decide)).trans f36
    have f37 := (x2d 37 (by decide)).trans f37
    have f43 := x2c
    have ev1 := ev_tmp f43
    exact ⟨.normal, env2, _, (execW_block_of (execW_seq_of x1a (execW_seq_of x2a (execW_cond_f ev1 (by rfl))))), .inl ⟨rfl, x2b, f37, f36, f1, f2, f3, f35, q0, q1, ⟨R, g3, by rw [take_min' (by omega)]; exact hR⟩, ho⟩⟩
theorem loop2 (cx : Cx) (hcx : cx.esc = []) (hro : ∀ k, cx.ro = some k → k ≤ cx.h) (σ0 : AS) (a b c : Nat) (cl sq : Int) (pl : Bool) (X Y : AV) (Q : AV) (rs : List RdI) (ws : List WrI) (hac : a < c) (hbc : b < c) (hh : cx.h ≤ c) (hS : SlOf 3 Y (ws.map encWr)) (hq : Q.one = true) (hnn : ws.length ≤ 9223372036854775807) {env : Env} {σ : AS} (hl : env.length = 58) (h1 : Env.get env 37 = .int .i64 0) (h2 : Env.get env 36 = .int .i64 ((ws.length : Nat) : Int)) (h0 : J2 cx.h σ0 a b c cl sq pl X Y Q rs ws 0 env σ) :
    ∃ e env' σ', execW Try.prog cx [] (callW Try.prog how) (cr [.r, .r, .r, .l, .r]) (env, σ) = some (e, (env', σ')) ∧ ((e = .normal ∧ ((env'.length = 58 ∧ J2 cx.h σ0 a b c cl sq pl X Y Q rs ws (ws.length) env' σ') ∨ Ex2 cx.h σ0 a b c cl sq pl X Y Q rs ws (.exit 2) env' σ')) ∨ (e ≠ .normal ∧ e ≠ .exit 2 ∧ Ex2 cx.h σ0 a b c cl sq pl X Y Q rs ws e env' σ')) := by
  rw [loop_eq2]
  exact range_std (Ex := Ex2 cx.h σ0 a b c cl sq pl X Y Q rs ws) (N := 58) (tc := 38) (ti := 37) (tl := 36) (tx := 56) (ty1 := 3) (ty2 := 3) (ty3 := 3) (ty4 := 3) ⟨by kernel_rfl, by kernel_rfl, by kernel_rfl⟩ ⟨by kernel_rfl, by kernel_rfl, by kernel_rfl⟩ ⟨by kernel_rfl, by kernel_rfl, by kernel_rfl⟩ (by decide) hnn J2_stable (step2 cx hcx hro σ0 a b c cl sq pl X Y Q rs ws hac hbc hh hS hq) hl h1 h2 h0
section
attribute [local simp] ofV ofCell ofCells seqA_nil seqA_cons seqVK_eq seqEK_eq wantedA yieldedA isVal effA ev evs evps putE optsA optsOk valA fieldAddrA fieldA loadA partA aggA isAggD buildA placesA fillA lay storeA AV.withCells buildSliceA elemsA rowParts fzL promL okE isSrc bytesOk pushA cxOf lenA binA intBinA strBinA unA indexAddrA eqA AVs.inb AV.inb Loc.inb calleeA opsOf sub bodyOf Env.get_set quietA_nil quietA_cons quietK_none quietK_some qstep newA isNew escNew boxOk newLoc flat rowPartsQ quietN quietOp isBS List.takeWhile finishA_eq finK_ret finK_normal retK backK resA oneA AV.back AVs.back execW_seq_eq seqK_normal seqK_ret seqK_exit execW_cond_eq condK_true condK_false execW_block_eq blockK_exit blockK_normal blockK_ret execW_region_eq regK_eq execW_skip execW_exit execW_ret regionA_plain regionA_quiet0 tailK_eq nilCheckA guardOk isConst lookupA keyFits mapUpdateA beqI bneI
theorem rZ (cx : Cx) (env : Env) (σ : AS) (b c : Nat) (cl sq : Int) (pl : Bool) (Q R : AV) (hlen : env.length = 58) (hcx : cx.esc = []) (f2 : Env.get env 2 = .ptr (.st b) 0) (f3 : Env.get env 3 = .ptr (.st c) 0) (g3 : σ.get (.st c) = some (.cells [.int .i64 cl, .int .u64 sq, .bool pl, Q, R])) (g2 : σ.get (.st b) = some (.cells [.int .i64 0, .int .u64 0, .bool false, .nils, .nils])) (hq : Q.one = true) (hq2 : R.one = true) (hw : wok cx.ro (.st b) = true) (hh : cx.h ≤ b) :
    Pc Try.prog how cx [] 58 [57] (cr [.r, .r, .r, .r, .l]) env σ (.normal) (σ.set (.st b) (.cells [.int .i64 cl, .int .u64 sq, .bool pl, Q, R])) (fun _ => True) := by
  refine pc_of fun res hr => ?_
  simp -implicitDefEqProofs [-lenA, -indexAddrA, AS.get_push_at, AS.get_push_old, AS.push_len, AS.set_st_len, AS.next_st', AS.set_push_at, AS.get_set_self, AS.get_set_other, cr, Try.f15, hlen, hcx, f2, f3, g3, g2, hq, hq2, hw, hh] at hr
  subst hr
  refine ⟨_, rfl, by simp [hlen], by simp [Env.get_set, hlen, f2, f3, g3, g2, hq, hq2, hw, hh], fun i hi => ?_⟩
  simp only [List.mem_cons, List.not_mem_nil, or_false, not_or] at hi
  simp only [get_set2, hi, false_and, if_false]

end
noncomputable def bodyC : Code := (.seq (cr [.l]) (.seq (cr [.r, .l]) (.seq (.seq (cr [.r, .r, .l, .l]) (cr [.r, .r, .l, .r])) (.seq (.seq (cr [.r, .r, .r, .l, .l]) (cr [.r, .r, .r, .l, .r])) (.seq (cr [.r, .r, .r, .r, .l]) .ret)))))
theorem body : Try.f15.body = some bodyC := by kernel_rfl
theorem ok (hp s : List AObj) (ro : Option Nat) (cl sq : Int) (pl : Bool) (X Y : AV) (rs : List RdI) (ws : List WrI) (hro' : ∀ k, ro = some k → k ≤ s.length) (hX : SlOf 2 X (rs.map encRd)) (hY : SlOf 3 Y (ws.map encWr)) (hn1 : rs.length ≤ 9223372036854775807) (hn2 : ws.length ≤ 9223372036854775807) :
    callW Try.prog how 15 [.agg [.int .i64 cl, .int .u64 sq, .bool pl, X, Y]] ⟨hp, s⟩ ro = some (.agg [.int .i64 cl, .int .u64 sq, .bool pl, slV 2 ((rs.take 10).map encRd), slV 3 ((ws.take 10).map encWr)], ⟨hp, s⟩) := by
  let cx : Cx := { h := s.length, ro := ro, esc := [] }
  have hcx : cx.esc = [] := rfl
  have hro : ∀ k, cx.ro = some k → k ≤ cx.h := hro'
  obtain ⟨env, henv⟩ : ∃ e, e = frameA Try.f15 [.agg [.int .i64 cl, .int .u64 sq, .bool pl, X, Y]] := ⟨_, rfl⟩
  have hlen : env.length = 58 := by rw [henv]; rfl
  have f0 : Env.get env 0 = .agg [.int .i64 cl, .int .u64 sq, .bool pl, X, Y] := by rw [henv]; rfl
  have ho : Outside s.length (AS.mk hp s) (AS.mk hp s) := Outside.refl (Nat.le_refl _)
  obtain ⟨env1, x1a, x1b, x1c, x1d⟩ := rA cx env (AS.mk hp s) cl sq pl X Y hp s hlen hcx f0 rfl hX.plain hY.plain (wokst hro (Nat.le_refl _)) (wokst hro (Nat.le_succ _)) (Nat.le_refl _) (Nat.le_succ _) 
  have f0 := (x1d 0 (by decide)).trans f0
  have f1 := x1c.1
  have f2 := x1c.2
  have ga : (AS.mk hp (s ++ [AObj.cells [.int .i64 cl, .int .u64 sq, .bool pl, X, Y], AObj.cells [.int .i64 0, .int .u64 0, .bool false, .nils, .nils]])).get (.st s.length) = some (.cells [.int .i64 cl, .int .u64 sq, .bool pl, X, Y]) := by simp [AS.get]
  have gb : (AS.mk hp (s ++ [AObj.cells [.int .i64 cl, .int .u64 sq, .bool pl, X, Y], AObj.cells [.int .i64 0, .int .u64 0, .bool false, .nils, .nils]])).get (.st (s.length + 1)) = some (.cells [.int .i64 0, .int .u64 0, .bool false, .nils, .nils]) := by simp [AS.get]
  have ho : Outside s.length (AS.mk hp s) (AS.mk hp (s ++ [AObj.cells [.int .i64 cl, .int .u64 sq, .bool pl, X, Y], AObj.cells [.int .i64 0, .int .u64 0, .bool false, .nils, .nils]])) := ⟨rfl, by simp, by simp⟩
  have hlt1 : s.length < (AS.mk hp (s ++ [AObj.cells [.int .i64 cl, .int .u64 sq, .bool pl, X, Y], AObj.cells [.int .i64 0, .int .u64 0, .bool false, .nils, .nils]])).st.length := by simp
  have hlt2 : s.length + 1 < (AS.mk hp (s ++ [AObj.cells [.int .i64 cl, .int .u64 sq, .bool pl, X, Y], AObj.cells [.int .i64 0, .int .u64 0, .bool false, .nils, .nils]])).st.length := by simp
  obtain ⟨env2, x2a, x2b, x2c, x2d⟩ := rB cx env1 (AS.mk hp (s ++ [AObj.cells [.int .i64 cl, .int .u64 sq, .bool pl, X, Y], AObj.cells [.int .i64 0, .int .u64 0, .bool false, .nils, .nils]])) s.length cl sq pl X Y x1b hcx f1 ga (wokst hro ho.2.2) ho.2.2
  have f0 := (x2d 0 (by decide)).trans f0
  have f1 := (x2d 1 (by decide)).trans f1
  have f2 := (x2d 2 (by decide)).trans f2
  have f3 := x2c
  have g2 : ((AS.mk hp (s ++ [AObj.cells [.int .i64 cl, .int .u64 sq, .bool pl, X, Y], AObj.cells [.int .i64 0, .int .u64 0, .bool false, .nils, .nils]]) : AS).push false (.cells [.int .i64 cl, .int .u64 sq, .bool pl, .nils, .nils])).get (.st (AS.mk hp (s ++ [AObj.cells [.int .i64 cl, .int .u64 sq, .bool pl, X, Y], AObj.cells [.int .i64 0, .int .u64 0, .bool false, .nils, .nils]]) : AS).st.length) = some (.cells [.int .i64 cl, .int .u64 sq, .bool pl, .nils, .nils]) := AS.get_push_at rfl
  have ga := get_push' (ob' := .cells [.int .i64 cl, .int .u64 sq, .bool pl, .nils, .nils]) ga
  have gb := get_push' (ob' := .cells [.int .i64 cl, .int .u64 sq, .bool pl, .nils, .nils]) gb
  have ho := ho.push (ob := .cells [.int .i64 cl, .int .u64 sq, .bool pl, .nils, .nils])
  generalize hib2 : (AS.mk hp (s ++ [AObj.cells [.int .i64 cl, .int .u64 sq, .bool pl, X, Y], AObj.cells [.int .i64 0, .int .u64 0, .bool false, .nils, .nils]]) : AS).st.length = ib2 at g2 f3
  generalize (AS.mk hp (s ++ [AObj.cells [.int .i64 cl, .int .u64 sq, .bool pl, X, Y], AObj.cells [.int .i64 0, .int .u64 0, .bool false, .nils, .nils]]) : AS).push false (.cells [.int .i64 cl, .int .u64 sq, .bool pl, .nils, .nils]) = σ2 at x2a g2 ga gb ho
  rw [hib2] at hlt1 hlt2
  have hl_1 := (rd29 (σ := σ2) hX).1
  rw [List.length_map] at hl_1
  obtain ⟨env3, x3a, x3b, x3c, x3d⟩ := rH1 cx env2 σ2 s.length rs.length cl sq pl X Y x2b hcx f1 ga hl_1 hX.plain hY.plain 
  have f0 := (x3d 0 (by decide)).trans f0
  have f1 := (x3d 1 (by decide)).trans f1
  have f2 := (x3d 2 (by decide)).trans f2
  have f3 := (x3d 3 (by decide)).trans f3
  have f14 := x3c.1
  have f15 := x3c.2.1
  have f16 := x3c.2.2
  have hh2 : cx.h ≤ ib2 := by have := hlt1; show s.length ≤ _; omega
  obtain ⟨e4, env4, σ4, x4a, x4p⟩ := loop1 cx hcx hro ⟨hp, s⟩ s.length (s.length + 1) ib2 cl sq pl X Y .nils rs ws hlt1 hlt2 hh2 hX rfl (by omega) (σ := σ2) x3b f16 f15 (⟨f1, f2, f3, f14, ga, gb, ⟨.nils, g2, Rows0N⟩, ho⟩)
  rcases x4p with ⟨rfl, ⟨x4b, f1, f2, f3, f14, q0, q1, q2, ho⟩ | x4p⟩ | ⟨x4q, x4r, x4p⟩
  · skip
    obtain ⟨R1, g3, hR⟩ := q2
    have hR1o : R1.one = true := (hR.1 _ (List.mem_of_getElem? (i := 0) rfl)).one
    have hl_2 := (rd30 (σ := σ4) hY).1
    rw [List.length_map] at hl_2
    obtain ⟨env5, x5a, x5b, x5c, x5d⟩ := rH2 cx env4 σ4 s.length ws.length cl sq pl X Y x4b hcx f1 q0 hl_2 hX.plain hY.plain 
    have f1 := (x5d 1 (by decide)).trans f1
    have f2 := (x5d 2 (by decide)).trans f2
    have f3 := (x5d 3 (by decide)).trans f3
    have f14 := (x5d 14 (by decide)).trans f14
    have f35 := x5c.1
    have f36 := x5c.2.1
    have f37 := x5c.2.2
    obtain ⟨e6, env6, σ6, x6a, x6p⟩ := loop2 cx hcx hro ⟨hp, s⟩ s.length (s.length + 1) ib2 cl sq pl X Y R1 rs ws hlt1 hlt2 hh2 hY hR1o (by omega) (σ := σ4) x5b f37 f36 (⟨f1, f2, f3, f35, q0, q1, ⟨.nils, g3, Rows1N hR (List.take_of_length_le (by rw [List.length_take]; omega))⟩, ho⟩)
    rcases x6p with ⟨rfl, ⟨x6b, f1, f2, f3, f35, q0, q1, q2, ho⟩ | x6p⟩ | ⟨x6q, x6r, x6p⟩
    · skip
      obtain ⟨R2, g3, hR⟩ := q2
      have hB1 : Built cx.h σ6 2 R1 ((rs.take 10).map encRd) := hR.1 _ (List.mem_of_getElem? (i := 0) rfl)
      have hB2 : Built cx.h σ6 3 R2 _ := hR.1 _ (List.mem_of_getElem? (i := 1) rfl)
      rw [List.take_of_length_le (by rw [List.length_take]; omega)] at hB2
      obtain ⟨env7, x7a, x7b, x7c, x7d⟩ := rZ cx env6 σ6 ((s.length + 1)) ib2 cl sq pl R1 R2 x6b hcx f2 f3 g3 q1 hB1.one hB2.one (wokst hro (Nat.le_succ _)) (Nat.le_succ _) 
      have f1 := (x7d 1 (by decide)).trans f1
      have f2 := (x7d 2 (by decide)).trans f2
      have f3 := (x7d 3 (by decide)).trans f3
      have f35 := (x7d 35 (by decide)).trans f35
      have g4 := get_set_at (ob' := (.cells [.int .i64 cl, .int .u64 sq, .bool pl, R1, R2])) q1
      have ho := ho.set (ob := (.cells [.int .i64 cl, .int .u64 sq, .bool pl, R1, R2])) (L := .st (s.length + 1)) ⟨s.length + 1, rfl, Nat.le_succ _⟩
      have hbk : (AV.agg [.int .i64 cl, .int .u64 sq, .bool pl, R1, R2]).back s.length (σ6.set (.st (s.length + 1)) (.cells [.int .i64 cl, .int .u64 sq, .bool pl, R1, R2])) = some (.agg [.int .i64 cl, .int .u64 sq, .bool pl, slV 2 ((rs.take 10).map encRd), slV 3 ((ws.take 10).map encWr)]) := by
        have b1 := (Built.setc hB1 q1 (.cells [.int .i64 cl, .int .u64 sq, .bool pl, R1, R2])).back
        have b2 := (Built.setc hB2 q1 (.cells [.int .i64 cl, .int .u64 sq, .bool pl, R1, R2])).back
        have b1 : AV.back s.length _ R1 = some _ := b1
        have b2 : AV.back s.length _ R2 = some _ := b2
        simp [AV.back, AVs.back, b1, b2]
      have hin : (.agg [.int .i64 cl, .int .u64 sq, .bool pl, slV 2 ((rs.take 10).map encRd), slV 3 ((ws.take 10).map encWr)] : AV).inb s.length = true := by simp [AV.inb, AVs.inb, slV_inb]
      have hre : resA Try.prog (σ6.set (.st (s.length + 1)) (.cells [.int .i64 cl, .int .u64 sq, .bool pl, R1, R2])) env7 Try.f15.results.toList = some [.agg [.int .i64 cl, .int .u64 sq, .bool pl, R1, R2]] := by
        have hrs : Try.f15.results.toList = [.cell 2 69] := by kernel_rfl
        rw [hrs]; simp [resA, f2, loadA, g4, partA, aggA, isAggD]
      exact call_of (fl := {}) (fn := Try.f15) (c := bodyC) (env := env) (e := (.ret, (env7, σ6.set (.st (s.length + 1)) (.cells [.int .i64 cl, .int .u64 sq, .bool pl, R1, R2])))) rfl Try.func15 body henv (by unfold bodyC; exact (execW_seq_of x1a (execW_seq_of x2a (execW_seq_of (execW_seq_of x3a x4a) (execW_seq_of (execW_seq_of x5a x6a) (execW_seq_of x7a (by rfl))))))) ((fin_one (.inl rfl) rfl hre hbk hin).trans (congrArg (fun x => some (_, x)) (outside_st ho)))
    · exact x6p.elim
    · exact x6p.elim
  · exact x4p.elim
  · exact x4p.elim
end F15
