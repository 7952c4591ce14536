/- The law SpacePlays, run. -/

import Derived.Test.YtajoebiaopapoaaDa
open Go Go.Abs Go.Proofs
set_option maxRecDepth 100000
set_option maxHeartbeats 4000000
set_option linter.unusedSimpArgs false
set_option linter.unusedVariables false

/-- An op, as the laws have it. -/
def isOp (e : AV) : Prop := ∃ (c0 oa : Int) (ok_ ov : ByteArray) (og : Bool), e = .agg [.int .i64 c0, .str ok_, .int .i64 oa, .str ov, .bool og] ∧ ok_.size ≤ 9223372036854775807 ∧ ov.size ≤ 9223372036854775807
def isOps (x : AV) : Prop := x = .nils ∨ ∃ es, x = .sl false 5 es ∧ es.length ≤ 9223372036854775807 ∧ ∀ e ∈ es, isOp e
theorem Two.app {hp : List AObj} {a mm b : Nat} {S : List Rw} (h : Two hp a mm b S) (l : List AObj) : Two (hp ++ l) a mm b S := by
  obtain ⟨⟨M, hP⟩, ⟨X, hX, hR⟩, hab⟩ := h
  exact ⟨⟨M, hP.app l⟩, ⟨X, by rw [List.getElem?_append_left (at_lt hX)]; exact hX, hR.keep fun j w f hj => List.getElem?_append_left (at_lt hj)⟩, hab⟩
theorem built_rd {h : Nat} {σ : AS} {R : AV} {l : List AV} (b : Built h σ 1 R l) (he : ∀ c ∈ l, partA Try.prog 9 c.cells 0 = some c) : Rd Try.prog σ 33 9 R l := by
  rcases b with ⟨rfl, rfl⟩ | ⟨_, im, v, rfl, hg, _⟩
  · exact rd_slV (sz := 1) (l := []) Try.underlying33 s9 (by decide) (fun c hc => by cases hc)
  · exact rd_row Try.underlying33 s9 (by decide) hg he
theorem built_inb {h : Nat} {σ : AS} {sz : Nat} {R : AV} {l : List AV} (b : Built h σ sz R l) : R.inb σ.st.length = true := by
  rcases b with ⟨rfl, rfl⟩ | ⟨_, im, v, rfl, hg, _⟩
  · rfl
  · have := lt_of_get hg
    simp [AV.inb, Loc.inb, this]
theorem newTwo (hp : List AObj) : Two (hp ++ [AObj.map [], AObj.cells [.map (.hp hp.length)], AObj.cells [.nils]]) (hp.length + 1) hp.length (hp.length + 2) [] :=
  ⟨⟨[], ⟨by simp, by simp, List.Perm.refl _⟩⟩, ⟨.nils, by simp, .inl ⟨rfl, rfl⟩⟩, by omega⟩
namespace F3
noncomputable def cr (p : List Dir) : Code := sub p (bodyOf Try.f3)

section
attribute [local simp] ofV ofCell ofCells seqA_nil seqA_cons seqVK_eq seqEK_eq wantedA yieldedA isVal effA ev evs evps putE optsA optsOk valA fieldAddrA fieldA loadA partA aggA isAggD buildA placesA fillA lay storeA AV.withCells buildSliceA elemsA rowParts fzL promL okE isSrc bytesOk pushA cxOf lenA binA intBinA strBinA unA indexAddrA eqA AVs.inb AV.inb Loc.inb calleeA opsOf sub bodyOf Env.get_set quietA_nil quietA_cons quietK_none quietK_some qstep newA isNew escNew boxOk newLoc flat rowPartsQ quietN quietOp isBS List.takeWhile finishA_eq finK_ret finK_normal retK backK resA oneA AV.back AVs.back execW_seq_eq seqK_normal seqK_ret seqK_exit execW_cond_eq condK_true condK_false execW_block_eq blockK_exit blockK_normal blockK_ret execW_region_eq regK_eq execW_skip execW_exit execW_ret regionA_plain regionA_quiet0 tailK_eq nilCheckA guardOk isConst lookupA keyFits mapUpdateA beqI bneI
theorem rA (cx : Cx) (env : Env) (σ : AS)  (hlen : env.length = 94) (hcx : cx.esc = [16])  :
    Pc Try.prog how cx [] 94 [6] (cr [.l]) env σ (.normal) (σ) (fun env' => Env.get env' 6 = .bool false) := by
  refine pc_of fun res hr => ?_
  simp -implicitDefEqProofs [AS.get_push_at, AS.get_push_old, AS.push_len, AS.set_st_len, AS.next_st', AS.set_push_at, AS.get_set_self, AS.get_set_other, cr, Try.f3, hlen, hcx] at hr
  subst hr
  refine ⟨_, rfl, by simp [hlen], by simp [Env.get_set, hlen], fun i hi => ?_⟩
  simp only [List.mem_cons, List.not_mem_nil, or_false, not_or] at hi
  simp only [get_set2, hi, false_and, if_false]

theorem rN (cx : Cx) (env : Env) (σ : AS) (hp s : List AObj) (hlen : env.length = 94) (hcx : cx.esc = [16])  (h7 : callW Try.prog how 7 [] ⟨hp, s⟩ none = some (.ptr (.hp (hp.length + 1)) 0, ⟨hp ++ [.map [], .cells [.map (.hp hp.length)]], s⟩)) (hσ : σ = ⟨hp, s⟩) (hro0 : cx.ro = none) :
    Pc Try.prog how cx [] 94 [7, 8, 14, 15, 16] (cr [.r, .l]) env σ (.normal) (AS.mk (hp ++ [.map [], .cells [.map (.hp hp.length)], .cells [.nils]]) s) (fun env' => Env.get env' 7 = .ptr (.hp (hp.length + 1)) 0 ∧ Env.get env' 8 = .ptr (.hp (hp.length + 2)) 0) := by
  refine pc_of fun res hr => ?_
  simp -implicitDefEqProofs [AS.get_push_at, AS.get_push_old, AS.push_len, AS.set_st_len, AS.next_st', AS.set_push_at, AS.get_set_self, AS.get_set_other, cr, Try.f3, hlen, hcx, h7, hσ, hro0] at hr
  subst hr
  refine ⟨_, rfl, by simp [hlen], by simp [Env.get_set, hlen, h7, hσ, hro0], fun i hi => ?_⟩
  simp only [List.mem_cons, List.not_mem_nil, or_false, not_or] at hi
  simp only [get_set2, hi, false_and, if_false]

theorem rLn (cx : Cx) (env : Env) (σ : AS)  (hlen : env.length = 94) (hcx : cx.esc = [16]) (f0 : Env.get env 0 = .nils) :
    Pc Try.prog how cx [] 94 [17, 18, 19] (cr [.r, .r, .l, .l]) env σ (.normal) (σ) (fun env' => Env.get env' 17 = .nils ∧ Env.get env' 18 = .int .i64 0 ∧ Env.get env' 19 = .int .i64 0) := by
  refine pc_of fun res hr => ?_
  simp -implicitDefEqProofs [AS.get_push_at, AS.get_push_old, AS.push_len, AS.set_st_len, AS.next_st', AS.set_push_at, AS.get_set_self, AS.get_set_other, cr, Try.f3, hlen, hcx, f0] at hr
  subst hr
  refine ⟨_, rfl, by simp [hlen], by simp [Env.get_set, hlen, f0], fun i hi => ?_⟩
  simp only [List.mem_cons, List.not_mem_nil, or_false, not_or] at hi
  simp only [get_set2, hi, false_and, if_false]

theorem rLs (cx : Cx) (env : Env) (σ : AS) (es : List AV) (hlen : env.length = 94) (hcx : cx.esc = [16]) (f0 : Env.get env 0 = .sl false 5 es) :
    Pc Try.prog how cx [] 94 [17, 18, 19] (cr [.r, .r, .l, .l]) env σ (.normal) (σ) (fun env' => Env.get env' 17 = .sl false 5 es ∧ Env.get env' 18 = .int .i64 (es.length : Int) ∧ Env.get env' 19 = .int .i64 0) := by
  refine pc_of fun res hr => ?_
  simp -implicitDefEqProofs [AS.get_push_at, AS.get_push_old, AS.push_len, AS.set_st_len, AS.next_st', AS.set_push_at, AS.get_set_self, AS.get_set_other, cr, Try.f3, hlen, hcx, f0] at hr
  subst hr
  refine ⟨_, rfl, by simp [hlen], by simp [Env.get_set, hlen, f0], fun i hi => ?_⟩
  simp only [List.mem_cons, List.not_mem_nil, or_false, not_or] at hi
  simp only [get_set2, hi, false_and, if_false]

theorem rE (cx : Cx) (env : Env) (σ : AS) (es : List AV) (k : Nat) (c0 oa : Int) (ok_ ov : ByteArray) (og : Bool) (hlen : env.length = 94) (hcx : cx.esc = [16]) (f17 : Env.get env 17 = .sl false 5 es) (f19 : Env.get env 19 = .int .i64 (k : Int)) (hk : k < es.length) (hv : es[k] = .agg [.int .i64 c0, .str ok_, .int .i64 oa, .str ov, .bool og]) (hw : wok cx.ro (.st σ.st.length) = true) (hh : cx.h ≤ σ.st.length) :
    Pc Try.prog how cx [] 94 [9, 10, 21, 22, 23] (cr [.r, .r, .l, .r, .i, .i, .r, .r, .l, .i, .l]) env σ (.normal) (σ.push false (.cells [.int .i64 c0, .str ok_, .int .i64 oa, .str ov, .bool og])) (fun env' => Env.get env' 9 = .int .i64 (k : Int) ∧ Env.get env' 10 = .ptr (.st σ.st.length) 0) := by
  refine pc_of fun res hr => ?_
  simp -implicitDefEqProofs [AS.get_push_at, AS.get_push_old, AS.push_len, AS.set_st_len, AS.next_st', AS.set_push_at, AS.get_set_self, AS.get_set_other, cr, Try.f3, hlen, hcx, f17, f19, hk, hv, hw, hh] at hr
  subst hr
  refine ⟨_, rfl, by simp [hlen], by simp [Env.get_set, hlen, f17, f19, hk, hv, hw, hh], fun i hi => ?_⟩
  simp only [List.mem_cons, List.not_mem_nil, or_false, not_or] at hi
  simp only [get_set2, hi, false_and, if_false]

theorem rB (cx : Cx) (env : Env) (σ : AS) (k : Nat) (hlen : env.length = 94) (hcx : cx.esc = [16]) (f9 : Env.get env 9 = .int .i64 (k : Int)) (q : (30 : Int) ≤ (k : Int)) :
    Pc Try.prog how cx [] 94 [24, 25] (cr [.r, .r, .l, .r, .i, .i, .r, .r, .l, .i, .r, .l]) env σ (.exit 0) (σ) (fun _ => True) := by
  refine pc_of fun res hr => ?_
  simp -implicitDefEqProofs [AS.get_push_at, AS.get_push_old, AS.push_len, AS.set_st_len, AS.next_st', AS.set_push_at, AS.get_set_self, AS.get_set_other, cr, Try.f3, hlen, hcx, f9, q] at hr
  subst hr
  refine ⟨_, rfl, by simp [hlen], by simp [Env.get_set, hlen, f9, q], fun i hi => ?_⟩
  simp only [List.mem_cons, List.not_mem_nil, or_false, not_or] at hi
  simp only [get_set2, hi, false_and, if_false]

theorem rC (cx : Cx) (env : Env) (σ : AS) (k : Nat) (hlen : env.length = 94) (hcx : cx.esc = [16]) (f9 : Env.get env 9 = .int .i64 (k : Int)) (q : ¬ (30 : Int) ≤ (k : Int)) :
    Pc Try.prog how cx [] 94 [24, 25] (cr [.r, .r, .l, .r, .i, .i, .r, .r, .l, .i, .r, .l]) env σ (.normal) (σ) (fun _ => True) := by
  refine pc_of fun res hr => ?_
  simp -implicitDefEqProofs [AS.get_push_at, AS.get_push_old, AS.push_len, AS.set_st_len, AS.next_st', AS.set_push_at, AS.get_set_self, AS.get_set_other, cr, Try.f3, hlen, hcx, f9, q] at hr
  subst hr
  refine ⟨_, rfl, by simp [hlen], by simp [Env.get_set, hlen, f9, q], fun i hi => ?_⟩
  simp only [List.mem_cons, List.not_mem_nil, or_false, not_or] at hi
  simp only [get_set2, hi, false_and, if_false]

theorem rS (cx : Cx) (env : Env) (σ : AS) (hp s hp1 : List AObj) (a b c : Nat) (m : Int) (key : ByteArray) (c0 oa : Int) (ok_ ov : ByteArray) (og : Bool) (hlen : env.length = 94) (hcx : cx.esc = [16]) (f1 : Env.get env 1 = .str key) (f2 : Env.get env 2 = .int .i64 m) (f7 : Env.get env 7 = .ptr (.hp a) 0) (f8 : Env.get env 8 = .ptr (.hp b) 0) (f10 : Env.get env 10 = .ptr (.st c) 0) (hσ : σ = ⟨hp, s⟩) (gc : ∀ hp, (AS.mk hp s).get (.st c) = some (.cells [.int .i64 c0, .str ok_, .int .i64 oa, .str ov, .bool og])) (h8 : callW Try.prog how 8 [.ptr (.hp a) 0, .ptr (.hp b) 0, .agg [.int .i64 c0, .str ok_, .int .i64 oa, .str ov, .bool og]] ⟨hp, s⟩ cx.ro = some (.bool true, ⟨hp1, s⟩)) (h9 : callW Try.prog how 9 [.ptr (.hp a) 0, .ptr (.hp b) 0, .str key, .int .i64 m] ⟨hp1, s⟩ cx.ro = some (.bool true, ⟨hp1, s⟩)) (h9b : callW Try.prog how 9 [.ptr (.hp a) 0, .ptr (.hp b) 0, .str ok_, .int .i64 m] ⟨hp1, s⟩ cx.ro = some (.bool true, ⟨hp1, s⟩)) :
    Pc Try.prog how cx [] 94 [26, 27, 28, 29, 30, 31, 32, 33, 34, 35, 36, 37, 38, 39, 40, 41, 42, 43, 44, 45, 46, 47] (cr [.r, .r, .l, .r, .i, .i, .r, .r, .l, .i, .r, .r, .l]) env σ (.normal) (AS.mk hp1 s) (fun _ => True) := by
  refine pc_of fun res hr => ?_
  simp -implicitDefEqProofs [AS.get_push_at, AS.get_push_old, AS.push_len, AS.set_st_len, AS.next_st', AS.set_push_at, AS.get_set_self, AS.get_set_other, cr, Try.f3, hlen, hcx, f1, f2, f7, f8, f10, hσ, gc, h8, h9, h9b] at hr
  subst hr
  refine ⟨_, rfl, by simp [hlen], by simp [Env.get_set, hlen, f1, f2, f7, f8, f10, hσ, gc, h8, h9, h9b], fun i hi => ?_⟩
  simp only [List.mem_cons, List.not_mem_nil, or_false, not_or] at hi
  simp only [get_set2, hi, false_and, if_false]

theorem rD (cx : Cx) (env : Env) (σ : AS)  (hlen : env.length = 94) (hcx : cx.esc = [16])  :
    Pc Try.prog how cx [] 94 [11] (cr [.r, .r, .l, .r, .i, .i, .r, .r, .l, .i, .r, .r, .r, .l]) env σ (.normal) (σ) (fun env' => Env.get env' 11 = .nils) := by
  refine pc_of fun res hr => ?_
  simp -implicitDefEqProofs [AS.get_push_at, AS.get_push_old, AS.push_len, AS.set_st_len, AS.next_st', AS.set_push_at, AS.get_set_self, AS.get_set_other, cr, Try.f3, hlen, hcx] at hr
  subst hr
  refine ⟨_, rfl, by simp [hlen], by simp [Env.get_set, hlen], fun i hi => ?_⟩
  simp only [List.mem_cons, List.not_mem_nil, or_false, not_or] at hi
  simp only [get_set2, hi, false_and, if_false]

theorem rF (cx : Cx) (env : Env) (σ : AS) (b n : Nat) (X : AV) (hlen : env.length = 94) (hcx : cx.esc = [16]) (f8 : Env.get env 8 = .ptr (.hp b) 0) (hA : σ.get (.hp b) = some (.cells [X])) (hX : lenA Try.prog σ 26 X = some n) :
    Pc Try.prog how cx [] 94 [48, 49, 50, 51, 52, 53] (cr [.r, .r, .l, .r, .i, .i, .r, .r, .l, .i, .r, .r, .r, .r, .l, .l]) env σ (.normal) (σ) (fun env' => Env.get env' 51 = X ∧ Env.get env' 52 = .int .i64 (n : Int) ∧ Env.get env' 53 = .int .i64 0) := by
  refine pc_of fun res hr => ?_
  simp -implicitDefEqProofs [-lenA, AS.get_push_at, AS.get_push_old, AS.push_len, AS.set_st_len, AS.next_st', AS.set_push_at, AS.get_set_self, AS.get_set_other, cr, Try.f3, hlen, hcx, f8, hA, hX] at hr
  subst hr
  refine ⟨_, rfl, by simp [hlen], by simp [Env.get_set, hlen, f8, hA, hX], fun i hi => ?_⟩
  simp only [List.mem_cons, List.not_mem_nil, or_false, not_or] at hi
  simp only [get_set2, hi, false_and, if_false]

theorem rE2 (cx : Cx) (env : Env) (σ : AS) (k : Nat) (X p Y0 : AV) (k0 : ByteArray) (hlen : env.length = 94) (hcx : cx.esc = [16]) (f51 : Env.get env 51 = X) (f53 : Env.get env 53 = .int .i64 (k : Int)) (hia : indexAddrA Try.prog σ 26 X (.int .i64 (k : Int)) = some p) (hpa : loadA Try.prog σ 36 p = some (.agg [.str k0, Y0])) (hY : Plain Y0) (hw : wok cx.ro (.st σ.st.length) = true) (hh : cx.h ≤ σ.st.length) :
    Pc Try.prog how cx [] 94 [13, 55, 56] (cr [.r, .r, .l, .r, .i, .i, .r, .r, .l, .i, .r, .r, .r, .r, .l, .r, .i, .i, .r, .r, .l, .i, .l]) env σ (.normal) (σ.push false (.cells [.str k0, Y0])) (fun env' => Env.get env' 13 = .ptr (.st σ.st.length) 0) := by
  refine pc_of fun res hr => ?_
  simp -implicitDefEqProofs [-lenA, -indexAddrA, -loadA, AS.get_push_at, AS.get_push_old, AS.push_len, AS.set_st_len, AS.next_st', AS.set_push_at, AS.get_set_self, AS.get_set_other, cr, Try.f3, hlen, hcx, f51, f53, hia, hpa, hY.one, hY.inb, hY.row, hw, hh] at hr
  subst hr
  refine ⟨_, rfl, by simp [hlen], by simp [Env.get_set, hlen, f51, f53, hia, hpa, hY.one, hY.inb, hY.row, hw, hh], fun i hi => ?_⟩
  simp only [List.mem_cons, List.not_mem_nil, or_false, not_or] at hi
  simp only [get_set2, hi, false_and, if_false]

theorem rA2 (cx : Cx) (env : Env) (σ : AS) (c : Nat) (Y0 : AV) (k0 : ByteArray) (R' : AV) (R : AV) (σ' : AS) (hlen : env.length = 94) (hcx : cx.esc = [16]) (f11 : Env.get env 11 = R) (f13 : Env.get env 13 = .ptr (.st c) 0) (gc : σ.get (.st c) = some (.cells [.str k0, Y0])) (hap : appendA Try.prog cx (σ.push false (.row [.str k0] 1 0 false)) [33, 33] R (.row (.st σ.st.length) 0 0 1) = some (R', σ')) :
    Pc Try.prog how cx [] 94 [11, 57, 58, 59, 60, 61] (cr [.r, .r, .l, .r, .i, .i, .r, .r, .l, .i, .r, .r, .r, .r, .l, .r, .i, .i, .r, .r, .l, .i, .r, .l]) env σ (.normal) (σ') (fun env' => Env.get env' 11 = R') := by
  refine pc_of fun res hr => ?_
  simp -implicitDefEqProofs [AS.get_push_at, AS.get_push_old, AS.push_len, AS.set_st_len, AS.next_st', AS.set_push_at, AS.get_set_self, AS.get_set_other, cr, Try.f3, hlen, hcx, f11, f13, gc, hap, elemA] at hr
  subst hr
  refine ⟨_, rfl, by simp [hlen], by simp [Env.get_set, hlen, f11, f13, gc, hap, elemA], fun i hi => ?_⟩
  simp only [List.mem_cons, List.not_mem_nil, or_false, not_or] at hi
  simp only [get_set2, hi, false_and, if_false]

theorem rN2 (cx : Cx) (env : Env) (σ : AS) (a c j : Nat) (k0 : ByteArray) (Y0 : AV) (v : Vn) (hlen : env.length = 94) (hcx : cx.esc = [16]) (f7 : Env.get env 7 = .ptr (.hp a) 0) (f13 : Env.get env 13 = .ptr (.st c) 0) (gc : σ.get (.st c) = some (.cells [.str k0, Y0])) (hY : Plain Y0) (h10 : callW Try.prog how 10 [.ptr (.hp a) 0, .str k0] σ (some σ.st.length) = some (.int .u64 v.n, σ)) (hl : lenA Try.prog σ 34 Y0 = some (j + 1)) (hw : wr .i64 (j : Int) = (j : Int)) (hia : indexAddrA Try.prog σ 34 Y0 (.int .i64 (j : Int)) = some (.rptr [.int .i64 v.a, .int .u64 v.n, .str v.v, .bool v.g] 0)) :
    Pc Try.prog how cx [] 94 [62, 63, 64, 65, 66, 67, 68, 69, 70, 71, 72, 73, 74, 75] (cr [.r, .r, .l, .r, .i, .i, .r, .r, .l, .i, .r, .r, .r, .r, .l, .r, .i, .i, .r, .r, .l, .i, .r, .r]) env σ (.normal) (σ) (fun _ => True) := by
  refine pc_of fun res hr => ?_
  simp -implicitDefEqProofs [-lenA, -indexAddrA, AS.get_push_at, AS.get_push_old, AS.push_len, AS.set_st_len, AS.next_st', AS.set_push_at, AS.get_set_self, AS.get_set_other, cr, Try.f3, hlen, hcx, f7, f13, gc, hY.one, hY.inb, hY.row, h10, hl, hw, hia] at hr
  subst hr
  refine ⟨_, rfl, by simp [hlen], by simp [Env.get_set, hlen, f7, f13, gc, hY.one, hY.inb, hY.row, h10, hl, hw, hia], fun i hi => ?_⟩
  simp only [List.mem_cons, List.not_mem_nil, or_false, not_or] at hi
  simp only [get_set2, hi, false_and, if_false]

theorem rG (cx : Cx) (env : Env) (σ : AS) (hp s hpA hpB : List AObj) (a b : Nat) (m : Int) (K R D1 D2 : AV) (hlen : env.length = 94) (hcx : cx.esc = [16]) (f2 : Env.get env 2 = .int .i64 m) (f7 : Env.get env 7 = .ptr (.hp a) 0) (f8 : Env.get env 8 = .ptr (.hp b) 0) (f11 : Env.get env 11 = R) (hσ : σ = ⟨hp, s⟩) (hRi : R.inb s.length = true) (hK : Plain K) (hD1 : Plain D1) (hD2 : Plain D2) (h12 : callW Try.prog how 12 [.ptr (.hp a) 0] ⟨hp, s⟩ cx.ro = some (K, ⟨hpA, s⟩)) (h11 : callW Try.prog how 11 [K, R] ⟨hpA, s⟩ cx.ro = some (.bool true, ⟨hpA, s⟩)) (h13 : callW Try.prog how 13 [.ptr (.hp a) 0, .int .i64 m] ⟨hpA, s⟩ cx.ro = some (D1, ⟨hpB, s⟩)) (h14 : callW Try.prog how 14 [.ptr (.hp b) 0, .int .i64 m] ⟨hpB, s⟩ cx.ro = some (D2, ⟨hpB, s⟩)) (h11b : callW Try.prog how 11 [D1, D2] ⟨hpB, s⟩ cx.ro = some (.bool true, ⟨hpB, s⟩)) :
    Pc Try.prog how cx [] 94 [77, 78, 79, 80, 81, 82, 83, 84, 85, 86, 87, 88, 89, 90, 91] (cr [.r, .r, .l, .r, .i, .i, .r, .r, .l, .i, .r, .r, .r, .r, .r]) env σ (.normal) (AS.mk hpB s) (fun _ => True) := by
  refine pc_of fun res hr => ?_
  simp -implicitDefEqProofs [AS.get_push_at, AS.get_push_old, AS.push_len, AS.set_st_len, AS.next_st', AS.set_push_at, AS.get_set_self, AS.get_set_other, cr, Try.f3, hlen, hcx, f2, f7, f8, f11, hσ, hRi, hK.one, hK.inb, hK.row, hD1.one, hD1.inb, hD1.row, hD2.one, hD2.inb, hD2.row, h12, h11, h13, h14, h11b] at hr
  subst hr
  refine ⟨_, rfl, by simp [hlen], by simp [Env.get_set, hlen, f2, f7, f8, f11, hσ, hRi, hK.one, hK.inb, hK.row, hD1.one, hD1.inb, hD1.row, hD2.one, hD2.inb, hD2.row, h12, h11, h13, h14, h11b], fun i hi => ?_⟩
  simp only [List.mem_cons, List.not_mem_nil, or_false, not_or] at hi
  simp only [get_set2, hi, false_and, if_false]

theorem rZ (cx : Cx) (env : Env) (σ : AS) (σ' : AS) (hlen : env.length = 94) (hcx : cx.esc = [16])  (h15 : callW Try.prog how 15 [] σ cx.ro = some (.bool true, σ')) :
    Pc Try.prog how cx [] 94 [6, 93] (cr [.r, .r, .r, .l]) env σ (.normal) (σ') (fun env' => Env.get env' 6 = .bool true) := by
  refine pc_of fun res hr => ?_
  simp -implicitDefEqProofs [AS.get_push_at, AS.get_push_old, AS.push_len, AS.set_st_len, AS.next_st', AS.set_push_at, AS.get_set_self, AS.get_set_other, cr, Try.f3, hlen, hcx, h15] at hr
  subst hr
  refine ⟨_, rfl, by simp [hlen], by simp [Env.get_set, hlen, h15], fun i hi => ?_⟩
  simp only [List.mem_cons, List.not_mem_nil, or_false, not_or] at hi
  simp only [get_set2, hi, false_and, if_false]

end
noncomputable def bodyC : Code := (.seq (cr [.l]) (.seq (cr [.r, .l]) (.seq (.seq (cr [.r, .r, .l, .l]) (cr [.r, .r, .l, .r])) (.seq (cr [.r, .r, .r, .l]) .ret))))
theorem body : Try.f3.body = some bodyC := by kernel_rfl
/-- What holds ahead of round k. -/
def J2 (h : Nat) (σ0 : AS) (a b : Nat) (m : Int) (key : ByteArray) (X : AV) (n kk : Nat) (S : List Rw) (Z : AV) (k : Nat) (env : Env) (σ : AS) : Prop :=
  Env.get env 1 = .str key ∧ Env.get env 2 = .int .i64 m ∧ Env.get env 7 = .ptr (.hp a) 0 ∧ Env.get env 8 = .ptr (.hp b) 0 ∧ Env.get env 17 = Z ∧ Env.get env 18 = .int .i64 (n : Int) ∧ Env.get env 19 = .int .i64 (kk : Int) ∧ Env.get env 51 = X ∧ (∃ R0, Env.get env 11 = R0 ∧ Rows h σ [(1, R0, (S.take k).map (fun r => AV.str r.1))]) ∧ Outside h σ0 σ
def Ex2 (h : Nat) (σ0 : AS) (a b : Nat) (m : Int) (key : ByteArray) (X : AV) (n kk : Nat) (S : List Rw) (Z : AV) (e : AExit) (env : Env) (σ : AS) : Prop := False
theorem J2_stable {h : Nat} {σ0 : AS} {a b : Nat} {m : Int} {key : ByteArray} {X : AV} {n kk : Nat} {S : List Rw} {Z : AV} : ∀ k env env' σ, env.length = 94 → env'.length = 94 → (∀ i, i ≠ 54 → i ≠ 76 → i ≠ 53 → Env.get env' i = Env.get env i) → J2 h σ0 a b m key X n kk S Z k env σ → J2 h σ0 a b m key X n kk S Z k env' σ := by
  rintro k env env' σ _ _ hf ⟨j1, j2, j7, j8, j17, j18, j19, j51, ⟨R0, r0, hR⟩, ho⟩
  exact ⟨(hf 1 (by decide) (by decide) (by decide)).trans j1, (hf 2 (by decide) (by decide) (by decide)).trans j2, (hf 7 (by decide) (by decide) (by decide)).trans j7, (hf 8 (by decide) (by decide) (by decide)).trans j8, (hf 17 (by decide) (by decide) (by decide)).trans j17, (hf 18 (by decide) (by decide) (by decide)).trans j18, (hf 19 (by decide) (by decide) (by decide)).trans j19, (hf 51 (by decide) (by decide) (by decide)).trans j51, ⟨R0, (hf 11 (by decide) (by decide) (by decide)).trans r0, hR⟩, ho⟩
noncomputable def oT2 : Oper := (opsOf (cr [.r, .r, .l, .r, .i, .i, .r, .r, .l, .i, .r, .r, .r, .r, .l, .r, .i, .i, .l])).headD default
noncomputable def oI2 : List Oper := opsOf (cr [.r, .r, .l, .r, .i, .i, .r, .r, .l, .i, .r, .r, .r, .r, .l, .r, .i, .i, .r, .r, .r])
theorem loop_eq2 : (cr [.r, .r, .l, .r, .i, .i, .r, .r, .l, .i, .r, .r, .r, .r, .l, .r]) = .block 2 (.loop (.seq (.region 10 #[oT2] false) (.seq (.cond (.tmp 54) .skip (.exit 2)) (.seq (.block 3 (.seq (cr [.r, .r, .l, .r, .i, .i, .r, .r, .l, .i, .r, .r, .r, .r, .l, .r, .i, .i, .r, .r, .l, .i, .l]) (.seq (cr [.r, .r, .l, .r, .i, .i, .r, .r, .l, .i, .r, .r, .r, .r, .l, .r, .i, .i, .r, .r, .l, .i, .r, .l]) (cr [.r, .r, .l, .r, .i, .i, .r, .r, .l, .i, .r, .r, .r, .r, .l, .r, .i, .i, .r, .r, .l, .i, .r, .r])))) (.region 15 #[oI2.headD default, (oI2.drop 1).headD default] false))))) := by kernel_rfl
theorem step2 (cx : Cx) (hcx : cx.esc = [16]) (hro : ∀ k, cx.ro = some k → k ≤ cx.h) (σ0 : AS) (a b : Nat) (m : Int) (key : ByteArray) (X : AV) (n kk : Nat) (S : List Rw) (Z : AV) (mm : Nat) (M : List Rw) (hP : PS σ0.hp a mm M S) (hX : HRow σ0.hp X (S.map encRow)) (hS : GoodS S) :
    ∀ k env σ, k < S.length → env.length = 94 → Env.get env 53 = .int .i64 (k : Int) → Env.get env 52 = .int .i64 ((S.length : Nat) : Int) → J2 cx.h σ0 a b m key X n kk S Z k env σ → ∃ e env' σ', execW Try.prog cx [] (callW Try.prog how) (.block 3 (.seq (cr [.r, .r, .l, .r, .i, .i, .r, .r, .l, .i, .r, .r, .r, .r, .l, .r, .i, .i, .r, .r, .l, .i, .l]) (.seq (cr [.r, .r, .l, .r, .i, .i, .r, .r, .l, .i, .r, .r, .r, .r, .l, .r, .i, .i, .r, .r, .l, .i, .r, .l]) (cr [.r, .r, .l, .r, .i, .i, .r, .r, .l, .i, .r, .r, .r, .r, .l, .r, .i, .i, .r, .r, .l, .i, .r, .r])))) (env, σ) = some (e, (env', σ')) ∧
      ((e = .normal ∧ env'.length = 94 ∧ Env.get env' 53 = .int .i64 (k : Int) ∧ Env.get env' 52 = .int .i64 ((S.length : Nat) : Int) ∧ J2 cx.h σ0 a b m key X n kk S Z (k + 1) env' σ') ∨ (e ≠ .normal ∧ Ex2 cx.h σ0 a b m key X n kk S Z e env' σ')) := by
  rintro k env σ hk hlen f53 f52 ⟨f1, f2, f7, f8, f17, f18, f19, f51, ⟨R0, f11, hR⟩, ho⟩
  have hXσ : Rd Try.prog σ 26 36 X (S.map encRow) := by have := hX.rd σ.st; rw [← ho.1] at this; exact this
  obtain ⟨p, hia, hpa⟩ := hXσ.2 k (encRow S[k]) (by rw [List.getElem?_map, List.getElem?_eq_getElem hk]; rfl)
  have hl9 := hS.len
  obtain ⟨env1, x1a, x1b, x1c, x1d⟩ := rE2 cx env σ k X p (slV 4 (S[k].2.map encVn)) (S[k].1) hlen hcx f51 f53 hia hpa slV_plain (wokst hro ho.2.2) ho.2.2
  have f1 := (x1d 1 (by decide)).trans f1
  have f2 := (x1d 2 (by decide)).trans f2
  have f7 := (x1d 7 (by decide)).trans f7
  have f8 := (x1d 8 (by decide)).trans f8
  have f11 := (x1d 11 (by decide)).trans f11
  have f17 := (x1d 17 (by decide)).trans f17
  have f18 := (x1d 18 (by decide)).trans f18
  have f19 := (x1d 19 (by decide)).trans f19
  have f51 := (x1d 51 (by decide)).trans f51
  have f52 := (x1d 52 (by decide)).trans f52
  have f53 := (x1d 53 (by decide)).trans f53
  have f13 := x1c
  have g1 : ((σ : AS).push false (.cells [.str S[k].1, slV 4 (S[k].2.map encVn)])).get (.st (σ : AS).st.length) = some (.cells [.str S[k].1, slV 4 (S[k].2.map encVn)]) := AS.get_push_at rfl
  have hR := hR.push (ob := .cells [.str S[k].1, slV 4 (S[k].2.map encVn)])
  have ho := ho.push (ob := .cells [.str S[k].1, slV 4 (S[k].2.map encVn)])
  generalize hib1 : (σ : AS).st.length = ib1 at g1 f13
  generalize (σ : AS).push false (.cells [.str S[k].1, slV 4 (S[k].2.map encVn)]) = σ1 at x1a g1 hR ho
  obtain ⟨R2, τ2, y2a, y2b, y2c, y2d, y2e⟩ := append_one (cx := cx) (x := AV.str S[k].1) (j := 0) app33 hR rfl (by rw [List.length_map, List.length_take]; omega) (by decide) hro ho.2.2
  obtain ⟨env2, x2a, x2b, x2c, x2d⟩ := rA2 cx env1 σ1 _ _ (S[k].1) R2 _ τ2 x1b hcx f11 f13 g1 y2a 
  have f1 := (x2d 1 (by decide)).trans f1
  have f2 := (x2d 2 (by decide)).trans f2
  have f7 := (x2d 7 (by decide)).trans f7
  have f8 := (x2d 8 (by decide)).trans f8
  have f13 := (x2d 13 (by decide)).trans f13
  have f17 := (x2d 17 (by decide)).trans f17
  have f18 := (x2d 18 (by decide)).trans f18
  have f19 := (x2d 19 (by decide)).trans f19
  have f51 := (x2d 51 (by decide)).trans f51
  have f52 := (x2d 52 (by decide)).trans f52
  have f53 := (x2d 53 (by decide)).trans f53
  have f11 := x2c
  have hR := y2c
  have ho := y2e _ ho
  have g1 := y2d _ _ g1
  have hhp : τ2.hp = σ0.hp := ho.1
  rw [← hhp] at hP
  have hne := hS.ne S[k] (List.getElem_mem hk)
  have hgo := hS.go S[k] (List.getElem_mem hk)
  have hgl := hgo.len
  have hpos : 0 < S[k].2.length := by cases hh : S[k].2 with | nil => exact absurd hh hne | cons => simp
  obtain ⟨j, hj⟩ : ∃ j, S[k].2.length = j + 1 := ⟨S[k].2.length - 1, by omega⟩
  have h10 := f10_ok τ2.hp τ2.st (some τ2.st.length) a mm M S S[k].1 (hq1 (Nat.le_refl _)) hP hS
  rw [hS.at hk] at h10
  have hl2 := lenL' S[k].2 τ2
  rw [hj] at hl2
  have hi2 := idxL' S[k].2 j (by omega) τ2
  have hlv : S[k].2[j] = lastV S[k].2 := by rw [(lastV_mem hne).2]; congr 1; omega
  rw [hlv] at hi2
  obtain ⟨env3, x3a, x3b, x3c, x3d⟩ := rN2 cx env2 τ2 a _ j (S[k].1) _ ((lastV S[k].2)) x2b hcx f7 f13 g1 slV_plain h10 hl2 (wr_ok (by omega) (by omega)) hi2 
  have f1 := (x3d 1 (by decide)).trans f1
  have f2 := (x3d 2 (by decide)).trans f2
  have f7 := (x3d 7 (by decide)).trans f7
  have f8 := (x3d 8 (by decide)).trans f8
  have f11 := (x3d 11 (by decide)).trans f11
  have f13 := (x3d 13 (by decide)).trans f13
  have f17 := (x3d 17 (by decide)).trans f17
  have f18 := (x3d 18 (by decide)).trans f18
  have f19 := (x3d 19 (by decide)).trans f19
  have f51 := (x3d 51 (by decide)).trans f51
  have f52 := (x3d 52 (by decide)).trans f52
  have f53 := (x3d 53 (by decide)).trans f53
  exact ⟨.normal, env3, _, (execW_block_of (execW_seq_of x1a (execW_seq_of x2a x3a))), .inl ⟨rfl, x3b, f53, f52, f1, f2, f7, f8, f17, f18, f19, f51, ⟨_, f11, (by rw [List.take_succ_eq_append_getElem hk, List.map_append]; exact hR)⟩, ho⟩⟩
theorem loop2 (cx : Cx) (hcx : cx.esc = [16]) (hro : ∀ k, cx.ro = some k → k ≤ cx.h) (σ0 : AS) (a b : Nat) (m : Int) (key : ByteArray) (X : AV) (n kk : Nat) (S : List Rw) (Z : AV) (mm : Nat) (M : List Rw) (hP : PS σ0.hp a mm M S) (hX : HRow σ0.hp X (S.map encRow)) (hS : GoodS S) (hnn : S.length ≤ 9223372036854775807) {env : Env} {σ : AS} (hl : env.length = 94) (h1 : Env.get env 53 = .int .i64 0) (h2 : Env.get env 52 = .int .i64 ((S.length : Nat) : Int)) (h0 : J2 cx.h σ0 a b m key X n kk S Z 0 env σ) :
    ∃ e env' σ', execW Try.prog cx [] (callW Try.prog how) (cr [.r, .r, .l, .r, .i, .i, .r, .r, .l, .i, .r, .r, .r, .r, .l, .r]) (env, σ) = some (e, (env', σ')) ∧ ((e = .normal ∧ ((env'.length = 94 ∧ J2 cx.h σ0 a b m key X n kk S Z (S.length) env' σ') ∨ Ex2 cx.h σ0 a b m key X n kk S Z (.exit 2) env' σ')) ∨ (e ≠ .normal ∧ e ≠ .exit 2 ∧ Ex2 cx.h σ0 a b m key X n kk S Z e env' σ')) := by
  rw [loop_eq2]
  exact range_std (Ex := Ex2 cx.h σ0 a b m key X n kk S Z) (N := 94) (tc := 54) (ti := 53) (tl := 52) (tx := 76) (ty1 := 3) (ty2 := 3) (ty3 := 3) (ty4 := 3) ⟨by kernel_rfl, by kernel_rfl, by kernel_rfl⟩ ⟨by kernel_rfl, by kernel_rfl, by kernel_rfl⟩ ⟨by kernel_rfl, by kernel_rfl, by kernel_rfl⟩ (by decide) hnn J2_stable (step2 cx hcx hro σ0 a b m key X n kk S Z mm M hP hX hS) hl h1 h2 h0
/-- What holds ahead of round k. -/
def J (h : Nat) (σ0 : AS) (a mm b : Nat) (m : Int) (key : ByteArray) (es : List AV) (k : Nat) (env : Env) (σ : AS) : Prop :=
  Env.get env 1 = .str key ∧ Env.get env 2 = .int .i64 m ∧ Env.get env 7 = .ptr (.hp a) 0 ∧ Env.get env 8 = .ptr (.hp b) 0 ∧ Env.get env 17 = .sl false 5 es ∧ (∃ S, Two σ.hp a mm b S ∧ GoodS S ∧ Bnd k S) ∧ Outside h (AS.mk σ.hp σ0.st) σ
def Ex (h : Nat) (σ0 : AS) (a mm b : Nat) (m : Int) (key : ByteArray) (es : List AV) (e : AExit) (env : Env) (σ : AS) : Prop := e = .exit 0 ∧ env.length = 94
theorem J_stable {h : Nat} {σ0 : AS} {a mm b : Nat} {m : Int} {key : ByteArray} {es : List AV} : ∀ k env env' σ, env.length = 94 → env'.length = 94 → (∀ i, i ≠ 20 → i ≠ 92 → i ≠ 19 → Env.get env' i = Env.get env i) → J h σ0 a mm b m key es k env σ → J h σ0 a mm b m key es k env' σ := by
  rintro k env env' σ _ _ hf ⟨j1, j2, j7, j8, j17, q0, ho⟩
  exact ⟨(hf 1 (by decide) (by decide) (by decide)).trans j1, (hf 2 (by decide) (by decide) (by decide)).trans j2, (hf 7 (by decide) (by decide) (by decide)).trans j7, (hf 8 (by decide) (by decide) (by decide)).trans j8, (hf 17 (by decide) (by decide) (by decide)).trans j17, q0, ho⟩
noncomputable def oT : Oper := (opsOf (cr [.r, .r, .l, .r, .i, .i, .l])).headD default
noncomputable def oI : List Oper := opsOf (cr [.r, .r, .l, .r, .i, .i, .r, .r, .r])
theorem loop_eq : (cr [.r, .r, .l, .r]) = .block 0 (.loop (.seq (.region 3 #[oT] false) (.seq (.cond (.tmp 20) .skip (.exit 0)) (.seq (.block 1 (.seq (cr [.r, .r, .l, .r, .i, .i, .r, .r, .l, .i, .l]) (.seq (cr [.r, .r, .l, .r, .i, .i, .r, .r, .l, .i, .r, .l]) (.seq (cr [.r, .r, .l, .r, .i, .i, .r, .r, .l, .i, .r, .r, .l]) (.seq (cr [.r, .r, .l, .r, .i, .i, .r, .r, .l, .i, .r, .r, .r, .l]) (.seq (.seq (cr [.r, .r, .l, .r, .i, .i, .r, .r, .l, .i, .r, .r, .r, .r, .l, .l]) (cr [.r, .r, .l, .r, .i, .i, .r, .r, .l, .i, .r, .r, .r, .r, .l, .r])) (cr [.r, .r, .l, .r, .i, .i, .r, .r, .l, .i, .r, .r, .r, .r, .r]))))))) (.region 18 #[oI.headD default, (oI.drop 1).headD default] false))))) := by kernel_rfl
theorem step (cx : Cx) (hcx : cx.esc = [16]) (hro : ∀ k, cx.ro = some k → k ≤ cx.h) (σ0 : AS) (a mm b : Nat) (m : Int) (key : ByteArray) (es : List AV) (hr0 : cx.ro = none) (hh0 : cx.h = 0) (hes : ∀ e ∈ es, isOp e) :
    ∀ k env σ, k < es.length → env.length = 94 → Env.get env 19 = .int .i64 (k : Int) → Env.get env 18 = .int .i64 ((es.length : Nat) : Int) → J cx.h σ0 a mm b m key es k env σ → ∃ e env' σ', execW Try.prog cx [] (callW Try.prog how) (.block 1 (.seq (cr [.r, .r, .l, .r, .i, .i, .r, .r, .l, .i, .l]) (.seq (cr [.r, .r, .l, .r, .i, .i, .r, .r, .l, .i, .r, .l]) (.seq (cr [.r, .r, .l, .r, .i, .i, .r, .r, .l, .i, .r, .r, .l]) (.seq (cr [.r, .r, .l, .r, .i, .i, .r, .r, .l, .i, .r, .r, .r, .l]) (.seq (.seq (cr [.r, .r, .l, .r, .i, .i, .r, .r, .l, .i, .r, .r, .r, .r, .l, .l]) (cr [.r, .r, .l, .r, .i, .i, .r, .r, .l, .i, .r, .r, .r, .r, .l, .r])) (cr [.r, .r, .l, .r, .i, .i, .r, .r, .l, .i, .r, .r, .r, .r, .r]))))))) (env, σ) = some (e, (env', σ')) ∧
      ((e = .normal ∧ env'.length = 94 ∧ Env.get env' 19 = .int .i64 (k : Int) ∧ Env.get env' 18 = .int .i64 ((es.length : Nat) : Int) ∧ J cx.h σ0 a mm b m key es (k + 1) env' σ') ∨ (e ≠ .normal ∧ Ex cx.h σ0 a mm b m key es e env' σ')) := by
  rintro k env σ hk hlen f19 f18 ⟨f1, f2, f7, f8, f17, q0, ho⟩
  obtain ⟨c0, oa, ok_, ov, og, he, hko, hvo⟩ := hes es[k] (List.getElem_mem hk)
  obtain ⟨S, hT, hS, hB⟩ := q0
  obtain ⟨env1, x1a, x1b, x1c, x1d⟩ := rE cx env σ es k c0 oa ok_ ov og hlen hcx f17 f19 hk he (wokst hro ho.2.2) ho.2.2
  have f1 := (x1d 1 (by decide)).trans f1
  have f2 := (x1d 2 (by decide)).trans f2
  have f7 := (x1d 7 (by decide)).trans f7
  have f8 := (x1d 8 (by decide)).trans f8
  have f17 := (x1d 17 (by decide)).trans f17
  have f18 := (x1d 18 (by decide)).trans f18
  have f19 := (x1d 19 (by decide)).trans f19
  have f9 := x1c.1
  have f10 := x1c.2
  have g1 : ((σ : AS).push false (.cells [.int .i64 c0, .str ok_, .int .i64 oa, .str ov, .bool og])).get (.st (σ : AS).st.length) = some (.cells [.int .i64 c0, .str ok_, .int .i64 oa, .str ov, .bool og]) := AS.get_push_at rfl
  have ho := ho.push (ob := .cells [.int .i64 c0, .str ok_, .int .i64 oa, .str ov, .bool og])
  generalize hib1 : (σ : AS).st.length = ib1 at g1 f10
  generalize (σ : AS).push false (.cells [.int .i64 c0, .str ok_, .int .i64 oa, .str ov, .bool og]) = σ1 at x1a g1 ho
  have hhp : σ1.hp = σ.hp := ho.1
  rw [← hhp] at hT
  by_cases q : (30 : Int) ≤ (k : Int)
  · skip
    obtain ⟨env2, x2a, x2b, x2c, x2d⟩ := rB cx env1 σ1 k x1b hcx f9 q 
    have f1 := (x2d 1 (by decide)).trans f1
    have f2 := (x2d 2 (by decide)).trans f2
    have f7 := (x2d 7 (by decide)).trans f7
    have f8 := (x2d 8 (by decide)).trans f8
    have f9 := (x2d 9 (by decide)).trans f9
    have f10 := (x2d 10 (by decide)).trans f10
    have f17 := (x2d 17 (by decide)).trans f17
    have f18 := (x2d 18 (by decide)).trans f18
    have f19 := (x2d 19 (by decide)).trans f19
    exact ⟨.exit 0, env2, _, (block_exit (execW_seq_of x1a (execW_seq_exit x2a)) (by simp)), .inr ⟨by simp, rfl, x2b⟩⟩
  · skip
    obtain ⟨env2, x2a, x2b, x2c, x2d⟩ := rC cx env1 σ1 k x1b hcx f9 q 
    have f1 := (x2d 1 (by decide)).trans f1
    have f2 := (x2d 2 (by decide)).trans f2
    have f7 := (x2d 7 (by decide)).trans f7
    have f8 := (x2d 8 (by decide)).trans f8
    have f9 := (x2d 9 (by decide)).trans f9
    have f10 := (x2d 10 (by decide)).trans f10
    have f17 := (x2d 17 (by decide)).trans f17
    have f18 := (x2d 18 (by decide)).trans f18
    have f19 := (x2d 19 (by decide)).trans f19
    obtain ⟨hp1, S1, h8, hT1, hS1, hB1, _⟩ := F8.ok σ1.hp σ1.st a mm b k c0 oa ok_ ov og S hT hS hB (by omega)
    have h9 := f9_ok hp1 σ1.st none a mm b S1 key m (fun k hk => by cases hk) hT1 hS1
    have h9b := f9_ok hp1 σ1.st none a mm b S1 ok_ m (fun k hk => by cases hk) hT1 hS1
    rw [← hr0] at h8 h9 h9b
    obtain ⟨env3, x3a, x3b, x3c, x3d⟩ := rS cx env2 σ1 σ1.hp σ1.st hp1 a b _ m key c0 oa ok_ ov og x2b hcx f1 f2 f7 f8 f10 rfl (fun hp => g1) h8 h9 h9b 
    have f1 := (x3d 1 (by decide)).trans f1
    have f2 := (x3d 2 (by decide)).trans f2
    have f7 := (x3d 7 (by decide)).trans f7
    have f8 := (x3d 8 (by decide)).trans f8
    have f9 := (x3d 9 (by decide)).trans f9
    have f10 := (x3d 10 (by decide)).trans f10
    have f17 := (x3d 17 (by decide)).trans f17
    have f18 := (x3d 18 (by decide)).trans f18
    have f19 := (x3d 19 (by decide)).trans f19
    obtain ⟨env4, x4a, x4b, x4c, x4d⟩ := rD cx env3 (AS.mk hp1 σ1.st)  x3b hcx   
    have f1 := (x4d 1 (by decide)).trans f1
    have f2 := (x4d 2 (by decide)).trans f2
    have f7 := (x4d 7 (by decide)).trans f7
    have f8 := (x4d 8 (by decide)).trans f8
    have f9 := (x4d 9 (by decide)).trans f9
    have f10 := (x4d 10 (by decide)).trans f10
    have f17 := (x4d 17 (by decide)).trans f17
    have f18 := (x4d 18 (by decide)).trans f18
    have f19 := (x4d 19 (by decide)).trans f19
    have f11 := x4c
    obtain ⟨M, hP⟩ := hT1.p
    obtain ⟨X, hX, hR1⟩ := hT1.r
    have hlx := (hR1.rd σ1.st).1
    rw [List.length_map] at hlx
    obtain ⟨env5, x5a, x5b, x5c, x5d⟩ := rF cx env4 (AS.mk hp1 σ1.st) b S1.length X x4b hcx f8 hX hlx 
    have f1 := (x5d 1 (by decide)).trans f1
    have f2 := (x5d 2 (by decide)).trans f2
    have f7 := (x5d 7 (by decide)).trans f7
    have f8 := (x5d 8 (by decide)).trans f8
    have f9 := (x5d 9 (by decide)).trans f9
    have f10 := (x5d 10 (by decide)).trans f10
    have f11 := (x5d 11 (by decide)).trans f11
    have f17 := (x5d 17 (by decide)).trans f17
    have f18 := (x5d 18 (by decide)).trans f18
    have f19 := (x5d 19 (by decide)).trans f19
    have f51 := x5c.1
    have f52 := x5c.2.1
    have f53 := x5c.2.2
    have hl9 := hS1.len
    have ho2 : Outside cx.h (AS.mk hp1 σ1.st) (AS.mk hp1 σ1.st) := Outside.refl ho.2.2
    obtain ⟨e6, env6, σ6, x6a, x6p⟩ := loop2 cx hcx hro ⟨hp1, σ1.st⟩ a b m key X es.length k S1 (.sl false 5 es) mm M hP hR1 hS1 (by omega) (σ := AS.mk hp1 σ1.st) x5b f53 f52 (⟨f1, f2, f7, f8, f17, f18, f19, f51, ⟨.nils, f11, Rows0⟩, ho2⟩)
    rcases x6p with ⟨rfl, ⟨x6b, f1, f2, f7, f8, f17, f18, f19, f51, ⟨R0, f11, hR⟩, ho⟩ | x6p⟩ | ⟨x6q, x6r, x6p⟩
    · skip
      rw [List.take_length] at hR
      have hhp2 : σ6.hp = hp1 := ho.1
      rw [← hhp2] at hP hX hR1 hT1
      have hBu := hR.1 (1, R0, keysS S1) (by exact List.mem_singleton_self _)
      simp only at hBu
      have h12 := f12_ok σ6.hp σ6.st a mm M S1 hP hS1
      have hkm : keysS S1 = (S1.map (·.1)).map AV.str := by rw [List.map_map]; rfl
      have hel : ∀ l : List ByteArray, ∀ c ∈ l.map AV.str, partA Try.prog 9 c.cells 0 = some c := fun l c hc => by obtain ⟨r, _, rfl⟩ := List.mem_map.1 hc; exact el9 r
      have hb1 : Built cx.h (AS.mk (σ6.hp ++ [AObj.cells [.map (.hp mm)]]) σ6.st) 1 R0 ((S1.map (·.1)).map AV.str) := by rw [← hkm]; exact hBu
      have h11 := F11.ok (σ6.hp ++ [AObj.cells [.map (.hp mm)]]) σ6.st none (slV 1 (keysS S1)) R0 (S1.map (·.1)) (S1.map (·.1)) (fun k hk => by cases hk) (by rw [← hkm]; exact rdK _ S1) (built_rd hb1 (hel _)) (by simp; omega)
      rw [decide_eq_true rfl] at h11
      have h13 := F13.ok (σ6.hp ++ [AObj.cells [.map (.hp mm)]]) σ6.st a m mm M S1 (hP.app _) hS1
      have hTB := (hT1.app [AObj.cells [.map (.hp mm)]]).app [AObj.cells [.map (.hp mm)]]
      obtain ⟨X2, hX2, hR2⟩ := hTB.r
      have h14 := F14.ok ((σ6.hp ++ [AObj.cells [.map (.hp mm)]]) ++ [AObj.cells [.map (.hp mm)]]) σ6.st none b m X2 S1 (fun k hk => by cases hk) hX2 hR2 (by omega) hS1.go
      have hrd : Rd Try.prog (AS.mk ((σ6.hp ++ [AObj.cells [.map (.hp mm)]]) ++ [AObj.cells [.map (.hp mm)]]) σ6.st) 33 9 (slV 1 ((dirtyS S1 m).map AV.str)) ((dirtyS S1 m).map AV.str) := rd_slV Try.underlying33 s9 (by decide) (hel _)
      have hdl : (dirtyS S1 m).length ≤ 100 := by unfold dirtyS; rw [List.length_map]; exact Nat.le_trans (List.length_filter_le _ _) hl9
      have h11b := F11.ok ((σ6.hp ++ [AObj.cells [.map (.hp mm)]]) ++ [AObj.cells [.map (.hp mm)]]) σ6.st none _ _ (dirtyS S1 m) (dirtyS S1 m) (fun k hk => by cases hk) hrd hrd (by omega)
      rw [decide_eq_true rfl] at h11b
      rw [← hr0] at h12 h11 h13 h14 h11b
      obtain ⟨env7, x7a, x7b, x7c, x7d⟩ := rG cx env6 σ6 σ6.hp σ6.st _ _ a b m _ R0 _ _ x6b hcx f2 f7 f8 f11 rfl (built_inb hBu) slV_plain slV_plain slV_plain h12 h11 h13 h14 h11b 
      have f1 := (x7d 1 (by decide)).trans f1
      have f2 := (x7d 2 (by decide)).trans f2
      have f7 := (x7d 7 (by decide)).trans f7
      have f8 := (x7d 8 (by decide)).trans f8
      have f11 := (x7d 11 (by decide)).trans f11
      have f17 := (x7d 17 (by decide)).trans f17
      have f18 := (x7d 18 (by decide)).trans f18
      have f19 := (x7d 19 (by decide)).trans f19
      have f51 := (x7d 51 (by decide)).trans f51
      exact ⟨.normal, env7, _, (execW_block_of (execW_seq_of x1a (execW_seq_of x2a (execW_seq_of x3a (execW_seq_of x4a (execW_seq_of (execW_seq_of x5a x6a) x7a)))))), .inl ⟨rfl, x7b, f19, f18, f1, f2, f7, f8, f17, ⟨S1, hTB, hS1, hB1⟩, (by rw [hh0]; exact ⟨rfl, by simp, Nat.zero_le _⟩)⟩⟩
    · cases x6p
    · cases x6p
theorem loop (cx : Cx) (hcx : cx.esc = [16]) (hro : ∀ k, cx.ro = some k → k ≤ cx.h) (σ0 : AS) (a mm b : Nat) (m : Int) (key : ByteArray) (es : List AV) (hr0 : cx.ro = none) (hh0 : cx.h = 0) (hes : ∀ e ∈ es, isOp e) (hnn : es.length ≤ 9223372036854775807) {env : Env} {σ : AS} (hl : env.length = 94) (h1 : Env.get env 19 = .int .i64 0) (h2 : Env.get env 18 = .int .i64 ((es.length : Nat) : Int)) (h0 : J cx.h σ0 a mm b m key es 0 env σ) :
    ∃ e env' σ', execW Try.prog cx [] (callW Try.prog how) (cr [.r, .r, .l, .r]) (env, σ) = some (e, (env', σ')) ∧ ((e = .normal ∧ ((env'.length = 94 ∧ J cx.h σ0 a mm b m key es (es.length) env' σ') ∨ Ex cx.h σ0 a mm b m key es (.exit 0) env' σ')) ∨ (e ≠ .normal ∧ e ≠ .exit 0 ∧ Ex cx.h σ0 a mm b m key es e env' σ')) := by
  rw [loop_eq]
  exact range_std (Ex := Ex cx.h σ0 a mm b m key es) (N := 94) (tc := 20) (ti := 19) (tl := 18) (tx := 92) (ty1 := 3) (ty2 := 3) (ty3 := 3) (ty4 := 3) ⟨by kernel_rfl, by kernel_rfl, by kernel_rfl⟩ ⟨by kernel_rfl, by kernel_rfl, by kernel_rfl⟩ ⟨by kernel_rfl, by kernel_rfl, by kernel_rfl⟩ (by decide) hnn J_stable (step cx hcx hro σ0 a mm b m key es hr0 hh0 hes) hl h1 h2 h0
theorem loop_nil (cx : Cx) (hcx : cx.esc = [16]) (hp s : List AObj) (env : Env) (hl : env.length = 94) (h1 : Env.get env 19 = .int .i64 0) (h2 : Env.get env 18 = .int .i64 ((([] : List AV).length : Nat) : Int)) :
    ∃ en σ, execW Try.prog cx [] (callW Try.prog how) (cr [.r, .r, .l, .r]) (env, AS.mk hp s) = some (.normal, (en, σ)) ∧ en.length = 94 := by
  rw [loop_eq]
  obtain ⟨e, en, σ, r, hh⟩ := range_std (P := Try.prog) (cx := cx) (tails := []) (call := callW Try.prog how) (B := 0) (idT := 3) (idI := 18) (oT := oT) (o1 := oI.headD default) (o2 := (oI.drop 1).headD default) (body := (.block 1 (.seq (cr [.r, .r, .l, .r, .i, .i, .r, .r, .l, .i, .l]) (.seq (cr [.r, .r, .l, .r, .i, .i, .r, .r, .l, .i, .r, .l]) (.seq (cr [.r, .r, .l, .r, .i, .i, .r, .r, .l, .i, .r, .r, .l]) (.seq (cr [.r, .r, .l, .r, .i, .i, .r, .r, .l, .i, .r, .r, .r, .l]) (.seq (.seq (cr [.r, .r, .l, .r, .i, .i, .r, .r, .l, .i, .r, .r, .r, .r, .l, .l]) (cr [.r, .r, .l, .r, .i, .i, .r, .r, .l, .i, .r, .r, .r, .r, .l, .r])) (cr [.r, .r, .l, .r, .i, .i, .r, .r, .l, .i, .r, .r, .r, .r, .r])))))))) (J := fun _ _ _ => True) (Ex := fun _ _ _ => False) (n := 0) (N := 94) (tc := 20) (ti := 19) (tl := 18) (tx := 92) (ty1 := 3) (ty2 := 3) (ty3 := 3) (ty4 := 3) ⟨by kernel_rfl, by kernel_rfl, by kernel_rfl⟩ ⟨by kernel_rfl, by kernel_rfl, by kernel_rfl⟩ ⟨by kernel_rfl, by kernel_rfl, by kernel_rfl⟩ (by decide) (by omega) (fun _ _ _ _ _ _ _ h => h) (fun k _ _ hk => by cases hk) (σ := AS.mk hp s) hl h1 h2 trivial
  rcases hh with ⟨rfl, ⟨h, _⟩ | h⟩ | ⟨_, _, h⟩
  · exact ⟨en, σ, r, h⟩
  · exact h.elim
  · exact h.elim
theorem fin_code (st' : AS) (e : Env) (h6 : Env.get e 6 = .bool true) : ∃ σ', finishA Try.prog { esc := [16] } Try.f3 0 (some (.ret, (e, st'))) = some (.bool true, σ') :=
  ⟨_, fin_tmp (k := 6) (.inl rfl) rfl rfl h6 (by simp [AV.back]) rfl⟩
theorem ok (x : AV) (key : ByteArray) (m : Int) (hx : isOps x) : ∃ σ', callW Try.prog how 3 [x, .str key, .int .i64 m] ⟨[], []⟩ none = some (.bool true, σ') := by
  let cx : Cx := { h := 0, ro := none, esc := [16] }
  have hcx : cx.esc = [16] := rfl
  have hro : ∀ k, cx.ro = some k → k ≤ cx.h := fun k hk => by cases hk
  obtain ⟨env, henv⟩ : ∃ e, e = frameA Try.f3 [x, .str key, .int .i64 m] := ⟨_, rfl⟩
  have hlen : env.length = 94 := by rw [henv]; rfl
  have f0 : Env.get env 0 = x := by rw [henv]; rfl
  have f1 : Env.get env 1 = .str key := by rw [henv]; rfl
  have f2 : Env.get env 2 = .int .i64 m := by rw [henv]; rfl
  obtain ⟨env1, x1a, x1b, x1c, x1d⟩ := rA cx env (AS.mk [] [])  hlen hcx   
  have f0 := (x1d 0 (by decide)).trans f0
  have f1 := (x1d 1 (by decide)).trans f1
  have f2 := (x1d 2 (by decide)).trans f2
  have f6 := x1c
  obtain ⟨env2, x2a, x2b, x2c, x2d⟩ := rN cx env1 (AS.mk [] []) ([]) ([]) x1b hcx  (f7_ok [] []) rfl rfl 
  have f0 := (x2d 0 (by decide)).trans f0
  have f1 := (x2d 1 (by decide)).trans f1
  have f2 := (x2d 2 (by decide)).trans f2
  have f6 := (x2d 6 (by decide)).trans f6
  have f7 := x2c.1
  have f8 := x2c.2
  have hT0 : Two [AObj.map [], AObj.cells [.map (.hp 0)], AObj.cells [.nils]] 1 0 2 [] := newTwo []
  have key2 : ∃ es : List AV, (∀ e ∈ es, isOp e) ∧ es.length ≤ 9223372036854775807 ∧ (es = [] ∨ x = .sl false 5 es) ∧ ∃ env', execW Try.prog cx [] (callW Try.prog how) (cr [.r, .r, .l, .l]) (env2, AS.mk [AObj.map [], AObj.cells [.map (.hp 0)], AObj.cells [.nils]] []) = some (.normal, (env', AS.mk [AObj.map [], AObj.cells [.map (.hp 0)], AObj.cells [.nils]] [])) ∧ env'.length = 94 ∧ (Env.get env' 17 = x ∧ Env.get env' 18 = .int .i64 ((es.length : Nat) : Int) ∧ Env.get env' 19 = .int .i64 0) ∧ ∀ i, i ∉ [17, 18, 19] → Env.get env' i = Env.get env2 i := by
    rcases hx with rfl | ⟨es, rfl, hle, hes⟩
    · exact ⟨[], fun e he => (by cases he), by simp, .inl rfl, rLn cx env2 _ x2b hcx f0⟩
    · exact ⟨es, hes, hle, .inr rfl, rLs cx env2 _ es x2b hcx f0⟩
  obtain ⟨es, hes, hle, hxe, env3, x3a, x3b, ⟨f17, f18, f19⟩, x3d⟩ := key2
  have f0 := (x3d 0 (by decide)).trans f0
  have f1 := (x3d 1 (by decide)).trans f1
  have f2 := (x3d 2 (by decide)).trans f2
  have f6 := (x3d 6 (by decide)).trans f6
  have f7 := (x3d 7 (by decide)).trans f7
  have f8 := (x3d 8 (by decide)).trans f8
  have last : ∀ (en : Env) (σ : AS), en.length = 94 → ∃ en' σ', execW Try.prog cx [] (callW Try.prog how) (cr [.r, .r, .r, .l]) (en, σ) = some (.normal, (en', σ')) ∧ Env.get en' 6 = .bool true := by
    intro en σ hl
    obtain ⟨hp', h15⟩ := f15_ok σ.hp σ.st
    obtain ⟨en', r1, r2, r3, r4⟩ := rZ cx en σ _ hl hcx h15
    exact ⟨en', _, r1, r3⟩
  have hloop : ∃ en σ, execW Try.prog cx [] (callW Try.prog how) (cr [.r, .r, .l, .r]) (env3, AS.mk [AObj.map [], AObj.cells [.map (.hp 0)], AObj.cells [.nils]] []) = some (.normal, (en, σ)) ∧ en.length = 94 := by
    rcases hxe with rfl | rfl
    · obtain ⟨en, σ, r, hh⟩ := loop_nil cx hcx [AObj.map [], AObj.cells [.map (.hp 0)], AObj.cells [.nils]] [] env3 x3b f19 f18
      exact ⟨en, σ, r, hh⟩
    · obtain ⟨e, en, σ, r, hh⟩ := loop cx hcx hro ⟨[], []⟩ 1 0 2 m key es rfl rfl hes hle (σ := AS.mk [AObj.map [], AObj.cells [.map (.hp 0)], AObj.cells [.nils]] []) x3b f19 f18 ⟨f1, f2, f7, f8, f17, ⟨[], hT0, goodS_nil, bnd_nil 0⟩, ⟨rfl, rfl, Nat.le_refl _⟩⟩
      rcases hh with ⟨rfl, ⟨h1, _⟩ | ⟨_, h1⟩⟩ | ⟨_, h2, h3, _⟩
      · exact ⟨en, σ, r, h1⟩
      · exact ⟨en, σ, r, h1⟩
      · exact absurd h3 h2
  obtain ⟨en, σ, r, hl⟩ := hloop
  obtain ⟨en', σ', r2, f6⟩ := last en σ hl
  obtain ⟨σ2, hfin⟩ := fin_code σ' en' f6
  exact ⟨σ2, call_of (fl := { esc := [16] }) (fn := Try.f3) (c := bodyC) (env := env) (e := (.ret, (en', σ'))) rfl Try.func3 body henv (by unfold bodyC; exact (execW_seq_of x1a (execW_seq_of x2a (execW_seq_of (execW_seq_of x3a r) (execW_seq_of r2 (by rfl)))))) hfin⟩
end F3
