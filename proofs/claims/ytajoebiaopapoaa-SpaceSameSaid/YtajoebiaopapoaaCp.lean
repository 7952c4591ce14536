/- What the document's Put does. -/

import Derived.Test.YtajoebiaopapoaaCo
open Go Go.Abs Go.Proofs
set_option maxRecDepth 100000
set_option maxHeartbeats 4000000
set_option linter.unusedSimpArgs false
set_option linter.unusedVariables false

theorem b40 : bytesA Try.prog 40 = some 40 := by kernel_rfl
def isz (es : List AV) : Nat := if es.isEmpty then 0 else 1
theorem app34c (cx : Cx) (hp s : List AObj) (es : List AV) (hl : es.length ≤ 1000) (hro : cx.ro = none) : appendA Try.prog cx ⟨hp, s ++ [.row [] 4 0 false]⟩ [34, 34] (.row (.st s.length) 0 0 0) (slV 4 es) = some (.row (.st s.length) (isz es) 0 es.length, ⟨hp, s ++ [.row es 4 (isz es) false]⟩) := by
  have hw : wok cx.ro (.st s.length) = true := by rw [hro]; rfl
  have hg : (AS.mk hp (s ++ [.row [] 4 0 false])).get (.st s.length) = some (.row [] 4 0 false) := by simp [AS.get]
  cases es with
  | nil =>
    simp [appendA, elemA, isSrc, elemsA, b40, hg, hw, lay, AS.set, slV, isz]
  | cons x l =>
    have hby : bytesOk (l.length + 1) 40 = true := by simp only [bytesOk, decide_eq_true_eq]; simp at hl; omega
    simp [appendA, elemA, isSrc, elemsA, b40, hg, hw, hby, AS.set, slV, isz]
theorem app34d (cx : Cx) (hp t : List AObj) (es : List AV) (x : AV) (i v k : Nat) (hl : es.length ≤ 1000) (hro : cx.ro = none) (hi : t[i]? = some (.row es 4 v false)) (hk : t[k]? = some (.row [x] 4 0 false)) : appendA Try.prog cx ⟨hp, t⟩ [34, 34] (.row (.st i) v 0 es.length) (.row (.st k) 0 0 1) = some (.row (.st i) (v + 1) 0 (es.length + 1), ⟨hp, t.set i (.row (es ++ [x]) 4 (v + 1) false)⟩) := by
  have hw : wok cx.ro (.st i) = true := by rw [hro]; rfl
  have hg : (AS.mk hp t).get (.st i) = some (.row es 4 v false) := hi
  have hg2 : (AS.mk hp t).get (.st k) = some (.row [x] 4 0 false) := hk
  have hby : bytesOk (es.length + 1) 40 = true := by simp only [bytesOk, decide_eq_true_eq]; omega
  simp [appendA, elemA, isSrc, elemsA, b40, hg, hg2, hw, hby, AS.set]
namespace F25
noncomputable def cr (p : List Dir) : Code := sub p (bodyOf Try.f25)

section
attribute [local simp] ofV ofCell ofCells seqA_nil seqA_cons seqVK_eq seqEK_eq wantedA yieldedA isVal effA ev evs evps putE optsA optsOk valA fieldAddrA fieldA loadA partA aggA isAggD buildA placesA fillA lay storeA AV.withCells buildSliceA elemsA rowParts fzL promL okE isSrc bytesOk pushA cxOf lenA binA intBinA strBinA unA indexAddrA eqA AVs.inb AV.inb Loc.inb calleeA opsOf sub bodyOf Env.get_set quietA_nil quietA_cons quietK_none quietK_some qstep newA isNew escNew boxOk newLoc flat rowPartsQ quietN quietOp isBS List.takeWhile finishA_eq finK_ret finK_normal retK backK resA oneA AV.back AVs.back execW_seq_eq seqK_normal seqK_ret seqK_exit execW_cond_eq condK_true condK_false execW_block_eq blockK_exit blockK_normal blockK_ret execW_region_eq regK_eq execW_skip execW_exit execW_ret regionA_plain regionA_quiet0 tailK_eq nilCheckA guardOk isConst lookupA keyFits mapUpdateA beqI bneI
theorem rA (cx : Cx) (env : Env) (σ : AS)  (hlen : env.length = 62) (hcx : cx.esc = [])  :
    Pc Try.prog how cx [] 62 [10] (cr [.l]) env σ (.normal) (σ) (fun env' => Env.get env' 10 = .int .i64 0) := by
  refine pc_of fun res hr => ?_
  simp -implicitDefEqProofs [-lenA, -indexAddrA, AS.get_push_at, AS.get_push_old, AS.push_len, AS.set_st_len, AS.next_st', AS.set_push_at, AS.get_set_self, AS.get_set_other, cr, Try.f25, hlen, hcx] at hr
  subst hr
  refine ⟨_, rfl, by simp [hlen], by simp [Env.get_set, hlen], fun i hi => ?_⟩
  simp only [List.mem_cons, List.not_mem_nil, or_false, not_or] at hi
  simp only [get_set2, hi, false_and, if_false]

theorem rB (cx : Cx) (env : Env) (σ : AS) (b : Nat) (key : ByteArray) (Y : AV) (hlen : env.length = 62) (hcx : cx.esc = []) (f0 : Env.get env 0 = .ptr (.hp b) 0) (f1 : Env.get env 1 = .str key) (hY : Plain Y) (hc : callW Try.prog how 31 [.ptr (.hp b) 0, .str key] σ cx.ro = some (Y, σ)) :
    Pc Try.prog how cx [] 62 [11, 14, 15, 16] (cr [.r, .l]) env σ (.normal) (σ) (fun env' => Env.get env' 11 = Y) := by
  refine pc_of fun res hr => ?_
  simp -implicitDefEqProofs [-lenA, -indexAddrA, AS.get_push_at, AS.get_push_old, AS.push_len, AS.set_st_len, AS.next_st', AS.set_push_at, AS.get_set_self, AS.get_set_other, cr, Try.f25, hlen, hcx, f0, f1, hY.one, hY.inb, hY.row, hc] at hr
  subst hr
  refine ⟨_, rfl, by simp [hlen], by simp [Env.get_set, hlen, f0, f1, hY.one, hY.inb, hY.row, hc], fun i hi => ?_⟩
  simp only [List.mem_cons, List.not_mem_nil, or_false, not_or] at hi
  simp only [get_set2, hi, false_and, if_false]

theorem rC (cx : Cx) (env : Env) (σ : AS) (hp s : List AObj) (hlen : env.length = 62) (hcx : cx.esc = [])  (hσ : σ = ⟨hp, s⟩) (hww : wok cx.ro (.st s.length) = true) (hhr : cx.h ≤ s.length) :
    Pc Try.prog how cx [] 62 [12, 17] (cr [.r, .r, .l]) env σ (.normal) (AS.mk hp (s ++ [.cells [.int .i64 0, .int .u64 0, .str ⟨#[]⟩, .bool false]])) (fun env' => Env.get env' 12 = .ptr (.st s.length) 0) := by
  refine pc_of fun res hr => ?_
  simp -implicitDefEqProofs [-lenA, -indexAddrA, AS.get_push_at, AS.get_push_old, AS.push_len, AS.set_st_len, AS.next_st', AS.set_push_at, AS.get_set_self, AS.get_set_other, cr, Try.f25, hlen, hcx, hσ, hww, hhr] at hr
  subst hr
  refine ⟨_, rfl, by simp [hlen], by simp [Env.get_set, hlen, hσ, hww, hhr], fun i hi => ?_⟩
  simp only [List.mem_cons, List.not_mem_nil, or_false, not_or] at hi
  simp only [get_set2, hi, false_and, if_false]

theorem rD0 (cx : Cx) (env : Env) (σ : AS) (Y : AV) (hlen : env.length = 62) (hcx : cx.esc = []) (f11 : Env.get env 11 = Y) (hla : lenA Try.prog σ 34 Y = some 0) :
    Pc Try.prog how cx [] 62 [18, 19, 20] (cr [.r, .r, .r, .l]) env σ (.normal) (σ) (fun _ => True) := by
  refine pc_of fun res hr => ?_
  simp -implicitDefEqProofs [-lenA, -indexAddrA, AS.get_push_at, AS.get_push_old, AS.push_len, AS.set_st_len, AS.next_st', AS.set_push_at, AS.get_set_self, AS.get_set_other, cr, Try.f25, hlen, hcx, f11, hla] at hr
  subst hr
  refine ⟨_, rfl, by simp [hlen], by simp [Env.get_set, hlen, f11, hla], fun i hi => ?_⟩
  simp only [List.mem_cons, List.not_mem_nil, or_false, not_or] at hi
  simp only [get_set2, hi, false_and, if_false]

theorem rD1 (cx : Cx) (env : Env) (σ : AS) (w k : Nat) (Y : AV) (v : Vn) (hlen : env.length = 62) (hcx : cx.esc = []) (f11 : Env.get env 11 = Y) (f12 : Env.get env 12 = .ptr (.st w) 0) (hla : lenA Try.prog σ 34 Y = some (k + 1)) (hk : (0 : Int) < (k : Int) + 1) (hw : wr .i64 (k : Int) = (k : Int)) (hia : indexAddrA Try.prog σ 34 Y (.int .i64 (k : Int)) = some (.rptr [.int .i64 v.a, .int .u64 v.n, .str v.v, .bool v.g] 0)) (gw : σ.get (.st w) = some (.cells [.int .i64 0, .int .u64 0, .str ⟨#[]⟩, .bool false])) (hww : wok cx.ro (.st w) = true) (hhr : cx.h ≤ w) :
    Pc Try.prog how cx [] 62 [18, 19, 20, 21, 22, 23, 24, 25, 26] (cr [.r, .r, .r, .l]) env σ (.normal) (σ.set (.st w) (.cells [.int .i64 v.a, .int .u64 v.n, .str v.v, .bool v.g])) (fun _ => True) := by
  refine pc_of fun res hr => ?_
  simp -implicitDefEqProofs [-lenA, -indexAddrA, AS.get_push_at, AS.get_push_old, AS.push_len, AS.set_st_len, AS.next_st', AS.set_push_at, AS.get_set_self, AS.get_set_other, cr, Try.f25, hlen, hcx, f11, f12, hla, hk, hw, hia, gw, hww, hhr] at hr
  subst hr
  refine ⟨_, rfl, by simp [hlen], by simp [Env.get_set, hlen, f11, f12, hla, hk, hw, hia, gw, hww, hhr], fun i hi => ?_⟩
  simp only [List.mem_cons, List.not_mem_nil, or_false, not_or] at hi
  simp only [get_set2, hi, false_and, if_false]

theorem rE0 (cx : Cx) (env : Env) (σ : AS) (w : Nat) (at_ : Int) (key val : ByteArray) (gone : Bool) (v : Vn) (hlen : env.length = 62) (hcx : cx.esc = []) (f1 : Env.get env 1 = .str key) (f2 : Env.get env 2 = .int .i64 at_) (f3 : Env.get env 3 = .str val) (f4 : Env.get env 4 = .bool gone) (f12 : Env.get env 12 = .ptr (.st w) 0) (gw : σ.get (.st w) = some (.cells [.int .i64 v.a, .int .u64 v.n, .str v.v, .bool v.g])) (h49 : callW Try.prog how 49 [.str key] σ cx.ro = some (.bool false, σ)) :
    Pc Try.prog how cx [] 62 [10, 27, 28, 29, 30, 31, 32, 33, 34, 35, 36, 37, 38, 39, 40, 41, 42, 43, 44, 45] (cr [.r, .r, .r, .r, .l]) env σ (.ret) (σ) (fun env' => Env.get env' 10 = .int .i64 1) := by
  refine pc_of fun res hr => ?_
  simp -implicitDefEqProofs [-lenA, -indexAddrA, AS.get_push_at, AS.get_push_old, AS.push_len, AS.set_st_len, AS.next_st', AS.set_push_at, AS.get_set_self, AS.get_set_other, cr, Try.f25, hlen, hcx, f1, f2, f3, f4, f12, gw, h49] at hr
  subst hr
  refine ⟨_, rfl, by simp [hlen], by simp [Env.get_set, hlen, f1, f2, f3, f4, f12, gw, h49], fun i hi => ?_⟩
  simp only [List.mem_cons, List.not_mem_nil, or_false, not_or] at hi
  simp only [get_set2, hi, false_and, if_false]

theorem rE1 (cx : Cx) (env : Env) (σ : AS) (w : Nat) (at_ : Int) (key val : ByteArray) (gone : Bool) (v : Vn) (hlen : env.length = 62) (hcx : cx.esc = []) (f1 : Env.get env 1 = .str key) (f2 : Env.get env 2 = .int .i64 at_) (f3 : Env.get env 3 = .str val) (f4 : Env.get env 4 = .bool gone) (f12 : Env.get env 12 = .ptr (.st w) 0) (gw : σ.get (.st w) = some (.cells [.int .i64 v.a, .int .u64 v.n, .str v.v, .bool v.g])) (h49 : callW Try.prog how 49 [.str key] σ cx.ro = some (.bool true, σ)) (q1 : at_ < 1) :
    Pc Try.prog how cx [] 62 [10, 27, 28, 29, 30, 31, 32, 33, 34, 35, 36, 37, 38, 39, 40, 41, 42, 43, 44, 45] (cr [.r, .r, .r, .r, .l]) env σ (.ret) (σ) (fun env' => Env.get env' 10 = .int .i64 1) := by
  refine pc_of fun res hr => ?_
  simp -implicitDefEqProofs [-lenA, -indexAddrA, AS.get_push_at, AS.get_push_old, AS.push_len, AS.set_st_len, AS.next_st', AS.set_push_at, AS.get_set_self, AS.get_set_other, cr, Try.f25, hlen, hcx, f1, f2, f3, f4, f12, gw, h49, q1] at hr
  subst hr
  refine ⟨_, rfl, by simp [hlen], by simp [Env.get_set, hlen, f1, f2, f3, f4, f12, gw, h49, q1], fun i hi => ?_⟩
  simp only [List.mem_cons, List.not_mem_nil, or_false, not_or] at hi
  simp only [get_set2, hi, false_and, if_false]

theorem rE2 (cx : Cx) (env : Env) (σ : AS) (w : Nat) (at_ : Int) (key val : ByteArray) (gone : Bool) (v : Vn) (hlen : env.length = 62) (hcx : cx.esc = []) (f1 : Env.get env 1 = .str key) (f2 : Env.get env 2 = .int .i64 at_) (f3 : Env.get env 3 = .str val) (f4 : Env.get env 4 = .bool gone) (f12 : Env.get env 12 = .ptr (.st w) 0) (gw : σ.get (.st w) = some (.cells [.int .i64 v.a, .int .u64 v.n, .str v.v, .bool v.g])) (h49 : callW Try.prog how 49 [.str key] σ cx.ro = some (.bool true, σ)) (q1 : ¬ at_ < 1) (q2 : at_ ≤ v.a) :
    Pc Try.prog how cx [] 62 [10, 27, 28, 29, 30, 31, 32, 33, 34, 35, 36, 37, 38, 39, 40, 41, 42, 43, 44, 45] (cr [.r, .r, .r, .r, .l]) env σ (.ret) (σ) (fun env' => Env.get env' 10 = .int .i64 1) := by
  refine pc_of fun res hr => ?_
  simp -implicitDefEqProofs [-lenA, -indexAddrA, AS.get_push_at, AS.get_push_old, AS.push_len, AS.set_st_len, AS.next_st', AS.set_push_at, AS.get_set_self, AS.get_set_other, cr, Try.f25, hlen, hcx, f1, f2, f3, f4, f12, gw, h49, q1, q2] at hr
  subst hr
  refine ⟨_, rfl, by simp [hlen], by simp [Env.get_set, hlen, f1, f2, f3, f4, f12, gw, h49, q1, q2], fun i hi => ?_⟩
  simp only [List.mem_cons, List.not_mem_nil, or_false, not_or] at hi
  simp only [get_set2, hi, false_and, if_false]

theorem rE3 (cx : Cx) (env : Env) (σ : AS) (w : Nat) (at_ : Int) (key val : ByteArray) (gone : Bool) (v : Vn) (hlen : env.length = 62) (hcx : cx.esc = []) (f1 : Env.get env 1 = .str key) (f2 : Env.get env 2 = .int .i64 at_) (f3 : Env.get env 3 = .str val) (f4 : Env.get env 4 = .bool gone) (f12 : Env.get env 12 = .ptr (.st w) 0) (gw : σ.get (.st w) = some (.cells [.int .i64 v.a, .int .u64 v.n, .str v.v, .bool v.g])) (h49 : callW Try.prog how 49 [.str key] σ cx.ro = some (.bool true, σ)) (q1 : ¬ at_ < 1) (q2 : ¬ at_ ≤ v.a) (h50 : callW Try.prog how 50 [.str val, .bool gone] σ cx.ro = some (.bool false, σ)) :
    Pc Try.prog how cx [] 62 [10, 27, 28, 29, 30, 31, 32, 33, 34, 35, 36, 37, 38, 39, 40, 41, 42, 43, 44, 45] (cr [.r, .r, .r, .r, .l]) env σ (.ret) (σ) (fun env' => Env.get env' 10 = .int .i64 1) := by
  refine pc_of fun res hr => ?_
  simp -implicitDefEqProofs [-lenA, -indexAddrA, AS.get_push_at, AS.get_push_old, AS.push_len, AS.set_st_len, AS.next_st', AS.set_push_at, AS.get_set_self, AS.get_set_other, cr, Try.f25, hlen, hcx, f1, f2, f3, f4, f12, gw, h49, q1, q2, h50] at hr
  subst hr
  refine ⟨_, rfl, by simp [hlen], by simp [Env.get_set, hlen, f1, f2, f3, f4, f12, gw, h49, q1, q2, h50], fun i hi => ?_⟩
  simp only [List.mem_cons, List.not_mem_nil, or_false, not_or] at hi
  simp only [get_set2, hi, false_and, if_false]

theorem rK (cx : Cx) (env : Env) (σ : AS) (w : Nat) (at_ : Int) (key val : ByteArray) (gone : Bool) (v : Vn) (hlen : env.length = 62) (hcx : cx.esc = []) (f1 : Env.get env 1 = .str key) (f2 : Env.get env 2 = .int .i64 at_) (f3 : Env.get env 3 = .str val) (f4 : Env.get env 4 = .bool gone) (f12 : Env.get env 12 = .ptr (.st w) 0) (gw : σ.get (.st w) = some (.cells [.int .i64 v.a, .int .u64 v.n, .str v.v, .bool v.g])) (h49 : callW Try.prog how 49 [.str key] σ cx.ro = some (.bool true, σ)) (q1 : ¬ at_ < 1) (q2 : ¬ at_ ≤ v.a) (h50 : callW Try.prog how 50 [.str val, .bool gone] σ cx.ro = some (.bool true, σ)) :
    Pc Try.prog how cx [] 62 [27, 28, 29, 30, 31, 32, 33, 34, 35, 36, 37, 38, 39, 40, 41, 42, 43, 44, 45] (cr [.r, .r, .r, .r, .l]) env σ (.normal) (σ) (fun _ => True) := by
  refine pc_of fun res hr => ?_
  simp -implicitDefEqProofs [-lenA, -indexAddrA, AS.get_push_at, AS.get_push_old, AS.push_len, AS.set_st_len, AS.next_st', AS.set_push_at, AS.get_set_self, AS.get_set_other, cr, Try.f25, hlen, hcx, f1, f2, f3, f4, f12, gw, h49, q1, q2, h50] at hr
  subst hr
  refine ⟨_, rfl, by simp [hlen], by simp [Env.get_set, hlen, f1, f2, f3, f4, f12, gw, h49, q1, q2, h50], fun i hi => ?_⟩
  simp only [List.mem_cons, List.not_mem_nil, or_false, not_or] at hi
  simp only [get_set2, hi, false_and, if_false]

theorem rF (cx : Cx) (env : Env) (σ : AS) (hp s : List AObj) (Y : AV) (es : List AV) (vv n : Nat) (hlen : env.length = 62) (hcx : cx.esc = []) (f11 : Env.get env 11 = Y) (hσ : σ = ⟨hp, s⟩) (hap : appendA Try.prog cx ⟨hp, s ++ [.row [] 4 0 false]⟩ [34, 34] (.row (.st s.length) 0 0 0) Y = some (.row (.st s.length) vv 0 n, ⟨hp, s ++ [.row es 4 vv false]⟩)) :
    Pc Try.prog how cx [] 62 [13, 46, 47, 48] (cr [.r, .r, .r, .r, .r, .l]) env σ (.normal) (AS.mk hp (s ++ [.row es 4 vv false])) (fun env' => Env.get env' 13 = .row (.st s.length) vv 0 n) := by
  refine pc_of fun res hr => ?_
  simp -implicitDefEqProofs [-lenA, -indexAddrA, AS.get_push_at, AS.get_push_old, AS.push_len, AS.set_st_len, AS.next_st', AS.set_push_at, AS.get_set_self, AS.get_set_other, cr, Try.f25, hlen, hcx, f11, hσ, hap, elemA] at hr
  subst hr
  refine ⟨_, rfl, by simp [hlen], by simp [Env.get_set, hlen, f11, hσ, hap, elemA], fun i hi => ?_⟩
  simp only [List.mem_cons, List.not_mem_nil, or_false, not_or] at hi
  simp only [get_set2, hi, false_and, if_false]

theorem rG (cx : Cx) (env : Env) (σ : AS) (hp s s2 s3 hp' : List AObj) (b w i vv n : Nat) (at_ : Int) (key val : ByteArray) (gone : Bool) (v : Vn) (hlen : env.length = 62) (hcx : cx.esc = []) (f0 : Env.get env 0 = .ptr (.hp b) 0) (f1 : Env.get env 1 = .str key) (f2 : Env.get env 2 = .int .i64 at_) (f3 : Env.get env 3 = .str val) (f4 : Env.get env 4 = .bool gone) (f12 : Env.get env 12 = .ptr (.st w) 0) (f13 : Env.get env 13 = .row (.st i) vv 0 n) (hσ : σ = ⟨hp, s⟩) (gw : (AS.mk hp s).get (.st w) = some (.cells [.int .i64 v.a, .int .u64 v.n, .str v.v, .bool v.g])) (hw : wr .u64 (v.n + 1) = v.n + 1) (hap : appendA Try.prog cx ⟨hp, s ++ [.row [.agg [.int .i64 at_, .int .u64 (v.n + 1), .str val, .bool gone]] 4 0 false]⟩ [34, 34] (.row (.st i) vv 0 n) (.row (.st s.length) 0 0 1) = some (.row (.st i) (vv + 1) 0 (n + 1), ⟨hp, s2⟩)) (hc : callW Try.prog how 51 [.ptr (.hp b) 0, .str key, .row (.st i) (vv + 1) 0 (n + 1)] ⟨hp, s2⟩ cx.ro = some (.tup [], ⟨hp', s3⟩)) (hi : i < s2.length) :
    Pc Try.prog how cx [] 62 [49, 50, 51, 52, 53, 54, 55, 56, 57, 58, 59, 60, 61] (cr [.r, .r, .r, .r, .r, .r, .l]) env σ (.normal) (AS.mk hp' s3) (fun _ => True) := by
  refine pc_of fun res hr => ?_
  simp -implicitDefEqProofs [-lenA, -indexAddrA, AS.get_push_at, AS.get_push_old, AS.push_len, AS.set_st_len, AS.next_st', AS.set_push_at, AS.get_set_self, AS.get_set_other, cr, Try.f25, hlen, hcx, f0, f1, f2, f3, f4, f12, f13, hσ, gw, hw, hap, hc, hi, elemA] at hr
  subst hr
  refine ⟨_, rfl, by simp [hlen], by simp [Env.get_set, hlen, f0, f1, f2, f3, f4, f12, f13, hσ, gw, hw, hap, hc, hi, elemA], fun i hi => ?_⟩
  simp only [List.mem_cons, List.not_mem_nil, or_false, not_or] at hi
  simp only [get_set2, hi, false_and, if_false]

theorem rH (cx : Cx) (env : Env) (σ : AS)  (hlen : env.length = 62) (hcx : cx.esc = [])  :
    Pc Try.prog how cx [] 62 [10] (cr [.r, .r, .r, .r, .r, .r, .r, .l]) env σ (.normal) (σ) (fun env' => Env.get env' 10 = .int .i64 0) := by
  refine pc_of fun res hr => ?_
  simp -implicitDefEqProofs [-lenA, -indexAddrA, AS.get_push_at, AS.get_push_old, AS.push_len, AS.set_st_len, AS.next_st', AS.set_push_at, AS.get_set_self, AS.get_set_other, cr, Try.f25, hlen, hcx] at hr
  subst hr
  refine ⟨_, rfl, by simp [hlen], by simp [Env.get_set, hlen], fun i hi => ?_⟩
  simp only [List.mem_cons, List.not_mem_nil, or_false, not_or] at hi
  simp only [get_set2, hi, false_and, if_false]

end
noncomputable def bodyC : Code := (.seq (cr [.l]) (.seq (cr [.r, .l]) (.seq (cr [.r, .r, .l]) (.seq (cr [.r, .r, .r, .l]) (.seq (cr [.r, .r, .r, .r, .l]) (.seq (cr [.r, .r, .r, .r, .r, .l]) (.seq (cr [.r, .r, .r, .r, .r, .r, .l]) (.seq (cr [.r, .r, .r, .r, .r, .r, .r, .l]) .ret))))))))
theorem body : Try.f25.body = some bodyC := by kernel_rfl
theorem ok (hp s : List AObj) (b : Nat) (a : Int) (key val : ByteArray) (gone : Bool) (X : AV) (S : List Rw) (hA : hp[b]? = some (.cells [X])) (hX : HRow hp X (S.map encRow)) (hlen2 : S.length ≤ 200) (hG : GoodO (ofS S key)) (hk : key.size ≤ 9223372036854775807) (hv : val.size ≤ 9223372036854775807) :
    ((!keyOk key || badPut (ofS S key) a val gone) = true ∧ callW Try.prog how 25 [.ptr (.hp b) 0, .str key, .int .i64 a, .str val, .bool gone] ⟨hp, s⟩ none = some (.int .i64 1, ⟨hp, s⟩)) ∨
    ((!keyOk key || badPut (ofS S key) a val gone) = false ∧ ∃ hp', callW Try.prog how 25 [.ptr (.hp b) 0, .str key, .int .i64 a, .str val, .bool gone] ⟨hp, s⟩ none = some (.int .i64 0, ⟨hp', s⟩) ∧ SetR hp hp' b (setS key ((ofS S key) ++ [newV (ofS S key) a val gone]) S)) := by
  let cx : Cx := { h := s.length, ro := none, esc := [] }
  have hcx : cx.esc = [] := rfl
  have hro : ∀ k, cx.ro = some k → k ≤ cx.h := fun k hk => by cases hk
  obtain ⟨env, henv⟩ : ∃ e, e = frameA Try.f25 [.ptr (.hp b) 0, .str key, .int .i64 a, .str val, .bool gone] := ⟨_, rfl⟩
  have hlen : env.length = 62 := by rw [henv]; rfl
  have f0 : Env.get env 0 = .ptr (.hp b) 0 := by rw [henv]; rfl
  have f1 : Env.get env 1 = .str key := by rw [henv]; rfl
  have f2 : Env.get env 2 = .int .i64 a := by rw [henv]; rfl
  have f3 : Env.get env 3 = .str val := by rw [henv]; rfl
  have f4 : Env.get env 4 = .bool gone := by rw [henv]; rfl
  have ho : Outside s.length (AS.mk hp s) (AS.mk hp s) := Outside.refl (Nat.le_refl _)
  obtain ⟨env1, x1a, x1b, x1c, x1d⟩ := rA cx env (AS.mk hp s)  hlen hcx   
  have f0 := (x1d 0 (by decide)).trans f0
  have f1 := (x1d 1 (by decide)).trans f1
  have f2 := (x1d 2 (by decide)).trans f2
  have f3 := (x1d 3 (by decide)).trans f3
  have f4 := (x1d 4 (by decide)).trans f4
  have f10 := x1c
  have hof := F31.ok hp s none b key X S (fun k hk => by cases hk) hA hX (by omega)
  generalize ofS S key = L at *
  obtain ⟨env2, x2a, x2b, x2c, x2d⟩ := rB cx env1 (AS.mk hp s) b key (slV 4 (L.map encVn)) x1b hcx f0 f1 slV_plain hof 
  have f0 := (x2d 0 (by decide)).trans f0
  have f1 := (x2d 1 (by decide)).trans f1
  have f2 := (x2d 2 (by decide)).trans f2
  have f3 := (x2d 3 (by decide)).trans f3
  have f4 := (x2d 4 (by decide)).trans f4
  have f10 := (x2d 10 (by decide)).trans f10
  have f11 := x2c
  obtain ⟨env3, x3a, x3b, x3c, x3d⟩ := rC cx env2 (AS.mk hp s) hp s x2b hcx  rfl rfl (Nat.le_refl _) 
  have f0 := (x3d 0 (by decide)).trans f0
  have f1 := (x3d 1 (by decide)).trans f1
  have f2 := (x3d 2 (by decide)).trans f2
  have f3 := (x3d 3 (by decide)).trans f3
  have f4 := (x3d 4 (by decide)).trans f4
  have f10 := (x3d 10 (by decide)).trans f10
  have f11 := (x3d 11 (by decide)).trans f11
  have f12 := x3c
  have key2 : ∃ env', execW Try.prog cx [] (callW Try.prog how) (cr [.r, .r, .r, .l]) (env3, AS.mk hp (s ++ [AObj.cells [.int .i64 0, .int .u64 0, .str ⟨#[]⟩, .bool false]])) = some (.normal, (env', AS.mk hp (s ++ [AObj.cells [.int .i64 (lastV L).a, .int .u64 (lastV L).n, .str (lastV L).v, .bool (lastV L).g]]))) ∧ env'.length = 62 ∧ ∀ i, i ∉ [18, 19, 20, 21, 22, 23, 24, 25, 26] → Env.get env' i = Env.get env3 i := by
    cases L with
    | nil =>
      obtain ⟨e, r1, r2, _, r4⟩ := rD0 cx env3 (AS.mk hp (s ++ [AObj.cells [.int .i64 0, .int .u64 0, .str ⟨#[]⟩, .bool false]])) _ x3b hcx f11 (lenL' [] _)
      exact ⟨e, r1, r2, fun i hi => r4 i (by simp at hi ⊢; omega)⟩
    | cons x l =>
      have hlt : l.length < (x :: l).length := by simp
      have el : lastV (x :: l) = (x :: l)[l.length] := by
        unfold lastV
        rw [List.getLast?_eq_getElem?]
        simp
      have hl9 := hG.len
      simp only [List.length_cons] at hl9
      have gw : (AS.mk hp (s ++ [AObj.cells [.int .i64 0, .int .u64 0, .str ⟨#[]⟩, .bool false]])).get (.st s.length) = some (.cells [.int .i64 0, .int .u64 0, .str ⟨#[]⟩, .bool false]) := by simp [AS.get]
      obtain ⟨e, r1, r2, _, r4⟩ := rD1 cx env3 (AS.mk hp (s ++ [AObj.cells [.int .i64 0, .int .u64 0, .str ⟨#[]⟩, .bool false]])) s.length l.length _ (lastV (x :: l)) x3b hcx f11 f12 (lenL' (x :: l) _) (by omega) (wr_ok (by omega) (by omega)) (by rw [el]; exact idxL' (x :: l) l.length hlt _) gw rfl (Nat.le_refl _)
      refine ⟨e, r1.trans ?_, r2, r4⟩
      simp [AS.set]
  obtain ⟨env4, x4a, x4b, x4d⟩ := key2
  have f0 := (x4d 0 (by decide)).trans f0
  have f1 := (x4d 1 (by decide)).trans f1
  have f2 := (x4d 2 (by decide)).trans f2
  have f3 := (x4d 3 (by decide)).trans f3
  have f4 := (x4d 4 (by decide)).trans f4
  have f10 := (x4d 10 (by decide)).trans f10
  have f11 := (x4d 11 (by decide)).trans f11
  have f12 := (x4d 12 (by decide)).trans f12
  have gw : (AS.mk hp (s ++ [AObj.cells [.int .i64 (lastV L).a, .int .u64 (lastV L).n, .str (lastV L).v, .bool (lastV L).g]])).get (.st s.length) = some (.cells [.int .i64 (lastV L).a, .int .u64 (lastV L).n, .str (lastV L).v, .bool (lastV L).g]) := by simp [AS.get]
  have h49 := f49_ok hp (s ++ [AObj.cells [.int .i64 (lastV L).a, .int .u64 (lastV L).n, .str (lastV L).v, .bool (lastV L).g]]) none key (fun k hk => by cases hk) hk
  have h50 := f50_ok hp (s ++ [AObj.cells [.int .i64 (lastV L).a, .int .u64 (lastV L).n, .str (lastV L).v, .bool (lastV L).g]]) none val gone (fun k hk => by cases hk) hv
  cases qk : keyOk key with
  | false =>
    rw [qk] at h49
    obtain ⟨env5, x5a, x5b, x5c, x5d⟩ := rE0 cx env4 (AS.mk hp (s ++ [AObj.cells [.int .i64 (lastV L).a, .int .u64 (lastV L).n, .str (lastV L).v, .bool (lastV L).g]])) s.length a key val gone ((lastV L)) x4b hcx f1 f2 f3 f4 f12 gw h49 
    have f0 := (x5d 0 (by decide)).trans f0
    have f1 := (x5d 1 (by decide)).trans f1
    have f2 := (x5d 2 (by decide)).trans f2
    have f3 := (x5d 3 (by decide)).trans f3
    have f4 := (x5d 4 (by decide)).trans f4
    have f11 := (x5d 11 (by decide)).trans f11
    have f12 := (x5d 12 (by decide)).trans f12
    have f10 := x5c
    exact .inl ⟨by rfl, call_of (fl := {}) (fn := Try.f25) (c := bodyC) (env := env) (e := (.ret, (env5, AS.mk hp (s ++ [AObj.cells [.int .i64 (lastV L).a, .int .u64 (lastV L).n, .str (lastV L).v, .bool (lastV L).g]])))) rfl Try.func25 body henv (by unfold bodyC; exact (execW_seq_of x1a (execW_seq_of x2a (execW_seq_of x3a (execW_seq_of x4a (execW_seq_ret x5a)))))) ((fin_tmp (k := 10) (w := .int .i64 1) (.inl rfl) rfl rfl f10 (by simp [AV.back]) (by simp [AV.inb])).trans (by simp))⟩
  | true =>
    rw [qk] at h49
    by_cases q1 : a < 1
    · skip
      obtain ⟨env5, x5a, x5b, x5c, x5d⟩ := rE1 cx env4 (AS.mk hp (s ++ [AObj.cells [.int .i64 (lastV L).a, .int .u64 (lastV L).n, .str (lastV L).v, .bool (lastV L).g]])) s.length a key val gone ((lastV L)) x4b hcx f1 f2 f3 f4 f12 gw h49 q1 
      have f0 := (x5d 0 (by decide)).trans f0
      have f1 := (x5d 1 (by decide)).trans f1
      have f2 := (x5d 2 (by decide)).trans f2
      have f3 := (x5d 3 (by decide)).trans f3
      have f4 := (x5d 4 (by decide)).trans f4
      have f11 := (x5d 11 (by decide)).trans f11
      have f12 := (x5d 12 (by decide)).trans f12
      have f10 := x5c
      exact .inl ⟨by unfold badPut; rw [decide_eq_true q1]; rfl, call_of (fl := {}) (fn := Try.f25) (c := bodyC) (env := env) (e := (.ret, (env5, AS.mk hp (s ++ [AObj.cells [.int .i64 (lastV L).a, .int .u64 (lastV L).n, .str (lastV L).v, .bool (lastV L).g]])))) rfl Try.func25 body henv (by unfold bodyC; exact (execW_seq_of x1a (execW_seq_of x2a (execW_seq_of x3a (execW_seq_of x4a (execW_seq_ret x5a)))))) ((fin_tmp (k := 10) (w := .int .i64 1) (.inl rfl) rfl rfl f10 (by simp [AV.back]) (by simp [AV.inb])).trans (by simp))⟩
    by_cases q2 : a ≤ (lastV L).a
    · skip
      obtain ⟨env5, x5a, x5b, x5c, x5d⟩ := rE2 cx env4 (AS.mk hp (s ++ [AObj.cells [.int .i64 (lastV L).a, .int .u64 (lastV L).n, .str (lastV L).v, .bool (lastV L).g]])) s.length a key val gone ((lastV L)) x4b hcx f1 f2 f3 f4 f12 gw h49 q1 q2 
      have f0 := (x5d 0 (by decide)).trans f0
      have f1 := (x5d 1 (by decide)).trans f1
      have f2 := (x5d 2 (by decide)).trans f2
      have f3 := (x5d 3 (by decide)).trans f3
      have f4 := (x5d 4 (by decide)).trans f4
      have f11 := (x5d 11 (by decide)).trans f11
      have f12 := (x5d 12 (by decide)).trans f12
      have f10 := x5c
      exact .inl ⟨by unfold badPut; rw [decide_eq_true q2, Bool.true_or, Bool.or_true, Bool.or_true], call_of (fl := {}) (fn := Try.f25) (c := bodyC) (env := env) (e := (.ret, (env5, AS.mk hp (s ++ [AObj.cells [.int .i64 (lastV L).a, .int .u64 (lastV L).n, .str (lastV L).v, .bool (lastV L).g]])))) rfl Try.func25 body henv (by unfold bodyC; exact (execW_seq_of x1a (execW_seq_of x2a (execW_seq_of x3a (execW_seq_of x4a (execW_seq_ret x5a)))))) ((fin_tmp (k := 10) (w := .int .i64 1) (.inl rfl) rfl rfl f10 (by simp [AV.back]) (by simp [AV.inb])).trans (by simp))⟩
    cases q3 : mayV val gone with
    | false =>
      rw [q3] at h50
      obtain ⟨env5, x5a, x5b, x5c, x5d⟩ := rE3 cx env4 (AS.mk hp (s ++ [AObj.cells [.int .i64 (lastV L).a, .int .u64 (lastV L).n, .str (lastV L).v, .bool (lastV L).g]])) s.length a key val gone ((lastV L)) x4b hcx f1 f2 f3 f4 f12 gw h49 q1 q2 h50 
      have f0 := (x5d 0 (by decide)).trans f0
      have f1 := (x5d 1 (by decide)).trans f1
      have f2 := (x5d 2 (by decide)).trans f2
      have f3 := (x5d 3 (by decide)).trans f3
      have f4 := (x5d 4 (by decide)).trans f4
      have f11 := (x5d 11 (by decide)).trans f11
      have f12 := (x5d 12 (by decide)).trans f12
      have f10 := x5c
      exact .inl ⟨by unfold badPut; rw [q3, Bool.not_false, Bool.or_true, Bool.or_true, Bool.or_true], call_of (fl := {}) (fn := Try.f25) (c := bodyC) (env := env) (e := (.ret, (env5, AS.mk hp (s ++ [AObj.cells [.int .i64 (lastV L).a, .int .u64 (lastV L).n, .str (lastV L).v, .bool (lastV L).g]])))) rfl Try.func25 body henv (by unfold bodyC; exact (execW_seq_of x1a (execW_seq_of x2a (execW_seq_of x3a (execW_seq_of x4a (execW_seq_ret x5a)))))) ((fin_tmp (k := 10) (w := .int .i64 1) (.inl rfl) rfl rfl f10 (by simp [AV.back]) (by simp [AV.inb])).trans (by simp))⟩
    | true =>
      rw [q3] at h50
      have hln : 0 ≤ (lastV L).n ∧ (lastV L).n ≤ 1000 := lastV_n hG
      obtain ⟨env5, x5a, x5b, x5c, x5d⟩ := rK cx env4 (AS.mk hp (s ++ [AObj.cells [.int .i64 (lastV L).a, .int .u64 (lastV L).n, .str (lastV L).v, .bool (lastV L).g]])) s.length a key val gone ((lastV L)) x4b hcx f1 f2 f3 f4 f12 gw h49 q1 q2 h50 
      have f0 := (x5d 0 (by decide)).trans f0
      have f1 := (x5d 1 (by decide)).trans f1
      have f2 := (x5d 2 (by decide)).trans f2
      have f3 := (x5d 3 (by decide)).trans f3
      have f4 := (x5d 4 (by decide)).trans f4
      have f10 := (x5d 10 (by decide)).trans f10
      have f11 := (x5d 11 (by decide)).trans f11
      have f12 := (x5d 12 (by decide)).trans f12
      have hbp : (!true || badPut L a val gone) = false := by unfold badPut; rw [decide_eq_false q1, decide_eq_false q2, q3]; rfl
      refine .inr ⟨hbp, ?_⟩
      have hL3 := hG.len
      have hap := app34c cx hp (s ++ [AObj.cells [.int .i64 (lastV L).a, .int .u64 (lastV L).n, .str (lastV L).v, .bool (lastV L).g]]) (L.map encVn) (by simp; omega) rfl
      obtain ⟨env6, x6a, x6b, x6c, x6d⟩ := rF cx env5 (AS.mk hp (s ++ [AObj.cells [.int .i64 (lastV L).a, .int .u64 (lastV L).n, .str (lastV L).v, .bool (lastV L).g]])) hp (s ++ [AObj.cells [.int .i64 (lastV L).a, .int .u64 (lastV L).n, .str (lastV L).v, .bool (lastV L).g]]) (slV 4 (L.map encVn)) ((L.map encVn)) _ _ x5b hcx f11 rfl hap 
      have f0 := (x6d 0 (by decide)).trans f0
      have f1 := (x6d 1 (by decide)).trans f1
      have f2 := (x6d 2 (by decide)).trans f2
      have f3 := (x6d 3 (by decide)).trans f3
      have f4 := (x6d 4 (by decide)).trans f4
      have f10 := (x6d 10 (by decide)).trans f10
      have f11 := (x6d 11 (by decide)).trans f11
      have f12 := (x6d 12 (by decide)).trans f12
      have f13 := x6c
      have gw3 : (AS.mk hp ((s ++ [AObj.cells [.int .i64 (lastV L).a, .int .u64 (lastV L).n, .str (lastV L).v, .bool (lastV L).g]]) ++ [AObj.row (L.map encVn) 4 (isz (L.map encVn)) false])).get (.st s.length) = some (.cells [.int .i64 (lastV L).a, .int .u64 (lastV L).n, .str (lastV L).v, .bool (lastV L).g]) := by simp [AS.get]
      have e1 : (s ++ [AObj.cells [.int .i64 (lastV L).a, .int .u64 (lastV L).n, .str (lastV L).v, .bool (lastV L).g]]).length = s.length + 1 := by simp
      rw [e1] at f13
      have hap2 := app34d cx hp (((s ++ [AObj.cells [.int .i64 (lastV L).a, .int .u64 (lastV L).n, .str (lastV L).v, .bool (lastV L).g]]) ++ [AObj.row (L.map encVn) 4 (isz (L.map encVn)) false]) ++ [AObj.row [encVn (newV L a val gone)] 4 0 false]) (L.map encVn) (encVn (newV L a val gone)) (s.length + 1) (isz (L.map encVn)) ((s ++ [AObj.cells [.int .i64 (lastV L).a, .int .u64 (lastV L).n, .str (lastV L).v, .bool (lastV L).g]]) ++ [AObj.row (L.map encVn) 4 (isz (L.map encVn)) false]).length (by simp; omega) rfl (by simp) (by simp)
      have hes : (L.map encVn) ++ [encVn (newV L a val gone)] = (L ++ [newV L a val gone]).map encVn := by simp
      have hne : L ++ [newV L a val gone] ≠ [] := by simp
      have hl4 : ((((s ++ [AObj.cells [.int .i64 (lastV L).a, .int .u64 (lastV L).n, .str (lastV L).v, .bool (lastV L).g]]) ++ [AObj.row (L.map encVn) 4 (isz (L.map encVn)) false]) ++ [AObj.row [encVn (newV L a val gone)] 4 0 false]).set (s.length + 1) (AObj.row ((L.map encVn) ++ [encVn (newV L a val gone)]) 4 (isz (L.map encVn) + 1) false))[s.length + 1]? = some (AObj.row ((L.map encVn) ++ [encVn (newV L a val gone)]) 4 (isz (L.map encVn) + 1) false) := List.getElem?_set_self (by simp)
      have hfz := fz_row (hp := hp) (key := key) hl4
      have hsl : ∀ l : List Vn, l ≠ [] → slV 4 (l.map encVn) = .sl false 4 (l.map encVn) := fun l h => by cases l with | nil => exact absurd rfl h | cons x l => rfl
      obtain ⟨hp', h51, hset⟩ := F51.ok hp ((((s ++ [AObj.cells [.int .i64 (lastV L).a, .int .u64 (lastV L).n, .str (lastV L).v, .bool (lastV L).g]]) ++ [AObj.row (L.map encVn) 4 (isz (L.map encVn)) false]) ++ [AObj.row [encVn (newV L a val gone)] 4 0 false]).set (s.length + 1) (AObj.row ((L.map encVn) ++ [encVn (newV L a val gone)]) 4 (isz (L.map encVn) + 1) false)) b key (L ++ [newV L a val gone]) (.row (.st (s.length + 1)) (isz (L.map encVn) + 1) 0 ((L.map encVn).length + 1)) X S (((((s ++ [AObj.cells [.int .i64 (lastV L).a, .int .u64 (lastV L).n, .str (lastV L).v, .bool (lastV L).g]]) ++ [AObj.row (L.map encVn) 4 (isz (L.map encVn)) false]) ++ [AObj.row [encVn (newV L a val gone)] 4 0 false]).set (s.length + 1) (AObj.row ((L.map encVn) ++ [encVn (newV L a val gone)]) 4 (isz (L.map encVn) + 1) false)).set (s.length + 1) (AObj.row ((L.map encVn) ++ [encVn (newV L a val gone)]) 4 (isz (L.map encVn) + 1) true)) hA hX hlen2 (by simp [lenA]) rfl (fun _ => by rw [hsl _ hne, ← hes]; have := hfz; rw [List.length_append, List.length_singleton] at this; exact this) (fun h => absurd h hne) (by simp)
      obtain ⟨env7, x7a, x7b, x7c, x7d⟩ := rG cx env6 (AS.mk hp ((s ++ [AObj.cells [.int .i64 (lastV L).a, .int .u64 (lastV L).n, .str (lastV L).v, .bool (lastV L).g]]) ++ [AObj.row (L.map encVn) 4 (isz (L.map encVn)) false])) hp (((s ++ [AObj.cells [.int .i64 (lastV L).a, .int .u64 (lastV L).n, .str (lastV L).v, .bool (lastV L).g]]) ++ [AObj.row (L.map encVn) 4 (isz (L.map encVn)) false])) (((((s ++ [AObj.cells [.int .i64 (lastV L).a, .int .u64 (lastV L).n, .str (lastV L).v, .bool (lastV L).g]]) ++ [AObj.row (L.map encVn) 4 (isz (L.map encVn)) false]) ++ [AObj.row [encVn (newV L a val gone)] 4 0 false]).set (s.length + 1) (AObj.row ((L.map encVn) ++ [encVn (newV L a val gone)]) 4 (isz (L.map encVn) + 1) false))) _ hp' b s.length ((s.length + 1)) _ _ a key val gone ((lastV L)) x6b hcx f0 f1 f2 f3 f4 f12 f13 rfl gw3 (wr_u64 (by omega) (by omega)) hap2 h51 (by simp) 
      have f0 := (x7d 0 (by decide)).trans f0
      have f1 := (x7d 1 (by decide)).trans f1
      have f2 := (x7d 2 (by decide)).trans f2
      have f3 := (x7d 3 (by decide)).trans f3
      have f4 := (x7d 4 (by decide)).trans f4
      have f10 := (x7d 10 (by decide)).trans f10
      have f11 := (x7d 11 (by decide)).trans f11
      have f12 := (x7d 12 (by decide)).trans f12
      have f13 := (x7d 13 (by decide)).trans f13
      obtain ⟨env8, x8a, x8b, x8c, x8d⟩ := rH cx env7 (AS.mk hp' (((((s ++ [AObj.cells [.int .i64 (lastV L).a, .int .u64 (lastV L).n, .str (lastV L).v, .bool (lastV L).g]]) ++ [AObj.row (L.map encVn) 4 (isz (L.map encVn)) false]) ++ [AObj.row [encVn (newV L a val gone)] 4 0 false]).set (s.length + 1) (AObj.row ((L.map encVn) ++ [encVn (newV L a val gone)]) 4 (isz (L.map encVn) + 1) false)).set (s.length + 1) (AObj.row ((L.map encVn) ++ [encVn (newV L a val gone)]) 4 (isz (L.map encVn) + 1) true)))  x7b hcx   
      have f0 := (x8d 0 (by decide)).trans f0
      have f1 := (x8d 1 (by decide)).trans f1
      have f2 := (x8d 2 (by decide)).trans f2
      have f3 := (x8d 3 (by decide)).trans f3
      have f4 := (x8d 4 (by decide)).trans f4
      have f11 := (x8d 11 (by decide)).trans f11
      have f12 := (x8d 12 (by decide)).trans f12
      have f13 := (x8d 13 (by decide)).trans f13
      have f10 := x8c
      exact ⟨hp', call_of (fl := {}) (fn := Try.f25) (c := bodyC) (env := env) (e := (.ret, (env8, AS.mk hp' (((((s ++ [AObj.cells [.int .i64 (lastV L).a, .int .u64 (lastV L).n, .str (lastV L).v, .bool (lastV L).g]]) ++ [AObj.row (L.map encVn) 4 (isz (L.map encVn)) false]) ++ [AObj.row [encVn (newV L a val gone)] 4 0 false]).set (s.length + 1) (AObj.row ((L.map encVn) ++ [encVn (newV L a val gone)]) 4 (isz (L.map encVn) + 1) false)).set (s.length + 1) (AObj.row ((L.map encVn) ++ [encVn (newV L a val gone)]) 4 (isz (L.map encVn) + 1) true))))) rfl Try.func25 body henv (by unfold bodyC; exact (execW_seq_of x1a (execW_seq_of x2a (execW_seq_of x3a (execW_seq_of x4a (execW_seq_of x5a (execW_seq_of x6a (execW_seq_of x7a (execW_seq_of x8a (by rfl)))))))))) ((fin_tmp (k := 10) (w := .int .i64 0) (.inl rfl) rfl rfl f10 (by simp [AV.back]) (by simp [AV.inb])).trans (by simp)), hset⟩
end F25
