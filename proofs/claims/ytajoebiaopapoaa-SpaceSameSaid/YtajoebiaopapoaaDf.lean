/- The law SpaceApart, run. -/

import Derived.Test.YtajoebiaopapoaaDb
open Go Go.Abs Go.Proofs
set_option maxRecDepth 100000
set_option maxHeartbeats 4000000
set_option linter.unusedSimpArgs false
set_option linter.unusedVariables false

theorem ofS_mid {A B : List Rw} {x : Rw} {key : ByteArray} (h : x.1 ≠ key) : ofS (A ++ x :: B) key = ofS (A ++ B) key := by
  unfold ofS
  rw [List.find?_append, List.find?_cons_of_neg (by simpa using h), ← List.find?_append]
theorem ofS_setS {S : List Rw} (hS : SortedS S) {k0 key : ByteArray} {l : List Vn} (hl : l ≠ []) (h : k0 ≠ key) : ofS (setS k0 l S) key = ofS S key := by
  have hle : l.isEmpty = false := by cases l with | nil => exact absurd rfl hl | cons => rfl
  by_cases q : ∃ r ∈ S, r.1 = k0
  · obtain ⟨r, hr, rfl⟩ := q
    obtain ⟨k, hk, rfl⟩ := List.mem_iff_getElem.1 hr
    obtain ⟨e, hA, hB⟩ := split_at hS hk
    have ex : setS S[k].1 l S = S.take k ++ (S[k].1, l) :: S.drop (k + 1) := by
      have := setS_at (l := l) (l0 := S[k].2) hA hB
      rw [← e, hle] at this
      rw [this]
      simp
    rw [ex, ofS_mid (x := (S[k].1, l)) h, ← ofS_mid (x := (S[k].1, S[k].2)) h, ← e]
  · have q' : ∀ r ∈ S, r.1 ≠ k0 := fun r hr e => q ⟨r, hr, e⟩
    obtain ⟨A, B, rfl, hA, hB⟩ := split_new hS q'
    rw [setS_new hl hA hB, ofS_mid (x := (k0, l)) h]
theorem min_succ_le {k n : Nat} (h : k < n) : min k n + 1 = min (k + 1) n := by omega
namespace F4
noncomputable def cr (p : List Dir) : Code := sub p (bodyOf Try.f4)

section
attribute [local simp] ofV ofCell ofCells seqA_nil seqA_cons seqVK_eq seqEK_eq wantedA yieldedA isVal effA ev evs evps putE optsA optsOk valA fieldAddrA fieldA loadA partA aggA isAggD buildA placesA fillA lay storeA AV.withCells buildSliceA elemsA rowParts fzL promL okE isSrc bytesOk pushA cxOf lenA binA intBinA strBinA unA indexAddrA eqA AVs.inb AV.inb Loc.inb calleeA opsOf sub bodyOf Env.get_set quietA_nil quietA_cons quietK_none quietK_some qstep newA isNew escNew boxOk newLoc flat rowPartsQ quietN quietOp isBS List.takeWhile finishA_eq finK_ret finK_normal retK backK resA oneA AV.back AVs.back execW_seq_eq seqK_normal seqK_ret seqK_exit execW_cond_eq condK_true condK_false execW_block_eq blockK_exit blockK_normal blockK_ret execW_region_eq regK_eq execW_skip execW_exit execW_ret regionA_plain regionA_quiet0 tailK_eq nilCheckA guardOk isConst lookupA keyFits mapUpdateA beqI bneI
theorem rA (cx : Cx) (env : Env) (σ : AS) (c0 oa : Int) (ok_ ov : ByteArray) (og : Bool) (hlen : env.length = 86) (hcx : cx.esc = [20]) (f1 : Env.get env 1 = .agg [.int .i64 c0, .str ok_, .int .i64 oa, .str ov, .bool og]) (hw : wok cx.ro (.st σ.st.length) = true) (hh : cx.h ≤ σ.st.length) :
    Pc Try.prog how cx [] 86 [5, 8] (cr [.l]) env σ (.normal) (σ.push false (.cells [.int .i64 c0, .str ok_, .int .i64 oa, .str ov, .bool og])) (fun env' => Env.get env' 5 = .ptr (.st σ.st.length) 0 ∧ Env.get env' 8 = .bool false) := by
  refine pc_of fun res hr => ?_
  simp -implicitDefEqProofs [AS.get_push_at, AS.get_push_old, AS.push_len, AS.set_st_len, AS.next_st', AS.set_push_at, AS.get_set_self, AS.get_set_other, cr, Try.f4, hlen, hcx, f1, hw, hh] at hr
  subst hr
  refine ⟨_, rfl, by simp [hlen], by simp [Env.get_set, hlen, f1, hw, hh], fun i hi => ?_⟩
  simp only [List.mem_cons, List.not_mem_nil, or_false, not_or] at hi
  simp only [get_set2, hi, false_and, if_false]

theorem rN (cx : Cx) (env : Env) (σ : AS) (hp s : List AObj) (hlen : env.length = 86) (hcx : cx.esc = [20])  (h7 : callW Try.prog how 7 [] ⟨hp, s⟩ none = some (.ptr (.hp (hp.length + 1)) 0, ⟨hp ++ [.map [], .cells [.map (.hp hp.length)]], s⟩)) (hσ : σ = ⟨hp, s⟩) (hro0 : cx.ro = none) :
    Pc Try.prog how cx [] 86 [9, 10, 18, 19, 20] (cr [.r, .l]) env σ (.normal) (AS.mk (hp ++ [.map [], .cells [.map (.hp hp.length)], .cells [.nils]]) s) (fun env' => Env.get env' 9 = .ptr (.hp (hp.length + 1)) 0 ∧ Env.get env' 10 = .ptr (.hp (hp.length + 2)) 0) := by
  refine pc_of fun res hr => ?_
  simp -implicitDefEqProofs [AS.get_push_at, AS.get_push_old, AS.push_len, AS.set_st_len, AS.next_st', AS.set_push_at, AS.get_set_self, AS.get_set_other, cr, Try.f4, hlen, hcx, h7, hσ, hro0] at hr
  subst hr
  refine ⟨_, rfl, by simp [hlen], by simp [Env.get_set, hlen, h7, hσ, hro0], fun i hi => ?_⟩
  simp only [List.mem_cons, List.not_mem_nil, or_false, not_or] at hi
  simp only [get_set2, hi, false_and, if_false]

theorem rLn (cx : Cx) (env : Env) (σ : AS)  (hlen : env.length = 86) (hcx : cx.esc = [20]) (f0 : Env.get env 0 = .nils) :
    Pc Try.prog how cx [] 86 [21, 22, 23] (cr [.r, .r, .l, .l]) env σ (.normal) (σ) (fun env' => Env.get env' 21 = .nils ∧ Env.get env' 22 = .int .i64 0 ∧ Env.get env' 23 = .int .i64 0) := by
  refine pc_of fun res hr => ?_
  simp -implicitDefEqProofs [AS.get_push_at, AS.get_push_old, AS.push_len, AS.set_st_len, AS.next_st', AS.set_push_at, AS.get_set_self, AS.get_set_other, cr, Try.f4, hlen, hcx, f0] at hr
  subst hr
  refine ⟨_, rfl, by simp [hlen], by simp [Env.get_set, hlen, f0], fun i hi => ?_⟩
  simp only [List.mem_cons, List.not_mem_nil, or_false, not_or] at hi
  simp only [get_set2, hi, false_and, if_false]

theorem rLs (cx : Cx) (env : Env) (σ : AS) (es : List AV) (hlen : env.length = 86) (hcx : cx.esc = [20]) (f0 : Env.get env 0 = .sl false 5 es) :
    Pc Try.prog how cx [] 86 [21, 22, 23] (cr [.r, .r, .l, .l]) env σ (.normal) (σ) (fun env' => Env.get env' 21 = .sl false 5 es ∧ Env.get env' 22 = .int .i64 (es.length : Int) ∧ Env.get env' 23 = .int .i64 0) := by
  refine pc_of fun res hr => ?_
  simp -implicitDefEqProofs [AS.get_push_at, AS.get_push_old, AS.push_len, AS.set_st_len, AS.next_st', AS.set_push_at, AS.get_set_self, AS.get_set_other, cr, Try.f4, hlen, hcx, f0] at hr
  subst hr
  refine ⟨_, rfl, by simp [hlen], by simp [Env.get_set, hlen, f0], fun i hi => ?_⟩
  simp only [List.mem_cons, List.not_mem_nil, or_false, not_or] at hi
  simp only [get_set2, hi, false_and, if_false]

theorem rE (cx : Cx) (env : Env) (σ : AS) (es : List AV) (k : Nat) (c0 oa : Int) (ok_ ov : ByteArray) (og : Bool) (hlen : env.length = 86) (hcx : cx.esc = [20]) (f21 : Env.get env 21 = .sl false 5 es) (f23 : Env.get env 23 = .int .i64 (k : Int)) (hk : k < es.length) (hv : es[k] = .agg [.int .i64 c0, .str ok_, .int .i64 oa, .str ov, .bool og]) (hw : wok cx.ro (.st σ.st.length) = true) (hh : cx.h ≤ σ.st.length) :
    Pc Try.prog how cx [] 86 [11, 12, 25, 26, 27] (cr [.r, .r, .l, .r, .i, .i, .r, .r, .l, .i, .l]) env σ (.normal) (σ.push false (.cells [.int .i64 c0, .str ok_, .int .i64 oa, .str ov, .bool og])) (fun env' => Env.get env' 11 = .int .i64 (k : Int) ∧ Env.get env' 12 = .ptr (.st σ.st.length) 0) := by
  refine pc_of fun res hr => ?_
  simp -implicitDefEqProofs [AS.get_push_at, AS.get_push_old, AS.push_len, AS.set_st_len, AS.next_st', AS.set_push_at, AS.get_set_self, AS.get_set_other, cr, Try.f4, hlen, hcx, f21, f23, hk, hv, hw, hh] at hr
  subst hr
  refine ⟨_, rfl, by simp [hlen], by simp [Env.get_set, hlen, f21, f23, hk, hv, hw, hh], fun i hi => ?_⟩
  simp only [List.mem_cons, List.not_mem_nil, or_false, not_or] at hi
  simp only [get_set2, hi, false_and, if_false]

theorem rS (cx : Cx) (env : Env) (σ : AS) (a b c k : Nat) (c0 oa : Int) (ok_ ov : ByteArray) (og : Bool) (σ' : AS) (hlen : env.length = 86) (hcx : cx.esc = [20]) (f9 : Env.get env 9 = .ptr (.hp a) 0) (f10 : Env.get env 10 = .ptr (.hp b) 0) (f11 : Env.get env 11 = .int .i64 (k : Int)) (f12 : Env.get env 12 = .ptr (.st c) 0) (gc : σ.get (.st c) = some (.cells [.int .i64 c0, .str ok_, .int .i64 oa, .str ov, .bool og])) (q : (k : Int) < 15) (h8 : callW Try.prog how 8 [.ptr (.hp a) 0, .ptr (.hp b) 0, .agg [.int .i64 c0, .str ok_, .int .i64 oa, .str ov, .bool og]] σ cx.ro = some (.bool true, σ')) :
    Pc Try.prog how cx [] 86 [28, 29, 30, 31, 32, 33] (cr [.r, .r, .l, .r, .i, .i, .r, .r, .l, .i, .r]) env σ (.normal) (σ') (fun _ => True) := by
  refine pc_of fun res hr => ?_
  simp -implicitDefEqProofs [AS.get_push_at, AS.get_push_old, AS.push_len, AS.set_st_len, AS.next_st', AS.set_push_at, AS.get_set_self, AS.get_set_other, cr, Try.f4, hlen, hcx, f9, f10, f11, f12, gc, q, h8] at hr
  subst hr
  refine ⟨_, rfl, by simp [hlen], by simp [Env.get_set, hlen, f9, f10, f11, f12, gc, q, h8], fun i hi => ?_⟩
  simp only [List.mem_cons, List.not_mem_nil, or_false, not_or] at hi
  simp only [get_set2, hi, false_and, if_false]

theorem rK (cx : Cx) (env : Env) (σ : AS) (k : Nat) (hlen : env.length = 86) (hcx : cx.esc = [20]) (f11 : Env.get env 11 = .int .i64 (k : Int)) (q : ¬ (k : Int) < 15) :
    Pc Try.prog how cx [] 86 [28, 29] (cr [.r, .r, .l, .r, .i, .i, .r, .r, .l, .i, .r]) env σ (.normal) (σ) (fun _ => True) := by
  refine pc_of fun res hr => ?_
  simp -implicitDefEqProofs [AS.get_push_at, AS.get_push_old, AS.push_len, AS.set_st_len, AS.next_st', AS.set_push_at, AS.get_set_self, AS.get_set_other, cr, Try.f4, hlen, hcx, f11, q] at hr
  subst hr
  refine ⟨_, rfl, by simp [hlen], by simp [Env.get_set, hlen, f11, q], fun i hi => ?_⟩
  simp only [List.mem_cons, List.not_mem_nil, or_false, not_or] at hi
  simp only [get_set2, hi, false_and, if_false]

theorem rR (cx : Cx) (env : Env) (σ : AS) (a : Nat) (m : Int) (key : ByteArray) (v : Vn) (d : Bool) (hlen : env.length = 86) (hcx : cx.esc = [20]) (f2 : Env.get env 2 = .str key) (f3 : Env.get env 3 = .int .i64 m) (f9 : Env.get env 9 = .ptr (.hp a) 0) (h16 : callW Try.prog how 16 [.ptr (.hp a) 0, .str key, .int .i64 m] σ cx.ro = some (.tup [.agg [.int .i64 v.a, .int .u64 v.n, .str v.v, .bool v.g], .bool d], σ)) (hw : wok cx.ro (.st σ.st.length) = true) (hh : cx.h ≤ σ.st.length) :
    Pc Try.prog how cx [] 86 [13, 14, 35, 36, 37, 38, 39, 40, 41] (cr [.r, .r, .r, .l]) env σ (.normal) (σ.push false (.cells [.int .i64 v.a, .int .u64 v.n, .str v.v, .bool v.g])) (fun env' => Env.get env' 13 = .ptr (.st σ.st.length) 0 ∧ Env.get env' 14 = .bool d) := by
  refine pc_of fun res hr => ?_
  simp -implicitDefEqProofs [AS.get_push_at, AS.get_push_old, AS.push_len, AS.set_st_len, AS.next_st', AS.set_push_at, AS.get_set_self, AS.get_set_other, cr, Try.f4, hlen, hcx, f2, f3, f9, h16, hw, hh] at hr
  subst hr
  refine ⟨_, rfl, by simp [hlen], by simp [Env.get_set, hlen, f2, f3, f9, h16, hw, hh], fun i hi => ?_⟩
  simp only [List.mem_cons, List.not_mem_nil, or_false, not_or] at hi
  simp only [get_set2, hi, false_and, if_false]

theorem rR2 (cx : Cx) (env : Env) (σ : AS) (a : Nat) (m : Int) (key : ByteArray) (v : Vn) (d : Bool) (hlen : env.length = 86) (hcx : cx.esc = [20]) (f2 : Env.get env 2 = .str key) (f3 : Env.get env 3 = .int .i64 m) (f9 : Env.get env 9 = .ptr (.hp a) 0) (h16 : callW Try.prog how 16 [.ptr (.hp a) 0, .str key, .int .i64 m] σ cx.ro = some (.tup [.agg [.int .i64 v.a, .int .u64 v.n, .str v.v, .bool v.g], .bool d], σ)) (hw : wok cx.ro (.st σ.st.length) = true) (hh : cx.h ≤ σ.st.length) :
    Pc Try.prog how cx [] 86 [16, 17, 55, 56, 57, 58, 59, 60, 61] (cr [.r, .r, .r, .r, .r, .r, .l]) env σ (.normal) (σ.push false (.cells [.int .i64 v.a, .int .u64 v.n, .str v.v, .bool v.g])) (fun env' => Env.get env' 16 = .ptr (.st σ.st.length) 0 ∧ Env.get env' 17 = .bool d) := by
  refine pc_of fun res hr => ?_
  simp -implicitDefEqProofs [AS.get_push_at, AS.get_push_old, AS.push_len, AS.set_st_len, AS.next_st', AS.set_push_at, AS.get_set_self, AS.get_set_other, cr, Try.f4, hlen, hcx, f2, f3, f9, h16, hw, hh] at hr
  subst hr
  refine ⟨_, rfl, by simp [hlen], by simp [Env.get_set, hlen, f2, f3, f9, h16, hw, hh], fun i hi => ?_⟩
  simp only [List.mem_cons, List.not_mem_nil, or_false, not_or] at hi
  simp only [get_set2, hi, false_and, if_false]

theorem rM (cx : Cx) (env : Env) (σ : AS) (a : Nat) (key : ByteArray) (n : Int) (hlen : env.length = 86) (hcx : cx.esc = [20]) (f2 : Env.get env 2 = .str key) (f9 : Env.get env 9 = .ptr (.hp a) 0) (h10 : callW Try.prog how 10 [.ptr (.hp a) 0, .str key] σ cx.ro = some (.int .u64 n, σ)) :
    Pc Try.prog how cx [] 86 [15, 42, 43, 44] (cr [.r, .r, .r, .r, .l]) env σ (.normal) (σ) (fun env' => Env.get env' 15 = .int .u64 n) := by
  refine pc_of fun res hr => ?_
  simp -implicitDefEqProofs [AS.get_push_at, AS.get_push_old, AS.push_len, AS.set_st_len, AS.next_st', AS.set_push_at, AS.get_set_self, AS.get_set_other, cr, Try.f4, hlen, hcx, f2, f9, h10] at hr
  subst hr
  refine ⟨_, rfl, by simp [hlen], by simp [Env.get_set, hlen, f2, f9, h10], fun i hi => ?_⟩
  simp only [List.mem_cons, List.not_mem_nil, or_false, not_or] at hi
  simp only [get_set2, hi, false_and, if_false]

theorem rP (cx : Cx) (env : Env) (σ : AS) (a p : Nat) (e : Int) (c0 oa : Int) (ok_ ov : ByteArray) (og : Bool) (σ' : AS) (hlen : env.length = 86) (hcx : cx.esc = [20]) (f5 : Env.get env 5 = .ptr (.st p) 0) (f9 : Env.get env 9 = .ptr (.hp a) 0) (gp : σ.get (.st p) = some (.cells [.int .i64 c0, .str ok_, .int .i64 oa, .str ov, .bool og])) (h17 : callW Try.prog how 17 [.ptr (.hp a) 0, .str ok_, .int .i64 oa, .str ov, .bool og] σ cx.ro = some (.int .i64 e, σ')) :
    Pc Try.prog how cx [] 86 [45, 46, 47, 48, 49, 50, 51, 52, 53, 54] (cr [.r, .r, .r, .r, .r, .l]) env σ (.normal) (σ') (fun _ => True) := by
  refine pc_of fun res hr => ?_
  simp -implicitDefEqProofs [AS.get_push_at, AS.get_push_old, AS.push_len, AS.set_st_len, AS.next_st', AS.set_push_at, AS.get_set_self, AS.get_set_other, cr, Try.f4, hlen, hcx, f5, f9, gp, h17] at hr
  subst hr
  refine ⟨_, rfl, by simp [hlen], by simp [Env.get_set, hlen, f5, f9, gp, h17], fun i hi => ?_⟩
  simp only [List.mem_cons, List.not_mem_nil, or_false, not_or] at hi
  simp only [get_set2, hi, false_and, if_false]

theorem rZ1 (cx : Cx) (env : Env) (σ : AS) (a p : Nat) (key : ByteArray) (c0 oa : Int) (ok_ ov : ByteArray) (og : Bool) (σ' : AS) (hlen : env.length = 86) (hcx : cx.esc = [20]) (f2 : Env.get env 2 = .str key) (f5 : Env.get env 5 = .ptr (.st p) 0) (f9 : Env.get env 9 = .ptr (.hp a) 0) (gp : σ.get (.st p) = some (.cells [.int .i64 c0, .str ok_, .int .i64 oa, .str ov, .bool og])) (hq : beqS ok_ key = true) (h15 : callW Try.prog how 15 [] σ cx.ro = some (.bool true, σ')) :
    Pc Try.prog how cx [] 86 [8, 62, 63, 64, 65, 66, 67, 68, 69, 70, 71, 72, 73, 74, 75, 76, 77, 78, 79, 80, 81, 82, 83, 84, 85] (cr [.r, .r, .r, .r, .r, .r, .r, .l]) env σ (.normal) (σ') (fun env' => Env.get env' 8 = .bool true) := by
  refine pc_of fun res hr => ?_
  simp -implicitDefEqProofs [AS.get_push_at, AS.get_push_old, AS.push_len, AS.set_st_len, AS.next_st', AS.set_push_at, AS.get_set_self, AS.get_set_other, cr, Try.f4, hlen, hcx, f2, f5, f9, gp, hq, h15] at hr
  subst hr
  refine ⟨_, rfl, by simp [hlen], by simp [Env.get_set, hlen, f2, f5, f9, gp, hq, h15], fun i hi => ?_⟩
  simp only [List.mem_cons, List.not_mem_nil, or_false, not_or] at hi
  simp only [get_set2, hi, false_and, if_false]

theorem rZ2 (cx : Cx) (env : Env) (σ : AS) (a p x y : Nat) (n : Int) (key : ByteArray) (v : Vn) (d : Bool) (c0 oa : Int) (ok_ ov : ByteArray) (og : Bool) (σ' : AS) (hlen : env.length = 86) (hcx : cx.esc = [20]) (f2 : Env.get env 2 = .str key) (f5 : Env.get env 5 = .ptr (.st p) 0) (f9 : Env.get env 9 = .ptr (.hp a) 0) (f13 : Env.get env 13 = .ptr (.st x) 0) (f14 : Env.get env 14 = .bool d) (f15 : Env.get env 15 = .int .u64 n) (f16 : Env.get env 16 = .ptr (.st y) 0) (f17 : Env.get env 17 = .bool d) (gp : σ.get (.st p) = some (.cells [.int .i64 c0, .str ok_, .int .i64 oa, .str ov, .bool og])) (hq : beqS ok_ key = false) (gx : σ.get (.st x) = some (.cells [.int .i64 v.a, .int .u64 v.n, .str v.v, .bool v.g])) (gy : σ.get (.st y) = some (.cells [.int .i64 v.a, .int .u64 v.n, .str v.v, .bool v.g])) (heq : eqA Try.prog 40 46 (.agg [.int .i64 v.a, .int .u64 v.n, .str v.v, .bool v.g]) (.agg [.int .i64 v.a, .int .u64 v.n, .str v.v, .bool v.g]) = some true) (heb : eqA Try.prog 40 4 (.bool d) (.bool d) = some true) (h10 : callW Try.prog how 10 [.ptr (.hp a) 0, .str key] σ cx.ro = some (.int .u64 n, σ)) (h15 : callW Try.prog how 15 [] σ cx.ro = some (.bool true, σ')) :
    Pc Try.prog how cx [] 86 [8, 62, 63, 64, 65, 66, 67, 68, 69, 70, 71, 72, 73, 74, 75, 76, 77, 78, 79, 80, 81, 82, 83, 84, 85] (cr [.r, .r, .r, .r, .r, .r, .r, .l]) env σ (.normal) (σ') (fun env' => Env.get env' 8 = .bool true) := by
  refine pc_of fun res hr => ?_
  simp -implicitDefEqProofs [-eqA, AS.get_push_at, AS.get_push_old, AS.push_len, AS.set_st_len, AS.next_st', AS.set_push_at, AS.get_set_self, AS.get_set_other, cr, Try.f4, hlen, hcx, f2, f5, f9, f13, f14, f15, f16, f17, gp, hq, gx, gy, heq, heb, h10, h15, gd46] at hr
  subst hr
  refine ⟨_, rfl, by simp [hlen], by simp [Env.get_set, hlen, f2, f5, f9, f13, f14, f15, f16, f17, gp, hq, gx, gy, heq, heb, h10, h15, gd46], fun i hi => ?_⟩
  simp only [List.mem_cons, List.not_mem_nil, or_false, not_or] at hi
  simp only [get_set2, hi, false_and, if_false]

end
noncomputable def bodyC : Code := (.seq (cr [.l]) (.seq (cr [.r, .l]) (.seq (.seq (cr [.r, .r, .l, .l]) (cr [.r, .r, .l, .r])) (.seq (cr [.r, .r, .r, .l]) (.seq (cr [.r, .r, .r, .r, .l]) (.seq (cr [.r, .r, .r, .r, .r, .l]) (.seq (cr [.r, .r, .r, .r, .r, .r, .l]) (.seq (cr [.r, .r, .r, .r, .r, .r, .r, .l]) .ret))))))))
theorem body : Try.f4.body = some bodyC := by kernel_rfl
/-- What holds ahead of round k. -/
def J (h : Nat) (σ0 : AS) (a mm b p : Nat) (m : Int) (key : ByteArray) (es : List AV) (x0 xa : Int) (xk xv : ByteArray) (xg : Bool) (k : Nat) (env : Env) (σ : AS) : Prop :=
  Env.get env 2 = .str key ∧ Env.get env 3 = .int .i64 m ∧ Env.get env 5 = .ptr (.st p) 0 ∧ Env.get env 9 = .ptr (.hp a) 0 ∧ Env.get env 10 = .ptr (.hp b) 0 ∧ Env.get env 21 = .sl false 5 es ∧ (∃ S, Two σ.hp a mm b S ∧ GoodS S ∧ Bnd (min k 15) S) ∧ (σ.get (.st p) = some (.cells [.int .i64 x0, .str xk, .int .i64 xa, .str xv, .bool xg])) ∧ Outside h (AS.mk σ.hp σ0.st) σ
def Ex (h : Nat) (σ0 : AS) (a mm b p : Nat) (m : Int) (key : ByteArray) (es : List AV) (x0 xa : Int) (xk xv : ByteArray) (xg : Bool) (e : AExit) (env : Env) (σ : AS) : Prop := False
theorem J_stable {h : Nat} {σ0 : AS} {a mm b p : Nat} {m : Int} {key : ByteArray} {es : List AV} {x0 xa : Int} {xk xv : ByteArray} {xg : Bool} : ∀ k env env' σ, env.length = 86 → env'.length = 86 → (∀ i, i ≠ 24 → i ≠ 34 → i ≠ 23 → Env.get env' i = Env.get env i) → J h σ0 a mm b p m key es x0 xa xk xv xg k env σ → J h σ0 a mm b p m key es x0 xa xk xv xg k env' σ := by
  rintro k env env' σ _ _ hf ⟨j2, j3, j5, j9, j10, j21, q0, q1, ho⟩
  exact ⟨(hf 2 (by decide) (by decide) (by decide)).trans j2, (hf 3 (by decide) (by decide) (by decide)).trans j3, (hf 5 (by decide) (by decide) (by decide)).trans j5, (hf 9 (by decide) (by decide) (by decide)).trans j9, (hf 10 (by decide) (by decide) (by decide)).trans j10, (hf 21 (by decide) (by decide) (by decide)).trans j21, q0, q1, ho⟩
noncomputable def oT : Oper := (opsOf (cr [.r, .r, .l, .r, .i, .i, .l])).headD default
noncomputable def oI : List Oper := opsOf (cr [.r, .r, .l, .r, .i, .i, .r, .r, .r])
theorem loop_eq : (cr [.r, .r, .l, .r]) = .block 0 (.loop (.seq (.region 3 #[oT] false) (.seq (.cond (.tmp 24) .skip (.exit 0)) (.seq (.block 1 (.seq (cr [.r, .r, .l, .r, .i, .i, .r, .r, .l, .i, .l]) (cr [.r, .r, .l, .r, .i, .i, .r, .r, .l, .i, .r]))) (.region 7 #[oI.headD default, (oI.drop 1).headD default] false))))) := by kernel_rfl
theorem step (cx : Cx) (hcx : cx.esc = [20]) (hro : ∀ k, cx.ro = some k → k ≤ cx.h) (σ0 : AS) (a mm b p : Nat) (m : Int) (key : ByteArray) (es : List AV) (x0 xa : Int) (xk xv : ByteArray) (xg : Bool) (hr0 : cx.ro = none) (hh0 : cx.h = 0) (hes : ∀ e ∈ es, isOp e) :
    ∀ k env σ, k < es.length → env.length = 86 → Env.get env 23 = .int .i64 (k : Int) → Env.get env 22 = .int .i64 ((es.length : Nat) : Int) → J cx.h σ0 a mm b p m key es x0 xa xk xv xg k env σ → ∃ e env' σ', execW Try.prog cx [] (callW Try.prog how) (.block 1 (.seq (cr [.r, .r, .l, .r, .i, .i, .r, .r, .l, .i, .l]) (cr [.r, .r, .l, .r, .i, .i, .r, .r, .l, .i, .r]))) (env, σ) = some (e, (env', σ')) ∧
      ((e = .normal ∧ env'.length = 86 ∧ Env.get env' 23 = .int .i64 (k : Int) ∧ Env.get env' 22 = .int .i64 ((es.length : Nat) : Int) ∧ J cx.h σ0 a mm b p m key es x0 xa xk xv xg (k + 1) env' σ') ∨ (e ≠ .normal ∧ Ex cx.h σ0 a mm b p m key es x0 xa xk xv xg e env' σ')) := by
  rintro k env σ hk hlen f23 f22 ⟨f2, f3, f5, f9, f10, f21, q0, q1, ho⟩
  obtain ⟨c0, oa, ok_, ov, og, he, hko, hvo⟩ := hes es[k] (List.getElem_mem hk)
  obtain ⟨S, hT, hS, hB⟩ := q0
  obtain ⟨env1, x1a, x1b, x1c, x1d⟩ := rE cx env σ es k c0 oa ok_ ov og hlen hcx f21 f23 hk he (wokst hro ho.2.2) ho.2.2
  have f2 := (x1d 2 (by decide)).trans f2
  have f3 := (x1d 3 (by decide)).trans f3
  have f5 := (x1d 5 (by decide)).trans f5
  have f9 := (x1d 9 (by decide)).trans f9
  have f10 := (x1d 10 (by decide)).trans f10
  have f21 := (x1d 21 (by decide)).trans f21
  have f22 := (x1d 22 (by decide)).trans f22
  have f23 := (x1d 23 (by decide)).trans f23
  have f11 := x1c.1
  have f12 := x1c.2
  have g1 : ((σ : AS).push false (.cells [.int .i64 c0, .str ok_, .int .i64 oa, .str ov, .bool og])).get (.st (σ : AS).st.length) = some (.cells [.int .i64 c0, .str ok_, .int .i64 oa, .str ov, .bool og]) := AS.get_push_at rfl
  have q1 := get_push' (ob' := .cells [.int .i64 c0, .str ok_, .int .i64 oa, .str ov, .bool og]) q1
  have ho := ho.push (ob := .cells [.int .i64 c0, .str ok_, .int .i64 oa, .str ov, .bool og])
  generalize hib1 : (σ : AS).st.length = ib1 at g1 f12
  generalize (σ : AS).push false (.cells [.int .i64 c0, .str ok_, .int .i64 oa, .str ov, .bool og]) = σ1 at x1a g1 q1 ho
  have hhp : σ1.hp = σ.hp := ho.1
  rw [← hhp] at hT
  by_cases q : (k : Int) < 15
  · skip
    obtain ⟨hp1, S1, h8, hT1, hS1, hB1, _⟩ := F8.ok σ1.hp σ1.st a mm b (min k 15) c0 oa ok_ ov og S hT hS hB (by omega)
    rw [← hr0] at h8
    rw [min_succ_le (by omega)] at hB1
    obtain ⟨env2, x2a, x2b, x2c, x2d⟩ := rS cx env1 σ1 a b _ k c0 oa ok_ ov og _ x1b hcx f9 f10 f11 f12 g1 q h8 
    have f2 := (x2d 2 (by decide)).trans f2
    have f3 := (x2d 3 (by decide)).trans f3
    have f5 := (x2d 5 (by decide)).trans f5
    have f9 := (x2d 9 (by decide)).trans f9
    have f10 := (x2d 10 (by decide)).trans f10
    have f11 := (x2d 11 (by decide)).trans f11
    have f12 := (x2d 12 (by decide)).trans f12
    have f21 := (x2d 21 (by decide)).trans f21
    have f22 := (x2d 22 (by decide)).trans f22
    have f23 := (x2d 23 (by decide)).trans f23
    exact ⟨.normal, env2, _, (execW_block_of (execW_seq_of x1a x2a)), .inl ⟨rfl, x2b, f23, f22, f2, f3, f5, f9, f10, f21, ⟨S1, hT1, hS1, hB1⟩, q1, (by rw [hh0]; exact ⟨rfl, by simp, Nat.zero_le _⟩)⟩⟩
  · skip
    obtain ⟨env2, x2a, x2b, x2c, x2d⟩ := rK cx env1 σ1 k x1b hcx f11 q 
    have f2 := (x2d 2 (by decide)).trans f2
    have f3 := (x2d 3 (by decide)).trans f3
    have f5 := (x2d 5 (by decide)).trans f5
    have f9 := (x2d 9 (by decide)).trans f9
    have f10 := (x2d 10 (by decide)).trans f10
    have f11 := (x2d 11 (by decide)).trans f11
    have f12 := (x2d 12 (by decide)).trans f12
    have f21 := (x2d 21 (by decide)).trans f21
    have f22 := (x2d 22 (by decide)).trans f22
    have f23 := (x2d 23 (by decide)).trans f23
    exact ⟨.normal, env2, _, (execW_block_of (execW_seq_of x1a x2a)), .inl ⟨rfl, x2b, f23, f22, f2, f3, f5, f9, f10, f21, ⟨S, hT, hS, hB.le (by omega)⟩, q1, (by rw [hh0]; exact ⟨rfl, by simp, Nat.zero_le _⟩)⟩⟩
theorem loop (cx : Cx) (hcx : cx.esc = [20]) (hro : ∀ k, cx.ro = some k → k ≤ cx.h) (σ0 : AS) (a mm b p : Nat) (m : Int) (key : ByteArray) (es : List AV) (x0 xa : Int) (xk xv : ByteArray) (xg : Bool) (hr0 : cx.ro = none) (hh0 : cx.h = 0) (hes : ∀ e ∈ es, isOp e) (hnn : es.length ≤ 9223372036854775807) {env : Env} {σ : AS} (hl : env.length = 86) (h1 : Env.get env 23 = .int .i64 0) (h2 : Env.get env 22 = .int .i64 ((es.length : Nat) : Int)) (h0 : J cx.h σ0 a mm b p m key es x0 xa xk xv xg 0 env σ) :
    ∃ e env' σ', execW Try.prog cx [] (callW Try.prog how) (cr [.r, .r, .l, .r]) (env, σ) = some (e, (env', σ')) ∧ ((e = .normal ∧ ((env'.length = 86 ∧ J cx.h σ0 a mm b p m key es x0 xa xk xv xg (es.length) env' σ') ∨ Ex cx.h σ0 a mm b p m key es x0 xa xk xv xg (.exit 0) env' σ')) ∨ (e ≠ .normal ∧ e ≠ .exit 0 ∧ Ex cx.h σ0 a mm b p m key es x0 xa xk xv xg e env' σ')) := by
  rw [loop_eq]
  exact range_std (Ex := Ex cx.h σ0 a mm b p m key es x0 xa xk xv xg) (N := 86) (tc := 24) (ti := 23) (tl := 22) (tx := 34) (ty1 := 3) (ty2 := 3) (ty3 := 3) (ty4 := 3) ⟨by kernel_rfl, by kernel_rfl, by kernel_rfl⟩ ⟨by kernel_rfl, by kernel_rfl, by kernel_rfl⟩ ⟨by kernel_rfl, by kernel_rfl, by kernel_rfl⟩ (by decide) hnn J_stable (step cx hcx hro σ0 a mm b p m key es x0 xa xk xv xg hr0 hh0 hes) hl h1 h2 h0
theorem loop_nil (cx : Cx) (hcx : cx.esc = [20]) (σ : AS) (env : Env) (hl : env.length = 86) (h1 : Env.get env 23 = .int .i64 0) (h2 : Env.get env 22 = .int .i64 ((([] : List AV).length : Nat) : Int)) :
    ∃ en σ', execW Try.prog cx [] (callW Try.prog how) (cr [.r, .r, .l, .r]) (env, σ) = some (.normal, (en, σ')) ∧ en.length = 86 ∧ σ' = σ ∧ ∀ i, i ∉ [24, 34, 23] → Env.get en i = Env.get env i := by
  rw [loop_eq]
  obtain ⟨e, en, τ, r, hh⟩ := range_std (P := Try.prog) (cx := cx) (tails := []) (call := callW Try.prog how) (B := 0) (idT := 3) (idI := 7) (oT := oT) (o1 := oI.headD default) (o2 := (oI.drop 1).headD default) (body := (.block 1 (.seq (cr [.r, .r, .l, .r, .i, .i, .r, .r, .l, .i, .l]) (cr [.r, .r, .l, .r, .i, .i, .r, .r, .l, .i, .r])))) (J := fun _ e s => s = σ ∧ ∀ i, i ∉ [24, 34, 23] → Env.get e i = Env.get env i) (Ex := fun _ _ _ => False) (n := 0) (N := 86) (tc := 24) (ti := 23) (tl := 22) (tx := 34) (ty1 := 3) (ty2 := 3) (ty3 := 3) (ty4 := 3) ⟨by kernel_rfl, by kernel_rfl, by kernel_rfl⟩ ⟨by kernel_rfl, by kernel_rfl, by kernel_rfl⟩ ⟨by kernel_rfl, by kernel_rfl, by kernel_rfl⟩ (by decide) (by omega) (fun _ _ _ _ _ _ hf h => ⟨h.1, fun i hi => (hf i (fun e => hi (by simp [e])) (fun e => hi (by simp [e])) (fun e => hi (by simp [e]))).trans (h.2 i hi)⟩) (fun k _ _ hk => by cases hk) (σ := σ) hl h1 h2 ⟨rfl, fun _ _ => rfl⟩
  rcases hh with ⟨rfl, ⟨h, h2, h3⟩ | h⟩ | ⟨_, _, h⟩
  · exact ⟨en, τ, r, h, h2, h3⟩
  · exact h.elim
  · exact h.elim
theorem ok (x : AV) (w : AV) (key : ByteArray) (m : Int) (hx : isOps x) (hw : isOp w) : ∃ σ', callW Try.prog how 4 [x, w, .str key, .int .i64 m] ⟨[], []⟩ none = some (.bool true, σ') := by
  obtain ⟨x0, xa, xk, xv, xg, rfl, hxk, hxv⟩ := hw
  let cx : Cx := { h := 0, ro := none, esc := [20] }
  have hcx : cx.esc = [20] := rfl
  have hro : ∀ k, cx.ro = some k → k ≤ cx.h := fun k hk => by cases hk
  obtain ⟨env, henv⟩ : ∃ e, e = frameA Try.f4 [x, .agg [.int .i64 x0, .str xk, .int .i64 xa, .str xv, .bool xg], .str key, .int .i64 m] := ⟨_, rfl⟩
  have hlen : env.length = 86 := by rw [henv]; rfl
  have f0 : Env.get env 0 = x := by rw [henv]; rfl
  have f1 : Env.get env 1 = .agg [.int .i64 x0, .str xk, .int .i64 xa, .str xv, .bool xg] := by rw [henv]; rfl
  have f2 : Env.get env 2 = .str key := by rw [henv]; rfl
  have f3 : Env.get env 3 = .int .i64 m := by rw [henv]; rfl
  obtain ⟨env1, x1a, x1b, x1c, x1d⟩ := rA cx env (AS.mk [] []) x0 xa xk xv xg hlen hcx f1  rfl (Nat.zero_le _)
  have f0 := (x1d 0 (by decide)).trans f0
  have f1 := (x1d 1 (by decide)).trans f1
  have f2 := (x1d 2 (by decide)).trans f2
  have f3 := (x1d 3 (by decide)).trans f3
  have f5 := x1c.1
  have f8 := x1c.2
  have g1 : ((AS.mk [] [] : AS).push false (.cells [.int .i64 x0, .str xk, .int .i64 xa, .str xv, .bool xg])).get (.st (AS.mk [] [] : AS).st.length) = some (.cells [.int .i64 x0, .str xk, .int .i64 xa, .str xv, .bool xg]) := AS.get_push_at rfl
  generalize hib1 : (AS.mk [] [] : AS).st.length = ib1 at g1 f5
  generalize (AS.mk [] [] : AS).push false (.cells [.int .i64 x0, .str xk, .int .i64 xa, .str xv, .bool xg]) = σ1 at x1a g1
  obtain ⟨env2, x2a, x2b, x2c, x2d⟩ := rN cx env1 σ1 σ1.hp σ1.st x1b hcx  (f7_ok σ1.hp σ1.st) rfl rfl 
  have f0 := (x2d 0 (by decide)).trans f0
  have f1 := (x2d 1 (by decide)).trans f1
  have f2 := (x2d 2 (by decide)).trans f2
  have f3 := (x2d 3 (by decide)).trans f3
  have f5 := (x2d 5 (by decide)).trans f5
  have f8 := (x2d 8 (by decide)).trans f8
  have f9 := x2c.1
  have f10 := x2c.2
  have hT0 := newTwo σ1.hp
  have gp : (AS.mk (σ1.hp ++ [AObj.map [], AObj.cells [.map (.hp σ1.hp.length)], AObj.cells [.nils]]) σ1.st).get (.st ib1) = some (.cells [.int .i64 x0, .str xk, .int .i64 xa, .str xv, .bool xg]) := g1
  have key2 : ∃ es : List AV, (∀ e ∈ es, isOp e) ∧ es.length ≤ 9223372036854775807 ∧ (es = [] ∨ x = .sl false 5 es) ∧ ∃ env', execW Try.prog cx [] (callW Try.prog how) (cr [.r, .r, .l, .l]) (env2, AS.mk (σ1.hp ++ [AObj.map [], AObj.cells [.map (.hp σ1.hp.length)], AObj.cells [.nils]]) σ1.st) = some (.normal, (env', AS.mk (σ1.hp ++ [AObj.map [], AObj.cells [.map (.hp σ1.hp.length)], AObj.cells [.nils]]) σ1.st)) ∧ env'.length = 86 ∧ (Env.get env' 21 = x ∧ Env.get env' 22 = .int .i64 ((es.length : Nat) : Int) ∧ Env.get env' 23 = .int .i64 0) ∧ ∀ i, i ∉ [21, 22, 23] → Env.get env' i = Env.get env2 i := by
    rcases hx with rfl | ⟨es, rfl, hle, hes⟩
    · exact ⟨[], fun e he => (by cases he), by simp, .inl rfl, rLn cx env2 _ x2b hcx f0⟩
    · exact ⟨es, hes, hle, .inr rfl, rLs cx env2 _ es x2b hcx f0⟩
  obtain ⟨es, hes, hle, hxe, env3, x3a, x3b, ⟨f21, f22, f23⟩, x3d⟩ := key2
  have f0 := (x3d 0 (by decide)).trans f0
  have f1 := (x3d 1 (by decide)).trans f1
  have f2 := (x3d 2 (by decide)).trans f2
  have f3 := (x3d 3 (by decide)).trans f3
  have f5 := (x3d 5 (by decide)).trans f5
  have f8 := (x3d 8 (by decide)).trans f8
  have f9 := (x3d 9 (by decide)).trans f9
  have f10 := (x3d 10 (by decide)).trans f10
  have hloop : ∃ en σ, execW Try.prog cx [] (callW Try.prog how) (cr [.r, .r, .l, .r]) (env3, AS.mk (σ1.hp ++ [AObj.map [], AObj.cells [.map (.hp σ1.hp.length)], AObj.cells [.nils]]) σ1.st) = some (.normal, (en, σ)) ∧ en.length = 86 ∧ (Env.get en 2 = .str key ∧ Env.get en 3 = .int .i64 m ∧ Env.get en 5 = .ptr (.st ib1) 0 ∧ Env.get en 9 = .ptr (.hp (σ1.hp.length + 1)) 0) ∧ (∃ S, Two σ.hp (σ1.hp.length + 1) σ1.hp.length (σ1.hp.length + 2) S ∧ GoodS S ∧ Bnd 15 S) ∧ σ.get (.st ib1) = some (.cells [.int .i64 x0, .str xk, .int .i64 xa, .str xv, .bool xg]) := by
    rcases hxe with rfl | rfl
    · obtain ⟨en, σ, r, h1, rfl, h3⟩ := loop_nil cx hcx (AS.mk (σ1.hp ++ [AObj.map [], AObj.cells [.map (.hp σ1.hp.length)], AObj.cells [.nils]]) σ1.st) env3 x3b f23 f22
      exact ⟨en, _, r, h1, ⟨(h3 2 (by decide)).trans f2, (h3 3 (by decide)).trans f3, (h3 5 (by decide)).trans f5, (h3 9 (by decide)).trans f9⟩, ⟨[], hT0, goodS_nil, bnd_nil _⟩, gp⟩
    · obtain ⟨e, en, σ, r, hh⟩ := loop cx hcx hro ⟨[], []⟩ _ σ1.hp.length _ ib1 m key es x0 xa xk xv xg rfl rfl hes hle (σ := AS.mk (σ1.hp ++ [AObj.map [], AObj.cells [.map (.hp σ1.hp.length)], AObj.cells [.nils]]) σ1.st) x3b f23 f22 ⟨f2, f3, f5, f9, f10, f21, ⟨[], hT0, goodS_nil, bnd_nil _⟩, gp, ⟨rfl, rfl, Nat.zero_le _⟩⟩
      rcases hh with ⟨rfl, ⟨h1, j2, j3, j5, j9, _, _, ⟨S, hT, hS, hB⟩, q1, _⟩ | h1⟩ | ⟨_, _, h3⟩
      · exact ⟨en, σ, r, h1, ⟨j2, j3, j5, j9⟩, ⟨S, hT, hS, hB.le (by omega)⟩, q1⟩
      · cases h1
      · cases h3
  obtain ⟨en9, σ9, x90a, x90b, ⟨f2, f3, f5, f9⟩, ⟨S, hT, hS, hB⟩, gq⟩ := hloop
  obtain ⟨M, hP⟩ := hT.p
  have ho : Outside 0 (AS.mk σ9.hp []) σ9 := ⟨rfl, by simp, Nat.zero_le _⟩
  generalize σ1.hp.length + 1 = a at *
  generalize σ1.hp.length = mm at *
  have h16 := f16_ok σ9.hp σ9.st none a mm M S key m (fun k hk => by cases hk) hP hS
  obtain ⟨env4, x4a, x4b, x4c, x4d⟩ := rR cx en9 σ9 a m key ((readV (ofS S key) m).1) ((readV (ofS S key) m).2) x90b hcx f2 f3 f9 h16 rfl (Nat.zero_le _)
  have f2 := (x4d 2 (by decide)).trans f2
  have f3 := (x4d 3 (by decide)).trans f3
  have f5 := (x4d 5 (by decide)).trans f5
  have f9 := (x4d 9 (by decide)).trans f9
  have f13 := x4c.1
  have f14 := x4c.2
  have g4 : ((σ9 : AS).push false (.cells [.int .i64 (readV (ofS S key) m).1.a, .int .u64 (readV (ofS S key) m).1.n, .str (readV (ofS S key) m).1.v, .bool (readV (ofS S key) m).1.g])).get (.st (σ9 : AS).st.length) = some (.cells [.int .i64 (readV (ofS S key) m).1.a, .int .u64 (readV (ofS S key) m).1.n, .str (readV (ofS S key) m).1.v, .bool (readV (ofS S key) m).1.g]) := AS.get_push_at rfl
  have gq := get_push' (ob' := .cells [.int .i64 (readV (ofS S key) m).1.a, .int .u64 (readV (ofS S key) m).1.n, .str (readV (ofS S key) m).1.v, .bool (readV (ofS S key) m).1.g]) gq
  have ho := ho.push (ob := .cells [.int .i64 (readV (ofS S key) m).1.a, .int .u64 (readV (ofS S key) m).1.n, .str (readV (ofS S key) m).1.v, .bool (readV (ofS S key) m).1.g])
  generalize hib4 : (σ9 : AS).st.length = ib4 at g4 f13
  generalize (σ9 : AS).push false (.cells [.int .i64 (readV (ofS S key) m).1.a, .int .u64 (readV (ofS S key) m).1.n, .str (readV (ofS S key) m).1.v, .bool (readV (ofS S key) m).1.g]) = σ4 at x4a g4 gq ho
  have hh1 : σ4.hp = σ9.hp := ho.1
  rw [← hh1] at hP
  have h10 := f10_ok σ4.hp σ4.st none a mm M S key (fun k hk => by cases hk) hP hS
  obtain ⟨env5, x5a, x5b, x5c, x5d⟩ := rM cx env4 σ4 a key _ x4b hcx f2 f9 h10 
  have f2 := (x5d 2 (by decide)).trans f2
  have f3 := (x5d 3 (by decide)).trans f3
  have f5 := (x5d 5 (by decide)).trans f5
  have f9 := (x5d 9 (by decide)).trans f9
  have f13 := (x5d 13 (by decide)).trans f13
  have f14 := (x5d 14 (by decide)).trans f14
  have f15 := x5c
  have hput : ∃ e hp2 M2 S2, callW Try.prog how 17 [.ptr (.hp a) 0, .str xk, .int .i64 xa, .str xv, .bool xg] σ4 none = some (.int .i64 e, ⟨hp2, σ4.st⟩) ∧ PS hp2 a mm M2 S2 ∧ GoodS S2 ∧ (xk ≠ key → ofS S2 key = ofS S key) := by
    rcases F17.ok σ4.hp σ4.st a mm xa xk xv xg M S hP hS hxk hxv with ⟨_, h⟩ | ⟨hq, hp2, h, hP2, _⟩
    · exact ⟨1, σ4.hp, M, S, h, hP, hS, fun _ => rfl⟩
    · have hkk : keyOk xk = true ∧ badPut (ofS S xk) xa xv xg = false := by simpa using hq
      exact ⟨0, hp2, _, _, h, hP2, (put_goodS hS hB (by decide) hkk.1 hkk.2).1, fun hne => ofS_setS hS.so (by simp) hne⟩
  obtain ⟨e17, hp2, M2, S2, h17, hP2, hS2, hof⟩ := hput
  have gq : (AS.mk hp2 σ4.st).get (.st ib1) = some (.cells [.int .i64 x0, .str xk, .int .i64 xa, .str xv, .bool xg]) := gq
  have g4 : (AS.mk hp2 σ4.st).get (.st ib4) = some (.cells [.int .i64 (readV (ofS S key) m).1.a, .int .u64 (readV (ofS S key) m).1.n, .str (readV (ofS S key) m).1.v, .bool (readV (ofS S key) m).1.g]) := g4
  have ho2 : Outside 0 (AS.mk hp2 []) (AS.mk hp2 σ4.st) := ⟨rfl, by simp, Nat.zero_le _⟩
  obtain ⟨env6, x6a, x6b, x6c, x6d⟩ := rP cx env5 σ4 a _ e17 x0 xa xk xv xg _ x5b hcx f5 f9 gq h17 
  have f2 := (x6d 2 (by decide)).trans f2
  have f3 := (x6d 3 (by decide)).trans f3
  have f5 := (x6d 5 (by decide)).trans f5
  have f9 := (x6d 9 (by decide)).trans f9
  have f13 := (x6d 13 (by decide)).trans f13
  have f14 := (x6d 14 (by decide)).trans f14
  have f15 := (x6d 15 (by decide)).trans f15
  have ho := ho2
  have h16b := f16_ok hp2 σ4.st none a mm M2 S2 key m (fun k hk => by cases hk) hP2 hS2
  obtain ⟨env7, x7a, x7b, x7c, x7d⟩ := rR2 cx env6 (AS.mk hp2 σ4.st) a m key ((readV (ofS S2 key) m).1) ((readV (ofS S2 key) m).2) x6b hcx f2 f3 f9 h16b rfl (Nat.zero_le _)
  have f2 := (x7d 2 (by decide)).trans f2
  have f3 := (x7d 3 (by decide)).trans f3
  have f5 := (x7d 5 (by decide)).trans f5
  have f9 := (x7d 9 (by decide)).trans f9
  have f13 := (x7d 13 (by decide)).trans f13
  have f14 := (x7d 14 (by decide)).trans f14
  have f15 := (x7d 15 (by decide)).trans f15
  have f16 := x7c.1
  have f17 := x7c.2
  have g7 : ((AS.mk hp2 σ4.st : AS).push false (.cells [.int .i64 (readV (ofS S2 key) m).1.a, .int .u64 (readV (ofS S2 key) m).1.n, .str (readV (ofS S2 key) m).1.v, .bool (readV (ofS S2 key) m).1.g])).get (.st (AS.mk hp2 σ4.st : AS).st.length) = some (.cells [.int .i64 (readV (ofS S2 key) m).1.a, .int .u64 (readV (ofS S2 key) m).1.n, .str (readV (ofS S2 key) m).1.v, .bool (readV (ofS S2 key) m).1.g]) := AS.get_push_at rfl
  have gq := get_push' (ob' := .cells [.int .i64 (readV (ofS S2 key) m).1.a, .int .u64 (readV (ofS S2 key) m).1.n, .str (readV (ofS S2 key) m).1.v, .bool (readV (ofS S2 key) m).1.g]) gq
  have g4 := get_push' (ob' := .cells [.int .i64 (readV (ofS S2 key) m).1.a, .int .u64 (readV (ofS S2 key) m).1.n, .str (readV (ofS S2 key) m).1.v, .bool (readV (ofS S2 key) m).1.g]) g4
  have ho := ho.push (ob := .cells [.int .i64 (readV (ofS S2 key) m).1.a, .int .u64 (readV (ofS S2 key) m).1.n, .str (readV (ofS S2 key) m).1.v, .bool (readV (ofS S2 key) m).1.g])
  generalize hib7 : (AS.mk hp2 σ4.st : AS).st.length = ib7 at g7 f16
  generalize (AS.mk hp2 σ4.st : AS).push false (.cells [.int .i64 (readV (ofS S2 key) m).1.a, .int .u64 (readV (ofS S2 key) m).1.n, .str (readV (ofS S2 key) m).1.v, .bool (readV (ofS S2 key) m).1.g]) = σ7 at x7a g7 gq g4 ho
  have hh2 : σ7.hp = hp2 := ho.1
  rw [← hh2] at hP2
  have h10b := f10_ok σ7.hp σ7.st none a mm M2 S2 key (fun k hk => by cases hk) hP2 hS2
  obtain ⟨hp5, h15⟩ := f15_ok σ7.hp σ7.st
  have hq := beqS_dec xk key
  by_cases q : xk = key
  · rw [decide_eq_true q] at hq
    obtain ⟨env8, x8a, x8b, x8c, x8d⟩ := rZ1 cx env7 σ7 a _ key x0 xa xk xv xg _ x7b hcx f2 f5 f9 gq hq h15 
    have f2 := (x8d 2 (by decide)).trans f2
    have f3 := (x8d 3 (by decide)).trans f3
    have f5 := (x8d 5 (by decide)).trans f5
    have f9 := (x8d 9 (by decide)).trans f9
    have f13 := (x8d 13 (by decide)).trans f13
    have f14 := (x8d 14 (by decide)).trans f14
    have f15 := (x8d 15 (by decide)).trans f15
    have f16 := (x8d 16 (by decide)).trans f16
    have f17 := (x8d 17 (by decide)).trans f17
    have f8 := x8c
    exact ⟨_, call_of (fl := { esc := [20] }) (fn := Try.f4) (c := bodyC) (env := env) (e := (.ret, (env8, AS.mk hp5 σ7.st))) rfl Try.func4 body henv (by unfold bodyC; exact (execW_seq_of x1a (execW_seq_of x2a (execW_seq_of (execW_seq_of x3a x90a) (execW_seq_of x4a (execW_seq_of x5a (execW_seq_of x6a (execW_seq_of x7a (execW_seq_of x8a (by rfl)))))))))) (fin_tmp (k := 8) (w := .bool true) (.inl rfl) rfl rfl f8 (by simp [AV.back]) (by simp [AV.inb]))⟩
  · rw [decide_eq_false q] at hq
    have hof := hof q
    rw [hof] at h10b f17
    rw [hof] at g7
    have he := eqVn 46 38 (readV (ofS S key) m).1 (readV (ofS S key) m).1 (by decide)
    rw [decide_eq_true rfl] at he
    obtain ⟨env8, x8a, x8b, x8c, x8d⟩ := rZ2 cx env7 σ7 a _ _ _ _ key ((readV (ofS S key) m).1) ((readV (ofS S key) m).2) x0 xa xk xv xg _ x7b hcx f2 f5 f9 f13 f14 f15 f16 f17 gq hq g4 g7 he (by simp [eqA]) h10b h15 
    have f2 := (x8d 2 (by decide)).trans f2
    have f3 := (x8d 3 (by decide)).trans f3
    have f5 := (x8d 5 (by decide)).trans f5
    have f9 := (x8d 9 (by decide)).trans f9
    have f13 := (x8d 13 (by decide)).trans f13
    have f14 := (x8d 14 (by decide)).trans f14
    have f15 := (x8d 15 (by decide)).trans f15
    have f16 := (x8d 16 (by decide)).trans f16
    have f17 := (x8d 17 (by decide)).trans f17
    have f8 := x8c
    exact ⟨_, call_of (fl := { esc := [20] }) (fn := Try.f4) (c := bodyC) (env := env) (e := (.ret, (env8, AS.mk hp5 σ7.st))) rfl Try.func4 body henv (by unfold bodyC; exact (execW_seq_of x1a (execW_seq_of x2a (execW_seq_of (execW_seq_of x3a x90a) (execW_seq_of x4a (execW_seq_of x5a (execW_seq_of x6a (execW_seq_of x7a (execW_seq_of x8a (by rfl)))))))))) (fin_tmp (k := 8) (w := .bool true) (.inl rfl) rfl rfl f8 (by simp [AV.back]) (by simp [AV.inb]))⟩
end F4
