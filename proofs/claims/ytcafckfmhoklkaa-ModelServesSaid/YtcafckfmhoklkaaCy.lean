/- The law: its pieces. -/

import Derived.Test.YtcafckfmhoklkaaCx
open Go Go.Abs Go.Proofs
set_option maxRecDepth 100000
set_option maxHeartbeats 4000000
set_option linter.unusedSimpArgs false
set_option linter.unusedVariables false

namespace F3
noncomputable def cr (p : List Dir) : Code := sub p (bodyOf Try.f3)

section
attribute [local simp] ofV ofCell ofCells seqA_nil seqA_cons seqVK_eq seqEK_eq wantedA yieldedA isVal effA ev evs evps putE optsA optsOk valA fieldAddrA fieldA loadA partA aggA isAggD buildA placesA fillA lay storeA AV.withCells buildSliceA elemsA rowParts fzL promL okE isSrc bytesOk pushA cxOf lenA binA intBinA strBinA unA indexAddrA eqA AVs.inb AV.inb Loc.inb calleeA opsOf sub bodyOf Env.get_set quietA_nil quietA_cons quietK_none quietK_some qstep newA isNew escNew boxOk newLoc flat rowPartsQ quietN quietOp isBS List.takeWhile finishA_eq finK_ret finK_normal retK backK resA oneA AV.back AVs.back execW_seq_eq seqK_normal seqK_ret seqK_exit execW_cond_eq condK_true condK_false execW_block_eq blockK_exit blockK_normal blockK_ret execW_region_eq regK_eq execW_skip execW_exit execW_ret regionA_plain regionA_quiet0 tailK_eq nilCheckA guardOk isConst lookupA keyFits mapUpdateA beqI bneI
theorem rA (cx : Cx) (env : Env) (σ : AS)  (hlen : env.length = 156) (hcx : cx.esc = [22])  :
    Pc Try.prog how cx [] 156 [4] (cr [.l]) env σ (.normal) (σ) (fun env' => Env.get env' 4 = .bool false) := by
  refine pc_of fun res hr => ?_
  simp -implicitDefEqProofs [-lenA, -indexAddrA, -loadA, AS.get_push_at, AS.get_push_old, AS.push_len, AS.set_st_len, AS.next_st', AS.set_push_at, AS.get_set_self, AS.get_set_other, cr, Try.f3, hlen, hcx] at hr
  subst hr
  refine ⟨_, rfl, by simp [hlen], by simp [Env.get_set, hlen], fun i hi => ?_⟩
  simp only [List.mem_cons, List.not_mem_nil, or_false, not_or] at hi
  simp only [get_set2, hi, false_and, if_false]

theorem rR (cx : Cx) (env : Env) (σ : AS) (hp s : List AObj) (hlen : env.length = 156) (hcx : cx.esc = [22])  (hσ : σ = ⟨hp, s⟩) (hro0 : cx.ro = none) :
    Pc Try.prog how cx [] 156 [5, 21, 22] (cr [.r, .l]) env σ (.normal) (AS.mk (hp ++ [.cells [.nils]]) s) (fun env' => Env.get env' 5 = .ptr (.hp hp.length) 0) := by
  refine pc_of fun res hr => ?_
  simp -implicitDefEqProofs [AS.get_push_at, AS.get_push_old, AS.push_len, AS.set_st_len, AS.next_st', AS.set_push_at, AS.get_set_self, AS.get_set_other, cr, Try.f3, hlen, hcx, hσ, hro0] at hr
  subst hr
  refine ⟨_, rfl, by simp [hlen], by simp [Env.get_set, hlen, hσ, hro0], fun i hi => ?_⟩
  simp only [List.mem_cons, List.not_mem_nil, or_false, not_or] at hi
  simp only [get_set2, hi, false_and, if_false]

theorem rS (cx : Cx) (env : Env) (σ : AS)  (hlen : env.length = 156) (hcx : cx.esc = [22])  :
    Pc Try.prog how cx [] 156 [6] (cr [.r, .r, .l]) env σ (.normal) (σ) (fun env' => Env.get env' 6 = .nils) := by
  refine pc_of fun res hr => ?_
  simp -implicitDefEqProofs [-lenA, -indexAddrA, -loadA, AS.get_push_at, AS.get_push_old, AS.push_len, AS.set_st_len, AS.next_st', AS.set_push_at, AS.get_set_self, AS.get_set_other, cr, Try.f3, hlen, hcx] at hr
  subst hr
  refine ⟨_, rfl, by simp [hlen], by simp [Env.get_set, hlen], fun i hi => ?_⟩
  simp only [List.mem_cons, List.not_mem_nil, or_false, not_or] at hi
  simp only [get_set2, hi, false_and, if_false]

theorem rLn (cx : Cx) (env : Env) (σ : AS)  (hlen : env.length = 156) (hcx : cx.esc = [22]) (f0 : Env.get env 0 = .nils) :
    Pc Try.prog how cx [] 156 [23, 24, 25] (cr [.r, .r, .r, .l, .l]) env σ (.normal) (σ) (fun env' => Env.get env' 23 = .nils ∧ Env.get env' 24 = .int .i64 0 ∧ Env.get env' 25 = .int .i64 0) := by
  refine pc_of fun res hr => ?_
  simp -implicitDefEqProofs [AS.get_push_at, AS.get_push_old, AS.push_len, AS.set_st_len, AS.next_st', AS.set_push_at, AS.get_set_self, AS.get_set_other, cr, Try.f3, hlen, hcx, f0] at hr
  subst hr
  refine ⟨_, rfl, by simp [hlen], by simp [Env.get_set, hlen, f0], fun i hi => ?_⟩
  simp only [List.mem_cons, List.not_mem_nil, or_false, not_or] at hi
  simp only [get_set2, hi, false_and, if_false]

theorem rLs (cx : Cx) (env : Env) (σ : AS) (es : List AV) (hlen : env.length = 156) (hcx : cx.esc = [22]) (f0 : Env.get env 0 = .sl false 5 es) :
    Pc Try.prog how cx [] 156 [23, 24, 25] (cr [.r, .r, .r, .l, .l]) env σ (.normal) (σ) (fun env' => Env.get env' 23 = .sl false 5 es ∧ Env.get env' 24 = .int .i64 (es.length : Int) ∧ Env.get env' 25 = .int .i64 0) := by
  refine pc_of fun res hr => ?_
  simp -implicitDefEqProofs [AS.get_push_at, AS.get_push_old, AS.push_len, AS.set_st_len, AS.next_st', AS.set_push_at, AS.get_set_self, AS.get_set_other, cr, Try.f3, hlen, hcx, f0] at hr
  subst hr
  refine ⟨_, rfl, by simp [hlen], by simp [Env.get_set, hlen, f0], fun i hi => ?_⟩
  simp only [List.mem_cons, List.not_mem_nil, or_false, not_or] at hi
  simp only [get_set2, hi, false_and, if_false]

theorem rE (cx : Cx) (env : Env) (σ : AS) (es : List AV) (k : Nat) (kind : Int) (key val : ByteArray) (X Y : AV) (hlen : env.length = 156) (hcx : cx.esc = [22]) (f23 : Env.get env 23 = .sl false 5 es) (f25 : Env.get env 25 = .int .i64 (k : Int)) (hk : k < es.length) (hv : es[k] = .agg [.int .i64 kind, .str key, .str val, X, Y]) (hX : Plain X) (hY : Plain Y) (hw : wok cx.ro (.st σ.st.length) = true) (hh : cx.h ≤ σ.st.length) :
    Pc Try.prog how cx [] 156 [7, 8, 27, 28, 29] (cr [.r, .r, .r, .l, .r, .i, .i, .r, .r, .l, .i, .l]) env σ (.normal) (σ.push false (.cells [.int .i64 kind, .str key, .str val, X, Y])) (fun env' => Env.get env' 7 = .int .i64 (k : Int) ∧ Env.get env' 8 = .ptr (.st σ.st.length) 0) := by
  refine pc_of fun res hr => ?_
  simp -implicitDefEqProofs [AS.get_push_at, AS.get_push_old, AS.push_len, AS.set_st_len, AS.next_st', AS.set_push_at, AS.get_set_self, AS.get_set_other, cr, Try.f3, hlen, hcx, f23, f25, hk, hv, hX.one, hX.inb, hX.row, hX.cells, hY.one, hY.inb, hY.row, hY.cells, hw, hh] at hr
  subst hr
  refine ⟨_, rfl, by simp [hlen], by simp [Env.get_set, hlen, f23, f25, hk, hv, hX.one, hX.inb, hX.row, hX.cells, hY.one, hY.inb, hY.row, hY.cells, hw, hh], fun i hi => ?_⟩
  simp only [List.mem_cons, List.not_mem_nil, or_false, not_or] at hi
  simp only [get_set2, hi, false_and, if_false]

theorem rB (cx : Cx) (env : Env) (σ : AS) (k : Nat) (hlen : env.length = 156) (hcx : cx.esc = [22]) (f7 : Env.get env 7 = .int .i64 (k : Int)) (q : (15 : Int) ≤ (k : Int)) :
    Pc Try.prog how cx [] 156 [30, 31] (cr [.r, .r, .r, .l, .r, .i, .i, .r, .r, .l, .i, .r, .l]) env σ (.exit 0) (σ) (fun _ => True) := by
  refine pc_of fun res hr => ?_
  simp -implicitDefEqProofs [-lenA, -indexAddrA, -loadA, AS.get_push_at, AS.get_push_old, AS.push_len, AS.set_st_len, AS.next_st', AS.set_push_at, AS.get_set_self, AS.get_set_other, cr, Try.f3, hlen, hcx, f7, q] at hr
  subst hr
  refine ⟨_, rfl, by simp [hlen], by simp [Env.get_set, hlen, f7, q], fun i hi => ?_⟩
  simp only [List.mem_cons, List.not_mem_nil, or_false, not_or] at hi
  simp only [get_set2, hi, false_and, if_false]

theorem rC (cx : Cx) (env : Env) (σ : AS) (k : Nat) (hlen : env.length = 156) (hcx : cx.esc = [22]) (f7 : Env.get env 7 = .int .i64 (k : Int)) (q : ¬ (15 : Int) ≤ (k : Int)) :
    Pc Try.prog how cx [] 156 [30, 31] (cr [.r, .r, .r, .l, .r, .i, .i, .r, .r, .l, .i, .r, .l]) env σ (.normal) (σ) (fun _ => True) := by
  refine pc_of fun res hr => ?_
  simp -implicitDefEqProofs [-lenA, -indexAddrA, -loadA, AS.get_push_at, AS.get_push_old, AS.push_len, AS.set_st_len, AS.next_st', AS.set_push_at, AS.get_set_self, AS.get_set_other, cr, Try.f3, hlen, hcx, f7, q] at hr
  subst hr
  refine ⟨_, rfl, by simp [hlen], by simp [Env.get_set, hlen, f7, q], fun i hi => ?_⟩
  simp only [List.mem_cons, List.not_mem_nil, or_false, not_or] at hi
  simp only [get_set2, hi, false_and, if_false]

theorem r7 (cx : Cx) (env : Env) (σ : AS) (c : Nat) (kind : Int) (key val : ByteArray) (X Y : AV) (A C : AV) (hlen : env.length = 156) (hcx : cx.esc = [22]) (f8 : Env.get env 8 = .ptr (.st c) 0) (g8 : σ.get (.st c) = some (.cells [.int .i64 kind, .str key, .str val, X, Y])) (hX : Plain X) (hY : Plain Y) (hA : Plain A) (hC : Plain C) (h4 : callW Try.prog how 4 [.agg [.int .i64 kind, .str key, .str val, X, Y]] σ cx.ro = some (.agg [.int .i64 kind, .str key, .str val, A, C], σ)) (hw : wok cx.ro (.st σ.st.length) = true) (hh : cx.h ≤ σ.st.length) :
    Pc Try.prog how cx [] 156 [9, 32, 33] (cr [.r, .r, .r, .l, .r, .i, .i, .r, .r, .l, .i, .r, .r, .l]) env σ (.normal) (σ.push false (.cells [.int .i64 kind, .str key, .str val, A, C])) (fun env' => Env.get env' 9 = .ptr (.st σ.st.length) 0) := by
  refine pc_of fun res hr => ?_
  simp -implicitDefEqProofs [AS.get_push_at, AS.get_push_old, AS.push_len, AS.set_st_len, AS.next_st', AS.set_push_at, AS.get_set_self, AS.get_set_other, cr, Try.f3, hlen, hcx, f8, g8, hX.one, hX.inb, hX.row, hX.cells, hY.one, hY.inb, hY.row, hY.cells, hA.one, hA.inb, hA.row, hA.cells, hC.one, hC.inb, hC.row, hC.cells, h4, hw, hh] at hr
  subst hr
  refine ⟨_, rfl, by simp [hlen], by simp [Env.get_set, hlen, f8, g8, hX.one, hX.inb, hX.row, hX.cells, hY.one, hY.inb, hY.row, hY.cells, hA.one, hA.inb, hA.row, hA.cells, hC.one, hC.inb, hC.row, hC.cells, h4, hw, hh], fun i hi => ?_⟩
  simp only [List.mem_cons, List.not_mem_nil, or_false, not_or] at hi
  simp only [get_set2, hi, false_and, if_false]

theorem r8 (cx : Cx) (env : Env) (σ : AS) (c : Nat) (kind : Int) (key val : ByteArray) (A C : AV) (hlen : env.length = 156) (hcx : cx.esc = [22]) (f9 : Env.get env 9 = .ptr (.st c) 0) (g9 : σ.get (.st c) = some (.cells [.int .i64 kind, .str key, .str val, A, C])) (hA : Plain A) (hC : Plain C) (h5 : callW Try.prog how 5 [.agg [.int .i64 kind, .str key, .str val, A, C]] σ cx.ro = some (.agg [.int .i64 kind, .str key, .str val, A, C], σ)) (hw : wok cx.ro (.st σ.st.length) = true) (hh : cx.h ≤ σ.st.length) :
    Pc Try.prog how cx [] 156 [10, 34, 35] (cr [.r, .r, .r, .l, .r, .i, .i, .r, .r, .l, .i, .r, .r, .r, .l]) env σ (.normal) (σ.push false (.cells [.int .i64 kind, .str key, .str val, A, C])) (fun env' => Env.get env' 10 = .ptr (.st σ.st.length) 0) := by
  refine pc_of fun res hr => ?_
  simp -implicitDefEqProofs [AS.get_push_at, AS.get_push_old, AS.push_len, AS.set_st_len, AS.next_st', AS.set_push_at, AS.get_set_self, AS.get_set_other, cr, Try.f3, hlen, hcx, f9, g9, hA.one, hA.inb, hA.row, hA.cells, hC.one, hC.inb, hC.row, hC.cells, h5, hw, hh] at hr
  subst hr
  refine ⟨_, rfl, by simp [hlen], by simp [Env.get_set, hlen, f9, g9, hA.one, hA.inb, hA.row, hA.cells, hC.one, hC.inb, hC.row, hC.cells, h5, hw, hh], fun i hi => ?_⟩
  simp only [List.mem_cons, List.not_mem_nil, or_false, not_or] at hi
  simp only [get_set2, hi, false_and, if_false]

theorem r9 (cx : Cx) (env : Env) (σ : AS) (k : Nat) (hlen : env.length = 156) (hcx : cx.esc = [22]) (f7 : Env.get env 7 = .int .i64 (k : Int)) (hw1 : convA Try.prog σ 3 39 (.int .i64 (k : Int)) = some (.int .u64 (k : Int))) (hw2 : wr .u64 ((k : Int) + 1) = (k : Int) + 1) (hw : wok cx.ro (.st σ.st.length) = true) (hh : cx.h ≤ σ.st.length) :
    Pc Try.prog how cx [] 156 [11, 36, 37, 38, 39, 40, 41] (cr [.r, .r, .r, .l, .r, .i, .i, .r, .r, .l, .i, .r, .r, .r, .r, .l]) env σ (.normal) (σ.push false (.cells [.int .i64 ((k : Int).tmod 6), .int .u64 ((k : Int) + 1)])) (fun env' => Env.get env' 11 = .ptr (.st σ.st.length) 0) := by
  refine pc_of fun res hr => ?_
  simp -implicitDefEqProofs [AS.get_push_at, AS.get_push_old, AS.push_len, AS.set_st_len, AS.next_st', AS.set_push_at, AS.get_set_self, AS.get_set_other, cr, Try.f3, hlen, hcx, f7, hw1, hw2, hw, hh] at hr
  subst hr
  refine ⟨_, rfl, by simp [hlen], by simp [Env.get_set, hlen, f7, hw1, hw2, hw, hh], fun i hi => ?_⟩
  simp only [List.mem_cons, List.not_mem_nil, or_false, not_or] at hi
  simp only [get_set2, hi, false_and, if_false]

theorem rM1 (cx : Cx) (env : Env) (σ : AS) (c : Nat) (kind : Int) (key val : ByteArray) (A C : AV) (hlen : env.length = 156) (hcx : cx.esc = [22]) (f10 : Env.get env 10 = .ptr (.st c) 0) (g10 : σ.get (.st c) = some (.cells [.int .i64 kind, .str key, .str val, A, C])) (hA : Plain A) (hC : Plain C) (h6 : callW Try.prog how 6 [.agg [.int .i64 kind, .str key, .str val, A, C]] σ cx.ro = some (.bool true, σ)) :
    Pc Try.prog how cx [] 156 [42, 43, 44] (cr [.r, .r, .r, .l, .r, .i, .i, .r, .r, .l, .i, .r, .r, .r, .r, .r, .l]) env σ (.normal) (σ) (fun _ => True) := by
  refine pc_of fun res hr => ?_
  simp -implicitDefEqProofs [AS.get_push_at, AS.get_push_old, AS.push_len, AS.set_st_len, AS.next_st', AS.set_push_at, AS.get_set_self, AS.get_set_other, cr, Try.f3, hlen, hcx, f10, g10, hA.one, hA.inb, hA.row, hA.cells, hC.one, hC.inb, hC.row, hC.cells, h6] at hr
  subst hr
  refine ⟨_, rfl, by simp [hlen], by simp [Env.get_set, hlen, f10, g10, hA.one, hA.inb, hA.row, hA.cells, hC.one, hC.inb, hC.row, hC.cells, h6], fun i hi => ?_⟩
  simp only [List.mem_cons, List.not_mem_nil, or_false, not_or] at hi
  simp only [get_set2, hi, false_and, if_false]

theorem rM0 (cx : Cx) (env : Env) (σ : AS) (c : Nat) (kind : Int) (key val : ByteArray) (A C : AV) (hlen : env.length = 156) (hcx : cx.esc = [22]) (f10 : Env.get env 10 = .ptr (.st c) 0) (g10 : σ.get (.st c) = some (.cells [.int .i64 kind, .str key, .str val, A, C])) (hA : Plain A) (hC : Plain C) (h6 : callW Try.prog how 6 [.agg [.int .i64 kind, .str key, .str val, A, C]] σ cx.ro = some (.bool false, σ)) :
    Pc Try.prog how cx [] 156 [42, 43, 44] (cr [.r, .r, .r, .l, .r, .i, .i, .r, .r, .l, .i, .r, .r, .r, .r, .r, .l]) env σ (.exit 1) (σ) (fun _ => True) := by
  refine pc_of fun res hr => ?_
  simp -implicitDefEqProofs [AS.get_push_at, AS.get_push_old, AS.push_len, AS.set_st_len, AS.next_st', AS.set_push_at, AS.get_set_self, AS.get_set_other, cr, Try.f3, hlen, hcx, f10, g10, hA.one, hA.inb, hA.row, hA.cells, hC.one, hC.inb, hC.row, hC.cells, h6] at hr
  subst hr
  refine ⟨_, rfl, by simp [hlen], by simp [Env.get_set, hlen, f10, g10, hA.one, hA.inb, hA.row, hA.cells, hC.one, hC.inb, hC.row, hC.cells, h6], fun i hi => ?_⟩
  simp only [List.mem_cons, List.not_mem_nil, or_false, not_or] at hi
  simp only [get_set2, hi, false_and, if_false]

theorem r11 (cx : Cx) (env : Env) (σ : AS) (k c d : Nat) (kind : Int) (key val : ByteArray) (A C : AV) (hlen : env.length = 156) (hcx : cx.esc = [22]) (f7 : Env.get env 7 = .int .i64 (k : Int)) (f10 : Env.get env 10 = .ptr (.st c) 0) (f11 : Env.get env 11 = .ptr (.st d) 0) (g10 : σ.get (.st c) = some (.cells [.int .i64 kind, .str key, .str val, A, C])) (hA : Plain A) (hC : Plain C) (g11 : σ.get (.st d) = some (.cells [.int .i64 ((k : Int).tmod 6), .int .u64 ((k : Int) + 1)])) (hm : wr .i64 (10 * (k : Int)) = 10 * (k : Int)) (h1 : wr .i64 (10 * (k : Int) + 1) = 10 * (k : Int) + 1) (h2 : wr .i64 (10 * (k : Int) + 2) = 10 * (k : Int) + 2) (h3 : wr .i64 (10 * (k : Int) + 3) = 10 * (k : Int) + 3) (hw : wok cx.ro (.st σ.st.length) = true) (hh : cx.h ≤ σ.st.length) :
    Pc Try.prog how cx [] 156 [12, 45, 46, 47, 48, 49, 50, 51, 52, 53, 54, 55, 56, 57, 58] (cr [.r, .r, .r, .l, .r, .i, .i, .r, .r, .l, .i, .r, .r, .r, .r, .r, .r, .l]) env σ (.normal) (σ.push false (.cells [.int .i64 ((k : Int).tmod 6), .int .u64 ((k : Int) + 1), .int .i64 kind, .str key, .str val, A, C, .int .i64 (10 * (k : Int) + 1), .int .i64 (10 * (k : Int) + 2), .int .i64 (10 * (k : Int) + 3), .int .i64 0, .int .i64 ((k : Int).tmod 6), .int .u64 ((k : Int) + 1), .int .i64 0, .int .i64 0, .str ⟨#[]⟩, .int .u64 0])) (fun env' => Env.get env' 12 = .ptr (.st σ.st.length) 0) := by
  refine pc_of fun res hr => ?_
  simp -implicitDefEqProofs [AS.get_push_at, AS.get_push_old, AS.push_len, AS.set_st_len, AS.next_st', AS.set_push_at, AS.get_set_self, AS.get_set_other, cr, Try.f3, hlen, hcx, f7, f10, f11, g10, hA.one, hA.inb, hA.row, hA.cells, hC.one, hC.inb, hC.row, hC.cells, g11, hm, h1, h2, h3, hw, hh] at hr
  subst hr
  refine ⟨_, rfl, by simp [hlen], by simp [Env.get_set, hlen, f7, f10, f11, g10, hA.one, hA.inb, hA.row, hA.cells, hC.one, hC.inb, hC.row, hC.cells, g11, hm, h1, h2, h3, hw, hh], fun i hi => ?_⟩
  simp only [List.mem_cons, List.not_mem_nil, or_false, not_or] at hi
  simp only [get_set2, hi, false_and, if_false]

theorem r12 (cx : Cx) (env : Env) (σ : AS) (b c : Nat) (kind : Int) (key val : ByteArray) (A C : AV) (k0 : ByteArray) (n0 : Int) (v0 : ByteArray) (h0 : Bool) (hlen : env.length = 156) (hcx : cx.esc = [22]) (f5 : Env.get env 5 = .ptr (.hp b) 0) (f10 : Env.get env 10 = .ptr (.st c) 0) (g10 : σ.get (.st c) = some (.cells [.int .i64 kind, .str key, .str val, A, C])) (hA : Plain A) (hC : Plain C) (h7 : callW Try.prog how 7 [.ptr (.hp b) 0, .str key] σ cx.ro = some (.agg [.str k0, .int .u64 n0, .str v0, .bool h0], σ)) (hw : wok cx.ro (.st σ.st.length) = true) (hh : cx.h ≤ σ.st.length) :
    Pc Try.prog how cx [] 156 [13, 59, 60, 61, 62] (cr [.r, .r, .r, .l, .r, .i, .i, .r, .r, .l, .i, .r, .r, .r, .r, .r, .r, .r, .l]) env σ (.normal) (σ.push false (.cells [.str k0, .int .u64 n0, .str v0, .bool h0])) (fun env' => Env.get env' 13 = .ptr (.st σ.st.length) 0) := by
  refine pc_of fun res hr => ?_
  simp -implicitDefEqProofs [AS.get_push_at, AS.get_push_old, AS.push_len, AS.set_st_len, AS.next_st', AS.set_push_at, AS.get_set_self, AS.get_set_other, cr, Try.f3, hlen, hcx, f5, f10, g10, hA.one, hA.inb, hA.row, hA.cells, hC.one, hC.inb, hC.row, hC.cells, h7, hw, hh] at hr
  subst hr
  refine ⟨_, rfl, by simp [hlen], by simp [Env.get_set, hlen, f5, f10, g10, hA.one, hA.inb, hA.row, hA.cells, hC.one, hC.inb, hC.row, hC.cells, h7, hw, hh], fun i hi => ?_⟩
  simp only [List.mem_cons, List.not_mem_nil, or_false, not_or] at hi
  simp only [get_set2, hi, false_and, if_false]

theorem r13 (cx : Cx) (env : Env) (σ : AS) (k c d : Nat) (kind : Int) (key val : ByteArray) (A C : AV) (tc ts : Int) (pl : Bool) (TR TW : AV) (hlen : env.length = 156) (hcx : cx.esc = [22]) (f10 : Env.get env 10 = .ptr (.st c) 0) (f11 : Env.get env 11 = .ptr (.st d) 0) (g10 : σ.get (.st c) = some (.cells [.int .i64 kind, .str key, .str val, A, C])) (hA : Plain A) (hC : Plain C) (g11 : σ.get (.st d) = some (.cells [.int .i64 ((k : Int).tmod 6), .int .u64 ((k : Int) + 1)])) (hTR : Plain TR) (hTW : Plain TW) (h8 : callW Try.prog how 8 [.agg [.int .i64 kind, .str key, .str val, A, C], .agg [.int .i64 ((k : Int).tmod 6), .int .u64 ((k : Int) + 1)]] σ cx.ro = some (.agg [.int .i64 tc, .int .u64 ts, .bool pl, TR, TW], σ)) (hw : wok cx.ro (.st σ.st.length) = true) (hh : cx.h ≤ σ.st.length) :
    Pc Try.prog how cx [] 156 [14, 63, 64, 65] (cr [.r, .r, .r, .l, .r, .i, .i, .r, .r, .l, .i, .r, .r, .r, .r, .r, .r, .r, .r, .l]) env σ (.normal) (σ.push false (.cells [.int .i64 tc, .int .u64 ts, .bool pl, TR, TW])) (fun env' => Env.get env' 14 = .ptr (.st σ.st.length) 0) := by
  refine pc_of fun res hr => ?_
  simp -implicitDefEqProofs [AS.get_push_at, AS.get_push_old, AS.push_len, AS.set_st_len, AS.next_st', AS.set_push_at, AS.get_set_self, AS.get_set_other, cr, Try.f3, hlen, hcx, f10, f11, g10, hA.one, hA.inb, hA.row, hA.cells, hC.one, hC.inb, hC.row, hC.cells, g11, hTR.one, hTR.inb, hTR.row, hTR.cells, hTW.one, hTW.inb, hTW.row, hTW.cells, h8, hw, hh] at hr
  subst hr
  refine ⟨_, rfl, by simp [hlen], by simp [Env.get_set, hlen, f10, f11, g10, hA.one, hA.inb, hA.row, hA.cells, hC.one, hC.inb, hC.row, hC.cells, g11, hTR.one, hTR.inb, hTR.row, hTR.cells, hTW.one, hTW.inb, hTW.row, hTW.cells, h8, hw, hh], fun i hi => ?_⟩
  simp only [List.mem_cons, List.not_mem_nil, or_false, not_or] at hi
  simp only [get_set2, hi, false_and, if_false]

theorem r14 (cx : Cx) (env : Env) (σ : AS) (t n : Nat) (tc ts : Int) (pl : Bool) (TR TW : AV) (hlen : env.length = 156) (hcx : cx.esc = [22]) (f14 : Env.get env 14 = .ptr (.st t) 0) (g14 : σ.get (.st t) = some (.cells [.int .i64 tc, .int .u64 ts, .bool pl, TR, TW])) (hTR : Plain TR) (hTW : Plain TW) (hl : lenA Try.prog σ 29 TR = some n) :
    Pc Try.prog how cx [] 156 [66, 67, 68, 69] (cr [.r, .r, .r, .l, .r, .i, .i, .r, .r, .l, .i, .r, .r, .r, .r, .r, .r, .r, .r, .r, .l, .l]) env σ (.normal) (σ) (fun env' => Env.get env' 67 = TR ∧ Env.get env' 68 = .int .i64 (n : Int) ∧ Env.get env' 69 = .int .i64 0) := by
  refine pc_of fun res hr => ?_
  simp -implicitDefEqProofs [-lenA, AS.get_push_at, AS.get_push_old, AS.push_len, AS.set_st_len, AS.next_st', AS.set_push_at, AS.get_set_self, AS.get_set_other, cr, Try.f3, hlen, hcx, f14, g14, hTR.one, hTR.inb, hTR.row, hTR.cells, hTW.one, hTW.inb, hTW.row, hTW.cells, hl] at hr
  subst hr
  refine ⟨_, rfl, by simp [hlen], by simp [Env.get_set, hlen, f14, g14, hTR.one, hTR.inb, hTR.row, hTR.cells, hTW.one, hTW.inb, hTW.row, hTW.cells, hl], fun i hi => ?_⟩
  simp only [List.mem_cons, List.not_mem_nil, or_false, not_or] at hi
  simp only [get_set2, hi, false_and, if_false]

theorem r16 (cx : Cx) (env : Env) (σ : AS) (j : Nat) (Z p : AV) (rk : ByteArray) (num : Int) (hlen : env.length = 156) (hcx : cx.esc = [22]) (f67 : Env.get env 67 = Z) (f69 : Env.get env 69 = .int .i64 (j : Int)) (hia : indexAddrA Try.prog σ 29 Z (.int .i64 (j : Int)) = some p) (hpa : loadA Try.prog σ 55 p = some (.agg [.str rk, .int .u64 num])) (hw : wok cx.ro (.st σ.st.length) = true) (hh : cx.h ≤ σ.st.length) :
    Pc Try.prog how cx [] 156 [16, 71, 72] (cr [.r, .r, .r, .l, .r, .i, .i, .r, .r, .l, .i, .r, .r, .r, .r, .r, .r, .r, .r, .r, .l, .r, .i, .i, .r, .r, .l, .i, .l]) env σ (.normal) (σ.push false (.cells [.str rk, .int .u64 num])) (fun env' => Env.get env' 16 = .ptr (.st σ.st.length) 0) := by
  refine pc_of fun res hr => ?_
  simp -implicitDefEqProofs [-lenA, -indexAddrA, -loadA, AS.get_push_at, AS.get_push_old, AS.push_len, AS.set_st_len, AS.next_st', AS.set_push_at, AS.get_set_self, AS.get_set_other, cr, Try.f3, hlen, hcx, f67, f69, hia, hpa, hw, hh] at hr
  subst hr
  refine ⟨_, rfl, by simp [hlen], by simp [Env.get_set, hlen, f67, f69, hia, hpa, hw, hh], fun i hi => ?_⟩
  simp only [List.mem_cons, List.not_mem_nil, or_false, not_or] at hi
  simp only [get_set2, hi, false_and, if_false]

theorem r17 (cx : Cx) (env : Env) (σ : AS) (b c : Nat) (rk : ByteArray) (num : Int) (k0 : ByteArray) (n0 : Int) (v0 : ByteArray) (h0 : Bool) (hlen : env.length = 156) (hcx : cx.esc = [22]) (f5 : Env.get env 5 = .ptr (.hp b) 0) (f16 : Env.get env 16 = .ptr (.st c) 0) (g16 : σ.get (.st c) = some (.cells [.str rk, .int .u64 num])) (h7 : callW Try.prog how 7 [.ptr (.hp b) 0, .str rk] σ (some σ.st.length) = some (.agg [.str k0, .int .u64 n0, .str v0, .bool h0], σ)) :
    Pc Try.prog how cx [] 156 [73, 74, 75, 76, 77, 78, 79, 80] (cr [.r, .r, .r, .l, .r, .i, .i, .r, .r, .l, .i, .r, .r, .r, .r, .r, .r, .r, .r, .r, .l, .r, .i, .i, .r, .r, .l, .i, .r, .l]) env σ (.normal) (σ) (fun env' => Env.get env' 80 = .bool (decide (n0 ≠ num))) := by
  by_cases p1 : n0 = num
  all_goals first | (fail; done) | (
      refine pc_of fun res hr => ?_
      simp -implicitDefEqProofs [AS.get_push_at, AS.get_push_old, AS.push_len, AS.set_st_len, AS.next_st', AS.set_push_at, AS.get_set_self, AS.get_set_other, cr, Try.f3, hlen, hcx, f5, f16, g16, h7, p1, fieldValA, fieldA] at hr
      subst hr
      refine ⟨_, rfl, by simp [hlen], by simp [Env.get_set, hlen, f5, f16, g16, h7, p1, fieldValA, fieldA], fun i hi => ?_⟩
      simp only [List.mem_cons, List.not_mem_nil, or_false, not_or] at hi
      simp only [get_set2, hi, false_and, if_false]
    )

theorem r18 (cx : Cx) (env : Env) (σ : AS) (k c : Nat) (code rcode : Int) (rval : ByteArray) (rnum : Int) (kind : Int) (key val : ByteArray) (A C : AV) (hlen : env.length = 156) (hcx : cx.esc = [22]) (f12 : Env.get env 12 = .ptr (.st c) 0) (g12 : σ.get (.st c) = some (.cells [.int .i64 ((k : Int).tmod 6), .int .u64 ((k : Int) + 1), .int .i64 kind, .str key, .str val, A, C, .int .i64 (10 * (k : Int) + 1), .int .i64 (10 * (k : Int) + 2), .int .i64 (10 * (k : Int) + 3), .int .i64 code, .int .i64 ((k : Int).tmod 6), .int .u64 ((k : Int) + 1), .int .i64 0, .int .i64 rcode, .str rval, .int .u64 rnum])) (hA : Plain A) (hC : Plain C) (hw : wok cx.ro (.st c) = true) (hh : cx.h ≤ c) :
    Pc Try.prog how cx [] 156 [81] (cr [.r, .r, .r, .l, .r, .i, .i, .r, .r, .l, .i, .r, .r, .r, .r, .r, .r, .r, .r, .r, .l, .r, .i, .i, .r, .r, .l, .i, .r, .r, .l]) env σ (.normal) (σ.set (.st c) (.cells [.int .i64 ((k : Int).tmod 6), .int .u64 ((k : Int) + 1), .int .i64 kind, .str key, .str val, A, C, .int .i64 (10 * (k : Int) + 1), .int .i64 (10 * (k : Int) + 2), .int .i64 (10 * (k : Int) + 3), .int .i64 8, .int .i64 ((k : Int).tmod 6), .int .u64 ((k : Int) + 1), .int .i64 0, .int .i64 rcode, .str rval, .int .u64 rnum])) (fun _ => True) := by
  refine pc_of fun res hr => ?_
  simp -implicitDefEqProofs [AS.get_push_at, AS.get_push_old, AS.push_len, AS.set_st_len, AS.next_st', AS.set_push_at, AS.get_set_self, AS.get_set_other, cr, Try.f3, hlen, hcx, f12, g12, hA.one, hA.inb, hA.row, hA.cells, hC.one, hC.inb, hC.row, hC.cells, hw, hh] at hr
  subst hr
  refine ⟨_, rfl, by simp [hlen], by simp [Env.get_set, hlen, f12, g12, hA.one, hA.inb, hA.row, hA.cells, hC.one, hC.inb, hC.row, hC.cells, hw, hh], fun i hi => ?_⟩
  simp only [List.mem_cons, List.not_mem_nil, or_false, not_or] at hi
  simp only [get_set2, hi, false_and, if_false]

theorem r20 (cx : Cx) (env : Env) (σ : AS) (c : Nat) (kind : Int) (key val : ByteArray) (A C : AV) (hlen : env.length = 156) (hcx : cx.esc = [22]) (f10 : Env.get env 10 = .ptr (.st c) 0) (g10 : σ.get (.st c) = some (.cells [.int .i64 kind, .str key, .str val, A, C])) (hA : Plain A) (hC : Plain C) :
    Pc Try.prog how cx [] 156 [83, 84, 85] (cr [.r, .r, .r, .l, .r, .i, .i, .r, .r, .l, .i, .r, .r, .r, .r, .r, .r, .r, .r, .r, .r, .l, .l]) env σ (.normal) (σ) (fun env' => Env.get env' 85 = .bool (decide (kind = 1))) := by
  by_cases p1 : kind = 1
  all_goals first | (fail; done) | (
      refine pc_of fun res hr => ?_
      simp -implicitDefEqProofs [AS.get_push_at, AS.get_push_old, AS.push_len, AS.set_st_len, AS.next_st', AS.set_push_at, AS.get_set_self, AS.get_set_other, cr, Try.f3, hlen, hcx, f10, g10, hA.one, hA.inb, hA.row, hA.cells, hC.one, hC.inb, hC.row, hC.cells, p1] at hr
      subst hr
      refine ⟨_, rfl, by simp [hlen], by simp [Env.get_set, hlen, f10, g10, hA.one, hA.inb, hA.row, hA.cells, hC.one, hC.inb, hC.row, hC.cells, p1], fun i hi => ?_⟩
      simp only [List.mem_cons, List.not_mem_nil, or_false, not_or] at hi
      simp only [get_set2, hi, false_and, if_false]
    )

theorem r21 (cx : Cx) (env : Env) (σ : AS) (k c : Nat) (code rcode : Int) (rval : ByteArray) (rnum : Int) (kind : Int) (key val : ByteArray) (A C : AV) (d : Nat) (k0 : ByteArray) (n0 : Int) (v0 : ByteArray) (h0 : Bool) (hlen : env.length = 156) (hcx : cx.esc = [22]) (f12 : Env.get env 12 = .ptr (.st c) 0) (f13 : Env.get env 13 = .ptr (.st d) 0) (g12 : σ.get (.st c) = some (.cells [.int .i64 ((k : Int).tmod 6), .int .u64 ((k : Int) + 1), .int .i64 kind, .str key, .str val, A, C, .int .i64 (10 * (k : Int) + 1), .int .i64 (10 * (k : Int) + 2), .int .i64 (10 * (k : Int) + 3), .int .i64 code, .int .i64 ((k : Int).tmod 6), .int .u64 ((k : Int) + 1), .int .i64 0, .int .i64 rcode, .str rval, .int .u64 rnum])) (hA : Plain A) (hC : Plain C) (hw : wok cx.ro (.st c) = true) (hh : cx.h ≤ c) (g13 : σ.get (.st d) = some (.cells [.str k0, .int .u64 n0, .str v0, .bool h0])) :
    Pc Try.prog how cx [] 156 [86, 87, 88, 89] (cr [.r, .r, .r, .l, .r, .i, .i, .r, .r, .l, .i, .r, .r, .r, .r, .r, .r, .r, .r, .r, .r, .l, .r, .l, .l]) env σ (.normal) (σ.set (.st c) (.cells [.int .i64 ((k : Int).tmod 6), .int .u64 ((k : Int) + 1), .int .i64 kind, .str key, .str val, A, C, .int .i64 (10 * (k : Int) + 1), .int .i64 (10 * (k : Int) + 2), .int .i64 (10 * (k : Int) + 3), .int .i64 code, .int .i64 ((k : Int).tmod 6), .int .u64 ((k : Int) + 1), .int .i64 0, .int .i64 rcode, .str v0, .int .u64 rnum])) (fun _ => True) := by
  refine pc_of fun res hr => ?_
  simp -implicitDefEqProofs [AS.get_push_at, AS.get_push_old, AS.push_len, AS.set_st_len, AS.next_st', AS.set_push_at, AS.get_set_self, AS.get_set_other, cr, Try.f3, hlen, hcx, f12, f13, g12, hA.one, hA.inb, hA.row, hA.cells, hC.one, hC.inb, hC.row, hC.cells, hw, hh, g13] at hr
  subst hr
  refine ⟨_, rfl, by simp [hlen], by simp [Env.get_set, hlen, f12, f13, g12, hA.one, hA.inb, hA.row, hA.cells, hC.one, hC.inb, hC.row, hC.cells, hw, hh, g13], fun i hi => ?_⟩
  simp only [List.mem_cons, List.not_mem_nil, or_false, not_or] at hi
  simp only [get_set2, hi, false_and, if_false]

theorem r22 (cx : Cx) (env : Env) (σ : AS) (k c : Nat) (code rcode : Int) (rval : ByteArray) (rnum : Int) (kind : Int) (key val : ByteArray) (A C : AV) (d : Nat) (k0 : ByteArray) (n0 : Int) (v0 : ByteArray) (h0 : Bool) (hlen : env.length = 156) (hcx : cx.esc = [22]) (f12 : Env.get env 12 = .ptr (.st c) 0) (f13 : Env.get env 13 = .ptr (.st d) 0) (g12 : σ.get (.st c) = some (.cells [.int .i64 ((k : Int).tmod 6), .int .u64 ((k : Int) + 1), .int .i64 kind, .str key, .str val, A, C, .int .i64 (10 * (k : Int) + 1), .int .i64 (10 * (k : Int) + 2), .int .i64 (10 * (k : Int) + 3), .int .i64 code, .int .i64 ((k : Int).tmod 6), .int .u64 ((k : Int) + 1), .int .i64 0, .int .i64 rcode, .str rval, .int .u64 rnum])) (hA : Plain A) (hC : Plain C) (hw : wok cx.ro (.st c) = true) (hh : cx.h ≤ c) (g13 : σ.get (.st d) = some (.cells [.str k0, .int .u64 n0, .str v0, .bool h0])) :
    Pc Try.prog how cx [] 156 [90, 91, 92, 93] (cr [.r, .r, .r, .l, .r, .i, .i, .r, .r, .l, .i, .r, .r, .r, .r, .r, .r, .r, .r, .r, .r, .l, .r, .l, .r, .l]) env σ (.normal) (σ.set (.st c) (.cells [.int .i64 ((k : Int).tmod 6), .int .u64 ((k : Int) + 1), .int .i64 kind, .str key, .str val, A, C, .int .i64 (10 * (k : Int) + 1), .int .i64 (10 * (k : Int) + 2), .int .i64 (10 * (k : Int) + 3), .int .i64 code, .int .i64 ((k : Int).tmod 6), .int .u64 ((k : Int) + 1), .int .i64 0, .int .i64 rcode, .str rval, .int .u64 n0])) (fun _ => True) := by
  refine pc_of fun res hr => ?_
  simp -implicitDefEqProofs [AS.get_push_at, AS.get_push_old, AS.push_len, AS.set_st_len, AS.next_st', AS.set_push_at, AS.get_set_self, AS.get_set_other, cr, Try.f3, hlen, hcx, f12, f13, g12, hA.one, hA.inb, hA.row, hA.cells, hC.one, hC.inb, hC.row, hC.cells, hw, hh, g13] at hr
  subst hr
  refine ⟨_, rfl, by simp [hlen], by simp [Env.get_set, hlen, f12, f13, g12, hA.one, hA.inb, hA.row, hA.cells, hC.one, hC.inb, hC.row, hC.cells, hw, hh, g13], fun i hi => ?_⟩
  simp only [List.mem_cons, List.not_mem_nil, or_false, not_or] at hi
  simp only [get_set2, hi, false_and, if_false]

theorem r23 (cx : Cx) (env : Env) (σ : AS) (d : Nat) (k0 : ByteArray) (n0 : Int) (v0 : ByteArray) (h0 : Bool) (hlen : env.length = 156) (hcx : cx.esc = [22]) (f13 : Env.get env 13 = .ptr (.st d) 0) (g13 : σ.get (.st d) = some (.cells [.str k0, .int .u64 n0, .str v0, .bool h0])) :
    Pc Try.prog how cx [] 156 [94, 95, 96] (cr [.r, .r, .r, .l, .r, .i, .i, .r, .r, .l, .i, .r, .r, .r, .r, .r, .r, .r, .r, .r, .r, .l, .r, .l, .r, .r, .l]) env σ (.normal) (σ) (fun env' => Env.get env' 96 = .bool (!h0)) := by
  refine pc_of fun res hr => ?_
  simp -implicitDefEqProofs [AS.get_push_at, AS.get_push_old, AS.push_len, AS.set_st_len, AS.next_st', AS.set_push_at, AS.get_set_self, AS.get_set_other, cr, Try.f3, hlen, hcx, f13, g13] at hr
  subst hr
  refine ⟨_, rfl, by simp [hlen], by simp [Env.get_set, hlen, f13, g13], fun i hi => ?_⟩
  simp only [List.mem_cons, List.not_mem_nil, or_false, not_or] at hi
  simp only [get_set2, hi, false_and, if_false]

theorem r24 (cx : Cx) (env : Env) (σ : AS) (k c : Nat) (code rcode : Int) (rval : ByteArray) (rnum : Int) (kind : Int) (key val : ByteArray) (A C : AV) (hlen : env.length = 156) (hcx : cx.esc = [22]) (f12 : Env.get env 12 = .ptr (.st c) 0) (g12 : σ.get (.st c) = some (.cells [.int .i64 ((k : Int).tmod 6), .int .u64 ((k : Int) + 1), .int .i64 kind, .str key, .str val, A, C, .int .i64 (10 * (k : Int) + 1), .int .i64 (10 * (k : Int) + 2), .int .i64 (10 * (k : Int) + 3), .int .i64 code, .int .i64 ((k : Int).tmod 6), .int .u64 ((k : Int) + 1), .int .i64 0, .int .i64 rcode, .str rval, .int .u64 rnum])) (hA : Plain A) (hC : Plain C) (hw : wok cx.ro (.st c) = true) (hh : cx.h ≤ c) :
    Pc Try.prog how cx [] 156 [97] (cr [.r, .r, .r, .l, .r, .i, .i, .r, .r, .l, .i, .r, .r, .r, .r, .r, .r, .r, .r, .r, .r, .l, .r, .l, .r, .r, .r, .l]) env σ (.normal) (σ.set (.st c) (.cells [.int .i64 ((k : Int).tmod 6), .int .u64 ((k : Int) + 1), .int .i64 kind, .str key, .str val, A, C, .int .i64 (10 * (k : Int) + 1), .int .i64 (10 * (k : Int) + 2), .int .i64 (10 * (k : Int) + 3), .int .i64 6, .int .i64 ((k : Int).tmod 6), .int .u64 ((k : Int) + 1), .int .i64 0, .int .i64 rcode, .str rval, .int .u64 rnum])) (fun _ => True) := by
  refine pc_of fun res hr => ?_
  simp -implicitDefEqProofs [AS.get_push_at, AS.get_push_old, AS.push_len, AS.set_st_len, AS.next_st', AS.set_push_at, AS.get_set_self, AS.get_set_other, cr, Try.f3, hlen, hcx, f12, g12, hA.one, hA.inb, hA.row, hA.cells, hC.one, hC.inb, hC.row, hC.cells, hw, hh] at hr
  subst hr
  refine ⟨_, rfl, by simp [hlen], by simp [Env.get_set, hlen, f12, g12, hA.one, hA.inb, hA.row, hA.cells, hC.one, hC.inb, hC.row, hC.cells, hw, hh], fun i hi => ?_⟩
  simp only [List.mem_cons, List.not_mem_nil, or_false, not_or] at hi
  simp only [get_set2, hi, false_and, if_false]

theorem r25 (cx : Cx) (env : Env) (σ : AS) (c : Nat) (kind : Int) (key val : ByteArray) (A C : AV) (hlen : env.length = 156) (hcx : cx.esc = [22]) (f10 : Env.get env 10 = .ptr (.st c) 0) (g10 : σ.get (.st c) = some (.cells [.int .i64 kind, .str key, .str val, A, C])) (hA : Plain A) (hC : Plain C) :
    Pc Try.prog how cx [] 156 [98, 99, 100, 101, 102, 103, 104, 105] (cr [.r, .r, .r, .l, .r, .i, .i, .r, .r, .l, .i, .r, .r, .r, .r, .r, .r, .r, .r, .r, .r, .r, .l, .l]) env σ (.normal) (σ) (fun env' => Env.get env' 105 = .bool (decide (kind = 2) || decide (kind = 3))) := by
  by_cases p1 : kind = 2 <;> by_cases p2 : kind = 3 <;> (try (exfalso; omega))
  all_goals first | (fail; done) | (
      refine pc_of fun res hr => ?_
      simp -implicitDefEqProofs [AS.get_push_at, AS.get_push_old, AS.push_len, AS.set_st_len, AS.next_st', AS.set_push_at, AS.get_set_self, AS.get_set_other, cr, Try.f3, hlen, hcx, f10, g10, hA.one, hA.inb, hA.row, hA.cells, hC.one, hC.inb, hC.row, hC.cells, p1, p2] at hr
      subst hr
      refine ⟨_, rfl, by simp [hlen], by simp [Env.get_set, hlen, f10, g10, hA.one, hA.inb, hA.row, hA.cells, hC.one, hC.inb, hC.row, hC.cells, p1, p2], fun i hi => ?_⟩
      simp only [List.mem_cons, List.not_mem_nil, or_false, not_or] at hi
      simp only [get_set2, hi, false_and, if_false]
    )

theorem r26 (cx : Cx) (env : Env) (σ : AS) (k c : Nat) (code rcode : Int) (rval : ByteArray) (rnum : Int) (kind : Int) (key val : ByteArray) (A C : AV) (d : Nat) (k0 : ByteArray) (n0 : Int) (v0 : ByteArray) (h0 : Bool) (hlen : env.length = 156) (hcx : cx.esc = [22]) (f12 : Env.get env 12 = .ptr (.st c) 0) (f13 : Env.get env 13 = .ptr (.st d) 0) (g12 : σ.get (.st c) = some (.cells [.int .i64 ((k : Int).tmod 6), .int .u64 ((k : Int) + 1), .int .i64 kind, .str key, .str val, A, C, .int .i64 (10 * (k : Int) + 1), .int .i64 (10 * (k : Int) + 2), .int .i64 (10 * (k : Int) + 3), .int .i64 code, .int .i64 ((k : Int).tmod 6), .int .u64 ((k : Int) + 1), .int .i64 0, .int .i64 rcode, .str rval, .int .u64 rnum])) (hA : Plain A) (hC : Plain C) (hw : wok cx.ro (.st c) = true) (hh : cx.h ≤ c) (g13 : σ.get (.st d) = some (.cells [.str k0, .int .u64 n0, .str v0, .bool h0])) :
    Pc Try.prog how cx [] 156 [106, 107, 108, 109, 110] (cr [.r, .r, .r, .l, .r, .i, .i, .r, .r, .l, .i, .r, .r, .r, .r, .r, .r, .r, .r, .r, .r, .r, .l, .r, .l]) env σ (.normal) (σ.set (.st c) (.cells [.int .i64 ((k : Int).tmod 6), .int .u64 ((k : Int) + 1), .int .i64 kind, .str key, .str val, A, C, .int .i64 (10 * (k : Int) + 1), .int .i64 (10 * (k : Int) + 2), .int .i64 (10 * (k : Int) + 3), .int .i64 code, .int .i64 ((k : Int).tmod 6), .int .u64 ((k : Int) + 1), .int .i64 0, .int .i64 rcode, .str rval, .int .u64 (wr .u64 (n0 + 1))])) (fun _ => True) := by
  refine pc_of fun res hr => ?_
  simp -implicitDefEqProofs [AS.get_push_at, AS.get_push_old, AS.push_len, AS.set_st_len, AS.next_st', AS.set_push_at, AS.get_set_self, AS.get_set_other, cr, Try.f3, hlen, hcx, f12, f13, g12, hA.one, hA.inb, hA.row, hA.cells, hC.one, hC.inb, hC.row, hC.cells, hw, hh, g13] at hr
  subst hr
  refine ⟨_, rfl, by simp [hlen], by simp [Env.get_set, hlen, f12, f13, g12, hA.one, hA.inb, hA.row, hA.cells, hC.one, hC.inb, hC.row, hC.cells, hw, hh, g13], fun i hi => ?_⟩
  simp only [List.mem_cons, List.not_mem_nil, or_false, not_or] at hi
  simp only [get_set2, hi, false_and, if_false]

theorem r27 (cx : Cx) (env : Env) (σ : AS) (k c : Nat) (code rcode : Int) (rval : ByteArray) (rnum : Int) (kind : Int) (key val : ByteArray) (A C : AV) (hlen : env.length = 156) (hcx : cx.esc = [22]) (f12 : Env.get env 12 = .ptr (.st c) 0) (g12 : σ.get (.st c) = some (.cells [.int .i64 ((k : Int).tmod 6), .int .u64 ((k : Int) + 1), .int .i64 kind, .str key, .str val, A, C, .int .i64 (10 * (k : Int) + 1), .int .i64 (10 * (k : Int) + 2), .int .i64 (10 * (k : Int) + 3), .int .i64 code, .int .i64 ((k : Int).tmod 6), .int .u64 ((k : Int) + 1), .int .i64 0, .int .i64 rcode, .str rval, .int .u64 rnum])) (hA : Plain A) (hC : Plain C) (hw : wok cx.ro (.st c) = true) (hh : cx.h ≤ c) :
    Pc Try.prog how cx [] 156 [111, 112, 113, 114] (cr [.r, .r, .r, .l, .r, .i, .i, .r, .r, .l, .i, .r, .r, .r, .r, .r, .r, .r, .r, .r, .r, .r, .r, .l]) env σ (.normal) (σ.set (.st c) (.cells [.int .i64 ((k : Int).tmod 6), .int .u64 ((k : Int) + 1), .int .i64 kind, .str key, .str val, A, C, .int .i64 (10 * (k : Int) + 1), .int .i64 (10 * (k : Int) + 2), .int .i64 (10 * (k : Int) + 3), .int .i64 code, .int .i64 ((k : Int).tmod 6), .int .u64 ((k : Int) + 1), .int .i64 0, .int .i64 code, .str rval, .int .u64 rnum])) (fun _ => True) := by
  refine pc_of fun res hr => ?_
  simp -implicitDefEqProofs [AS.get_push_at, AS.get_push_old, AS.push_len, AS.set_st_len, AS.next_st', AS.set_push_at, AS.get_set_self, AS.get_set_other, cr, Try.f3, hlen, hcx, f12, g12, hA.one, hA.inb, hA.row, hA.cells, hC.one, hC.inb, hC.row, hC.cells, hw, hh] at hr
  subst hr
  refine ⟨_, rfl, by simp [hlen], by simp [Env.get_set, hlen, f12, g12, hA.one, hA.inb, hA.row, hA.cells, hC.one, hC.inb, hC.row, hC.cells, hw, hh], fun i hi => ?_⟩
  simp only [List.mem_cons, List.not_mem_nil, or_false, not_or] at hi
  simp only [get_set2, hi, false_and, if_false]

theorem r28 (cx : Cx) (env : Env) (σ : AS) (k c : Nat) (code rcode : Int) (rval : ByteArray) (rnum : Int) (kind : Int) (key val : ByteArray) (A C : AV) (b : Nat) (v : Bool) (σ' : AS) (hlen : env.length = 156) (hcx : cx.esc = [22]) (f5 : Env.get env 5 = .ptr (.hp b) 0) (f12 : Env.get env 12 = .ptr (.st c) 0) (g12 : σ.get (.st c) = some (.cells [.int .i64 ((k : Int).tmod 6), .int .u64 ((k : Int) + 1), .int .i64 kind, .str key, .str val, A, C, .int .i64 (10 * (k : Int) + 1), .int .i64 (10 * (k : Int) + 2), .int .i64 (10 * (k : Int) + 3), .int .i64 code, .int .i64 ((k : Int).tmod 6), .int .u64 ((k : Int) + 1), .int .i64 0, .int .i64 rcode, .str rval, .int .u64 rnum])) (hA : Plain A) (hC : Plain C) (hw : wok cx.ro (.st c) = true) (hh : cx.h ≤ c) (h9 : callW Try.prog how 9 [.ptr (.hp b) 0, .agg [.int .i64 ((k : Int).tmod 6), .int .u64 ((k : Int) + 1), .int .i64 kind, .str key, .str val, A, C, .int .i64 (10 * (k : Int) + 1), .int .i64 (10 * (k : Int) + 2), .int .i64 (10 * (k : Int) + 3), .int .i64 code, .int .i64 ((k : Int).tmod 6), .int .u64 ((k : Int) + 1), .int .i64 0, .int .i64 rcode, .str rval, .int .u64 rnum]] σ cx.ro = some (.bool v, σ')) :
    Pc Try.prog how cx [] 156 [115, 116, 117] (cr [.r, .r, .r, .l, .r, .i, .i, .r, .r, .l, .i, .r, .r, .r, .r, .r, .r, .r, .r, .r, .r, .r, .r, .r, .l]) env σ (.normal) (σ') (fun _ => True) := by
  refine pc_of fun res hr => ?_
  simp -implicitDefEqProofs [AS.get_push_at, AS.get_push_old, AS.push_len, AS.set_st_len, AS.next_st', AS.set_push_at, AS.get_set_self, AS.get_set_other, cr, Try.f3, hlen, hcx, f5, f12, g12, hA.one, hA.inb, hA.row, hA.cells, hC.one, hC.inb, hC.row, hC.cells, hw, hh, h9] at hr
  subst hr
  refine ⟨_, rfl, by simp [hlen], by simp [Env.get_set, hlen, f5, f12, g12, hA.one, hA.inb, hA.row, hA.cells, hC.one, hC.inb, hC.row, hC.cells, hw, hh, h9], fun i hi => ?_⟩
  simp only [List.mem_cons, List.not_mem_nil, or_false, not_or] at hi
  simp only [get_set2, hi, false_and, if_false]

theorem r29 (cx : Cx) (env : Env) (σ : AS) (n : Nat) (at_ : Int) (R : AV) (hlen : env.length = 156) (hcx : cx.esc = [22]) (f1 : Env.get env 1 = .int .u16 at_) (f6 : Env.get env 6 = R) (hl : lenA Try.prog σ 28 R = some n) (hR : R.one = true) (hw1 : convA Try.prog σ 23 3 (.int .u16 at_) = some (.int .i64 at_)) (hw2 : wr .i64 ((n : Int) + 1) = (n : Int) + 1) (hnz : ¬ (n : Int) + 1 = 0) :
    Pc Try.prog how cx [] 156 [17, 118, 119, 120, 121, 122, 123] (cr [.r, .r, .r, .l, .r, .i, .i, .r, .r, .l, .i, .r, .r, .r, .r, .r, .r, .r, .r, .r, .r, .r, .r, .r, .r, .l]) env σ (.normal) (σ) (fun env' => Env.get env' 17 = .int .i64 (at_.tmod ((n : Int) + 1))) := by
  refine pc_of fun res hr => ?_
  simp -implicitDefEqProofs [-lenA, AS.get_push_at, AS.get_push_old, AS.push_len, AS.set_st_len, AS.next_st', AS.set_push_at, AS.get_set_self, AS.get_set_other, cr, Try.f3, hlen, hcx, f1, f6, hl, hR, hw1, hw2, hnz] at hr
  subst hr
  refine ⟨_, rfl, by simp [hlen], by simp [Env.get_set, hlen, f1, f6, hl, hR, hw1, hw2, hnz], fun i hi => ?_⟩
  simp only [List.mem_cons, List.not_mem_nil, or_false, not_or] at hi
  simp only [get_set2, hi, false_and, if_false]

theorem r30 (cx : Cx) (env : Env) (σ : AS) (m : Int) (R P R' : AV) (σ' : AS) (hlen : env.length = 156) (hcx : cx.esc = [22]) (f6 : Env.get env 6 = R) (f17 : Env.get env 17 = .int .i64 m) (hR : R.one = true) (hsl : sliceA Try.prog (σ.push false (.row [] 17 0 false)) 28 R none (some (.int .i64 m)) none = some P) (hP : P.one = true) (hap : appendA Try.prog cx (σ.push false (.row [] 17 0 false)) [28, 28] (.row (.st σ.st.length) 0 0 0) P = some (R', σ')) :
    Pc Try.prog how cx [] 156 [18, 124, 125, 126, 127, 128] (cr [.r, .r, .r, .l, .r, .i, .i, .r, .r, .l, .i, .r, .r, .r, .r, .r, .r, .r, .r, .r, .r, .r, .r, .r, .r, .r, .l]) env σ (.normal) (σ') (fun env' => Env.get env' 18 = R') := by
  refine pc_of fun res hr => ?_
  simp -implicitDefEqProofs [AS.get_push_at, AS.get_push_old, AS.push_len, AS.set_st_len, AS.next_st', AS.set_push_at, AS.get_set_self, AS.get_set_other, cr, Try.f3, hlen, hcx, f6, f17, hR, hsl, hP, hap, elemA] at hr
  subst hr
  refine ⟨_, rfl, by simp [hlen], by simp [Env.get_set, hlen, f6, f17, hR, hsl, hP, hap, elemA], fun i hi => ?_⟩
  simp only [List.mem_cons, List.not_mem_nil, or_false, not_or] at hi
  simp only [get_set2, hi, false_and, if_false]

theorem r31 (cx : Cx) (env : Env) (σ : AS) (k c : Nat) (code rcode : Int) (rval : ByteArray) (rnum : Int) (kind : Int) (key val : ByteArray) (A C : AV) (R R' : AV) (σ' : AS) (hlen : env.length = 156) (hcx : cx.esc = [22]) (f12 : Env.get env 12 = .ptr (.st c) 0) (f18 : Env.get env 18 = R) (g12 : σ.get (.st c) = some (.cells [.int .i64 ((k : Int).tmod 6), .int .u64 ((k : Int) + 1), .int .i64 kind, .str key, .str val, A, C, .int .i64 (10 * (k : Int) + 1), .int .i64 (10 * (k : Int) + 2), .int .i64 (10 * (k : Int) + 3), .int .i64 code, .int .i64 ((k : Int).tmod 6), .int .u64 ((k : Int) + 1), .int .i64 0, .int .i64 rcode, .str rval, .int .u64 rnum])) (hA : Plain A) (hC : Plain C) (hw : wok cx.ro (.st c) = true) (hh : cx.h ≤ c) (hR : R.one = true) (h10 : callW Try.prog how 10 [.agg [.int .i64 ((k : Int).tmod 6), .int .u64 ((k : Int) + 1), .int .i64 kind, .str key, .str val, A, C, .int .i64 (10 * (k : Int) + 1), .int .i64 (10 * (k : Int) + 2), .int .i64 (10 * (k : Int) + 3), .int .i64 code, .int .i64 ((k : Int).tmod 6), .int .u64 ((k : Int) + 1), .int .i64 0, .int .i64 rcode, .str rval, .int .u64 rnum]] σ cx.ro = some (.agg [.int .i64 ((k : Int).tmod 6), .int .u64 ((k : Int) + 1), .int .i64 kind, .str key, .str val, A, C, .int .i64 (10 * (k : Int) + 1), .int .i64 (10 * (k : Int) + 2), .int .i64 (10 * (k : Int) + 3), .int .i64 code, .int .i64 ((k : Int).tmod 6), .int .u64 ((k : Int) + 1), .int .i64 0, .int .i64 rcode, .str rval, .int .u64 rnum], σ)) (hfz : fzL cx.ro σ [A, C, .int .i64 (10 * (k : Int) + 1), .int .i64 (10 * (k : Int) + 2), .int .i64 (10 * (k : Int) + 3), .int .i64 code, .int .i64 ((k : Int).tmod 6), .int .u64 ((k : Int) + 1), .int .i64 0, .int .i64 rcode, .str rval, .int .u64 rnum] = some ([A, C, .int .i64 (10 * (k : Int) + 1), .int .i64 (10 * (k : Int) + 2), .int .i64 (10 * (k : Int) + 3), .int .i64 code, .int .i64 ((k : Int).tmod 6), .int .u64 ((k : Int) + 1), .int .i64 0, .int .i64 rcode, .str rval, .int .u64 rnum], σ)) (hap : appendA Try.prog cx (σ.push false (.row [.agg [.int .i64 ((k : Int).tmod 6), .int .u64 ((k : Int) + 1), .int .i64 kind, .str key, .str val, A, C, .int .i64 (10 * (k : Int) + 1), .int .i64 (10 * (k : Int) + 2), .int .i64 (10 * (k : Int) + 3), .int .i64 code, .int .i64 ((k : Int).tmod 6), .int .u64 ((k : Int) + 1), .int .i64 0, .int .i64 rcode, .str rval, .int .u64 rnum]] 17 0 false)) [28, 28] R (.row (.st σ.st.length) 0 0 1) = some (R', σ')) :
    Pc Try.prog how cx [] 156 [18, 129, 130, 131, 132, 133] (cr [.r, .r, .r, .l, .r, .i, .i, .r, .r, .l, .i, .r, .r, .r, .r, .r, .r, .r, .r, .r, .r, .r, .r, .r, .r, .r, .r, .l]) env σ (.normal) (σ') (fun env' => Env.get env' 18 = R') := by
  refine pc_of fun res hr => ?_
  simp -implicitDefEqProofs [AS.get_push_at, AS.get_push_old, AS.push_len, AS.set_st_len, AS.next_st', AS.set_push_at, AS.get_set_self, AS.get_set_other, cr, Try.f3, hlen, hcx, f12, f18, g12, hA.one, hA.inb, hA.row, hA.cells, hC.one, hC.inb, hC.row, hC.cells, hw, hh, hR, h10, hfz, hap, elemA] at hr
  subst hr
  refine ⟨_, rfl, by simp [hlen], by simp [Env.get_set, hlen, f12, f18, g12, hA.one, hA.inb, hA.row, hA.cells, hC.one, hC.inb, hC.row, hC.cells, hw, hh, hR, h10, hfz, hap, elemA], fun i hi => ?_⟩
  simp only [List.mem_cons, List.not_mem_nil, or_false, not_or] at hi
  simp only [get_set2, hi, false_and, if_false]

theorem r32 (cx : Cx) (env : Env) (σ : AS) (m : Int) (R R1 P R' : AV) (σ' : AS) (hlen : env.length = 156) (hcx : cx.esc = [22]) (f6 : Env.get env 6 = R) (f17 : Env.get env 17 = .int .i64 m) (f18 : Env.get env 18 = R1) (hR : R.one = true) (hR1 : R1.one = true) (hsl : sliceA Try.prog σ 28 R (some (.int .i64 m)) none none = some P) (hP : P.one = true) (hap : appendA Try.prog cx σ [28, 28] R1 P = some (R', σ')) :
    Pc Try.prog how cx [] 156 [6, 134, 135, 136, 137, 138] (cr [.r, .r, .r, .l, .r, .i, .i, .r, .r, .l, .i, .r, .r, .r, .r, .r, .r, .r, .r, .r, .r, .r, .r, .r, .r, .r, .r, .r]) env σ (.normal) (σ') (fun env' => Env.get env' 6 = R') := by
  refine pc_of fun res hr => ?_
  simp -implicitDefEqProofs [AS.get_push_at, AS.get_push_old, AS.push_len, AS.set_st_len, AS.next_st', AS.set_push_at, AS.get_set_self, AS.get_set_other, cr, Try.f3, hlen, hcx, f6, f17, f18, hR, hR1, hsl, hP, hap] at hr
  subst hr
  refine ⟨_, rfl, by simp [hlen], by simp [Env.get_set, hlen, f6, f17, f18, hR, hR1, hsl, hP, hap], fun i hi => ?_⟩
  simp only [List.mem_cons, List.not_mem_nil, or_false, not_or] at hi
  simp only [get_set2, hi, false_and, if_false]

theorem r34 (cx : Cx) (env : Env) (σ : AS) (R : AV) (σ' : AS) (hlen : env.length = 156) (hcx : cx.esc = [22]) (f6 : Env.get env 6 = R) (hR : R.one = true) (h11 : callW Try.prog how 11 [R] σ cx.ro = some (.tup [.agg [.int .i64 0, .int .u64 0], .int .i64 0], σ')) (hw : wok cx.ro (.st σ'.st.length) = true) (hh : cx.h ≤ σ'.st.length) :
    Pc Try.prog how cx [] 156 [19, 20, 140, 141, 142, 143, 144] (cr [.r, .r, .r, .r, .l]) env σ (.normal) (σ'.push false (.cells [.int .i64 0, .int .u64 0])) (fun env' => Env.get env' 20 = .int .i64 0) := by
  refine pc_of fun res hr => ?_
  simp -implicitDefEqProofs [AS.get_push_at, AS.get_push_old, AS.push_len, AS.set_st_len, AS.next_st', AS.set_push_at, AS.get_set_self, AS.get_set_other, cr, Try.f3, hlen, hcx, f6, hR, h11, hw, hh] at hr
  subst hr
  refine ⟨_, rfl, by simp [hlen], by simp [Env.get_set, hlen, f6, hR, h11, hw, hh], fun i hi => ?_⟩
  simp only [List.mem_cons, List.not_mem_nil, or_false, not_or] at hi
  simp only [get_set2, hi, false_and, if_false]

theorem r35 (cx : Cx) (env : Env) (σ : AS) (R : AV) (a b : Nat) (σ1 σ2 : AS) (hlen : env.length = 156) (hcx : cx.esc = [22]) (f5 : Env.get env 5 = .ptr (.hp b) 0) (f6 : Env.get env 6 = R) (f20 : Env.get env 20 = .int .i64 0) (hR : R.one = true) (h13 : callW Try.prog how 13 [R] σ cx.ro = some (.ptr (.hp a) 0, σ1)) (h12 : callW Try.prog how 12 [.ptr (.hp a) 0, .ptr (.hp b) 0] σ1 cx.ro = some (.bool true, σ1)) (h14 : callW Try.prog how 14 [] σ1 cx.ro = some (.bool true, σ2)) :
    Pc Try.prog how cx [] 156 [4, 145, 146, 147, 148, 149, 150, 151, 152, 153, 154, 155] (cr [.r, .r, .r, .r, .r, .l]) env σ (.normal) (σ2) (fun env' => Env.get env' 4 = .bool true) := by
  refine pc_of fun res hr => ?_
  simp -implicitDefEqProofs [AS.get_push_at, AS.get_push_old, AS.push_len, AS.set_st_len, AS.next_st', AS.set_push_at, AS.get_set_self, AS.get_set_other, cr, Try.f3, hlen, hcx, f5, f6, f20, hR, h13, h12, h14] at hr
  subst hr
  refine ⟨_, rfl, by simp [hlen], by simp [Env.get_set, hlen, f5, f6, f20, hR, h13, h12, h14], fun i hi => ?_⟩
  simp only [List.mem_cons, List.not_mem_nil, or_false, not_or] at hi
  simp only [get_set2, hi, false_and, if_false]

end
end F3
