/- Whether a transaction, an op may be: it is told. -/

import Derived.Test.YtcafckfmhoklkaaCg
open Go Go.Abs Go.Proofs
set_option maxRecDepth 100000
set_option maxHeartbeats 4000000
set_option linter.unusedSimpArgs false
set_option linter.unusedVariables false

theorem pos1 (n : Nat) : (0 : Int) < (n : Int) + 1 := by omega
theorem wr0 : wr .i64 0 = 0 := by decide
/-- What strings' lengths are. -/
def RdsOk (l : List RdI) : Prop := ∀ r ∈ l, r.1.size ≤ 9223372036854775807
def WrsOk (l : List WrI) : Prop := ∀ w ∈ l, w.1.size ≤ 9223372036854775807 ∧ w.2.1.size ≤ 9223372036854775807
theorem RdsOk.take {l : List RdI} (h : RdsOk l) (n : Nat) : RdsOk (l.take n) := fun r hr => h r (List.mem_of_mem_take hr)
theorem WrsOk.take {l : List WrI} (h : WrsOk l) (n : Nat) : WrsOk (l.take n) := fun r hr => h r (List.mem_of_mem_take hr)
theorem SlOf.sl {sz : Nat} {X : AV} {l : List AV} (h : SlOf sz X l) (k : Nat) (hk : k < l.length) : X = .sl false sz l := by
  rcases h with ⟨_, rfl⟩ | h
  · cases hk
  · exact h
theorem slice_pre {σ : AS} {t e sz : Nat} {l : List AV} {k : Nat} (ht : Try.prog.underlying t = some (.slice e)) (hs : sizeA Try.prog e = some sz) (hk : k < l.length) : sliceA Try.prog σ t (.sl false sz l) none (some (.int .i64 (k : Int))) none = some (.sl false sz (l.take k)) := by
  have h1 : k ≤ l.length := Nat.le_of_lt hk
  simp [sliceA, intOf?, boundsA, ht, hs, h1]
section
attribute [local simp] ofV ofCell ofCells seqA_nil seqA_cons seqVK_eq seqEK_eq wantedA yieldedA isVal effA ev evs evps putE optsA optsOk valA fieldAddrA fieldA loadA partA aggA isAggD buildA placesA fillA lay storeA AV.withCells buildSliceA elemsA rowParts fzL promL okE isSrc bytesOk pushA cxOf lenA binA intBinA strBinA unA indexAddrA eqA AVs.inb AV.inb Loc.inb calleeA opsOf sub bodyOf Env.get_set quietA_nil quietA_cons quietK_none quietK_some qstep newA isNew escNew boxOk newLoc flat rowPartsQ quietN quietOp isBS List.takeWhile finishA_eq finK_ret finK_normal retK backK resA oneA AV.back AVs.back execW_seq_eq seqK_normal seqK_ret seqK_exit execW_cond_eq condK_true condK_false execW_block_eq blockK_exit blockK_normal blockK_ret execW_region_eq regK_eq execW_skip execW_exit execW_ret regionA_plain regionA_quiet0 tailK_eq nilCheckA guardOk isConst lookupA keyFits mapUpdateA beqI bneI
theorem f29_c (hp s : List AObj) (ro : Option Nat) (cl sq : Int) (hro : ∀ k, ro = some k → k ≤ s.length) :
    callW Try.prog how 29 [.agg [.int .i64 cl, .int .u64 sq]] ⟨hp, s⟩ ro = some (.bool (decide (0 ≤ cl) && (decide (cl ≤ 5) && decide (sq ≠ 0))), ⟨hp, s⟩) := by
  refine callW_body (fl := {}) (fn := Try.f29) (c := bodyOf Try.f29) rfl Try.func29 rfl ?_
  have henv : ∃ e, e = frameA Try.f29 [.agg [.int .i64 cl, .int .u64 sq]] := ⟨_, rfl⟩
  obtain ⟨env, henv⟩ := henv
  have hl : env.length = 16 := by rw [henv]; rfl
  have h0 : Env.get env 0 = .agg [.int .i64 cl, .int .u64 sq] := by rw [henv]; rfl
  rw [← henv]
  clear henv
  by_cases p1 : 0 ≤ cl <;> by_cases p2 : cl ≤ 5 <;> by_cases p3 : sq = 0
  all_goals simp -implicitDefEqProofs [Try.f29, hl, h0, wok_le hro, wok_le' hro, p1, p2, p3]

end
namespace F19
noncomputable def cr (p : List Dir) : Code := sub p (bodyOf Try.f19)

section
attribute [local simp] ofV ofCell ofCells seqA_nil seqA_cons seqVK_eq seqEK_eq wantedA yieldedA isVal effA ev evs evps putE optsA optsOk valA fieldAddrA fieldA loadA partA aggA isAggD buildA placesA fillA lay storeA AV.withCells buildSliceA elemsA rowParts fzL promL okE isSrc bytesOk pushA cxOf lenA binA intBinA strBinA unA indexAddrA eqA AVs.inb AV.inb Loc.inb calleeA opsOf sub bodyOf Env.get_set quietA_nil quietA_cons quietK_none quietK_some qstep newA isNew escNew boxOk newLoc flat rowPartsQ quietN quietOp isBS List.takeWhile finishA_eq finK_ret finK_normal retK backK resA oneA AV.back AVs.back execW_seq_eq seqK_normal seqK_ret seqK_exit execW_cond_eq condK_true condK_false execW_block_eq blockK_exit blockK_normal blockK_ret execW_region_eq regK_eq execW_skip execW_exit execW_ret regionA_plain regionA_quiet0 tailK_eq nilCheckA guardOk isConst lookupA keyFits mapUpdateA beqI bneI
theorem rA (cx : Cx) (env : Env) (σ : AS) (cl sq : Int) (pl : Bool) (X Y : AV) (hp s : List AObj) (hlen : env.length = 122) (hcx : cx.esc = []) (f0 : Env.get env 0 = .agg [.int .i64 cl, .int .u64 sq, .bool pl, X, Y]) (hσ : σ = ⟨hp, s⟩) (hX : Plain X) (hY : Plain Y) (hw : wok cx.ro (.st s.length) = true) (hh : cx.h ≤ s.length) :
    Pc Try.prog how cx [] 122 [1, 2] (cr [.l]) env σ (.normal) (AS.mk hp (s ++ [.cells [.int .i64 cl, .int .u64 sq, .bool pl, X, Y]])) (fun env' => Env.get env' 1 = .ptr (.st s.length) 0 ∧ Env.get env' 2 = .bool false) := by
  refine pc_of fun res hr => ?_
  simp -implicitDefEqProofs [AS.get_push_at, AS.get_push_old, AS.push_len, AS.set_st_len, AS.next_st', AS.set_push_at, AS.get_set_self, AS.get_set_other, cr, Try.f19, hlen, hcx, f0, hσ, hX.one, hX.inb, hX.row, hX.cells, hY.one, hY.inb, hY.row, hY.cells, hw, hh] at hr
  subst hr
  refine ⟨_, rfl, by simp [hlen], by simp [Env.get_set, hlen, f0, hσ, hX.one, hX.inb, hX.row, hX.cells, hY.one, hY.inb, hY.row, hY.cells, hw, hh], fun i hi => ?_⟩
  simp only [List.mem_cons, List.not_mem_nil, or_false, not_or] at hi
  simp only [get_set2, hi, false_and, if_false]

theorem rB (cx : Cx) (env : Env) (σ : AS) (a n m : Nat) (b : Bool) (cl sq : Int) (pl : Bool) (X Y : AV) (hlen : env.length = 122) (hcx : cx.esc = []) (f1 : Env.get env 1 = .ptr (.st a) 0) (g1 : σ.get (.st a) = some (.cells [.int .i64 cl, .int .u64 sq, .bool pl, X, Y])) (hX : Plain X) (hY : Plain Y) (hl1 : lenA Try.prog σ 29 X = some n) (hl2 : lenA Try.prog σ 30 Y = some m) (h29 : callW Try.prog how 29 [.agg [.int .i64 cl, .int .u64 sq]] σ cx.ro = some (.bool b, σ)) (hwr : wr .i64 ((n : Int) + (m : Int)) = (n : Int) + (m : Int)) :
    Pc Try.prog how cx [] 122 [11, 12, 13, 14, 15, 16, 17, 18, 19, 20, 21, 22, 23, 24, 25, 26, 27, 28, 29, 30, 31, 32, 33, 34, 35, 36] (cr [.r, .l, .l]) env σ (.normal) (σ) (fun env' => Env.get env' 36 = .bool (!b || (decide ((8 : Int) < (n : Int)) || (decide ((8 : Int) < (m : Int)) || decide ((n : Int) + (m : Int) = 0))))) := by
  cases b <;> by_cases p1 : (8 : Int) < (n : Int) <;> by_cases p2 : (8 : Int) < (m : Int) <;> by_cases p3 : (n : Int) + (m : Int) = 0
  all_goals first | (fail; done) | (
      refine pc_of fun res hr => ?_
      simp -implicitDefEqProofs [-lenA, AS.get_push_at, AS.get_push_old, AS.push_len, AS.set_st_len, AS.next_st', AS.set_push_at, AS.get_set_self, AS.get_set_other, cr, Try.f19, hlen, hcx, f1, g1, hX.one, hX.inb, hX.row, hX.cells, hY.one, hY.inb, hY.row, hY.cells, hl1, hl2, h29, hwr, p1, p2, p3, wr0] at hr
      subst hr
      refine ⟨_, rfl, by simp [hlen], by simp [Env.get_set, hlen, f1, g1, hX.one, hX.inb, hX.row, hX.cells, hY.one, hY.inb, hY.row, hY.cells, hl1, hl2, h29, hwr, p1, p2, p3, wr0], fun i hi => ?_⟩
      simp only [List.mem_cons, List.not_mem_nil, or_false, not_or] at hi
      simp only [get_set2, hi, false_and, if_false]
    )

theorem rBr (cx : Cx) (env : Env) (σ : AS)  (hlen : env.length = 122) (hcx : cx.esc = [])  :
    Pc Try.prog how cx [] 122 [2] (cr [.r, .l, .r, .l]) env σ (.ret) (σ) (fun env' => Env.get env' 2 = .bool false) := by
  refine pc_of fun res hr => ?_
  simp -implicitDefEqProofs [-lenA, -indexAddrA, -loadA, AS.get_push_at, AS.get_push_old, AS.push_len, AS.set_st_len, AS.next_st', AS.set_push_at, AS.get_set_self, AS.get_set_other, cr, Try.f19, hlen, hcx] at hr
  subst hr
  refine ⟨_, rfl, by simp [hlen], by simp [Env.get_set, hlen], fun i hi => ?_⟩
  simp only [List.mem_cons, List.not_mem_nil, or_false, not_or] at hi
  simp only [get_set2, hi, false_and, if_false]

theorem rC (cx : Cx) (env : Env) (σ : AS) (a n m : Nat) (cl sq : Int) (pl : Bool) (X Y : AV) (hlen : env.length = 122) (hcx : cx.esc = []) (f1 : Env.get env 1 = .ptr (.st a) 0) (g1 : σ.get (.st a) = some (.cells [.int .i64 cl, .int .u64 sq, .bool pl, X, Y])) (hX : Plain X) (hY : Plain Y) (hl1 : lenA Try.prog σ 29 X = some n) (hl2 : lenA Try.prog σ 30 Y = some m) :
    Pc Try.prog how cx [] 122 [37, 38, 39, 40, 41, 42, 43, 44, 45, 46, 47, 48, 49, 50] (cr [.r, .r, .l, .l]) env σ (.normal) (σ) (fun env' => Env.get env' 50 = .bool (pl && (decide (0 < n) || decide ((m : Int) ≠ 1)))) := by
  rcases n with _ | n <;> by_cases p2 : (m : Int) = 1 <;> cases pl
  all_goals first | (fail; done) | (
      refine pc_of fun res hr => ?_
      simp -implicitDefEqProofs [-lenA, AS.get_push_at, AS.get_push_old, AS.push_len, AS.set_st_len, AS.next_st', AS.set_push_at, AS.get_set_self, AS.get_set_other, cr, Try.f19, hlen, hcx, f1, g1, hX.one, hX.inb, hX.row, hX.cells, hY.one, hY.inb, hY.row, hY.cells, hl1, hl2, p2, pos1, Nat.zero_lt_succ] at hr
      subst hr
      refine ⟨_, rfl, by simp [hlen], by simp [Env.get_set, hlen, f1, g1, hX.one, hX.inb, hX.row, hX.cells, hY.one, hY.inb, hY.row, hY.cells, hl1, hl2, p2, pos1, Nat.zero_lt_succ], fun i hi => ?_⟩
      simp only [List.mem_cons, List.not_mem_nil, or_false, not_or] at hi
      simp only [get_set2, hi, false_and, if_false]
    )

theorem rCr (cx : Cx) (env : Env) (σ : AS)  (hlen : env.length = 122) (hcx : cx.esc = [])  :
    Pc Try.prog how cx [] 122 [2] (cr [.r, .r, .l, .r, .l]) env σ (.ret) (σ) (fun env' => Env.get env' 2 = .bool false) := by
  refine pc_of fun res hr => ?_
  simp -implicitDefEqProofs [-lenA, -indexAddrA, -loadA, AS.get_push_at, AS.get_push_old, AS.push_len, AS.set_st_len, AS.next_st', AS.set_push_at, AS.get_set_self, AS.get_set_other, cr, Try.f19, hlen, hcx] at hr
  subst hr
  refine ⟨_, rfl, by simp [hlen], by simp [Env.get_set, hlen], fun i hi => ?_⟩
  simp only [List.mem_cons, List.not_mem_nil, or_false, not_or] at hi
  simp only [get_set2, hi, false_and, if_false]

theorem rH1 (cx : Cx) (env : Env) (σ : AS) (a n : Nat) (cl sq : Int) (pl : Bool) (X Y : AV) (hlen : env.length = 122) (hcx : cx.esc = []) (f1 : Env.get env 1 = .ptr (.st a) 0) (g1 : σ.get (.st a) = some (.cells [.int .i64 cl, .int .u64 sq, .bool pl, X, Y])) (hX : Plain X) (hY : Plain Y) (hl : lenA Try.prog σ 29 X = some n) :
    Pc Try.prog how cx [] 122 [51, 52, 53, 54] (cr [.r, .r, .r, .l, .l]) env σ (.normal) (σ) (fun env' => Env.get env' 52 = X ∧ Env.get env' 53 = .int .i64 (n : Int) ∧ Env.get env' 54 = .int .i64 0) := by
  refine pc_of fun res hr => ?_
  simp -implicitDefEqProofs [-lenA, AS.get_push_at, AS.get_push_old, AS.push_len, AS.set_st_len, AS.next_st', AS.set_push_at, AS.get_set_self, AS.get_set_other, cr, Try.f19, hlen, hcx, f1, g1, hX.one, hX.inb, hX.row, hX.cells, hY.one, hY.inb, hY.row, hY.cells, hl] at hr
  subst hr
  refine ⟨_, rfl, by simp [hlen], by simp [Env.get_set, hlen, f1, g1, hX.one, hX.inb, hX.row, hX.cells, hY.one, hY.inb, hY.row, hY.cells, hl], fun i hi => ?_⟩
  simp only [List.mem_cons, List.not_mem_nil, or_false, not_or] at hi
  simp only [get_set2, hi, false_and, if_false]

theorem rE1 (cx : Cx) (env : Env) (σ : AS) (k : Nat) (Z p : AV) (key : ByteArray) (num : Int) (hlen : env.length = 122) (hcx : cx.esc = []) (f52 : Env.get env 52 = Z) (f54 : Env.get env 54 = .int .i64 (k : Int)) (hia : indexAddrA Try.prog σ 29 Z (.int .i64 (k : Int)) = some p) (hpa : loadA Try.prog σ 55 p = some (.agg [.str key, .int .u64 num])) (hw : wok cx.ro (.st σ.st.length) = true) (hh : cx.h ≤ σ.st.length) :
    Pc Try.prog how cx [] 122 [3, 4, 56, 57, 58] (cr [.r, .r, .r, .l, .r, .i, .i, .r, .r, .l, .i, .l]) env σ (.normal) (σ.push false (.cells [.str key, .int .u64 num])) (fun env' => Env.get env' 3 = .int .i64 (k : Int) ∧ Env.get env' 4 = .ptr (.st σ.st.length) 0) := by
  refine pc_of fun res hr => ?_
  simp -implicitDefEqProofs [-lenA, -indexAddrA, -loadA, AS.get_push_at, AS.get_push_old, AS.push_len, AS.set_st_len, AS.next_st', AS.set_push_at, AS.get_set_self, AS.get_set_other, cr, Try.f19, hlen, hcx, f52, f54, hia, hpa, hw, hh] at hr
  subst hr
  refine ⟨_, rfl, by simp [hlen], by simp [Env.get_set, hlen, f52, f54, hia, hpa, hw, hh], fun i hi => ?_⟩
  simp only [List.mem_cons, List.not_mem_nil, or_false, not_or] at hi
  simp only [get_set2, hi, false_and, if_false]

theorem rP1 (cx : Cx) (env : Env) (σ : AS) (a k n : Nat) (P : AV) (cl sq : Int) (pl : Bool) (X Y : AV) (hlen : env.length = 122) (hcx : cx.esc = []) (f1 : Env.get env 1 = .ptr (.st a) 0) (f3 : Env.get env 3 = .int .i64 (k : Int)) (g1 : σ.get (.st a) = some (.cells [.int .i64 cl, .int .u64 sq, .bool pl, X, Y])) (hX : Plain X) (hY : Plain Y) (hP : Plain P) (hsl : sliceA Try.prog σ 29 X none (some (.int .i64 (k : Int))) none = some P) (hl : lenA Try.prog σ 29 P = some n) :
    Pc Try.prog how cx [] 122 [59, 60, 61, 62, 63, 64] (cr [.r, .r, .r, .l, .r, .i, .i, .r, .r, .l, .i, .r, .l, .l]) env σ (.normal) (σ) (fun env' => Env.get env' 62 = P ∧ Env.get env' 63 = .int .i64 (n : Int) ∧ Env.get env' 64 = .int .i64 0) := by
  refine pc_of fun res hr => ?_
  simp -implicitDefEqProofs [-lenA, AS.get_push_at, AS.get_push_old, AS.push_len, AS.set_st_len, AS.next_st', AS.set_push_at, AS.get_set_self, AS.get_set_other, cr, Try.f19, hlen, hcx, f1, f3, g1, hX.one, hX.inb, hX.row, hX.cells, hY.one, hY.inb, hY.row, hY.cells, hP.one, hP.inb, hP.row, hP.cells, hsl, hl] at hr
  subst hr
  refine ⟨_, rfl, by simp [hlen], by simp [Env.get_set, hlen, f1, f3, g1, hX.one, hX.inb, hX.row, hX.cells, hY.one, hY.inb, hY.row, hY.cells, hP.one, hP.inb, hP.row, hP.cells, hsl, hl], fun i hi => ?_⟩
  simp only [List.mem_cons, List.not_mem_nil, or_false, not_or] at hi
  simp only [get_set2, hi, false_and, if_false]

theorem rF1 (cx : Cx) (env : Env) (σ : AS) (k : Nat) (Z p : AV) (key : ByteArray) (num : Int) (hlen : env.length = 122) (hcx : cx.esc = []) (f62 : Env.get env 62 = Z) (f64 : Env.get env 64 = .int .i64 (k : Int)) (hia : indexAddrA Try.prog σ 29 Z (.int .i64 (k : Int)) = some p) (hpa : loadA Try.prog σ 55 p = some (.agg [.str key, .int .u64 num])) (hw : wok cx.ro (.st σ.st.length) = true) (hh : cx.h ≤ σ.st.length) :
    Pc Try.prog how cx [] 122 [6, 66, 67] (cr [.r, .r, .r, .l, .r, .i, .i, .r, .r, .l, .i, .r, .l, .r, .i, .i, .r, .r, .l, .i, .l]) env σ (.normal) (σ.push false (.cells [.str key, .int .u64 num])) (fun env' => Env.get env' 6 = .ptr (.st σ.st.length) 0) := by
  refine pc_of fun res hr => ?_
  simp -implicitDefEqProofs [-lenA, -indexAddrA, -loadA, AS.get_push_at, AS.get_push_old, AS.push_len, AS.set_st_len, AS.next_st', AS.set_push_at, AS.get_set_self, AS.get_set_other, cr, Try.f19, hlen, hcx, f62, f64, hia, hpa, hw, hh] at hr
  subst hr
  refine ⟨_, rfl, by simp [hlen], by simp [Env.get_set, hlen, f62, f64, hia, hpa, hw, hh], fun i hi => ?_⟩
  simp only [List.mem_cons, List.not_mem_nil, or_false, not_or] at hi
  simp only [get_set2, hi, false_and, if_false]

theorem rG1 (cx : Cx) (env : Env) (σ : AS) (c d : Nat) (key : ByteArray) (num : Int) (key2 : ByteArray) (num2 : Int) (hlen : env.length = 122) (hcx : cx.esc = []) (f4 : Env.get env 4 = .ptr (.st c) 0) (f6 : Env.get env 6 = .ptr (.st d) 0) (g4 : σ.get (.st c) = some (.cells [.str key, .int .u64 num])) (g6 : σ.get (.st d) = some (.cells [.str key2, .int .u64 num2])) :
    Pc Try.prog how cx [] 122 [68, 69, 70, 71, 72] (cr [.r, .r, .r, .l, .r, .i, .i, .r, .r, .l, .i, .r, .l, .r, .i, .i, .r, .r, .l, .i, .r, .l]) env σ (.normal) (σ) (fun env' => Env.get env' 72 = .bool (beqS key2 key)) := by
  refine pc_of fun res hr => ?_
  simp -implicitDefEqProofs [AS.get_push_at, AS.get_push_old, AS.push_len, AS.set_st_len, AS.next_st', AS.set_push_at, AS.get_set_self, AS.get_set_other, cr, Try.f19, hlen, hcx, f4, f6, g4, g6] at hr
  subst hr
  refine ⟨_, rfl, by simp [hlen], by simp [Env.get_set, hlen, f4, f6, g4, g6], fun i hi => ?_⟩
  simp only [List.mem_cons, List.not_mem_nil, or_false, not_or] at hi
  simp only [get_set2, hi, false_and, if_false]

theorem rGr (cx : Cx) (env : Env) (σ : AS)  (hlen : env.length = 122) (hcx : cx.esc = [])  :
    Pc Try.prog how cx [] 122 [2] (cr [.r, .r, .r, .l, .r, .i, .i, .r, .r, .l, .i, .r, .l, .r, .i, .i, .r, .r, .l, .i, .r, .r, .l]) env σ (.ret) (σ) (fun env' => Env.get env' 2 = .bool false) := by
  refine pc_of fun res hr => ?_
  simp -implicitDefEqProofs [-lenA, -indexAddrA, -loadA, AS.get_push_at, AS.get_push_old, AS.push_len, AS.set_st_len, AS.next_st', AS.set_push_at, AS.get_set_self, AS.get_set_other, cr, Try.f19, hlen, hcx] at hr
  subst hr
  refine ⟨_, rfl, by simp [hlen], by simp [Env.get_set, hlen], fun i hi => ?_⟩
  simp only [List.mem_cons, List.not_mem_nil, or_false, not_or] at hi
  simp only [get_set2, hi, false_and, if_false]

theorem rK1 (cx : Cx) (env : Env) (σ : AS) (c : Nat) (b b2 : Bool) (key : ByteArray) (num : Int) (hlen : env.length = 122) (hcx : cx.esc = []) (f4 : Env.get env 4 = .ptr (.st c) 0) (g4 : σ.get (.st c) = some (.cells [.str key, .int .u64 num])) (h18 : callW Try.prog how 18 [.str key] σ cx.ro = some (.bool b, σ)) :
    Pc Try.prog how cx [] 122 [74, 75, 76, 77] (cr [.r, .r, .r, .l, .r, .i, .i, .r, .r, .l, .i, .r, .r, .l]) env σ (.normal) (σ) (fun env' => Env.get env' 77 = .bool (!b)) := by
  refine pc_of fun res hr => ?_
  simp -implicitDefEqProofs [AS.get_push_at, AS.get_push_old, AS.push_len, AS.set_st_len, AS.next_st', AS.set_push_at, AS.get_set_self, AS.get_set_other, cr, Try.f19, hlen, hcx, f4, g4, h18] at hr
  subst hr
  refine ⟨_, rfl, by simp [hlen], by simp [Env.get_set, hlen, f4, g4, h18], fun i hi => ?_⟩
  simp only [List.mem_cons, List.not_mem_nil, or_false, not_or] at hi
  simp only [get_set2, hi, false_and, if_false]

theorem rKr1 (cx : Cx) (env : Env) (σ : AS)  (hlen : env.length = 122) (hcx : cx.esc = [])  :
    Pc Try.prog how cx [] 122 [2] (cr [.r, .r, .r, .l, .r, .i, .i, .r, .r, .l, .i, .r, .r, .r, .l]) env σ (.ret) (σ) (fun env' => Env.get env' 2 = .bool false) := by
  refine pc_of fun res hr => ?_
  simp -implicitDefEqProofs [-lenA, -indexAddrA, -loadA, AS.get_push_at, AS.get_push_old, AS.push_len, AS.set_st_len, AS.next_st', AS.set_push_at, AS.get_set_self, AS.get_set_other, cr, Try.f19, hlen, hcx] at hr
  subst hr
  refine ⟨_, rfl, by simp [hlen], by simp [Env.get_set, hlen], fun i hi => ?_⟩
  simp only [List.mem_cons, List.not_mem_nil, or_false, not_or] at hi
  simp only [get_set2, hi, false_and, if_false]

end
/-- What holds ahead of round k. -/
def Ji1 (h : Nat) (σ0 : AS) (a c kk n : Nat) (cl sq : Int) (pl : Bool) (X Y : AV) (key : ByteArray) (num : Int) (P : AV) (rs : List RdI) (k : Nat) (env : Env) (σ : AS) : Prop :=
  Env.get env 1 = .ptr (.st a) 0 ∧ Env.get env 52 = X ∧ Env.get env 53 = .int .i64 (n : Int) ∧ Env.get env 54 = .int .i64 (kk : Int) ∧ Env.get env 4 = .ptr (.st c) 0 ∧ Env.get env 62 = P ∧ (σ.get (.st a) = some (.cells [.int .i64 cl, .int .u64 sq, .bool pl, X, Y])) ∧ (σ.get (.st c) = some (.cells [.str key, .int .u64 num])) ∧ Outside h σ0 σ
def Exi1 (h : Nat) (σ0 : AS) (a c kk n : Nat) (cl sq : Int) (pl : Bool) (X Y : AV) (key : ByteArray) (num : Int) (P : AV) (rs : List RdI) (e : AExit) (env : Env) (σ : AS) : Prop := e = .ret ∧ Env.get env 2 = .bool false ∧ Outside h σ0 σ ∧ env.length = 122
theorem Ji1_stable {h : Nat} {σ0 : AS} {a c kk n : Nat} {cl sq : Int} {pl : Bool} {X Y : AV} {key : ByteArray} {num : Int} {P : AV} {rs : List RdI} : ∀ k env env' σ, env.length = 122 → env'.length = 122 → (∀ i, i ≠ 65 → i ≠ 73 → i ≠ 64 → Env.get env' i = Env.get env i) → Ji1 h σ0 a c kk n cl sq pl X Y key num P rs k env σ → Ji1 h σ0 a c kk n cl sq pl X Y key num P rs k env' σ := by
  rintro k env env' σ _ _ hf ⟨j1, j52, j53, j54, j4, j62, q0, q1, ho⟩
  exact ⟨(hf 1 (by decide) (by decide) (by decide)).trans j1, (hf 52 (by decide) (by decide) (by decide)).trans j52, (hf 53 (by decide) (by decide) (by decide)).trans j53, (hf 54 (by decide) (by decide) (by decide)).trans j54, (hf 4 (by decide) (by decide) (by decide)).trans j4, (hf 62 (by decide) (by decide) (by decide)).trans j62, q0, q1, ho⟩
noncomputable def oTi1 : Oper := (opsOf (cr [.r, .r, .r, .l, .r, .i, .i, .r, .r, .l, .i, .r, .l, .r, .i, .i, .l])).headD default
noncomputable def oIi1 : List Oper := opsOf (cr [.r, .r, .r, .l, .r, .i, .i, .r, .r, .l, .i, .r, .l, .r, .i, .i, .r, .r, .r])
theorem loop_eqi1 : (cr [.r, .r, .r, .l, .r, .i, .i, .r, .r, .l, .i, .r, .l, .r]) = .block 2 (.loop (.seq (.region 9 #[oTi1] false) (.seq (.cond (.tmp 65) .skip (.exit 2)) (.seq (.block 3 (.seq (cr [.r, .r, .r, .l, .r, .i, .i, .r, .r, .l, .i, .r, .l, .r, .i, .i, .r, .r, .l, .i, .l]) (.seq (cr [.r, .r, .r, .l, .r, .i, .i, .r, .r, .l, .i, .r, .l, .r, .i, .i, .r, .r, .l, .i, .r, .l]) (.cond (.tmp 72) (cr [.r, .r, .r, .l, .r, .i, .i, .r, .r, .l, .i, .r, .l, .r, .i, .i, .r, .r, .l, .i, .r, .r, .l]) .skip)))) (.region 13 #[oIi1.headD default, (oIi1.drop 1).headD default] false))))) := by kernel_rfl
theorem stepi1 (cx : Cx) (hcx : cx.esc = []) (hro : ∀ k, cx.ro = some k → k ≤ cx.h) (σ0 : AS) (a c kk n : Nat) (cl sq : Int) (pl : Bool) (X Y : AV) (key : ByteArray) (num : Int) (P : AV) (rs : List RdI) (hS : SlOf 2 P (rs.map encRd)) :
    ∀ k env σ, k < rs.length → env.length = 122 → Env.get env 64 = .int .i64 (k : Int) → Env.get env 63 = .int .i64 ((rs.length : Nat) : Int) → Ji1 cx.h σ0 a c kk n cl sq pl X Y key num P rs k env σ → ∃ e env' σ', execW Try.prog cx [] (callW Try.prog how) (.block 3 (.seq (cr [.r, .r, .r, .l, .r, .i, .i, .r, .r, .l, .i, .r, .l, .r, .i, .i, .r, .r, .l, .i, .l]) (.seq (cr [.r, .r, .r, .l, .r, .i, .i, .r, .r, .l, .i, .r, .l, .r, .i, .i, .r, .r, .l, .i, .r, .l]) (.cond (.tmp 72) (cr [.r, .r, .r, .l, .r, .i, .i, .r, .r, .l, .i, .r, .l, .r, .i, .i, .r, .r, .l, .i, .r, .r, .l]) .skip)))) (env, σ) = some (e, (env', σ')) ∧
      ((e = .normal ∧ env'.length = 122 ∧ Env.get env' 64 = .int .i64 (k : Int) ∧ Env.get env' 63 = .int .i64 ((rs.length : Nat) : Int) ∧ Ji1 cx.h σ0 a c kk n cl sq pl X Y key num P rs (k + 1) env' σ') ∨ (e ≠ .normal ∧ Exi1 cx.h σ0 a c kk n cl sq pl X Y key num P rs e env' σ')) := by
  rintro k env σ hk hlen f64 f63 ⟨f1, f52, f53, f54, f4, f62, q0, q1, ho⟩
  obtain ⟨p, hia, hpa⟩ := (rd29 (σ := σ) hS).2 k (encRd rs[k]) (get_el hk)
  obtain ⟨env1, x1a, x1b, x1c, x1d⟩ := rF1 cx env σ k P p (rs[k].1) (rs[k].2) hlen hcx f62 f64 hia hpa (wokst hro ho.2.2) ho.2.2
  have f1 := (x1d 1 (by decide)).trans f1
  have f4 := (x1d 4 (by decide)).trans f4
  have f52 := (x1d 52 (by decide)).trans f52
  have f53 := (x1d 53 (by decide)).trans f53
  have f54 := (x1d 54 (by decide)).trans f54
  have f62 := (x1d 62 (by decide)).trans f62
  have f63 := (x1d 63 (by decide)).trans f63
  have f64 := (x1d 64 (by decide)).trans f64
  have f6 := x1c
  have g1 : ((σ : AS).push false (.cells [.str rs[k].1, .int .u64 rs[k].2])).get (.st (σ : AS).st.length) = some (.cells [.str rs[k].1, .int .u64 rs[k].2]) := AS.get_push_at rfl
  have q0 := get_push' (ob' := .cells [.str rs[k].1, .int .u64 rs[k].2]) q0
  have q1 := get_push' (ob' := .cells [.str rs[k].1, .int .u64 rs[k].2]) q1
  have ho := ho.push (ob := .cells [.str rs[k].1, .int .u64 rs[k].2])
  generalize hib1 : (σ : AS).st.length = ib1 at g1 f6
  generalize (σ : AS).push false (.cells [.str rs[k].1, .int .u64 rs[k].2]) = σ1 at x1a g1 q0 q1 ho
  obtain ⟨env2, x2a, x2b, x2c, x2d⟩ := rG1 cx env1 σ1 c _ key num (rs[k].1) (rs[k].2) x1b hcx f4 f6 q1 g1 
  have f1 := (x2d 1 (by decide)).trans f1
  have f4 := (x2d 4 (by decide)).trans f4
  have f6 := (x2d 6 (by decide)).trans f6
  have f52 := (x2d 52 (by decide)).trans f52
  have f53 := (x2d 53 (by decide)).trans f53
  have f54 := (x2d 54 (by decide)).trans f54
  have f62 := (x2d 62 (by decide)).trans f62
  have f63 := (x2d 63 (by decide)).trans f63
  have f64 := (x2d 64 (by decide)).trans f64
  have f72 := x2c
  cases q : beqS rs[k].1 key with
  | true =>
    rw [q] at f72
    have ev1 := ev_tmp f72
    obtain ⟨env3, x3a, x3b, x3c, x3d⟩ := rGr cx env2 σ1  x2b hcx   
    have f1 := (x3d 1 (by decide)).trans f1
    have f4 := (x3d 4 (by decide)).trans f4
    have f6 := (x3d 6 (by decide)).trans f6
    have f52 := (x3d 52 (by decide)).trans f52
    have f53 := (x3d 53 (by decide)).trans f53
    have f54 := (x3d 54 (by decide)).trans f54
    have f62 := (x3d 62 (by decide)).trans f62
    have f63 := (x3d 63 (by decide)).trans f63
    have f64 := (x3d 64 (by decide)).trans f64
    have f72 := (x3d 72 (by decide)).trans f72
    have f2 := x3c
    exact ⟨.ret, env3, _, (block_exit (execW_seq_of x1a (execW_seq_of x2a (execW_cond_t ev1 x3a))) (by simp)), .inr ⟨by simp, rfl, f2, ho, x3b⟩⟩
  | false =>
    rw [q] at f72
    have ev1 := ev_tmp f72
    exact ⟨.normal, env2, _, (execW_block_of (execW_seq_of x1a (execW_seq_of x2a (execW_cond_f ev1 (by rfl))))), .inl ⟨rfl, x2b, f64, f63, f1, f52, f53, f54, f4, f62, q0, q1, ho⟩⟩
theorem loopi1 (cx : Cx) (hcx : cx.esc = []) (hro : ∀ k, cx.ro = some k → k ≤ cx.h) (σ0 : AS) (a c kk n : Nat) (cl sq : Int) (pl : Bool) (X Y : AV) (key : ByteArray) (num : Int) (P : AV) (rs : List RdI) (hS : SlOf 2 P (rs.map encRd)) (hnn : rs.length ≤ 9223372036854775807) {env : Env} {σ : AS} (hl : env.length = 122) (h1 : Env.get env 64 = .int .i64 0) (h2 : Env.get env 63 = .int .i64 ((rs.length : Nat) : Int)) (h0 : Ji1 cx.h σ0 a c kk n cl sq pl X Y key num P rs 0 env σ) :
    ∃ e env' σ', execW Try.prog cx [] (callW Try.prog how) (cr [.r, .r, .r, .l, .r, .i, .i, .r, .r, .l, .i, .r, .l, .r]) (env, σ) = some (e, (env', σ')) ∧ ((e = .normal ∧ ((env'.length = 122 ∧ Ji1 cx.h σ0 a c kk n cl sq pl X Y key num P rs (rs.length) env' σ') ∨ Exi1 cx.h σ0 a c kk n cl sq pl X Y key num P rs (.exit 2) env' σ')) ∨ (e ≠ .normal ∧ e ≠ .exit 2 ∧ Exi1 cx.h σ0 a c kk n cl sq pl X Y key num P rs e env' σ')) := by
  rw [loop_eqi1]
  exact range_std (Ex := Exi1 cx.h σ0 a c kk n cl sq pl X Y key num P rs) (N := 122) (tc := 65) (ti := 64) (tl := 63) (tx := 73) (ty1 := 3) (ty2 := 3) (ty3 := 3) (ty4 := 3) ⟨by kernel_rfl, by kernel_rfl, by kernel_rfl⟩ ⟨by kernel_rfl, by kernel_rfl, by kernel_rfl⟩ ⟨by kernel_rfl, by kernel_rfl, by kernel_rfl⟩ (by decide) hnn Ji1_stable (stepi1 cx hcx hro σ0 a c kk n cl sq pl X Y key num P rs hS) hl h1 h2 h0
/-- What holds ahead of round k. -/
def Jo1 (h : Nat) (σ0 : AS) (a : Nat) (cl sq : Int) (pl : Bool) (X Y : AV) (rs : List RdI) (k : Nat) (env : Env) (σ : AS) : Prop :=
  Env.get env 1 = .ptr (.st a) 0 ∧ Env.get env 52 = X ∧ (σ.get (.st a) = some (.cells [.int .i64 cl, .int .u64 sq, .bool pl, X, Y])) ∧ Outside h σ0 σ
def Exo1 (h : Nat) (σ0 : AS) (a : Nat) (cl sq : Int) (pl : Bool) (X Y : AV) (rs : List RdI) (e : AExit) (env : Env) (σ : AS) : Prop := e = .ret ∧ Env.get env 2 = .bool false ∧ Outside h σ0 σ ∧ env.length = 122
theorem Jo1_stable {h : Nat} {σ0 : AS} {a : Nat} {cl sq : Int} {pl : Bool} {X Y : AV} {rs : List RdI} : ∀ k env env' σ, env.length = 122 → env'.length = 122 → (∀ i, i ≠ 55 → i ≠ 78 → i ≠ 54 → Env.get env' i = Env.get env i) → Jo1 h σ0 a cl sq pl X Y rs k env σ → Jo1 h σ0 a cl sq pl X Y rs k env' σ := by
  rintro k env env' σ _ _ hf ⟨j1, j52, q0, ho⟩
  exact ⟨(hf 1 (by decide) (by decide) (by decide)).trans j1, (hf 52 (by decide) (by decide) (by decide)).trans j52, q0, ho⟩
noncomputable def oTo1 : Oper := (opsOf (cr [.r, .r, .r, .l, .r, .i, .i, .l])).headD default
noncomputable def oIo1 : List Oper := opsOf (cr [.r, .r, .r, .l, .r, .i, .i, .r, .r, .r])
theorem loop_eqo1 : (cr [.r, .r, .r, .l, .r]) = .block 0 (.loop (.seq (.region 6 #[oTo1] false) (.seq (.cond (.tmp 55) .skip (.exit 0)) (.seq (.block 1 (.seq (cr [.r, .r, .r, .l, .r, .i, .i, .r, .r, .l, .i, .l]) (.seq (.seq (cr [.r, .r, .r, .l, .r, .i, .i, .r, .r, .l, .i, .r, .l, .l]) (cr [.r, .r, .r, .l, .r, .i, .i, .r, .r, .l, .i, .r, .l, .r])) (.seq (cr [.r, .r, .r, .l, .r, .i, .i, .r, .r, .l, .i, .r, .r, .l]) (.cond (.tmp 77) (cr [.r, .r, .r, .l, .r, .i, .i, .r, .r, .l, .i, .r, .r, .r, .l]) .skip))))) (.region 16 #[oIo1.headD default, (oIo1.drop 1).headD default] false))))) := by kernel_rfl
theorem stepo1 (cx : Cx) (hcx : cx.esc = []) (hro : ∀ k, cx.ro = some k → k ≤ cx.h) (σ0 : AS) (a : Nat) (cl sq : Int) (pl : Bool) (X Y : AV) (rs : List RdI) (hX : Plain X) (hY : Plain Y) (hS : SlOf 2 X (rs.map encRd)) (hok : RdsOk rs) (hle : rs.length ≤ 900) :
    ∀ k env σ, k < rs.length → env.length = 122 → Env.get env 54 = .int .i64 (k : Int) → Env.get env 53 = .int .i64 ((rs.length : Nat) : Int) → Jo1 cx.h σ0 a cl sq pl X Y rs k env σ → ∃ e env' σ', execW Try.prog cx [] (callW Try.prog how) (.block 1 (.seq (cr [.r, .r, .r, .l, .r, .i, .i, .r, .r, .l, .i, .l]) (.seq (.seq (cr [.r, .r, .r, .l, .r, .i, .i, .r, .r, .l, .i, .r, .l, .l]) (cr [.r, .r, .r, .l, .r, .i, .i, .r, .r, .l, .i, .r, .l, .r])) (.seq (cr [.r, .r, .r, .l, .r, .i, .i, .r, .r, .l, .i, .r, .r, .l]) (.cond (.tmp 77) (cr [.r, .r, .r, .l, .r, .i, .i, .r, .r, .l, .i, .r, .r, .r, .l]) .skip))))) (env, σ) = some (e, (env', σ')) ∧
      ((e = .normal ∧ env'.length = 122 ∧ Env.get env' 54 = .int .i64 (k : Int) ∧ Env.get env' 53 = .int .i64 ((rs.length : Nat) : Int) ∧ Jo1 cx.h σ0 a cl sq pl X Y rs (k + 1) env' σ') ∨ (e ≠ .normal ∧ Exo1 cx.h σ0 a cl sq pl X Y rs e env' σ')) := by
  rintro k env σ hk hlen f54 f53 ⟨f1, f52, q0, ho⟩
  obtain ⟨p, hia, hpa⟩ := (rd29 (σ := σ) hS).2 k (encRd rs[k]) (get_el hk)
  obtain ⟨env1, x1a, x1b, x1c, x1d⟩ := rE1 cx env σ k X p (rs[k].1) (rs[k].2) hlen hcx f52 f54 hia hpa (wokst hro ho.2.2) ho.2.2
  have f1 := (x1d 1 (by decide)).trans f1
  have f52 := (x1d 52 (by decide)).trans f52
  have f53 := (x1d 53 (by decide)).trans f53
  have f54 := (x1d 54 (by decide)).trans f54
  have f3 := x1c.1
  have f4 := x1c.2
  have g1 : ((σ : AS).push false (.cells [.str rs[k].1, .int .u64 rs[k].2])).get (.st (σ : AS).st.length) = some (.cells [.str rs[k].1, .int .u64 rs[k].2]) := AS.get_push_at rfl
  have q0 := get_push' (ob' := .cells [.str rs[k].1, .int .u64 rs[k].2]) q0
  have ho := ho.push (ob := .cells [.str rs[k].1, .int .u64 rs[k].2])
  generalize hib1 : (σ : AS).st.length = ib1 at g1 f4
  generalize (σ : AS).push false (.cells [.str rs[k].1, .int .u64 rs[k].2]) = σ1 at x1a g1 q0 ho
  have hP : SlOf 2 (.sl false 2 ((rs.map encRd).take k)) ((rs.take k).map encRd) := .inr (by rw [List.map_take])
  have hZs := hS.sl k (by rw [List.length_map]; exact hk)
  have hsl : sliceA Try.prog σ1 29 X none (some (.int .i64 (k : Int))) none = some (.sl false 2 ((rs.map encRd).take k)) := by rw [hZs]; exact slice_pre Try.underlying29 s55 (by rw [List.length_map]; exact hk)
  have hlp := (rd29 (σ := σ1) hP).1
  obtain ⟨env2, x2a, x2b, x2c, x2d⟩ := rP1 cx env1 σ1 a k _ _ cl sq pl X Y x1b hcx f1 f3 q0 hX hY hP.plain hsl hlp 
  have f1 := (x2d 1 (by decide)).trans f1
  have f3 := (x2d 3 (by decide)).trans f3
  have f4 := (x2d 4 (by decide)).trans f4
  have f52 := (x2d 52 (by decide)).trans f52
  have f53 := (x2d 53 (by decide)).trans f53
  have f54 := (x2d 54 (by decide)).trans f54
  have f62 := x2c.1
  have f63 := x2c.2.1
  have f64 := x2c.2.2
  rw [List.length_map] at f63
  obtain ⟨e3, env3, σ3, x3a, x3p⟩ := loopi1 cx hcx hro σ0 a _ k rs.length cl sq pl X Y rs[k].1 rs[k].2 _ (rs.take k) hP (by rw [List.length_take]; omega) (σ := σ1) x2b f64 f63 (⟨f1, f52, f53, f54, f4, f62, q0, g1, ho⟩)
  rcases x3p with ⟨rfl, ⟨x3b, f1, f52, f53, f54, f4, f62, q0, q1, ho⟩ | x3p⟩ | ⟨x3q, x3r, x3p⟩
  · skip
    have hq1 : rs[k].1.size ≤ 9223372036854775807 := hok rs[k] (List.getElem_mem hk)
    have h18 := f18_ok σ3.hp σ3.st cx.ro rs[k].1 (fun j hj => Nat.le_trans (hro j hj) ho.2.2) hq1
    obtain ⟨env4, x4a, x4b, x4c, x4d⟩ := rK1 cx env3 σ3 _ _ true (rs[k].1) (rs[k].2) x3b hcx f4 q1 h18 
    have f1 := (x4d 1 (by decide)).trans f1
    have f4 := (x4d 4 (by decide)).trans f4
    have f52 := (x4d 52 (by decide)).trans f52
    have f53 := (x4d 53 (by decide)).trans f53
    have f54 := (x4d 54 (by decide)).trans f54
    have f62 := (x4d 62 (by decide)).trans f62
    have f77 := x4c
    cases q : (!keyOk rs[k].1) with
    | true =>
      rw [q] at f77
      have ev1 := ev_tmp f77
      obtain ⟨env5, x5a, x5b, x5c, x5d⟩ := rKr1 cx env4 σ3  x4b hcx   
      have f1 := (x5d 1 (by decide)).trans f1
      have f4 := (x5d 4 (by decide)).trans f4
      have f52 := (x5d 52 (by decide)).trans f52
      have f53 := (x5d 53 (by decide)).trans f53
      have f54 := (x5d 54 (by decide)).trans f54
      have f62 := (x5d 62 (by decide)).trans f62
      have f77 := (x5d 77 (by decide)).trans f77
      have f2 := x5c
      exact ⟨.ret, env5, _, (block_exit (execW_seq_of x1a (execW_seq_of (execW_seq_of x2a x3a) (execW_seq_of x4a (execW_cond_t ev1 x5a)))) (by simp)), .inr ⟨by simp, rfl, f2, ho, x5b⟩⟩
    | false =>
      rw [q] at f77
      have ev1 := ev_tmp f77
      exact ⟨.normal, env4, _, (execW_block_of (execW_seq_of x1a (execW_seq_of (execW_seq_of x2a x3a) (execW_seq_of x4a (execW_cond_f ev1 (by rfl)))))), .inl ⟨rfl, x4b, f54, f53, f1, f52, q0, ho⟩⟩
  · cases x3p.1
  · obtain ⟨rfl, f2, ho, x3b⟩ := x3p
    exact ⟨.ret, env3, _, (block_exit (execW_seq_of x1a (execW_seq_ret (execW_seq_of x2a x3a))) (by simp)), .inr ⟨by simp, rfl, f2, ho, x3b⟩⟩
theorem loopo1 (cx : Cx) (hcx : cx.esc = []) (hro : ∀ k, cx.ro = some k → k ≤ cx.h) (σ0 : AS) (a : Nat) (cl sq : Int) (pl : Bool) (X Y : AV) (rs : List RdI) (hX : Plain X) (hY : Plain Y) (hS : SlOf 2 X (rs.map encRd)) (hok : RdsOk rs) (hle : rs.length ≤ 900) (hnn : rs.length ≤ 9223372036854775807) {env : Env} {σ : AS} (hl : env.length = 122) (h1 : Env.get env 54 = .int .i64 0) (h2 : Env.get env 53 = .int .i64 ((rs.length : Nat) : Int)) (h0 : Jo1 cx.h σ0 a cl sq pl X Y rs 0 env σ) :
    ∃ e env' σ', execW Try.prog cx [] (callW Try.prog how) (cr [.r, .r, .r, .l, .r]) (env, σ) = some (e, (env', σ')) ∧ ((e = .normal ∧ ((env'.length = 122 ∧ Jo1 cx.h σ0 a cl sq pl X Y rs (rs.length) env' σ') ∨ Exo1 cx.h σ0 a cl sq pl X Y rs (.exit 0) env' σ')) ∨ (e ≠ .normal ∧ e ≠ .exit 0 ∧ Exo1 cx.h σ0 a cl sq pl X Y rs e env' σ')) := by
  rw [loop_eqo1]
  exact range_std (Ex := Exo1 cx.h σ0 a cl sq pl X Y rs) (N := 122) (tc := 55) (ti := 54) (tl := 53) (tx := 78) (ty1 := 3) (ty2 := 3) (ty3 := 3) (ty4 := 3) ⟨by kernel_rfl, by kernel_rfl, by kernel_rfl⟩ ⟨by kernel_rfl, by kernel_rfl, by kernel_rfl⟩ ⟨by kernel_rfl, by kernel_rfl, by kernel_rfl⟩ (by decide) hnn Jo1_stable (stepo1 cx hcx hro σ0 a cl sq pl X Y rs hX hY hS hok hle) hl h1 h2 h0
section
attribute [local simp] ofV ofCell ofCells seqA_nil seqA_cons seqVK_eq seqEK_eq wantedA yieldedA isVal effA ev evs evps putE optsA optsOk valA fieldAddrA fieldA loadA partA aggA isAggD buildA placesA fillA lay storeA AV.withCells buildSliceA elemsA rowParts fzL promL okE isSrc bytesOk pushA cxOf lenA binA intBinA strBinA unA indexAddrA eqA AVs.inb AV.inb Loc.inb calleeA opsOf sub bodyOf Env.get_set quietA_nil quietA_cons quietK_none quietK_some qstep newA isNew escNew boxOk newLoc flat rowPartsQ quietN quietOp isBS List.takeWhile finishA_eq finK_ret finK_normal retK backK resA oneA AV.back AVs.back execW_seq_eq seqK_normal seqK_ret seqK_exit execW_cond_eq condK_true condK_false execW_block_eq blockK_exit blockK_normal blockK_ret execW_region_eq regK_eq execW_skip execW_exit execW_ret regionA_plain regionA_quiet0 tailK_eq nilCheckA guardOk isConst lookupA keyFits mapUpdateA beqI bneI
theorem rH2 (cx : Cx) (env : Env) (σ : AS) (a n : Nat) (cl sq : Int) (pl : Bool) (X Y : AV) (hlen : env.length = 122) (hcx : cx.esc = []) (f1 : Env.get env 1 = .ptr (.st a) 0) (g1 : σ.get (.st a) = some (.cells [.int .i64 cl, .int .u64 sq, .bool pl, X, Y])) (hX : Plain X) (hY : Plain Y) (hl : lenA Try.prog σ 30 Y = some n) :
    Pc Try.prog how cx [] 122 [79, 80, 81, 82] (cr [.r, .r, .r, .r, .l, .l]) env σ (.normal) (σ) (fun env' => Env.get env' 80 = Y ∧ Env.get env' 81 = .int .i64 (n : Int) ∧ Env.get env' 82 = .int .i64 0) := by
  refine pc_of fun res hr => ?_
  simp -implicitDefEqProofs [-lenA, AS.get_push_at, AS.get_push_old, AS.push_len, AS.set_st_len, AS.next_st', AS.set_push_at, AS.get_set_self, AS.get_set_other, cr, Try.f19, hlen, hcx, f1, g1, hX.one, hX.inb, hX.row, hX.cells, hY.one, hY.inb, hY.row, hY.cells, hl] at hr
  subst hr
  refine ⟨_, rfl, by simp [hlen], by simp [Env.get_set, hlen, f1, g1, hX.one, hX.inb, hX.row, hX.cells, hY.one, hY.inb, hY.row, hY.cells, hl], fun i hi => ?_⟩
  simp only [List.mem_cons, List.not_mem_nil, or_false, not_or] at hi
  simp only [get_set2, hi, false_and, if_false]

theorem rE2 (cx : Cx) (env : Env) (σ : AS) (k : Nat) (Z p : AV) (key : ByteArray) (val : ByteArray) (gone : Bool) (hlen : env.length = 122) (hcx : cx.esc = []) (f80 : Env.get env 80 = Z) (f82 : Env.get env 82 = .int .i64 (k : Int)) (hia : indexAddrA Try.prog σ 30 Z (.int .i64 (k : Int)) = some p) (hpa : loadA Try.prog σ 76 p = some (.agg [.str key, .str val, .bool gone])) (hw : wok cx.ro (.st σ.st.length) = true) (hh : cx.h ≤ σ.st.length) :
    Pc Try.prog how cx [] 122 [7, 8, 84, 85, 86] (cr [.r, .r, .r, .r, .l, .r, .i, .i, .r, .r, .l, .i, .l]) env σ (.normal) (σ.push false (.cells [.str key, .str val, .bool gone])) (fun env' => Env.get env' 7 = .int .i64 (k : Int) ∧ Env.get env' 8 = .ptr (.st σ.st.length) 0) := by
  refine pc_of fun res hr => ?_
  simp -implicitDefEqProofs [-lenA, -indexAddrA, -loadA, AS.get_push_at, AS.get_push_old, AS.push_len, AS.set_st_len, AS.next_st', AS.set_push_at, AS.get_set_self, AS.get_set_other, cr, Try.f19, hlen, hcx, f80, f82, hia, hpa, hw, hh] at hr
  subst hr
  refine ⟨_, rfl, by simp [hlen], by simp [Env.get_set, hlen, f80, f82, hia, hpa, hw, hh], fun i hi => ?_⟩
  simp only [List.mem_cons, List.not_mem_nil, or_false, not_or] at hi
  simp only [get_set2, hi, false_and, if_false]

theorem rP2 (cx : Cx) (env : Env) (σ : AS) (a k n : Nat) (P : AV) (cl sq : Int) (pl : Bool) (X Y : AV) (hlen : env.length = 122) (hcx : cx.esc = []) (f1 : Env.get env 1 = .ptr (.st a) 0) (f7 : Env.get env 7 = .int .i64 (k : Int)) (g1 : σ.get (.st a) = some (.cells [.int .i64 cl, .int .u64 sq, .bool pl, X, Y])) (hX : Plain X) (hY : Plain Y) (hP : Plain P) (hsl : sliceA Try.prog σ 30 Y none (some (.int .i64 (k : Int))) none = some P) (hl : lenA Try.prog σ 30 P = some n) :
    Pc Try.prog how cx [] 122 [87, 88, 89, 90, 91, 92] (cr [.r, .r, .r, .r, .l, .r, .i, .i, .r, .r, .l, .i, .r, .l, .l]) env σ (.normal) (σ) (fun env' => Env.get env' 90 = P ∧ Env.get env' 91 = .int .i64 (n : Int) ∧ Env.get env' 92 = .int .i64 0) := by
  refine pc_of fun res hr => ?_
  simp -implicitDefEqProofs [-lenA, AS.get_push_at, AS.get_push_old, AS.push_len, AS.set_st_len, AS.next_st', AS.set_push_at, AS.get_set_self, AS.get_set_other, cr, Try.f19, hlen, hcx, f1, f7, g1, hX.one, hX.inb, hX.row, hX.cells, hY.one, hY.inb, hY.row, hY.cells, hP.one, hP.inb, hP.row, hP.cells, hsl, hl] at hr
  subst hr
  refine ⟨_, rfl, by simp [hlen], by simp [Env.get_set, hlen, f1, f7, g1, hX.one, hX.inb, hX.row, hX.cells, hY.one, hY.inb, hY.row, hY.cells, hP.one, hP.inb, hP.row, hP.cells, hsl, hl], fun i hi => ?_⟩
  simp only [List.mem_cons, List.not_mem_nil, or_false, not_or] at hi
  simp only [get_set2, hi, false_and, if_false]

theorem rF2 (cx : Cx) (env : Env) (σ : AS) (k : Nat) (Z p : AV) (key : ByteArray) (val : ByteArray) (gone : Bool) (hlen : env.length = 122) (hcx : cx.esc = []) (f90 : Env.get env 90 = Z) (f92 : Env.get env 92 = .int .i64 (k : Int)) (hia : indexAddrA Try.prog σ 30 Z (.int .i64 (k : Int)) = some p) (hpa : loadA Try.prog σ 76 p = some (.agg [.str key, .str val, .bool gone])) (hw : wok cx.ro (.st σ.st.length) = true) (hh : cx.h ≤ σ.st.length) :
    Pc Try.prog how cx [] 122 [10, 94, 95] (cr [.r, .r, .r, .r, .l, .r, .i, .i, .r, .r, .l, .i, .r, .l, .r, .i, .i, .r, .r, .l, .i, .l]) env σ (.normal) (σ.push false (.cells [.str key, .str val, .bool gone])) (fun env' => Env.get env' 10 = .ptr (.st σ.st.length) 0) := by
  refine pc_of fun res hr => ?_
  simp -implicitDefEqProofs [-lenA, -indexAddrA, -loadA, AS.get_push_at, AS.get_push_old, AS.push_len, AS.set_st_len, AS.next_st', AS.set_push_at, AS.get_set_self, AS.get_set_other, cr, Try.f19, hlen, hcx, f90, f92, hia, hpa, hw, hh] at hr
  subst hr
  refine ⟨_, rfl, by simp [hlen], by simp [Env.get_set, hlen, f90, f92, hia, hpa, hw, hh], fun i hi => ?_⟩
  simp only [List.mem_cons, List.not_mem_nil, or_false, not_or] at hi
  simp only [get_set2, hi, false_and, if_false]

theorem rG2 (cx : Cx) (env : Env) (σ : AS) (c d : Nat) (key : ByteArray) (val : ByteArray) (gone : Bool) (key2 : ByteArray) (val2 : ByteArray) (gone2 : Bool) (hlen : env.length = 122) (hcx : cx.esc = []) (f8 : Env.get env 8 = .ptr (.st c) 0) (f10 : Env.get env 10 = .ptr (.st d) 0) (g4 : σ.get (.st c) = some (.cells [.str key, .str val, .bool gone])) (g6 : σ.get (.st d) = some (.cells [.str key2, .str val2, .bool gone2])) :
    Pc Try.prog how cx [] 122 [96, 97, 98, 99, 100] (cr [.r, .r, .r, .r, .l, .r, .i, .i, .r, .r, .l, .i, .r, .l, .r, .i, .i, .r, .r, .l, .i, .r, .l]) env σ (.normal) (σ) (fun env' => Env.get env' 100 = .bool (beqS key2 key)) := by
  refine pc_of fun res hr => ?_
  simp -implicitDefEqProofs [AS.get_push_at, AS.get_push_old, AS.push_len, AS.set_st_len, AS.next_st', AS.set_push_at, AS.get_set_self, AS.get_set_other, cr, Try.f19, hlen, hcx, f8, f10, g4, g6] at hr
  subst hr
  refine ⟨_, rfl, by simp [hlen], by simp [Env.get_set, hlen, f8, f10, g4, g6], fun i hi => ?_⟩
  simp only [List.mem_cons, List.not_mem_nil, or_false, not_or] at hi
  simp only [get_set2, hi, false_and, if_false]

theorem rGr2 (cx : Cx) (env : Env) (σ : AS)  (hlen : env.length = 122) (hcx : cx.esc = [])  :
    Pc Try.prog how cx [] 122 [2] (cr [.r, .r, .r, .r, .l, .r, .i, .i, .r, .r, .l, .i, .r, .l, .r, .i, .i, .r, .r, .l, .i, .r, .r, .l]) env σ (.ret) (σ) (fun env' => Env.get env' 2 = .bool false) := by
  refine pc_of fun res hr => ?_
  simp -implicitDefEqProofs [-lenA, -indexAddrA, -loadA, AS.get_push_at, AS.get_push_old, AS.push_len, AS.set_st_len, AS.next_st', AS.set_push_at, AS.get_set_self, AS.get_set_other, cr, Try.f19, hlen, hcx] at hr
  subst hr
  refine ⟨_, rfl, by simp [hlen], by simp [Env.get_set, hlen], fun i hi => ?_⟩
  simp only [List.mem_cons, List.not_mem_nil, or_false, not_or] at hi
  simp only [get_set2, hi, false_and, if_false]

theorem rK2 (cx : Cx) (env : Env) (σ : AS) (c : Nat) (b b2 : Bool) (key : ByteArray) (val : ByteArray) (gone : Bool) (hlen : env.length = 122) (hcx : cx.esc = []) (f8 : Env.get env 8 = .ptr (.st c) 0) (g4 : σ.get (.st c) = some (.cells [.str key, .str val, .bool gone])) (h18 : callW Try.prog how 18 [.str key] σ cx.ro = some (.bool b, σ)) (h30 : callW Try.prog how 30 [.str val] σ cx.ro = some (.bool b2, σ)) :
    Pc Try.prog how cx [] 122 [102, 103, 104, 105, 106, 107, 108, 109, 110, 111, 112, 113, 114, 115, 116, 117, 118, 119, 120] (cr [.r, .r, .r, .r, .l, .r, .i, .i, .r, .r, .l, .i, .r, .r, .l]) env σ (.normal) (σ) (fun env' => Env.get env' 120 = .bool (!b || (!b2 || (gone && !beqS val ⟨#[]⟩)))) := by
  cases b <;> cases b2 <;> cases gone <;> cases p1 : beqS val ⟨#[]⟩
  all_goals first | (fail; done) | (
      refine pc_of fun res hr => ?_
      simp -implicitDefEqProofs [AS.get_push_at, AS.get_push_old, AS.push_len, AS.set_st_len, AS.next_st', AS.set_push_at, AS.get_set_self, AS.get_set_other, cr, Try.f19, hlen, hcx, f8, g4, h18, h30, p1] at hr
      subst hr
      refine ⟨_, rfl, by simp [hlen], by simp [Env.get_set, hlen, f8, g4, h18, h30, p1], fun i hi => ?_⟩
      simp only [List.mem_cons, List.not_mem_nil, or_false, not_or] at hi
      simp only [get_set2, hi, false_and, if_false]
    )

theorem rKr2 (cx : Cx) (env : Env) (σ : AS)  (hlen : env.length = 122) (hcx : cx.esc = [])  :
    Pc Try.prog how cx [] 122 [2] (cr [.r, .r, .r, .r, .l, .r, .i, .i, .r, .r, .l, .i, .r, .r, .r, .l]) env σ (.ret) (σ) (fun env' => Env.get env' 2 = .bool false) := by
  refine pc_of fun res hr => ?_
  simp -implicitDefEqProofs [-lenA, -indexAddrA, -loadA, AS.get_push_at, AS.get_push_old, AS.push_len, AS.set_st_len, AS.next_st', AS.set_push_at, AS.get_set_self, AS.get_set_other, cr, Try.f19, hlen, hcx] at hr
  subst hr
  refine ⟨_, rfl, by simp [hlen], by simp [Env.get_set, hlen], fun i hi => ?_⟩
  simp only [List.mem_cons, List.not_mem_nil, or_false, not_or] at hi
  simp only [get_set2, hi, false_and, if_false]

end
/-- What holds ahead of round k. -/
def Ji2 (h : Nat) (σ0 : AS) (a c kk n : Nat) (cl sq : Int) (pl : Bool) (X Y : AV) (key : ByteArray) (val : ByteArray) (gone : Bool) (P : AV) (ws : List WrI) (k : Nat) (env : Env) (σ : AS) : Prop :=
  Env.get env 1 = .ptr (.st a) 0 ∧ Env.get env 80 = Y ∧ Env.get env 81 = .int .i64 (n : Int) ∧ Env.get env 82 = .int .i64 (kk : Int) ∧ Env.get env 8 = .ptr (.st c) 0 ∧ Env.get env 90 = P ∧ (σ.get (.st a) = some (.cells [.int .i64 cl, .int .u64 sq, .bool pl, X, Y])) ∧ (σ.get (.st c) = some (.cells [.str key, .str val, .bool gone])) ∧ Outside h σ0 σ
def Exi2 (h : Nat) (σ0 : AS) (a c kk n : Nat) (cl sq : Int) (pl : Bool) (X Y : AV) (key : ByteArray) (val : ByteArray) (gone : Bool) (P : AV) (ws : List WrI) (e : AExit) (env : Env) (σ : AS) : Prop := e = .ret ∧ Env.get env 2 = .bool false ∧ Outside h σ0 σ ∧ env.length = 122
theorem Ji2_stable {h : Nat} {σ0 : AS} {a c kk n : Nat} {cl sq : Int} {pl : Bool} {X Y : AV} {key : ByteArray} {val : ByteArray} {gone : Bool} {P : AV} {ws : List WrI} : ∀ k env env' σ, env.length = 122 → env'.length = 122 → (∀ i, i ≠ 93 → i ≠ 101 → i ≠ 92 → Env.get env' i = Env.get env i) → Ji2 h σ0 a c kk n cl sq pl X Y key val gone P ws k env σ → Ji2 h σ0 a c kk n cl sq pl X Y key val gone P ws k env' σ := by
  rintro k env env' σ _ _ hf ⟨j1, j80, j81, j82, j8, j90, q0, q1, ho⟩
  exact ⟨(hf 1 (by decide) (by decide) (by decide)).trans j1, (hf 80 (by decide) (by decide) (by decide)).trans j80, (hf 81 (by decide) (by decide) (by decide)).trans j81, (hf 82 (by decide) (by decide) (by decide)).trans j82, (hf 8 (by decide) (by decide) (by decide)).trans j8, (hf 90 (by decide) (by decide) (by decide)).trans j90, q0, q1, ho⟩
noncomputable def oTi2 : Oper := (opsOf (cr [.r, .r, .r, .r, .l, .r, .i, .i, .r, .r, .l, .i, .r, .l, .r, .i, .i, .l])).headD default
noncomputable def oIi2 : List Oper := opsOf (cr [.r, .r, .r, .r, .l, .r, .i, .i, .r, .r, .l, .i, .r, .l, .r, .i, .i, .r, .r, .r])
theorem loop_eqi2 : (cr [.r, .r, .r, .r, .l, .r, .i, .i, .r, .r, .l, .i, .r, .l, .r]) = .block 6 (.loop (.seq (.region 21 #[oTi2] false) (.seq (.cond (.tmp 93) .skip (.exit 6)) (.seq (.block 7 (.seq (cr [.r, .r, .r, .r, .l, .r, .i, .i, .r, .r, .l, .i, .r, .l, .r, .i, .i, .r, .r, .l, .i, .l]) (.seq (cr [.r, .r, .r, .r, .l, .r, .i, .i, .r, .r, .l, .i, .r, .l, .r, .i, .i, .r, .r, .l, .i, .r, .l]) (.cond (.tmp 100) (cr [.r, .r, .r, .r, .l, .r, .i, .i, .r, .r, .l, .i, .r, .l, .r, .i, .i, .r, .r, .l, .i, .r, .r, .l]) .skip)))) (.region 25 #[oIi2.headD default, (oIi2.drop 1).headD default] false))))) := by kernel_rfl
theorem stepi2 (cx : Cx) (hcx : cx.esc = []) (hro : ∀ k, cx.ro = some k → k ≤ cx.h) (σ0 : AS) (a c kk n : Nat) (cl sq : Int) (pl : Bool) (X Y : AV) (key : ByteArray) (val : ByteArray) (gone : Bool) (P : AV) (ws : List WrI) (hS : SlOf 3 P (ws.map encWr)) :
    ∀ k env σ, k < ws.length → env.length = 122 → Env.get env 92 = .int .i64 (k : Int) → Env.get env 91 = .int .i64 ((ws.length : Nat) : Int) → Ji2 cx.h σ0 a c kk n cl sq pl X Y key val gone P ws k env σ → ∃ e env' σ', execW Try.prog cx [] (callW Try.prog how) (.block 7 (.seq (cr [.r, .r, .r, .r, .l, .r, .i, .i, .r, .r, .l, .i, .r, .l, .r, .i, .i, .r, .r, .l, .i, .l]) (.seq (cr [.r, .r, .r, .r, .l, .r, .i, .i, .r, .r, .l, .i, .r, .l, .r, .i, .i, .r, .r, .l, .i, .r, .l]) (.cond (.tmp 100) (cr [.r, .r, .r, .r, .l, .r, .i, .i, .r, .r, .l, .i, .r, .l, .r, .i, .i, .r, .r, .l, .i, .r, .r, .l]) .skip)))) (env, σ) = some (e, (env', σ')) ∧
      ((e = .normal ∧ env'.length = 122 ∧ Env.get env' 92 = .int .i64 (k : Int) ∧ Env.get env' 91 = .int .i64 ((ws.length : Nat) : Int) ∧ Ji2 cx.h σ0 a c kk n cl sq pl X Y key val gone P ws (k + 1) env' σ') ∨ (e ≠ .normal ∧ Exi2 cx.h σ0 a c kk n cl sq pl X Y key val gone P ws e env' σ')) := by
  rintro k env σ hk hlen f92 f91 ⟨f1, f80, f81, f82, f8, f90, q0, q1, ho⟩
  obtain ⟨p, hia, hpa⟩ := (rd30 (σ := σ) hS).2 k (encWr ws[k]) (get_el hk)
  obtain ⟨env1, x1a, x1b, x1c, x1d⟩ := rF2 cx env σ k P p (ws[k].1) (ws[k].2.1) (ws[k].2.2) hlen hcx f90 f92 hia hpa (wokst hro ho.2.2) ho.2.2
  have f1 := (x1d 1 (by decide)).trans f1
  have f8 := (x1d 8 (by decide)).trans f8
  have f80 := (x1d 80 (by decide)).trans f80
  have f81 := (x1d 81 (by decide)).trans f81
  have f82 := (x1d 82 (by decide)).trans f82
  have f90 := (x1d 90 (by decide)).trans f90
  have f91 := (x1d 91 (by decide)).trans f91
  have f92 := (x1d 92 (by decide)).trans f92
  have f10 := x1c
  have g1 : ((σ : AS).push false (.cells [.str ws[k].1, .str ws[k].2.1, .bool ws[k].2.2])).get (.st (σ : AS).st.length) = some (.cells [.str ws[k].1, .str ws[k].2.1, .bool ws[k].2.2]) := AS.get_push_at rfl
  have q0 := get_push' (ob' := .cells [.str ws[k].1, .str ws[k].2.1, .bool ws[k].2.2]) q0
  have q1 := get_push' (ob' := .cells [.str ws[k].1, .str ws[k].2.1, .bool ws[k].2.2]) q1
  have ho := ho.push (ob := .cells [.str ws[k].1, .str ws[k].2.1, .bool ws[k].2.2])
  generalize hib1 : (σ : AS).st.length = ib1 at g1 f10
  generalize (σ : AS).push false (.cells [.str ws[k].1, .str ws[k].2.1, .bool ws[k].2.2]) = σ1 at x1a g1 q0 q1 ho
  obtain ⟨env2, x2a, x2b, x2c, x2d⟩ := rG2 cx env1 σ1 c _ key val gone (ws[k].1) (ws[k].2.1) (ws[k].2.2) x1b hcx f8 f10 q1 g1 
  have f1 := (x2d 1 (by decide)).trans f1
  have f8 := (x2d 8 (by decide)).trans f8
  have f10 := (x2d 10 (by decide)).trans f10
  have f80 := (x2d 80 (by decide)).trans f80
  have f81 := (x2d 81 (by decide)).trans f81
  have f82 := (x2d 82 (by decide)).trans f82
  have f90 := (x2d 90 (by decide)).trans f90
  have f91 := (x2d 91 (by decide)).trans f91
  have f92 := (x2d 92 (by decide)).trans f92
  have f100 := x2c
  cases q : beqS ws[k].1 key with
  | true =>
    rw [q] at f100
    have ev1 := ev_tmp f100
    obtain ⟨env3, x3a, x3b, x3c, x3d⟩ := rGr2 cx env2 σ1  x2b hcx   
    have f1 := (x3d 1 (by decide)).trans f1
    have f8 := (x3d 8 (by decide)).trans f8
    have f10 := (x3d 10 (by decide)).trans f10
    have f80 := (x3d 80 (by decide)).trans f80
    have f81 := (x3d 81 (by decide)).trans f81
    have f82 := (x3d 82 (by decide)).trans f82
    have f90 := (x3d 90 (by decide)).trans f90
    have f91 := (x3d 91 (by decide)).trans f91
    have f92 := (x3d 92 (by decide)).trans f92
    have f100 := (x3d 100 (by decide)).trans f100
    have f2 := x3c
    exact ⟨.ret, env3, _, (block_exit (execW_seq_of x1a (execW_seq_of x2a (execW_cond_t ev1 x3a))) (by simp)), .inr ⟨by simp, rfl, f2, ho, x3b⟩⟩
  | false =>
    rw [q] at f100
    have ev1 := ev_tmp f100
    exact ⟨.normal, env2, _, (execW_block_of (execW_seq_of x1a (execW_seq_of x2a (execW_cond_f ev1 (by rfl))))), .inl ⟨rfl, x2b, f92, f91, f1, f80, f81, f82, f8, f90, q0, q1, ho⟩⟩
theorem loopi2 (cx : Cx) (hcx : cx.esc = []) (hro : ∀ k, cx.ro = some k → k ≤ cx.h) (σ0 : AS) (a c kk n : Nat) (cl sq : Int) (pl : Bool) (X Y : AV) (key : ByteArray) (val : ByteArray) (gone : Bool) (P : AV) (ws : List WrI) (hS : SlOf 3 P (ws.map encWr)) (hnn : ws.length ≤ 9223372036854775807) {env : Env} {σ : AS} (hl : env.length = 122) (h1 : Env.get env 92 = .int .i64 0) (h2 : Env.get env 91 = .int .i64 ((ws.length : Nat) : Int)) (h0 : Ji2 cx.h σ0 a c kk n cl sq pl X Y key val gone P ws 0 env σ) :
    ∃ e env' σ', execW Try.prog cx [] (callW Try.prog how) (cr [.r, .r, .r, .r, .l, .r, .i, .i, .r, .r, .l, .i, .r, .l, .r]) (env, σ) = some (e, (env', σ')) ∧ ((e = .normal ∧ ((env'.length = 122 ∧ Ji2 cx.h σ0 a c kk n cl sq pl X Y key val gone P ws (ws.length) env' σ') ∨ Exi2 cx.h σ0 a c kk n cl sq pl X Y key val gone P ws (.exit 6) env' σ')) ∨ (e ≠ .normal ∧ e ≠ .exit 6 ∧ Exi2 cx.h σ0 a c kk n cl sq pl X Y key val gone P ws e env' σ')) := by
  rw [loop_eqi2]
  exact range_std (Ex := Exi2 cx.h σ0 a c kk n cl sq pl X Y key val gone P ws) (N := 122) (tc := 93) (ti := 92) (tl := 91) (tx := 101) (ty1 := 3) (ty2 := 3) (ty3 := 3) (ty4 := 3) ⟨by kernel_rfl, by kernel_rfl, by kernel_rfl⟩ ⟨by kernel_rfl, by kernel_rfl, by kernel_rfl⟩ ⟨by kernel_rfl, by kernel_rfl, by kernel_rfl⟩ (by decide) hnn Ji2_stable (stepi2 cx hcx hro σ0 a c kk n cl sq pl X Y key val gone P ws hS) hl h1 h2 h0
/-- What holds ahead of round k. -/
def Jo2 (h : Nat) (σ0 : AS) (a : Nat) (cl sq : Int) (pl : Bool) (X Y : AV) (ws : List WrI) (k : Nat) (env : Env) (σ : AS) : Prop :=
  Env.get env 1 = .ptr (.st a) 0 ∧ Env.get env 80 = Y ∧ (σ.get (.st a) = some (.cells [.int .i64 cl, .int .u64 sq, .bool pl, X, Y])) ∧ Outside h σ0 σ
def Exo2 (h : Nat) (σ0 : AS) (a : Nat) (cl sq : Int) (pl : Bool) (X Y : AV) (ws : List WrI) (e : AExit) (env : Env) (σ : AS) : Prop := e = .ret ∧ Env.get env 2 = .bool false ∧ Outside h σ0 σ ∧ env.length = 122
theorem Jo2_stable {h : Nat} {σ0 : AS} {a : Nat} {cl sq : Int} {pl : Bool} {X Y : AV} {ws : List WrI} : ∀ k env env' σ, env.length = 122 → env'.length = 122 → (∀ i, i ≠ 83 → i ≠ 121 → i ≠ 82 → Env.get env' i = Env.get env i) → Jo2 h σ0 a cl sq pl X Y ws k env σ → Jo2 h σ0 a cl sq pl X Y ws k env' σ := by
  rintro k env env' σ _ _ hf ⟨j1, j80, q0, ho⟩
  exact ⟨(hf 1 (by decide) (by decide) (by decide)).trans j1, (hf 80 (by decide) (by decide) (by decide)).trans j80, q0, ho⟩
noncomputable def oTo2 : Oper := (opsOf (cr [.r, .r, .r, .r, .l, .r, .i, .i, .l])).headD default
noncomputable def oIo2 : List Oper := opsOf (cr [.r, .r, .r, .r, .l, .r, .i, .i, .r, .r, .r])
theorem loop_eqo2 : (cr [.r, .r, .r, .r, .l, .r]) = .block 4 (.loop (.seq (.region 18 #[oTo2] false) (.seq (.cond (.tmp 83) .skip (.exit 4)) (.seq (.block 5 (.seq (cr [.r, .r, .r, .r, .l, .r, .i, .i, .r, .r, .l, .i, .l]) (.seq (.seq (cr [.r, .r, .r, .r, .l, .r, .i, .i, .r, .r, .l, .i, .r, .l, .l]) (cr [.r, .r, .r, .r, .l, .r, .i, .i, .r, .r, .l, .i, .r, .l, .r])) (.seq (cr [.r, .r, .r, .r, .l, .r, .i, .i, .r, .r, .l, .i, .r, .r, .l]) (.cond (.tmp 120) (cr [.r, .r, .r, .r, .l, .r, .i, .i, .r, .r, .l, .i, .r, .r, .r, .l]) .skip))))) (.region 28 #[oIo2.headD default, (oIo2.drop 1).headD default] false))))) := by kernel_rfl
theorem stepo2 (cx : Cx) (hcx : cx.esc = []) (hro : ∀ k, cx.ro = some k → k ≤ cx.h) (σ0 : AS) (a : Nat) (cl sq : Int) (pl : Bool) (X Y : AV) (ws : List WrI) (hX : Plain X) (hY : Plain Y) (hS : SlOf 3 Y (ws.map encWr)) (hok : WrsOk ws) (hle : ws.length ≤ 900) :
    ∀ k env σ, k < ws.length → env.length = 122 → Env.get env 82 = .int .i64 (k : Int) → Env.get env 81 = .int .i64 ((ws.length : Nat) : Int) → Jo2 cx.h σ0 a cl sq pl X Y ws k env σ → ∃ e env' σ', execW Try.prog cx [] (callW Try.prog how) (.block 5 (.seq (cr [.r, .r, .r, .r, .l, .r, .i, .i, .r, .r, .l, .i, .l]) (.seq (.seq (cr [.r, .r, .r, .r, .l, .r, .i, .i, .r, .r, .l, .i, .r, .l, .l]) (cr [.r, .r, .r, .r, .l, .r, .i, .i, .r, .r, .l, .i, .r, .l, .r])) (.seq (cr [.r, .r, .r, .r, .l, .r, .i, .i, .r, .r, .l, .i, .r, .r, .l]) (.cond (.tmp 120) (cr [.r, .r, .r, .r, .l, .r, .i, .i, .r, .r, .l, .i, .r, .r, .r, .l]) .skip))))) (env, σ) = some (e, (env', σ')) ∧
      ((e = .normal ∧ env'.length = 122 ∧ Env.get env' 82 = .int .i64 (k : Int) ∧ Env.get env' 81 = .int .i64 ((ws.length : Nat) : Int) ∧ Jo2 cx.h σ0 a cl sq pl X Y ws (k + 1) env' σ') ∨ (e ≠ .normal ∧ Exo2 cx.h σ0 a cl sq pl X Y ws e env' σ')) := by
  rintro k env σ hk hlen f82 f81 ⟨f1, f80, q0, ho⟩
  obtain ⟨p, hia, hpa⟩ := (rd30 (σ := σ) hS).2 k (encWr ws[k]) (get_el hk)
  obtain ⟨env1, x1a, x1b, x1c, x1d⟩ := rE2 cx env σ k Y p (ws[k].1) (ws[k].2.1) (ws[k].2.2) hlen hcx f80 f82 hia hpa (wokst hro ho.2.2) ho.2.2
  have f1 := (x1d 1 (by decide)).trans f1
  have f80 := (x1d 80 (by decide)).trans f80
  have f81 := (x1d 81 (by decide)).trans f81
  have f82 := (x1d 82 (by decide)).trans f82
  have f7 := x1c.1
  have f8 := x1c.2
  have g1 : ((σ : AS).push false (.cells [.str ws[k].1, .str ws[k].2.1, .bool ws[k].2.2])).get (.st (σ : AS).st.length) = some (.cells [.str ws[k].1, .str ws[k].2.1, .bool ws[k].2.2]) := AS.get_push_at rfl
  have q0 := get_push' (ob' := .cells [.str ws[k].1, .str ws[k].2.1, .bool ws[k].2.2]) q0
  have ho := ho.push (ob := .cells [.str ws[k].1, .str ws[k].2.1, .bool ws[k].2.2])
  generalize hib1 : (σ : AS).st.length = ib1 at g1 f8
  generalize (σ : AS).push false (.cells [.str ws[k].1, .str ws[k].2.1, .bool ws[k].2.2]) = σ1 at x1a g1 q0 ho
  have hP : SlOf 3 (.sl false 3 ((ws.map encWr).take k)) ((ws.take k).map encWr) := .inr (by rw [List.map_take])
  have hZs := hS.sl k (by rw [List.length_map]; exact hk)
  have hsl : sliceA Try.prog σ1 30 Y none (some (.int .i64 (k : Int))) none = some (.sl false 3 ((ws.map encWr).take k)) := by rw [hZs]; exact slice_pre Try.underlying30 s76 (by rw [List.length_map]; exact hk)
  have hlp := (rd30 (σ := σ1) hP).1
  obtain ⟨env2, x2a, x2b, x2c, x2d⟩ := rP2 cx env1 σ1 a k _ _ cl sq pl X Y x1b hcx f1 f7 q0 hX hY hP.plain hsl hlp 
  have f1 := (x2d 1 (by decide)).trans f1
  have f7 := (x2d 7 (by decide)).trans f7
  have f8 := (x2d 8 (by decide)).trans f8
  have f80 := (x2d 80 (by decide)).trans f80
  have f81 := (x2d 81 (by decide)).trans f81
  have f82 := (x2d 82 (by decide)).trans f82
  have f90 := x2c.1
  have f91 := x2c.2.1
  have f92 := x2c.2.2
  rw [List.length_map] at f91
  obtain ⟨e3, env3, σ3, x3a, x3p⟩ := loopi2 cx hcx hro σ0 a _ k ws.length cl sq pl X Y ws[k].1 ws[k].2.1 ws[k].2.2 _ (ws.take k) hP (by rw [List.length_take]; omega) (σ := σ1) x2b f92 f91 (⟨f1, f80, f81, f82, f8, f90, q0, g1, ho⟩)
  rcases x3p with ⟨rfl, ⟨x3b, f1, f80, f81, f82, f8, f90, q0, q1, ho⟩ | x3p⟩ | ⟨x3q, x3r, x3p⟩
  · skip
    have hq1 : ws[k].1.size ≤ 9223372036854775807 ∧ ws[k].2.1.size ≤ 9223372036854775807 := hok ws[k] (List.getElem_mem hk)
    have h18 := f18_ok σ3.hp σ3.st cx.ro ws[k].1 (fun j hj => Nat.le_trans (hro j hj) ho.2.2) hq1.1
    have h30 := f30_ok σ3.hp σ3.st cx.ro ws[k].2.1 (fun j hj => Nat.le_trans (hro j hj) ho.2.2) hq1.2
    obtain ⟨env4, x4a, x4b, x4c, x4d⟩ := rK2 cx env3 σ3 _ _ _ (ws[k].1) (ws[k].2.1) (ws[k].2.2) x3b hcx f8 q1 h18 h30 
    have f1 := (x4d 1 (by decide)).trans f1
    have f8 := (x4d 8 (by decide)).trans f8
    have f80 := (x4d 80 (by decide)).trans f80
    have f81 := (x4d 81 (by decide)).trans f81
    have f82 := (x4d 82 (by decide)).trans f82
    have f90 := (x4d 90 (by decide)).trans f90
    have f120 := x4c
    cases q : (!keyOk ws[k].1 || (!valOk ws[k].2.1 || (ws[k].2.2 && !beqS ws[k].2.1 ⟨#[]⟩))) with
    | true =>
      rw [q] at f120
      have ev1 := ev_tmp f120
      obtain ⟨env5, x5a, x5b, x5c, x5d⟩ := rKr2 cx env4 σ3  x4b hcx   
      have f1 := (x5d 1 (by decide)).trans f1
      have f8 := (x5d 8 (by decide)).trans f8
      have f80 := (x5d 80 (by decide)).trans f80
      have f81 := (x5d 81 (by decide)).trans f81
      have f82 := (x5d 82 (by decide)).trans f82
      have f90 := (x5d 90 (by decide)).trans f90
      have f120 := (x5d 120 (by decide)).trans f120
      have f2 := x5c
      exact ⟨.ret, env5, _, (block_exit (execW_seq_of x1a (execW_seq_of (execW_seq_of x2a x3a) (execW_seq_of x4a (execW_cond_t ev1 x5a)))) (by simp)), .inr ⟨by simp, rfl, f2, ho, x5b⟩⟩
    | false =>
      rw [q] at f120
      have ev1 := ev_tmp f120
      exact ⟨.normal, env4, _, (execW_block_of (execW_seq_of x1a (execW_seq_of (execW_seq_of x2a x3a) (execW_seq_of x4a (execW_cond_f ev1 (by rfl)))))), .inl ⟨rfl, x4b, f82, f81, f1, f80, q0, ho⟩⟩
  · cases x3p.1
  · obtain ⟨rfl, f2, ho, x3b⟩ := x3p
    exact ⟨.ret, env3, _, (block_exit (execW_seq_of x1a (execW_seq_ret (execW_seq_of x2a x3a))) (by simp)), .inr ⟨by simp, rfl, f2, ho, x3b⟩⟩
theorem loopo2 (cx : Cx) (hcx : cx.esc = []) (hro : ∀ k, cx.ro = some k → k ≤ cx.h) (σ0 : AS) (a : Nat) (cl sq : Int) (pl : Bool) (X Y : AV) (ws : List WrI) (hX : Plain X) (hY : Plain Y) (hS : SlOf 3 Y (ws.map encWr)) (hok : WrsOk ws) (hle : ws.length ≤ 900) (hnn : ws.length ≤ 9223372036854775807) {env : Env} {σ : AS} (hl : env.length = 122) (h1 : Env.get env 82 = .int .i64 0) (h2 : Env.get env 81 = .int .i64 ((ws.length : Nat) : Int)) (h0 : Jo2 cx.h σ0 a cl sq pl X Y ws 0 env σ) :
    ∃ e env' σ', execW Try.prog cx [] (callW Try.prog how) (cr [.r, .r, .r, .r, .l, .r]) (env, σ) = some (e, (env', σ')) ∧ ((e = .normal ∧ ((env'.length = 122 ∧ Jo2 cx.h σ0 a cl sq pl X Y ws (ws.length) env' σ') ∨ Exo2 cx.h σ0 a cl sq pl X Y ws (.exit 4) env' σ')) ∨ (e ≠ .normal ∧ e ≠ .exit 4 ∧ Exo2 cx.h σ0 a cl sq pl X Y ws e env' σ')) := by
  rw [loop_eqo2]
  exact range_std (Ex := Exo2 cx.h σ0 a cl sq pl X Y ws) (N := 122) (tc := 83) (ti := 82) (tl := 81) (tx := 121) (ty1 := 3) (ty2 := 3) (ty3 := 3) (ty4 := 3) ⟨by kernel_rfl, by kernel_rfl, by kernel_rfl⟩ ⟨by kernel_rfl, by kernel_rfl, by kernel_rfl⟩ ⟨by kernel_rfl, by kernel_rfl, by kernel_rfl⟩ (by decide) hnn Jo2_stable (stepo2 cx hcx hro σ0 a cl sq pl X Y ws hX hY hS hok hle) hl h1 h2 h0
section
attribute [local simp] ofV ofCell ofCells seqA_nil seqA_cons seqVK_eq seqEK_eq wantedA yieldedA isVal effA ev evs evps putE optsA optsOk valA fieldAddrA fieldA loadA partA aggA isAggD buildA placesA fillA lay storeA AV.withCells buildSliceA elemsA rowParts fzL promL okE isSrc bytesOk pushA cxOf lenA binA intBinA strBinA unA indexAddrA eqA AVs.inb AV.inb Loc.inb calleeA opsOf sub bodyOf Env.get_set quietA_nil quietA_cons quietK_none quietK_some qstep newA isNew escNew boxOk newLoc flat rowPartsQ quietN quietOp isBS List.takeWhile finishA_eq finK_ret finK_normal retK backK resA oneA AV.back AVs.back execW_seq_eq seqK_normal seqK_ret seqK_exit execW_cond_eq condK_true condK_false execW_block_eq blockK_exit blockK_normal blockK_ret execW_region_eq regK_eq execW_skip execW_exit execW_ret regionA_plain regionA_quiet0 tailK_eq nilCheckA guardOk isConst lookupA keyFits mapUpdateA beqI bneI
theorem rZ (cx : Cx) (env : Env) (σ : AS)  (hlen : env.length = 122) (hcx : cx.esc = [])  :
    Pc Try.prog how cx [] 122 [2] (cr [.r, .r, .r, .r, .r, .l]) env σ (.normal) (σ) (fun env' => Env.get env' 2 = .bool true) := by
  refine pc_of fun res hr => ?_
  simp -implicitDefEqProofs [-lenA, -indexAddrA, -loadA, AS.get_push_at, AS.get_push_old, AS.push_len, AS.set_st_len, AS.next_st', AS.set_push_at, AS.get_set_self, AS.get_set_other, cr, Try.f19, hlen, hcx] at hr
  subst hr
  refine ⟨_, rfl, by simp [hlen], by simp [Env.get_set, hlen], fun i hi => ?_⟩
  simp only [List.mem_cons, List.not_mem_nil, or_false, not_or] at hi
  simp only [get_set2, hi, false_and, if_false]

end
noncomputable def bodyC : Code := (.seq (cr [.l]) (.seq (.seq (cr [.r, .l, .l]) (.cond (.tmp 36) (cr [.r, .l, .r, .l]) .skip)) (.seq (.seq (cr [.r, .r, .l, .l]) (.cond (.tmp 50) (cr [.r, .r, .l, .r, .l]) .skip)) (.seq (.seq (cr [.r, .r, .r, .l, .l]) (cr [.r, .r, .r, .l, .r])) (.seq (.seq (cr [.r, .r, .r, .r, .l, .l]) (cr [.r, .r, .r, .r, .l, .r])) (.seq (cr [.r, .r, .r, .r, .r, .l]) .ret))))))
theorem body : Try.f19.body = some bodyC := by kernel_rfl
theorem ok (hp s : List AObj) (ro : Option Nat) (cl sq : Int) (pl : Bool) (X Y : AV) (rs : List RdI) (ws : List WrI) (hro' : ∀ k, ro = some k → k ≤ s.length) (hX : SlOf 2 X (rs.map encRd)) (hY : SlOf 3 Y (ws.map encWr)) (hn1 : rs.length ≤ 900) (hn2 : ws.length ≤ 900) (ho1 : RdsOk rs) (ho2 : WrsOk ws) :
    ∃ b, callW Try.prog how 19 [.agg [.int .i64 cl, .int .u64 sq, .bool pl, X, Y]] ⟨hp, s⟩ ro = some (.bool b, ⟨hp, s⟩) := by
  let cx : Cx := { h := s.length, ro := ro, esc := [] }
  have hcx : cx.esc = [] := rfl
  have hro : ∀ k, cx.ro = some k → k ≤ cx.h := hro'
  obtain ⟨env, henv⟩ : ∃ e, e = frameA Try.f19 [.agg [.int .i64 cl, .int .u64 sq, .bool pl, X, Y]] := ⟨_, rfl⟩
  have hlen : env.length = 122 := by rw [henv]; rfl
  have f0 : Env.get env 0 = .agg [.int .i64 cl, .int .u64 sq, .bool pl, X, Y] := by rw [henv]; rfl
  have ho : Outside s.length (AS.mk hp s) (AS.mk hp s) := Outside.refl (Nat.le_refl _)
  obtain ⟨env1, x1a, x1b, x1c, x1d⟩ := rA cx env (AS.mk hp s) cl sq pl X Y hp s hlen hcx f0 rfl hX.plain hY.plain (wokst hro (Nat.le_refl _)) (Nat.le_refl _) 
  have f0 := (x1d 0 (by decide)).trans f0
  have f1 := x1c.1
  have f2 := x1c.2
  have ga : (AS.mk hp (s ++ [AObj.cells [.int .i64 cl, .int .u64 sq, .bool pl, X, Y]])).get (.st s.length) = some (.cells [.int .i64 cl, .int .u64 sq, .bool pl, X, Y]) := by simp [AS.get]
  have ho : Outside s.length (AS.mk hp s) (AS.mk hp (s ++ [AObj.cells [.int .i64 cl, .int .u64 sq, .bool pl, X, Y]])) := ⟨rfl, by simp, by simp⟩
  have h29 := f29_c hp (s ++ [AObj.cells [.int .i64 cl, .int .u64 sq, .bool pl, X, Y]]) ro cl sq (lt_app hro _)
  have hl1 := (rd29 (σ := AS.mk hp (s ++ [AObj.cells [.int .i64 cl, .int .u64 sq, .bool pl, X, Y]])) hX).1
  rw [List.length_map] at hl1
  have hl2 := (rd30 (σ := AS.mk hp (s ++ [AObj.cells [.int .i64 cl, .int .u64 sq, .bool pl, X, Y]])) hY).1
  rw [List.length_map] at hl2
  obtain ⟨env2, x2a, x2b, x2c, x2d⟩ := rB cx env1 (AS.mk hp (s ++ [AObj.cells [.int .i64 cl, .int .u64 sq, .bool pl, X, Y]])) s.length rs.length ws.length _ cl sq pl X Y x1b hcx f1 ga hX.plain hY.plain hl1 hl2 h29 (wr_ok (by omega) (by omega)) 
  have f0 := (x2d 0 (by decide)).trans f0
  have f1 := (x2d 1 (by decide)).trans f1
  have f2 := (x2d 2 (by decide)).trans f2
  have f36 := x2c
  generalize (!(decide (0 ≤ cl) && (decide (cl ≤ 5) && decide (sq ≠ 0))) || (decide ((8 : Int) < (rs.length : Int)) || (decide ((8 : Int) < (ws.length : Int)) || decide ((rs.length : Int) + (ws.length : Int) = 0)))) = b1 at f36
  have ev1 := ev_tmp f36
  cases b1 with
  | true =>
    obtain ⟨env3, x3a, x3b, x3c, x3d⟩ := rBr cx env2 (AS.mk hp (s ++ [AObj.cells [.int .i64 cl, .int .u64 sq, .bool pl, X, Y]]))  x2b hcx   
    have f0 := (x3d 0 (by decide)).trans f0
    have f1 := (x3d 1 (by decide)).trans f1
    have f36 := (x3d 36 (by decide)).trans f36
    have f2 := x3c
    exact ⟨false, call_of (fl := {}) (fn := Try.f19) (c := bodyC) (env := env) (e := (.ret, (env3, AS.mk hp (s ++ [AObj.cells [.int .i64 cl, .int .u64 sq, .bool pl, X, Y]])))) rfl Try.func19 body henv (by unfold bodyC; exact (execW_seq_of x1a (execW_seq_ret (execW_seq_of x2a (execW_cond_t ev1 x3a))))) ((fin_tmp (k := 2) (.inl rfl) rfl rfl f2 (by simp [AV.back]) (by simp [AV.inb])).trans (congrArg (fun x => some (_, x)) (outside_st ho)))⟩
  | false =>
    obtain ⟨env3, x3a, x3b, x3c, x3d⟩ := rC cx env2 (AS.mk hp (s ++ [AObj.cells [.int .i64 cl, .int .u64 sq, .bool pl, X, Y]])) s.length rs.length ws.length cl sq pl X Y x2b hcx f1 ga hX.plain hY.plain hl1 hl2 
    have f0 := (x3d 0 (by decide)).trans f0
    have f1 := (x3d 1 (by decide)).trans f1
    have f2 := (x3d 2 (by decide)).trans f2
    have f36 := (x3d 36 (by decide)).trans f36
    have f50 := x3c
    generalize (pl && (decide (0 < rs.length) || decide ((ws.length : Int) ≠ 1))) = b2 at f50
    have ev2 := ev_tmp f50
    cases b2 with
    | true =>
      obtain ⟨env4, x4a, x4b, x4c, x4d⟩ := rCr cx env3 (AS.mk hp (s ++ [AObj.cells [.int .i64 cl, .int .u64 sq, .bool pl, X, Y]]))  x3b hcx   
      have f0 := (x4d 0 (by decide)).trans f0
      have f1 := (x4d 1 (by decide)).trans f1
      have f36 := (x4d 36 (by decide)).trans f36
      have f50 := (x4d 50 (by decide)).trans f50
      have f2 := x4c
      exact ⟨false, call_of (fl := {}) (fn := Try.f19) (c := bodyC) (env := env) (e := (.ret, (env4, AS.mk hp (s ++ [AObj.cells [.int .i64 cl, .int .u64 sq, .bool pl, X, Y]])))) rfl Try.func19 body henv (by unfold bodyC; exact (execW_seq_of x1a (execW_seq_of (execW_seq_of x2a (execW_cond_f ev1 (by rfl))) (execW_seq_ret (execW_seq_of x3a (execW_cond_t ev2 x4a)))))) ((fin_tmp (k := 2) (.inl rfl) rfl rfl f2 (by simp [AV.back]) (by simp [AV.inb])).trans (congrArg (fun x => some (_, x)) (outside_st ho)))⟩
    | false =>
      obtain ⟨env4, x4a, x4b, x4c, x4d⟩ := rH1 cx env3 (AS.mk hp (s ++ [AObj.cells [.int .i64 cl, .int .u64 sq, .bool pl, X, Y]])) s.length rs.length cl sq pl X Y x3b hcx f1 ga hX.plain hY.plain hl1 
      have f0 := (x4d 0 (by decide)).trans f0
      have f1 := (x4d 1 (by decide)).trans f1
      have f2 := (x4d 2 (by decide)).trans f2
      have f36 := (x4d 36 (by decide)).trans f36
      have f50 := (x4d 50 (by decide)).trans f50
      have f52 := x4c.1
      have f53 := x4c.2.1
      have f54 := x4c.2.2
      obtain ⟨e5, env5, σ5, x5a, x5p⟩ := loopo1 cx hcx hro ⟨hp, s⟩ s.length cl sq pl X Y rs hX.plain hY.plain hX ho1 hn1 (by omega) (σ := AS.mk hp (s ++ [AObj.cells [.int .i64 cl, .int .u64 sq, .bool pl, X, Y]])) x4b f54 f53 (⟨f1, f52, ga, ho⟩)
      rcases x5p with ⟨rfl, ⟨x5b, f1, f52, q0, ho⟩ | x5p⟩ | ⟨x5q, x5r, x5p⟩
      · skip
        have hl2 := (rd30 (σ := σ5) hY).1
        rw [List.length_map] at hl2
        obtain ⟨env6, x6a, x6b, x6c, x6d⟩ := rH2 cx env5 σ5 s.length ws.length cl sq pl X Y x5b hcx f1 q0 hX.plain hY.plain hl2 
        have f1 := (x6d 1 (by decide)).trans f1
        have f52 := (x6d 52 (by decide)).trans f52
        have f80 := x6c.1
        have f81 := x6c.2.1
        have f82 := x6c.2.2
        obtain ⟨e7, env7, σ7, x7a, x7p⟩ := loopo2 cx hcx hro ⟨hp, s⟩ s.length cl sq pl X Y ws hX.plain hY.plain hY ho2 hn2 (by omega) (σ := σ5) x6b f82 f81 (⟨f1, f80, q0, ho⟩)
        rcases x7p with ⟨rfl, ⟨x7b, f1, f80, q0, ho⟩ | x7p⟩ | ⟨x7q, x7r, x7p⟩
        · skip
          obtain ⟨env8, x8a, x8b, x8c, x8d⟩ := rZ cx env7 σ7  x7b hcx   
          have f1 := (x8d 1 (by decide)).trans f1
          have f80 := (x8d 80 (by decide)).trans f80
          have f2 := x8c
          exact ⟨true, call_of (fl := {}) (fn := Try.f19) (c := bodyC) (env := env) (e := (.ret, (env8, σ7))) rfl Try.func19 body henv (by unfold bodyC; exact (execW_seq_of x1a (execW_seq_of (execW_seq_of x2a (execW_cond_f ev1 (by rfl))) (execW_seq_of (execW_seq_of x3a (execW_cond_f ev2 (by rfl))) (execW_seq_of (execW_seq_of x4a x5a) (execW_seq_of (execW_seq_of x6a x7a) (execW_seq_of x8a (by rfl)))))))) ((fin_tmp (k := 2) (.inl rfl) rfl rfl f2 (by simp [AV.back]) (by simp [AV.inb])).trans (congrArg (fun x => some (_, x)) (outside_st ho)))⟩
        · cases x7p.1
        · obtain ⟨rfl, f2, ho, x7b⟩ := x7p
          exact ⟨false, call_of (fl := {}) (fn := Try.f19) (c := bodyC) (env := env) (e := (.ret, (env7, σ7))) rfl Try.func19 body henv (by unfold bodyC; exact (execW_seq_of x1a (execW_seq_of (execW_seq_of x2a (execW_cond_f ev1 (by rfl))) (execW_seq_of (execW_seq_of x3a (execW_cond_f ev2 (by rfl))) (execW_seq_of (execW_seq_of x4a x5a) (execW_seq_ret (execW_seq_of x6a x7a))))))) ((fin_tmp (k := 2) (.inl rfl) rfl rfl f2 (by simp [AV.back]) (by simp [AV.inb])).trans (congrArg (fun x => some (_, x)) (outside_st ho)))⟩
      · cases x5p.1
      · obtain ⟨rfl, f2, ho, x5b⟩ := x5p
        exact ⟨false, call_of (fl := {}) (fn := Try.f19) (c := bodyC) (env := env) (e := (.ret, (env5, σ5))) rfl Try.func19 body henv (by unfold bodyC; exact (execW_seq_of x1a (execW_seq_of (execW_seq_of x2a (execW_cond_f ev1 (by rfl))) (execW_seq_of (execW_seq_of x3a (execW_cond_f ev2 (by rfl))) (execW_seq_ret (execW_seq_of x4a x5a)))))) ((fin_tmp (k := 2) (.inl rfl) rfl rfl f2 (by simp [AV.back]) (by simp [AV.inb])).trans (congrArg (fun x => some (_, x)) (outside_st ho)))⟩
end F19

section
attribute [local simp] ofV ofCell ofCells seqA_nil seqA_cons seqVK_eq seqEK_eq wantedA yieldedA isVal effA ev evs evps putE optsA optsOk valA fieldAddrA fieldA loadA partA aggA isAggD buildA placesA fillA lay storeA AV.withCells buildSliceA elemsA rowParts fzL promL okE isSrc bytesOk pushA cxOf lenA binA intBinA strBinA unA indexAddrA eqA AVs.inb AV.inb Loc.inb calleeA opsOf sub bodyOf Env.get_set quietA_nil quietA_cons quietK_none quietK_some qstep newA isNew escNew boxOk newLoc flat rowPartsQ quietN quietOp isBS List.takeWhile finishA_eq finK_ret finK_normal retK backK resA oneA AV.back AVs.back execW_seq_eq seqK_normal seqK_ret seqK_exit execW_cond_eq condK_true condK_false execW_block_eq blockK_exit blockK_normal blockK_ret execW_region_eq regK_eq execW_skip execW_exit execW_ret regionA_plain regionA_quiet0 tailK_eq nilCheckA guardOk isConst lookupA keyFits mapUpdateA beqI bneI
theorem f6_k (hp s : List AObj) (ro : Option Nat) (key val : ByteArray) (X Y : AV) (b : Bool) (hro : ∀ k, ro = some k → k ≤ s.length) (hX : Plain X) (hY : Plain Y) (h18 : ∀ st, callW Try.prog how 18 [.str key] ⟨hp, s ++ st⟩ ro = some (.bool b, ⟨hp, s ++ st⟩)) :
    callW Try.prog how 6 [.agg [.int .i64 1, .str key, .str val, X, Y]] ⟨hp, s⟩ ro = some (.bool b, ⟨hp, s⟩) := by
  refine callW_body (fl := {}) (fn := Try.f6) (c := bodyOf Try.f6) rfl Try.func6 rfl ?_
  have henv : ∃ e, e = frameA Try.f6 [.agg [.int .i64 1, .str key, .str val, X, Y]] := ⟨_, rfl⟩
  obtain ⟨env, henv⟩ := henv
  have hl : env.length = 13 := by rw [henv]; rfl
  have h0 : Env.get env 0 = .agg [.int .i64 1, .str key, .str val, X, Y] := by rw [henv]; rfl
  rw [← henv]
  clear henv
  simp -implicitDefEqProofs [Try.f6, hl, h0, wok_le hro, wok_le' hro, hX.one, hX.inb, hX.row, hX.back, hX.cells, hY.one, hY.inb, hY.row, hY.back, hY.cells, h18]

theorem f6_t (hp s : List AObj) (ro : Option Nat) (kind : Int) (key val : ByteArray) (X Y V : AV) (b : Bool) (hro : ∀ k, ro = some k → k ≤ s.length) (hX : Plain X) (hY : Plain Y) (q : ¬ kind = 1) (st : List AObj) (hst : st = [.cells [.int .i64 kind, .str key, .str val, X, Y]]) (h8 : callW Try.prog how 8 [.agg [.int .i64 kind, .str key, .str val, X, Y], .agg [.int .i64 0, .int .u64 1]] ⟨hp, s ++ st⟩ ro = some (V, ⟨hp, s ++ st⟩)) (h19 : callW Try.prog how 19 [V] ⟨hp, s ++ st⟩ ro = some (.bool b, ⟨hp, s ++ st⟩)) :
    callW Try.prog how 6 [.agg [.int .i64 kind, .str key, .str val, X, Y]] ⟨hp, s⟩ ro = some (.bool b, ⟨hp, s⟩) := by
  refine callW_body (fl := {}) (fn := Try.f6) (c := bodyOf Try.f6) rfl Try.func6 rfl ?_
  have henv : ∃ e, e = frameA Try.f6 [.agg [.int .i64 kind, .str key, .str val, X, Y]] := ⟨_, rfl⟩
  obtain ⟨env, henv⟩ := henv
  have hl : env.length = 13 := by rw [henv]; rfl
  have h0 : Env.get env 0 = .agg [.int .i64 kind, .str key, .str val, X, Y] := by rw [henv]; rfl
  rw [← henv]
  clear henv
  subst hst
  simp -implicitDefEqProofs [Try.f6, hl, h0, wok_le hro, wok_le' hro, hX.one, hX.inb, hX.row, hX.back, hX.cells, hY.one, hY.inb, hY.row, hY.back, hY.cells, q, h8, h19]

end
theorem f6_ok (hp s : List AObj) (ro : Option Nat) (kind : Int) (key val : ByteArray) (X Y : AV) (rs : List RdI) (ws : List WrI) (hro : ∀ k, ro = some k → k ≤ s.length) (hX : SlOf 2 X (rs.map encRd)) (hY : SlOf 3 Y (ws.map encWr)) (hk : key.size ≤ 9223372036854775807) (hv : val.size ≤ 9223372036854775807) (hn1 : rs.length ≤ 900) (hn2 : ws.length ≤ 900) (ho1 : RdsOk rs) (ho2 : WrsOk ws) :
    ∃ b, callW Try.prog how 6 [.agg [.int .i64 kind, .str key, .str val, X, Y]] ⟨hp, s⟩ ro = some (.bool b, ⟨hp, s⟩) := by
  by_cases q : kind = 1
  · subst q
    exact ⟨_, f6_k hp s ro key val X Y _ hro hX.plain hY.plain (fun st => f18_ok hp (s ++ st) ro key (lt_app hro st) hk)⟩
  · have hT : (txnP kind key val rs ws).2.1.length ≤ 900 ∧ (txnP kind key val rs ws).2.2.length ≤ 900 ∧ RdsOk (txnP kind key val rs ws).2.1 ∧ WrsOk (txnP kind key val rs ws).2.2 := by
      have e0 : RdsOk [] := fun r hr => by cases hr
      have e1 : WrsOk [] := fun r hr => by cases hr
      unfold txnP
      split
      · exact ⟨by simp, by simp, e0, fun w hw => by rw [List.mem_singleton] at hw; subst hw; exact ⟨hk, hv⟩⟩
      · split
        · exact ⟨by simp, by simp, e0, fun w hw => by rw [List.mem_singleton] at hw; subst hw; exact ⟨hk, Nat.zero_le _⟩⟩
        · split
          · exact ⟨hn1, hn2, ho1, ho2⟩
          · exact ⟨by simp, by simp, e0, e1⟩
    obtain ⟨c1, c2, X', Y', h8, hX', hY'⟩ := f8_ok hp (s ++ [.cells [.int .i64 kind, .str key, .str val, X, Y]]) ro kind 0 1 key val X Y rs ws (lt_app hro _) hX hY
    obtain ⟨b, h19⟩ := F19.ok hp (s ++ [.cells [.int .i64 kind, .str key, .str val, X, Y]]) ro c1 c2 _ X' Y' _ _ (lt_app hro _) hX' hY' hT.1 hT.2.1 hT.2.2.1 hT.2.2.2
    exact ⟨b, f6_t hp s ro kind key val X Y _ b hro hX.plain hY.plain q _ rfl h8 h19⟩