/- The document's version at a number, and without elder ones. -/

import Derived.Test.YtajoebiaopapoaaCk
open Go Go.Abs Go.Proofs
set_option maxRecDepth 100000
set_option maxHeartbeats 4000000
set_option linter.unusedSimpArgs false
set_option linter.unusedVariables false

section
attribute [local simp] ofV ofCell ofCells seqA_nil seqA_cons seqVK_eq seqEK_eq wantedA yieldedA isVal effA ev evs evps putE optsA optsOk valA fieldAddrA fieldA loadA partA aggA isAggD buildA placesA fillA lay storeA AV.withCells buildSliceA elemsA rowParts fzL promL okE isSrc bytesOk pushA cxOf lenA binA intBinA strBinA unA indexAddrA eqA AVs.inb AV.inb Loc.inb calleeA opsOf sub bodyOf Env.get_set quietA_nil quietA_cons quietK_none quietK_some qstep newA isNew escNew boxOk newLoc flat rowPartsQ quietN quietOp isBS List.takeWhile finishA_eq finK_ret finK_normal retK backK resA oneA AV.back AVs.back execW_seq_eq seqK_normal seqK_ret seqK_exit execW_cond_eq condK_true condK_false execW_block_eq blockK_exit blockK_normal blockK_ret execW_region_eq regK_eq execW_skip execW_exit execW_ret regionA_plain regionA_quiet0 tailK_eq nilCheckA guardOk isConst lookupA keyFits mapUpdateA beqI bneI
theorem f30_none (hp s : List AObj) (ro : Option Nat) (X : AV) (m : Int) (hro : ∀ k, ro = some k → k ≤ s.length) (hX : Plain X) (h36 : callW Try.prog how 36 [X, .int .i64 m] ⟨hp, s ++ [.cells [.int .i64 0, .int .u64 0, .str ⟨#[]⟩, .bool false]]⟩ ro = some (.nils, ⟨hp, s ++ [.cells [.int .i64 0, .int .u64 0, .str ⟨#[]⟩, .bool false]]⟩)) :
    callW Try.prog how 30 [X, .int .i64 m] ⟨hp, s⟩ ro = some (.tup [.agg [.int .i64 0, .int .u64 0, .str ⟨#[]⟩, .bool false], .bool false], ⟨hp, s⟩) := by
  refine callW_body (fl := {}) (fn := Try.f30) (c := bodyOf Try.f30) rfl Try.func30 rfl ?_
  have henv : ∃ e, e = frameA Try.f30 [X, .int .i64 m] := ⟨_, rfl⟩
  obtain ⟨env, henv⟩ := henv
  have hl : env.length = 20 := by rw [henv]; rfl
  have h0 : Env.get env 0 = X := by rw [henv]; rfl
  have h1 : Env.get env 1 = .int .i64 m := by rw [henv]; rfl
  rw [← henv]
  clear henv
  simp -implicitDefEqProofs [-lenA, -indexAddrA, Try.f30, hl, h0, h1, wok_le hro, wok_le' hro, h36, hX.one, hX.inb, hX.row, lenA]

theorem f30_some (hp s : List AObj) (ro : Option Nat) (X Y : AV) (m : Int) (k : Nat) (v : Vn) (hro : ∀ k, ro = some k → k ≤ s.length) (hX : Plain X) (h36 : callW Try.prog how 36 [X, .int .i64 m] ⟨hp, s ++ [.cells [.int .i64 0, .int .u64 0, .str ⟨#[]⟩, .bool false]]⟩ ro = some (Y, ⟨hp, s ++ [.cells [.int .i64 0, .int .u64 0, .str ⟨#[]⟩, .bool false]]⟩)) (hY : Plain Y) (hla : ∀ σ, lenA Try.prog σ 34 Y = some (k + 1)) (hk : ¬ (k : Int) + 1 = 0) (hw : wr .i64 (k : Int) = (k : Int)) (hia : ∀ σ, indexAddrA Try.prog σ 34 Y (.int .i64 (k : Int)) = some (.rptr [.int .i64 v.a, .int .u64 v.n, .str v.v, .bool v.g] 0)) :
    callW Try.prog how 30 [X, .int .i64 m] ⟨hp, s⟩ ro = some (.tup [.agg [.int .i64 v.a, .int .u64 v.n, .str v.v, .bool v.g], .bool true], ⟨hp, s⟩) := by
  refine callW_body (fl := {}) (fn := Try.f30) (c := bodyOf Try.f30) rfl Try.func30 rfl ?_
  have henv : ∃ e, e = frameA Try.f30 [X, .int .i64 m] := ⟨_, rfl⟩
  obtain ⟨env, henv⟩ := henv
  have hl : env.length = 20 := by rw [henv]; rfl
  have h0 : Env.get env 0 = X := by rw [henv]; rfl
  have h1 : Env.get env 1 = .int .i64 m := by rw [henv]; rfl
  rw [← henv]
  clear henv
  simp -implicitDefEqProofs [-lenA, -indexAddrA, Try.f30, hl, h0, h1, wok_le hro, wok_le' hro, h36, hla, hk, hw, hia, hX.one, hX.inb, hX.row, hY.one, hY.inb, hY.row]


end
theorem good_filter {L : List Vn} (hG : GoodO L) (m : Int) : L.filter (fun v => decide (v.a ≤ m)) = L.take (uptoN L m) := by
  have ex : ∀ (d n : Nat), L.length - n = d → n ≤ L.length → (∀ x (h : x < L.length), x < n → L[x].a ≤ m) → ∃ i, i ≤ L.length ∧ (∀ x (h : x < L.length), x < i → L[x].a ≤ m) ∧ (∀ x (h : x < L.length), i ≤ x → m < L[x].a) := by
    intro d
    induction d with
    | zero => intro n hd hn h1; exact ⟨n, hn, h1, fun x h hx => by omega⟩
    | succ d ih =>
      intro n hd hn h1
      have hlt : n < L.length := by omega
      by_cases q : L[n].a ≤ m
      · refine ih (n + 1) (by omega) hlt (fun x h hx => ?_)
        rcases Nat.lt_or_eq_of_le (Nat.le_of_lt_succ hx) with hx | hx
        · exact h1 x h hx
        · subst hx; exact q
      · refine ⟨n, hn, h1, fun x h hx => ?_⟩
        rcases Nat.lt_or_eq_of_le hx with hx | hx
        · have := good_mono hG hx h; omega
        · subst hx; omega
  obtain ⟨i, hi, h1, h2⟩ := ex L.length 0 rfl (Nat.zero_le _) (fun x h hx => absurd hx (Nat.not_lt_zero _))
  rw [upto_at hi h1 h2, upto_eq hi h1 h2]
theorem f30_ok (hp s : List AObj) (ro : Option Nat) (L : List Vn) (m : Int) (hro : ∀ k, ro = some k → k ≤ s.length) (hG : GoodO L) : callW Try.prog how 30 [slV 4 (L.map encVn), .int .i64 m] ⟨hp, s⟩ ro = some (.tup [encVn (readV L m).1, .bool (readV L m).2], ⟨hp, s⟩) := by
  have hle := upto_le L m
  have hlen := hG.len
  have h36 := F36.ok hp (s ++ [.cells [.int .i64 0, .int .u64 0, .str ⟨#[]⟩, .bool false]]) ro L m (lt_app hro _) (by omega)
  rw [good_filter hG] at h36
  unfold readV
  by_cases h0 : uptoN L m = 0
  · rw [if_pos h0]
    rw [h0, List.take_zero] at h36
    exact f30_none hp s ro _ m hro slV_plain h36
  · rw [if_neg h0]
    obtain ⟨k, hk⟩ : ∃ k, uptoN L m = k + 1 := ⟨uptoN L m - 1, by omega⟩
    rw [hk] at h36 ⊢
    have hlt : k < L.length := by omega
    have e : L.getD (k + 1 - 1) zeroVn = L[k] := by simp [hlt]
    rw [e]
    have hl2 : (L.take (k + 1)).length = k + 1 := by rw [List.length_take]; omega
    have hi2 := fun σ => idxL' (L.take (k + 1)) k (by omega) σ
    rw [List.getElem_take] at hi2
    exact f30_some hp s ro _ _ m k L[k] hro slV_plain h36 slV_plain (fun σ => by rw [lenL', hl2]) (by omega) (wr_ok (by omega) (by omega)) hi2
def cleanV (L : List Vn) (m : Int) : List Vn := L.filter fun x => !(readV L m).2 || decide ((readV L m).1.a ≤ x.a)
theorem clean_eq {L : List Vn} (hG : GoodO L) (m : Int) : cleanV L m = L.drop (uptoN L m - 1) := by
  unfold cleanV readV
  have hle := upto_le L m
  by_cases h0 : uptoN L m = 0
  · rw [if_pos h0, h0]
    simp
  · rw [if_neg h0]
    have hlt : uptoN L m - 1 < L.length := by omega
    have e : L.getD (uptoN L m - 1) zeroVn = L[uptoN L m - 1] := by simp [hlt]
    rw [e]
    simp only [Bool.not_true, Bool.false_or]
    have key : ∀ (i : Nat) (t : Int), i < L.length → (∀ x (h : x < L.length), x < i → L[x].a < t) → (∀ x (h : x < L.length), i ≤ x → t ≤ L[x].a) → L.filter (fun x => decide (t ≤ x.a)) = L.drop i := by
      intro i t hlt h1 h2
      conv => lhs; rw [← List.take_append_drop i L]
      rw [List.filter_append]
      have e1 : (L.take i).filter (fun x => decide (t ≤ x.a)) = [] := by
        rw [List.filter_eq_nil_iff]
        intro x hx
        obtain ⟨k, hk, rfl⟩ := List.mem_iff_getElem.1 hx
        rw [List.getElem_take]
        have hk' : k < i := by rw [List.length_take] at hk; omega
        have := h1 k (by omega) hk'
        simp; omega
      have e2 : (L.drop i).filter (fun x => decide (t ≤ x.a)) = L.drop i := by
        rw [List.filter_eq_self]
        intro x hx
        obtain ⟨k, hk, rfl⟩ := List.mem_iff_getElem.1 hx
        rw [List.getElem_drop]
        have hk' : i + k < L.length := by rw [List.length_drop] at hk; omega
        exact decide_eq_true (h2 (i + k) hk' (by omega))
      rw [e1, e2, List.nil_append]
    exact key _ _ hlt (fun x h hx => good_mono hG hx hlt) fun x h hx => by
      rcases Nat.lt_or_eq_of_le hx with hx | hx
      · exact Int.le_of_lt (good_mono hG hx h)
      · subst hx; exact Int.le_refl _
namespace F57
noncomputable def cr (p : List Dir) : Code := sub p (bodyOf Try.f57)

section
attribute [local simp] ofV ofCell ofCells seqA_nil seqA_cons seqVK_eq seqEK_eq wantedA yieldedA isVal effA ev evs evps putE optsA optsOk valA fieldAddrA fieldA loadA partA aggA isAggD buildA placesA fillA lay storeA AV.withCells buildSliceA elemsA rowParts fzL promL okE isSrc bytesOk pushA cxOf lenA binA intBinA strBinA unA indexAddrA eqA AVs.inb AV.inb Loc.inb calleeA opsOf sub bodyOf Env.get_set quietA_nil quietA_cons quietK_none quietK_some qstep newA isNew escNew boxOk newLoc flat rowPartsQ quietN quietOp isBS List.takeWhile finishA_eq finK_ret finK_normal retK backK resA oneA AV.back AVs.back execW_seq_eq seqK_normal seqK_ret seqK_exit execW_cond_eq condK_true condK_false execW_block_eq blockK_exit blockK_normal blockK_ret execW_region_eq regK_eq execW_skip execW_exit execW_ret regionA_plain regionA_quiet0 tailK_eq nilCheckA guardOk isConst lookupA keyFits mapUpdateA beqI bneI
theorem rA (cx : Cx) (env : Env) (σ : AS)  (hlen : env.length = 37) (hcx : cx.esc = [])  :
    Pc Try.prog how cx [] 37 [4] (cr [.l]) env σ (.normal) (σ) (fun env' => Env.get env' 4 = .nils) := by
  refine pc_of fun res hr => ?_
  simp -implicitDefEqProofs [-lenA, -indexAddrA, AS.get_push_at, AS.get_push_old, AS.push_len, AS.set_st_len, AS.next_st', AS.set_push_at, AS.get_set_self, AS.get_set_other, cr, Try.f57, hlen, hcx] at hr
  subst hr
  refine ⟨_, rfl, by simp [hlen], by simp [Env.get_set, hlen], fun i hi => ?_⟩
  simp only [List.mem_cons, List.not_mem_nil, or_false, not_or] at hi
  simp only [get_set2, hi, false_and, if_false]

theorem rB (cx : Cx) (env : Env) (σ : AS) (X : AV) (m : Int) (w : Vn) (b : Bool) (hlen : env.length = 37) (hcx : cx.esc = []) (f0 : Env.get env 0 = X) (f1 : Env.get env 1 = .int .i64 m) (hX : Plain X) (hc : callW Try.prog how 30 [X, .int .i64 m] σ cx.ro = some (.tup [.agg [.int .i64 w.a, .int .u64 w.n, .str w.v, .bool w.g], .bool b], σ)) (hw : wok cx.ro (.st σ.st.length) = true) (hh : cx.h ≤ σ.st.length) :
    Pc Try.prog how cx [] 37 [5, 6, 10, 11, 12, 13, 14, 15] (cr [.r, .l]) env σ (.normal) (σ.push false (.cells [.int .i64 w.a, .int .u64 w.n, .str w.v, .bool w.g])) (fun env' => Env.get env' 5 = .ptr (.st σ.st.length) 0 ∧ Env.get env' 6 = .bool b) := by
  refine pc_of fun res hr => ?_
  simp -implicitDefEqProofs [-lenA, -indexAddrA, AS.get_push_at, AS.get_push_old, AS.push_len, AS.set_st_len, AS.next_st', AS.set_push_at, AS.get_set_self, AS.get_set_other, cr, Try.f57, hlen, hcx, f0, f1, hX.one, hX.inb, hX.row, hc, hw, hh] at hr
  subst hr
  refine ⟨_, rfl, by simp [hlen], by simp [Env.get_set, hlen, f0, f1, hX.one, hX.inb, hX.row, hc, hw, hh], fun i hi => ?_⟩
  simp only [List.mem_cons, List.not_mem_nil, or_false, not_or] at hi
  simp only [get_set2, hi, false_and, if_false]

theorem rB2 (cx : Cx) (env : Env) (σ : AS)  (hlen : env.length = 37) (hcx : cx.esc = [])  :
    Pc Try.prog how cx [] 37 [7] (cr [.r, .r, .l]) env σ (.normal) (σ) (fun env' => Env.get env' 7 = .nils) := by
  refine pc_of fun res hr => ?_
  simp -implicitDefEqProofs [-lenA, -indexAddrA, AS.get_push_at, AS.get_push_old, AS.push_len, AS.set_st_len, AS.next_st', AS.set_push_at, AS.get_set_self, AS.get_set_other, cr, Try.f57, hlen, hcx] at hr
  subst hr
  refine ⟨_, rfl, by simp [hlen], by simp [Env.get_set, hlen], fun i hi => ?_⟩
  simp only [List.mem_cons, List.not_mem_nil, or_false, not_or] at hi
  simp only [get_set2, hi, false_and, if_false]

theorem rC (cx : Cx) (env : Env) (σ : AS) (X : AV) (n : Nat) (hlen : env.length = 37) (hcx : cx.esc = []) (f0 : Env.get env 0 = X) (hX : lenA Try.prog σ 34 X = some n) :
    Pc Try.prog how cx [] 37 [16, 17, 18] (cr [.r, .r, .r, .l, .l]) env σ (.normal) (σ) (fun env' => Env.get env' 16 = X ∧ Env.get env' 17 = .int .i64 (n : Int) ∧ Env.get env' 18 = .int .i64 0) := by
  refine pc_of fun res hr => ?_
  simp -implicitDefEqProofs [-lenA, -indexAddrA, AS.get_push_at, AS.get_push_old, AS.push_len, AS.set_st_len, AS.next_st', AS.set_push_at, AS.get_set_self, AS.get_set_other, cr, Try.f57, hlen, hcx, f0, hX] at hr
  subst hr
  refine ⟨_, rfl, by simp [hlen], by simp [Env.get_set, hlen, f0, hX], fun i hi => ?_⟩
  simp only [List.mem_cons, List.not_mem_nil, or_false, not_or] at hi
  simp only [get_set2, hi, false_and, if_false]

theorem rE (cx : Cx) (env : Env) (σ : AS) (k : Nat) (X : AV) (v : Vn) (hlen : env.length = 37) (hcx : cx.esc = []) (f16 : Env.get env 16 = X) (f18 : Env.get env 18 = .int .i64 (k : Int)) (hia : indexAddrA Try.prog σ 34 X (.int .i64 (k : Int)) = some (.rptr [.int .i64 v.a, .int .u64 v.n, .str v.v, .bool v.g] 0)) (hw : wok cx.ro (.st σ.st.length) = true) (hh : cx.h ≤ σ.st.length) :
    Pc Try.prog how cx [] 37 [9, 20, 21] (cr [.r, .r, .r, .l, .r, .i, .i, .r, .r, .l, .i, .l]) env σ (.normal) (σ.push false (.cells [.int .i64 v.a, .int .u64 v.n, .str v.v, .bool v.g])) (fun env' => Env.get env' 9 = .ptr (.st σ.st.length) 0) := by
  refine pc_of fun res hr => ?_
  simp -implicitDefEqProofs [-lenA, -indexAddrA, AS.get_push_at, AS.get_push_old, AS.push_len, AS.set_st_len, AS.next_st', AS.set_push_at, AS.get_set_self, AS.get_set_other, cr, Try.f57, hlen, hcx, f16, f18, hia, hw, hh] at hr
  subst hr
  refine ⟨_, rfl, by simp [hlen], by simp [Env.get_set, hlen, f16, f18, hia, hw, hh], fun i hi => ?_⟩
  simp only [List.mem_cons, List.not_mem_nil, or_false, not_or] at hi
  simp only [get_set2, hi, false_and, if_false]

theorem rN (cx : Cx) (env : Env) (σ : AS) (w_ c : Nat) (w v : Vn) (hlen : env.length = 37) (hcx : cx.esc = []) (f5 : Env.get env 5 = .ptr (.st w_) 0) (f9 : Env.get env 9 = .ptr (.st c) 0) (f6 : Env.get env 6 = .bool true) (gw : σ.get (.st w_) = some (.cells [.int .i64 w.a, .int .u64 w.n, .str w.v, .bool w.g])) (gc : σ.get (.st c) = some (.cells [.int .i64 v.a, .int .u64 v.n, .str v.v, .bool v.g])) (q : ¬ w.a ≤ v.a) :
    Pc Try.prog how cx [] 37 [22, 23, 24, 25, 26, 27, 28, 29, 30] (cr [.r, .r, .r, .l, .r, .i, .i, .r, .r, .l, .i, .r]) env σ (.normal) (σ) (fun _ => True) := by
  refine pc_of fun res hr => ?_
  simp -implicitDefEqProofs [-lenA, -indexAddrA, AS.get_push_at, AS.get_push_old, AS.push_len, AS.set_st_len, AS.next_st', AS.set_push_at, AS.get_set_self, AS.get_set_other, cr, Try.f57, hlen, hcx, f5, f9, f6, gw, gc, q] at hr
  subst hr
  refine ⟨_, rfl, by simp [hlen], by simp [Env.get_set, hlen, f5, f9, f6, gw, gc, q], fun i hi => ?_⟩
  simp only [List.mem_cons, List.not_mem_nil, or_false, not_or] at hi
  simp only [get_set2, hi, false_and, if_false]

theorem rY1 (cx : Cx) (env : Env) (σ : AS) (w_ c : Nat) (w v : Vn) (R' : AV) (R : AV) (σ' : AS) (hlen : env.length = 37) (hcx : cx.esc = []) (f5 : Env.get env 5 = .ptr (.st w_) 0) (f9 : Env.get env 9 = .ptr (.st c) 0) (f6 : Env.get env 6 = .bool true) (f7 : Env.get env 7 = R) (gw : σ.get (.st w_) = some (.cells [.int .i64 w.a, .int .u64 w.n, .str w.v, .bool w.g])) (gc : σ.get (.st c) = some (.cells [.int .i64 v.a, .int .u64 v.n, .str v.v, .bool v.g])) (q : w.a ≤ v.a) (hap : appendA Try.prog cx (σ.push false (.row [.agg [.int .i64 v.a, .int .u64 v.n, .str v.v, .bool v.g]] 4 0 false)) [34, 34] R (.row (.st σ.st.length) 0 0 1) = some (R', σ')) :
    Pc Try.prog how cx [] 37 [7, 22, 23, 24, 25, 26, 27, 28, 29, 30, 31, 32, 33, 34] (cr [.r, .r, .r, .l, .r, .i, .i, .r, .r, .l, .i, .r]) env σ (.normal) (σ') (fun env' => Env.get env' 7 = R') := by
  refine pc_of fun res hr => ?_
  simp -implicitDefEqProofs [-lenA, -indexAddrA, AS.get_push_at, AS.get_push_old, AS.push_len, AS.set_st_len, AS.next_st', AS.set_push_at, AS.get_set_self, AS.get_set_other, cr, Try.f57, hlen, hcx, f5, f9, f6, f7, gw, gc, q, hap, elemA] at hr
  subst hr
  refine ⟨_, rfl, by simp [hlen], by simp [Env.get_set, hlen, f5, f9, f6, f7, gw, gc, q, hap, elemA], fun i hi => ?_⟩
  simp only [List.mem_cons, List.not_mem_nil, or_false, not_or] at hi
  simp only [get_set2, hi, false_and, if_false]

theorem rY2 (cx : Cx) (env : Env) (σ : AS) (w_ c : Nat) (w v : Vn) (R' : AV) (R : AV) (σ' : AS) (hlen : env.length = 37) (hcx : cx.esc = []) (f5 : Env.get env 5 = .ptr (.st w_) 0) (f9 : Env.get env 9 = .ptr (.st c) 0) (f6 : Env.get env 6 = .bool false) (f7 : Env.get env 7 = R) (gw : σ.get (.st w_) = some (.cells [.int .i64 w.a, .int .u64 w.n, .str w.v, .bool w.g])) (gc : σ.get (.st c) = some (.cells [.int .i64 v.a, .int .u64 v.n, .str v.v, .bool v.g])) (hap : appendA Try.prog cx (σ.push false (.row [.agg [.int .i64 v.a, .int .u64 v.n, .str v.v, .bool v.g]] 4 0 false)) [34, 34] R (.row (.st σ.st.length) 0 0 1) = some (R', σ')) :
    Pc Try.prog how cx [] 37 [7, 22, 23, 24, 25, 26, 27, 28, 29, 30, 31, 32, 33, 34] (cr [.r, .r, .r, .l, .r, .i, .i, .r, .r, .l, .i, .r]) env σ (.normal) (σ') (fun env' => Env.get env' 7 = R') := by
  refine pc_of fun res hr => ?_
  simp -implicitDefEqProofs [-lenA, -indexAddrA, AS.get_push_at, AS.get_push_old, AS.push_len, AS.set_st_len, AS.next_st', AS.set_push_at, AS.get_set_self, AS.get_set_other, cr, Try.f57, hlen, hcx, f5, f9, f6, f7, gw, gc, hap, elemA] at hr
  subst hr
  refine ⟨_, rfl, by simp [hlen], by simp [Env.get_set, hlen, f5, f9, f6, f7, gw, gc, hap, elemA], fun i hi => ?_⟩
  simp only [List.mem_cons, List.not_mem_nil, or_false, not_or] at hi
  simp only [get_set2, hi, false_and, if_false]

theorem rD (cx : Cx) (env : Env) (σ : AS) (R : AV) (hlen : env.length = 37) (hcx : cx.esc = []) (f7 : Env.get env 7 = R) :
    Pc Try.prog how cx [] 37 [4, 36] (cr [.r, .r, .r, .r, .l]) env σ (.normal) (σ) (fun env' => Env.get env' 4 = R) := by
  refine pc_of fun res hr => ?_
  simp -implicitDefEqProofs [-lenA, -indexAddrA, AS.get_push_at, AS.get_push_old, AS.push_len, AS.set_st_len, AS.next_st', AS.set_push_at, AS.get_set_self, AS.get_set_other, cr, Try.f57, hlen, hcx, f7] at hr
  subst hr
  refine ⟨_, rfl, by simp [hlen], by simp [Env.get_set, hlen, f7], fun i hi => ?_⟩
  simp only [List.mem_cons, List.not_mem_nil, or_false, not_or] at hi
  simp only [get_set2, hi, false_and, if_false]

end
noncomputable def bodyC : Code := (.seq (cr [.l]) (.seq (cr [.r, .l]) (.seq (cr [.r, .r, .l]) (.seq (.seq (cr [.r, .r, .r, .l, .l]) (cr [.r, .r, .r, .l, .r])) (.seq (cr [.r, .r, .r, .r, .l]) .ret)))))
theorem body : Try.f57.body = some bodyC := by kernel_rfl
/-- What holds ahead of round k. -/
def J (h : Nat) (σ0 : AS) (w_ : Nat) (w : Vn) (b : Bool) (L : List Vn) (k : Nat) (env : Env) (σ : AS) : Prop :=
  Env.get env 5 = .ptr (.st w_) 0 ∧ Env.get env 6 = .bool b ∧ Env.get env 16 = slV 4 (L.map encVn) ∧ (∃ R0, Env.get env 7 = R0 ∧ Rows h σ [(4, R0, ((L.take k).filter (fun x : Vn => !b || decide (w.a ≤ x.a))).map encVn)]) ∧ (σ.get (.st w_) = some (.cells [.int .i64 w.a, .int .u64 w.n, .str w.v, .bool w.g])) ∧ Outside h σ0 σ
def Ex (h : Nat) (σ0 : AS) (w_ : Nat) (w : Vn) (b : Bool) (L : List Vn) (e : AExit) (env : Env) (σ : AS) : Prop := False
theorem J_stable {h : Nat} {σ0 : AS} {w_ : Nat} {w : Vn} {b : Bool} {L : List Vn} : ∀ k env env' σ, env.length = 37 → env'.length = 37 → (∀ i, i ≠ 19 → i ≠ 35 → i ≠ 18 → Env.get env' i = Env.get env i) → J h σ0 w_ w b L k env σ → J h σ0 w_ w b L k env' σ := by
  rintro k env env' σ _ _ hf ⟨j5, j6, j16, ⟨R0, r0, hR⟩, q0, ho⟩
  exact ⟨(hf 5 (by decide) (by decide) (by decide)).trans j5, (hf 6 (by decide) (by decide) (by decide)).trans j6, (hf 16 (by decide) (by decide) (by decide)).trans j16, ⟨R0, (hf 7 (by decide) (by decide) (by decide)).trans r0, hR⟩, q0, ho⟩
noncomputable def oT : Oper := (opsOf (cr [.r, .r, .r, .l, .r, .i, .i, .l])).headD default
noncomputable def oI : List Oper := opsOf (cr [.r, .r, .r, .l, .r, .i, .i, .r, .r, .r])
theorem loop_eq : (cr [.r, .r, .r, .l, .r]) = .block 0 (.loop (.seq (.region 4 #[oT] false) (.seq (.cond (.tmp 19) .skip (.exit 0)) (.seq (.block 1 (.seq (cr [.r, .r, .r, .l, .r, .i, .i, .r, .r, .l, .i, .l]) (cr [.r, .r, .r, .l, .r, .i, .i, .r, .r, .l, .i, .r]))) (.region 8 #[oI.headD default, (oI.drop 1).headD default] false))))) := by kernel_rfl
theorem step (cx : Cx) (hcx : cx.esc = []) (hro : ∀ k, cx.ro = some k → k ≤ cx.h) (σ0 : AS) (w_ : Nat) (w : Vn) (b : Bool) (L : List Vn) (hlen2 : L.length ≤ 1000) :
    ∀ k env σ, k < L.length → env.length = 37 → Env.get env 18 = .int .i64 (k : Int) → Env.get env 17 = .int .i64 ((L.length : Nat) : Int) → J cx.h σ0 w_ w b L k env σ → ∃ e env' σ', execW Try.prog cx [] (callW Try.prog how) (.block 1 (.seq (cr [.r, .r, .r, .l, .r, .i, .i, .r, .r, .l, .i, .l]) (cr [.r, .r, .r, .l, .r, .i, .i, .r, .r, .l, .i, .r]))) (env, σ) = some (e, (env', σ')) ∧
      ((e = .normal ∧ env'.length = 37 ∧ Env.get env' 18 = .int .i64 (k : Int) ∧ Env.get env' 17 = .int .i64 ((L.length : Nat) : Int) ∧ J cx.h σ0 w_ w b L (k + 1) env' σ') ∨ (e ≠ .normal ∧ Ex cx.h σ0 w_ w b L e env' σ')) := by
  rintro k env σ hk hlen f18 f17 ⟨f5, f6, f16, ⟨R0, f7, hR⟩, q0, ho⟩
  have hia := idxL' L k hk
  have hs := filter_succ (p := fun x : Vn => !b || decide (w.a ≤ x.a)) hk
  obtain ⟨env1, x1a, x1b, x1c, x1d⟩ := rE cx env σ k (slV 4 (L.map encVn)) (L[k]) hlen hcx f16 f18 (hia _) (wokst hro ho.2.2) ho.2.2
  have f5 := (x1d 5 (by decide)).trans f5
  have f6 := (x1d 6 (by decide)).trans f6
  have f7 := (x1d 7 (by decide)).trans f7
  have f16 := (x1d 16 (by decide)).trans f16
  have f17 := (x1d 17 (by decide)).trans f17
  have f18 := (x1d 18 (by decide)).trans f18
  have f9 := x1c
  have g1 : ((σ : AS).push false (.cells [.int .i64 L[k].a, .int .u64 L[k].n, .str L[k].v, .bool L[k].g])).get (.st (σ : AS).st.length) = some (.cells [.int .i64 L[k].a, .int .u64 L[k].n, .str L[k].v, .bool L[k].g]) := AS.get_push_at rfl
  have q0 := get_push' (ob' := .cells [.int .i64 L[k].a, .int .u64 L[k].n, .str L[k].v, .bool L[k].g]) q0
  have hR := hR.push (ob := .cells [.int .i64 L[k].a, .int .u64 L[k].n, .str L[k].v, .bool L[k].g])
  have ho := ho.push (ob := .cells [.int .i64 L[k].a, .int .u64 L[k].n, .str L[k].v, .bool L[k].g])
  generalize hib1 : (σ : AS).st.length = ib1 at g1 f9
  generalize (σ : AS).push false (.cells [.int .i64 L[k].a, .int .u64 L[k].n, .str L[k].v, .bool L[k].g]) = σ1 at x1a g1 q0 hR ho
  cases b with
  | false =>
    rw [if_pos (show (!false || decide (w.a ≤ L[k].a)) = true from rfl)] at hs
    obtain ⟨R2, τ2, y2a, y2b, y2c, y2d, y2e⟩ := append_one (cx := cx) (x := encVn L[k]) (j := 0) app34 hR rfl (by rw [List.length_map]; exact Nat.le_trans (List.length_filter_le _ _) (by rw [List.length_take]; omega)) (by decide) hro ho.2.2
    obtain ⟨env2, x2a, x2b, x2c, x2d⟩ := rY2 cx env1 σ1 w_ _ w (L[k]) R2 _ τ2 x1b hcx f5 f9 f6 f7 q0 g1 y2a 
    have f5 := (x2d 5 (by decide)).trans f5
    have f6 := (x2d 6 (by decide)).trans f6
    have f9 := (x2d 9 (by decide)).trans f9
    have f16 := (x2d 16 (by decide)).trans f16
    have f17 := (x2d 17 (by decide)).trans f17
    have f18 := (x2d 18 (by decide)).trans f18
    have f7 := x2c
    have hR := y2c
    have ho := y2e _ ho
    have q0 := y2d _ _ q0
    have g1 := y2d _ _ g1
    exact ⟨.normal, env2, _, (execW_block_of (execW_seq_of x1a x2a)), .inl ⟨rfl, x2b, f18, f17, f5, f6, f16, ⟨_, f7, (by rw [hs, List.map_append]; exact hR)⟩, q0, ho⟩⟩
  | true =>
    by_cases q : w.a ≤ L[k].a
    · skip
      rw [if_pos (by rw [decide_eq_true q]; rfl)] at hs
      obtain ⟨R2, τ2, y2a, y2b, y2c, y2d, y2e⟩ := append_one (cx := cx) (x := encVn L[k]) (j := 0) app34 hR rfl (by rw [List.length_map]; exact Nat.le_trans (List.length_filter_le _ _) (by rw [List.length_take]; omega)) (by decide) hro ho.2.2
      obtain ⟨env2, x2a, x2b, x2c, x2d⟩ := rY1 cx env1 σ1 w_ _ w (L[k]) R2 _ τ2 x1b hcx f5 f9 f6 f7 q0 g1 q y2a 
      have f5 := (x2d 5 (by decide)).trans f5
      have f6 := (x2d 6 (by decide)).trans f6
      have f9 := (x2d 9 (by decide)).trans f9
      have f16 := (x2d 16 (by decide)).trans f16
      have f17 := (x2d 17 (by decide)).trans f17
      have f18 := (x2d 18 (by decide)).trans f18
      have f7 := x2c
      have hR := y2c
      have ho := y2e _ ho
      have q0 := y2d _ _ q0
      have g1 := y2d _ _ g1
      exact ⟨.normal, env2, _, (execW_block_of (execW_seq_of x1a x2a)), .inl ⟨rfl, x2b, f18, f17, f5, f6, f16, ⟨_, f7, (by rw [hs, List.map_append]; exact hR)⟩, q0, ho⟩⟩
    · skip
      rw [if_neg (by rw [decide_eq_false q]; simp), List.append_nil] at hs
      obtain ⟨env2, x2a, x2b, x2c, x2d⟩ := rN cx env1 σ1 w_ _ w (L[k]) x1b hcx f5 f9 f6 q0 g1 q 
      have f5 := (x2d 5 (by decide)).trans f5
      have f6 := (x2d 6 (by decide)).trans f6
      have f7 := (x2d 7 (by decide)).trans f7
      have f9 := (x2d 9 (by decide)).trans f9
      have f16 := (x2d 16 (by decide)).trans f16
      have f17 := (x2d 17 (by decide)).trans f17
      have f18 := (x2d 18 (by decide)).trans f18
      exact ⟨.normal, env2, _, (execW_block_of (execW_seq_of x1a x2a)), .inl ⟨rfl, x2b, f18, f17, f5, f6, f16, ⟨_, f7, (by rw [hs]; exact hR)⟩, q0, ho⟩⟩
theorem loop (cx : Cx) (hcx : cx.esc = []) (hro : ∀ k, cx.ro = some k → k ≤ cx.h) (σ0 : AS) (w_ : Nat) (w : Vn) (b : Bool) (L : List Vn) (hlen2 : L.length ≤ 1000) (hnn : L.length ≤ 9223372036854775807) {env : Env} {σ : AS} (hl : env.length = 37) (h1 : Env.get env 18 = .int .i64 0) (h2 : Env.get env 17 = .int .i64 ((L.length : Nat) : Int)) (h0 : J cx.h σ0 w_ w b L 0 env σ) :
    ∃ e env' σ', execW Try.prog cx [] (callW Try.prog how) (cr [.r, .r, .r, .l, .r]) (env, σ) = some (e, (env', σ')) ∧ ((e = .normal ∧ ((env'.length = 37 ∧ J cx.h σ0 w_ w b L (L.length) env' σ') ∨ Ex cx.h σ0 w_ w b L (.exit 0) env' σ')) ∨ (e ≠ .normal ∧ e ≠ .exit 0 ∧ Ex cx.h σ0 w_ w b L e env' σ')) := by
  rw [loop_eq]
  exact range_std (Ex := Ex cx.h σ0 w_ w b L) (N := 37) (tc := 19) (ti := 18) (tl := 17) (tx := 35) (ty1 := 3) (ty2 := 3) (ty3 := 3) (ty4 := 3) ⟨by kernel_rfl, by kernel_rfl, by kernel_rfl⟩ ⟨by kernel_rfl, by kernel_rfl, by kernel_rfl⟩ ⟨by kernel_rfl, by kernel_rfl, by kernel_rfl⟩ (by decide) hnn J_stable (step cx hcx hro σ0 w_ w b L hlen2) hl h1 h2 h0
theorem ok (hp s : List AObj) (ro : Option Nat) (L : List Vn) (m : Int) (hro' : ∀ k, ro = some k → k ≤ s.length) (hG : GoodO L) :
    callW Try.prog how 57 [slV 4 (L.map encVn), .int .i64 m] ⟨hp, s⟩ ro = some (slV 4 ((cleanV L m).map encVn), ⟨hp, s⟩) := by
  let cx : Cx := { h := s.length, ro := ro, esc := [] }
  have hcx : cx.esc = [] := rfl
  have hro : ∀ k, cx.ro = some k → k ≤ cx.h := hro'
  obtain ⟨env, henv⟩ : ∃ e, e = frameA Try.f57 [slV 4 (L.map encVn), .int .i64 m] := ⟨_, rfl⟩
  have hlen : env.length = 37 := by rw [henv]; rfl
  have f0 : Env.get env 0 = slV 4 (L.map encVn) := by rw [henv]; rfl
  have f1 : Env.get env 1 = .int .i64 m := by rw [henv]; rfl
  have ho : Outside s.length (AS.mk hp s) (AS.mk hp s) := Outside.refl (Nat.le_refl _)
  obtain ⟨env1, x1a, x1b, x1c, x1d⟩ := rA cx env (AS.mk hp s)  hlen hcx   
  have f0 := (x1d 0 (by decide)).trans f0
  have f1 := (x1d 1 (by decide)).trans f1
  have f4 := x1c
  obtain ⟨env2, x2a, x2b, x2c, x2d⟩ := rB cx env1 (AS.mk hp s) (slV 4 (L.map encVn)) m ((readV L m).1) ((readV L m).2) x1b hcx f0 f1 slV_plain (f30_ok hp s ro L m hro' hG) (wokst hro (Nat.le_refl _)) (Nat.le_refl _)
  have f0 := (x2d 0 (by decide)).trans f0
  have f1 := (x2d 1 (by decide)).trans f1
  have f4 := (x2d 4 (by decide)).trans f4
  have f5 := x2c.1
  have f6 := x2c.2
  have g2 : ((AS.mk hp s : AS).push false (.cells [.int .i64 (readV L m).1.a, .int .u64 (readV L m).1.n, .str (readV L m).1.v, .bool (readV L m).1.g])).get (.st (AS.mk hp s : AS).st.length) = some (.cells [.int .i64 (readV L m).1.a, .int .u64 (readV L m).1.n, .str (readV L m).1.v, .bool (readV L m).1.g]) := AS.get_push_at rfl
  have ho := ho.push (ob := .cells [.int .i64 (readV L m).1.a, .int .u64 (readV L m).1.n, .str (readV L m).1.v, .bool (readV L m).1.g])
  generalize hib2 : (AS.mk hp s : AS).st.length = ib2 at g2 f5
  generalize (AS.mk hp s : AS).push false (.cells [.int .i64 (readV L m).1.a, .int .u64 (readV L m).1.n, .str (readV L m).1.v, .bool (readV L m).1.g]) = σ2 at x2a g2 ho
  have hlen2 : L.length ≤ 1000 := Nat.le_trans hG.len (by decide)
  obtain ⟨env3, x3a, x3b, x3c, x3d⟩ := rB2 cx env2 σ2  x2b hcx   
  have f0 := (x3d 0 (by decide)).trans f0
  have f1 := (x3d 1 (by decide)).trans f1
  have f4 := (x3d 4 (by decide)).trans f4
  have f5 := (x3d 5 (by decide)).trans f5
  have f6 := (x3d 6 (by decide)).trans f6
  have f7 := x3c
  obtain ⟨env4, x4a, x4b, x4c, x4d⟩ := rC cx env3 σ2 (slV 4 (L.map encVn)) L.length x3b hcx f0 (lenL' L _) 
  have f0 := (x4d 0 (by decide)).trans f0
  have f1 := (x4d 1 (by decide)).trans f1
  have f4 := (x4d 4 (by decide)).trans f4
  have f5 := (x4d 5 (by decide)).trans f5
  have f6 := (x4d 6 (by decide)).trans f6
  have f7 := (x4d 7 (by decide)).trans f7
  have f16 := x4c.1
  have f17 := x4c.2.1
  have f18 := x4c.2.2
  obtain ⟨e5, env5, σ5, x5a, x5p⟩ := loop cx hcx hro ⟨hp, s⟩ _ (readV L m).1 (readV L m).2 L hlen2 (by omega) (σ := σ2) x4b f18 f17 (⟨f5, f6, f16, ⟨.nils, f7, Rows0⟩, g2, ho⟩)
  rcases x5p with ⟨rfl, ⟨x5b, f5, f6, f16, ⟨R0, f7, hR⟩, q0, ho⟩ | x5p⟩ | ⟨x5q, x5r, x5p⟩
  · skip
    rw [List.take_length] at hR
    obtain ⟨env6, x6a, x6b, x6c, x6d⟩ := rD cx env5 σ5 R0 x5b hcx f7  
    have f5 := (x6d 5 (by decide)).trans f5
    have f6 := (x6d 6 (by decide)).trans f6
    have f7 := (x6d 7 (by decide)).trans f7
    have f16 := (x6d 16 (by decide)).trans f16
    have f4 := x6c
    exact call_of (fl := {}) (fn := Try.f57) (c := bodyC) (env := env) (e := (.ret, (env6, σ5))) rfl Try.func57 body henv (by unfold bodyC; exact (execW_seq_of x1a (execW_seq_of x2a (execW_seq_of x3a (execW_seq_of (execW_seq_of x4a x5a) (execW_seq_of x6a (by rfl))))))) ((fin_tmp (k := 4) (.inl rfl) rfl rfl f4 (by exact (hR.1 _ (List.mem_singleton_self _)).back) (by exact slV_inb _)).trans (congrArg (fun x => some (_, x)) (outside_st ho)))
  · cases x5p
  · cases x5p
end F57
