/- How many versions are not later than a number: by halves. -/

import Derived.Test.YtajoebiaopapoaaCf
open Go Go.Abs Go.Proofs
set_option maxRecDepth 100000
set_option maxHeartbeats 4000000
set_option linter.unusedSimpArgs false
set_option linter.unusedVariables false

theorem idxL (L : List Vn) (k : Nat) (hk : k < L.length) (σ : AS) : indexAddrA Try.prog σ 72 (slV 4 (L.map encVn)) (.int .i64 (k : Int)) = some (.rptr (encVn L[k]).cells 0) := idx_slV Try.prog σ 72 46 4 Try.underlying72 (L.map encVn) k (encVn L[k]) s46 (by decide) (by rw [List.getElem?_map, List.getElem?_eq_getElem hk]; rfl)
theorem lenL (L : List Vn) (σ : AS) : lenA Try.prog σ 72 (slV 4 (L.map encVn)) = some L.length := by rw [len_slV Try.prog σ 72 46 4 Try.underlying72, List.length_map]
theorem idxL' (L : List Vn) (k : Nat) (hk : k < L.length) (σ : AS) : indexAddrA Try.prog σ 34 (slV 4 (L.map encVn)) (.int .i64 (k : Int)) = some (.rptr (encVn L[k]).cells 0) := idx_slV Try.prog σ 34 40 4 Try.underlying34 (L.map encVn) k (encVn L[k]) s40 (by decide) (by rw [List.getElem?_map, List.getElem?_eq_getElem hk]; rfl)
theorem lenL' (L : List Vn) (σ : AS) : lenA Try.prog σ 34 (slV 4 (L.map encVn)) = some L.length := by rw [len_slV Try.prog σ 34 40 4 Try.underlying34, List.length_map]

section
attribute [local simp] ofV ofCell ofCells seqA_nil seqA_cons seqVK_eq seqEK_eq wantedA yieldedA isVal effA ev evs evps putE optsA optsOk valA fieldAddrA fieldA loadA partA aggA isAggD buildA placesA fillA lay storeA AV.withCells buildSliceA elemsA rowParts fzL promL okE isSrc bytesOk pushA cxOf lenA binA intBinA strBinA unA indexAddrA eqA AVs.inb AV.inb Loc.inb calleeA opsOf sub bodyOf Env.get_set quietA_nil quietA_cons quietK_none quietK_some qstep newA isNew escNew boxOk newLoc flat rowPartsQ quietN quietOp isBS List.takeWhile finishA_eq finK_ret finK_normal retK backK resA oneA AV.back AVs.back execW_seq_eq seqK_normal seqK_ret seqK_exit execW_cond_eq condK_true condK_false execW_block_eq blockK_exit blockK_normal blockK_ret execW_region_eq regK_eq execW_skip execW_exit execW_ret regionA_plain regionA_quiet0 tailK_eq nilCheckA guardOk isConst lookupA keyFits mapUpdateA beqI bneI
theorem f83_ok (hp s : List AObj) (ro : Option Nat) (p q k : Nat) (X : AV) (m : Int) (v : Vn) (hro : ∀ k, ro = some k → k ≤ s.length) (hs1 : s[p]? = some (.cells [X])) (hs2 : s[q]? = some (.cells [.int .i64 m])) (hia : ∀ σ, indexAddrA Try.prog σ 72 X (.int .i64 (k : Int)) = some (.rptr [.int .i64 v.a, .int .u64 v.n, .str v.v, .bool v.g] 0)) :
    callW Try.prog how 83 [.int .i64 (k : Int), .ptr (.st p) 0, .ptr (.st q) 0] ⟨hp, s⟩ ro = some (.bool (decide (m < v.a)), ⟨hp, s⟩) := by
  refine callW_body (fl := {}) (fn := Try.f83) (c := bodyOf Try.f83) rfl Try.func83 rfl ?_
  have henv : ∃ e, e = frameA Try.f83 [.int .i64 (k : Int), .ptr (.st p) 0, .ptr (.st q) 0] := ⟨_, rfl⟩
  obtain ⟨env, henv⟩ := henv
  have hl : env.length = 13 := by rw [henv]; rfl
  have h0 : Env.get env 0 = .int .i64 (k : Int) := by rw [henv]; rfl
  have h1 : Env.get env 1 = .ptr (.st p) 0 := by rw [henv]; rfl
  have h2 : Env.get env 2 = .ptr (.st q) 0 := by rw [henv]; rfl
  rw [← henv]
  clear henv
  have h1_ : (AS.mk hp s).get (.st p) = some (.cells [X]) := hs1
  have h2_ : (AS.mk hp s).get (.st q) = some (.cells [.int .i64 m]) := hs2
  simp -implicitDefEqProofs [-indexAddrA, Try.f83, hl, h0, h1, h2, wok_le hro, wok_le' hro, h1_, h2_, hia]

end
namespace F82
noncomputable def cr (p : List Dir) : Code := sub p (bodyOf Try.f82)

section
attribute [local simp] ofV ofCell ofCells seqA_nil seqA_cons seqVK_eq seqEK_eq wantedA yieldedA isVal effA ev evs evps putE optsA optsOk valA fieldAddrA fieldA loadA partA aggA isAggD buildA placesA fillA lay storeA AV.withCells buildSliceA elemsA rowParts fzL promL okE isSrc bytesOk pushA cxOf lenA binA intBinA strBinA unA indexAddrA eqA AVs.inb AV.inb Loc.inb calleeA opsOf sub bodyOf Env.get_set quietA_nil quietA_cons quietK_none quietK_some qstep newA isNew escNew boxOk newLoc flat rowPartsQ quietN quietOp isBS List.takeWhile finishA_eq finK_ret finK_normal retK backK resA oneA AV.back AVs.back execW_seq_eq seqK_normal seqK_ret seqK_exit execW_cond_eq condK_true condK_false execW_block_eq blockK_exit blockK_normal blockK_ret execW_region_eq regK_eq execW_skip execW_exit execW_ret regionA_plain regionA_quiet0 tailK_eq nilCheckA guardOk isConst lookupA keyFits mapUpdateA beqI bneI
theorem rA (cx : Cx) (env : Env) (σ : AS)  (hlen : env.length = 26) (hcx : cx.esc = [])  :
    Pc Try.prog how cx [] 26 [4] (cr [.l]) env σ (.normal) (σ) (fun env' => Env.get env' 4 = .int .i64 0) := by
  refine pc_of fun res hr => ?_
  simp -implicitDefEqProofs [AS.get_push_at, AS.get_push_old, AS.push_len, AS.set_st_len, AS.next_st', AS.set_push_at, AS.get_set_self, AS.get_set_other, cr, Try.f82, hlen, hcx] at hr
  subst hr
  refine ⟨_, rfl, by simp [hlen], by simp [Env.get_set, hlen], fun i hi => ?_⟩
  simp only [List.mem_cons, List.not_mem_nil, or_false, not_or] at hi
  simp only [get_set2, hi, false_and, if_false]

theorem rB (cx : Cx) (env : Env) (σ : AS) (n : Nat) (hlen : env.length = 26) (hcx : cx.esc = []) (f0 : Env.get env 0 = .int .i64 (n : Int)) :
    Pc Try.prog how cx [] 26 [5, 6, 8] (cr [.r, .l]) env σ (.normal) (σ) (fun env' => Env.get env' 5 = .int .i64 0 ∧ Env.get env' 6 = .int .i64 (n : Int)) := by
  refine pc_of fun res hr => ?_
  simp -implicitDefEqProofs [AS.get_push_at, AS.get_push_old, AS.push_len, AS.set_st_len, AS.next_st', AS.set_push_at, AS.get_set_self, AS.get_set_other, cr, Try.f82, hlen, hcx, f0] at hr
  subst hr
  refine ⟨_, rfl, by simp [hlen], by simp [Env.get_set, hlen, f0], fun i hi => ?_⟩
  simp only [List.mem_cons, List.not_mem_nil, or_false, not_or] at hi
  simp only [get_set2, hi, false_and, if_false]

theorem rT (cx : Cx) (env : Env) (σ : AS) (i j : Nat) (hlen : env.length = 26) (hcx : cx.esc = []) (f5 : Env.get env 5 = .int .i64 (i : Int)) (f6 : Env.get env 6 = .int .i64 (j : Int)) (q : i < j) :
    Pc Try.prog how cx [] 26 [9, 10, 11] (cr [.r, .r, .l, .i, .i, .l]) env σ (.normal) (σ) (fun _ => True) := by
  refine pc_of fun res hr => ?_
  simp -implicitDefEqProofs [AS.get_push_at, AS.get_push_old, AS.push_len, AS.set_st_len, AS.next_st', AS.set_push_at, AS.get_set_self, AS.get_set_other, cr, Try.f82, hlen, hcx, f5, f6, q] at hr
  subst hr
  refine ⟨_, rfl, by simp [hlen], by simp [Env.get_set, hlen, f5, f6, q], fun i hi => ?_⟩
  simp only [List.mem_cons, List.not_mem_nil, or_false, not_or] at hi
  simp only [get_set2, hi, false_and, if_false]

theorem rU (cx : Cx) (env : Env) (σ : AS) (i j : Nat) (hlen : env.length = 26) (hcx : cx.esc = []) (f5 : Env.get env 5 = .int .i64 (i : Int)) (f6 : Env.get env 6 = .int .i64 (j : Int)) (q : ¬ i < j) :
    Pc Try.prog how cx [] 26 [9, 10, 11] (cr [.r, .r, .l, .i, .i, .l]) env σ (.exit 0) (σ) (fun _ => True) := by
  refine pc_of fun res hr => ?_
  simp -implicitDefEqProofs [AS.get_push_at, AS.get_push_old, AS.push_len, AS.set_st_len, AS.next_st', AS.set_push_at, AS.get_set_self, AS.get_set_other, cr, Try.f82, hlen, hcx, f5, f6, q] at hr
  subst hr
  refine ⟨_, rfl, by simp [hlen], by simp [Env.get_set, hlen, f5, f6, q], fun i hi => ?_⟩
  simp only [List.mem_cons, List.not_mem_nil, or_false, not_or] at hi
  simp only [get_set2, hi, false_and, if_false]

theorem rM (cx : Cx) (env : Env) (σ : AS) (i j h : Nat) (hlen : env.length = 26) (hcx : cx.esc = []) (f5 : Env.get env 5 = .int .i64 (i : Int)) (f6 : Env.get env 6 = .int .i64 (j : Int)) (hw : wr .i64 ((i : Int) + (j : Int)) = ((i + j : Nat) : Int)) (hc1 : convA Try.prog σ 3 148 (.int .i64 ((i + j : Nat) : Int)) = some (.int .u64 ((i + j : Nat) : Int))) (hs : shiftA .shr .u64 ((i + j : Nat) : Int) 1 = some (.int .u64 (h : Int))) (hc2 : convA Try.prog σ 148 3 (.int .u64 (h : Int)) = some (.int .i64 (h : Int))) :
    Pc Try.prog how cx [] 26 [7, 12, 13, 14, 15, 16, 17] (cr [.r, .r, .l, .i, .i, .r, .i, .l]) env σ (.normal) (σ) (fun env' => Env.get env' 7 = .int .i64 (h : Int)) := by
  refine pc_of fun res hr => ?_
  simp -implicitDefEqProofs [AS.get_push_at, AS.get_push_old, AS.push_len, AS.set_st_len, AS.next_st', AS.set_push_at, AS.get_set_self, AS.get_set_other, cr, Try.f82, hlen, hcx, f5, f6, hw, hc1, hs, hc2, -Int.natCast_add] at hr
  subst hr
  refine ⟨_, rfl, by simp [hlen], by simp [Env.get_set, hlen, f5, f6, hw, hc1, hs, hc2, -Int.natCast_add], fun i hi => ?_⟩
  simp only [List.mem_cons, List.not_mem_nil, or_false, not_or] at hi
  simp only [get_set2, hi, false_and, if_false]

theorem rL (cx : Cx) (env : Env) (σ : AS) (p q h : Nat) (hlen : env.length = 26) (hcx : cx.esc = []) (f1 : Env.get env 1 = .fn (.func 83) [] [.ptr (.st p) 0, .ptr (.st q) 0]) (f7 : Env.get env 7 = .int .i64 (h : Int)) (hc : callW Try.prog how 83 [.int .i64 (h : Int), .ptr (.st p) 0, .ptr (.st q) 0] σ cx.ro = some (.bool false, σ)) (hp1 : p < σ.st.length) (hp2 : q < σ.st.length) (hw : wr .i64 ((h : Int) + 1) = (h : Int) + 1) :
    Pc Try.prog how cx [] 26 [5, 18, 19, 20, 21, 22, 23] (cr [.r, .r, .l, .i, .i, .r, .i, .r]) env σ (.normal) (σ) (fun env' => Env.get env' 5 = .int .i64 ((h : Int) + 1)) := by
  refine pc_of fun res hr => ?_
  simp -implicitDefEqProofs [AS.get_push_at, AS.get_push_old, AS.push_len, AS.set_st_len, AS.next_st', AS.set_push_at, AS.get_set_self, AS.get_set_other, cr, Try.f82, hlen, hcx, f1, f7, hc, hp1, hp2, hw] at hr
  subst hr
  refine ⟨_, rfl, by simp [hlen], by simp [Env.get_set, hlen, f1, f7, hc, hp1, hp2, hw], fun i hi => ?_⟩
  simp only [List.mem_cons, List.not_mem_nil, or_false, not_or] at hi
  simp only [get_set2, hi, false_and, if_false]

theorem rR (cx : Cx) (env : Env) (σ : AS) (p q h : Nat) (hlen : env.length = 26) (hcx : cx.esc = []) (f1 : Env.get env 1 = .fn (.func 83) [] [.ptr (.st p) 0, .ptr (.st q) 0]) (f7 : Env.get env 7 = .int .i64 (h : Int)) (hc : callW Try.prog how 83 [.int .i64 (h : Int), .ptr (.st p) 0, .ptr (.st q) 0] σ cx.ro = some (.bool true, σ)) (hp1 : p < σ.st.length) (hp2 : q < σ.st.length) :
    Pc Try.prog how cx [] 26 [6, 18, 19, 20, 21, 24] (cr [.r, .r, .l, .i, .i, .r, .i, .r]) env σ (.normal) (σ) (fun env' => Env.get env' 6 = .int .i64 (h : Int)) := by
  refine pc_of fun res hr => ?_
  simp -implicitDefEqProofs [AS.get_push_at, AS.get_push_old, AS.push_len, AS.set_st_len, AS.next_st', AS.set_push_at, AS.get_set_self, AS.get_set_other, cr, Try.f82, hlen, hcx, f1, f7, hc, hp1, hp2] at hr
  subst hr
  refine ⟨_, rfl, by simp [hlen], by simp [Env.get_set, hlen, f1, f7, hc, hp1, hp2], fun i hi => ?_⟩
  simp only [List.mem_cons, List.not_mem_nil, or_false, not_or] at hi
  simp only [get_set2, hi, false_and, if_false]

theorem rD (cx : Cx) (env : Env) (σ : AS) (i : Nat) (hlen : env.length = 26) (hcx : cx.esc = []) (f5 : Env.get env 5 = .int .i64 (i : Int)) :
    Pc Try.prog how cx [] 26 [4, 25] (cr [.r, .r, .r, .l]) env σ (.normal) (σ) (fun env' => Env.get env' 4 = .int .i64 (i : Int)) := by
  refine pc_of fun res hr => ?_
  simp -implicitDefEqProofs [AS.get_push_at, AS.get_push_old, AS.push_len, AS.set_st_len, AS.next_st', AS.set_push_at, AS.get_set_self, AS.get_set_other, cr, Try.f82, hlen, hcx, f5] at hr
  subst hr
  refine ⟨_, rfl, by simp [hlen], by simp [Env.get_set, hlen, f5], fun i hi => ?_⟩
  simp only [List.mem_cons, List.not_mem_nil, or_false, not_or] at hi
  simp only [get_set2, hi, false_and, if_false]

end
noncomputable def bodyC : Code := (.seq (cr [.l]) (.seq (cr [.r, .l]) (.seq (cr [.r, .r, .l]) (.seq (cr [.r, .r, .r, .l]) .ret))))
theorem body : Try.f82.body = some bodyC := by kernel_rfl
def iOf (st : St) : Nat := match Env.get st.1 5 with
  | .int _ k => k.toNat
  | _ => 0
def jOf (st : St) : Nat := match Env.get st.1 6 with
  | .int _ k => k.toNat
  | _ => 0
def I (σ : AS) (p q : Nat) (L : List Vn) (m : Int) (st : St) : Prop := ∃ i j : Nat, i ≤ j ∧ j ≤ L.length ∧ st.1.length = 26 ∧ st.2 = σ ∧ Env.get st.1 1 = .fn (.func 83) [] [.ptr (.st p) 0, .ptr (.st q) 0] ∧ Env.get st.1 5 = .int .i64 (i : Int) ∧ Env.get st.1 6 = .int .i64 (j : Int) ∧ (∀ x (h : x < L.length), x < i → L[x].a ≤ m) ∧ (∀ x (h : x < L.length), j ≤ x → m < L[x].a)
theorem loop_eq : cr [.r, .r, .l] = .block 0 (.loop (.seq (cr [.r, .r, .l, .i, .i, .l]) (.block 1 (.seq (cr [.r, .r, .l, .i, .i, .r, .i, .l]) (cr [.r, .r, .l, .i, .i, .r, .i, .r]))))) := by kernel_rfl
theorem conv1 (σ : AS) (n : Nat) (h : n ≤ 1000) : convA Try.prog σ 3 148 (.int .i64 (n : Int)) = some (.int .u64 (n : Int)) := by
  rw [show convA Try.prog σ 3 148 (.int .i64 (n : Int)) = some (.int .u64 (wr .u64 (n : Int))) by simp [convA], wr_u64 (by omega) (by omega)]
theorem conv2 (σ : AS) (n : Nat) (h : n ≤ 1000) : convA Try.prog σ 148 3 (.int .u64 (n : Int)) = some (.int .i64 (n : Int)) := by
  rw [show convA Try.prog σ 148 3 (.int .u64 (n : Int)) = some (.int .i64 (wr .i64 (n : Int))) by simp [convA], wr_ok (by omega) (by omega)]
theorem shr1 (n : Nat) : shiftA .shr .u64 (n : Int) 1 = some (.int .u64 ((n / 2 : Nat) : Int)) := by
  have : (n : Int).fdiv 2 = ((n / 2 : Nat) : Int) := by rw [Int.fdiv_eq_ediv_of_nonneg _ (by decide)]; rfl
  unfold shiftA
  rw [if_neg (by decide)]
  show some (AV.int .u64 ((n : Int).fdiv (2 ^ (min (1 : Int).toNat IntKind.u64.bits)))) = _
  rw [show ((2 : Int) ^ (min (1 : Int).toNat IntKind.u64.bits)) = 2 from rfl, this]
theorem loop (cx : Cx) (hcx : cx.esc = []) (hro : ∀ k, cx.ro = some k → k ≤ cx.h) (p q : Nat) (L : List Vn) (m : Int) (hG : GoodO L) (σ : AS) (hst : cx.h ≤ σ.st.length) (h1 : σ.st[p]? = some (.cells [slV 4 (L.map encVn)])) (h2 : σ.st[q]? = some (.cells [.int .i64 m])) (env : Env) (h0 : I σ p q L m (env, σ)) :
    ∃ env', execW Try.prog cx [] (callW Try.prog how) (cr [.r, .r, .l]) (env, σ) = some (.normal, (env', σ)) ∧ env'.length = 26 ∧ Env.get env' 5 = .int .i64 (uptoN L m : Int) := by
  have hl := hG.len
  have hp1 : p < σ.st.length := (List.getElem?_eq_some_iff.1 h1).1
  have hp2 : q < σ.st.length := (List.getElem?_eq_some_iff.1 h2).1
  have step : ∀ st : St, I σ p q L m st → ∃ e st1, execW Try.prog cx [] (callW Try.prog how) (.seq (cr [.r, .r, .l, .i, .i, .l]) (.block 1 (.seq (cr [.r, .r, .l, .i, .i, .r, .i, .l]) (cr [.r, .r, .l, .i, .i, .r, .i, .r])))) st = some (e, st1) ∧
      ((e = .normal ∧ I σ p q L m st1 ∧ jOf st1 - iOf st1 < jOf st - iOf st) ∨ (e ≠ .normal ∧ (e = .exit 0 ∧ st1.2 = σ ∧ st1.1.length = 26 ∧ Env.get st1.1 5 = .int .i64 (uptoN L m : Int)))) := by
    rintro ⟨env, σ'⟩ ⟨i, j, hij, hj, hlen, rfl, f1, f5, f6, q1, q2⟩
    simp only at hlen f1 f5 f6 h1 h2 hst hp1 hp2
    have hi1 : iOf (env, σ') = i := by simp [iOf, f5]
    have hj1 : jOf (env, σ') = j := by simp [jOf, f6]
    by_cases hlt : i < j
    · skip
      obtain ⟨env1, x1a, x1b, x1c, x1d⟩ := rT cx env σ' i j hlen hcx f5 f6 hlt 
      have f1 := (x1d 1 (by decide)).trans f1
      have f5 := (x1d 5 (by decide)).trans f5
      have f6 := (x1d 6 (by decide)).trans f6
      have hh : (i + j) / 2 < L.length := by omega
      obtain ⟨env2, x2a, x2b, x2c, x2d⟩ := rM cx env1 σ' i j (((i + j) / 2)) x1b hcx f5 f6 (by rw [wr_ok (by omega) (by omega)]; omega) (conv1 _ _ (by omega)) (shr1 _) (conv2 _ _ (by omega)) 
      have f1 := (x2d 1 (by decide)).trans f1
      have f5 := (x2d 5 (by decide)).trans f5
      have f6 := (x2d 6 (by decide)).trans f6
      have f7 := x2c
      have hc := f83_ok σ'.hp σ'.st cx.ro p q ((i + j) / 2) (slV 4 (L.map encVn)) m L[(i + j) / 2] (fun k hk => Nat.le_trans (hro k hk) hst) h1 h2 (idxL L _ hh)
      by_cases hm : m < L[(i + j) / 2].a
      · rw [decide_eq_true hm] at hc
        obtain ⟨env3, x3a, x3b, x3c, x3d⟩ := rR cx env2 σ' p q (((i + j) / 2)) x2b hcx f1 f7 hc hp1 hp2 
        have f1 := (x3d 1 (by decide)).trans f1
        have f5 := (x3d 5 (by decide)).trans f5
        have f7 := (x3d 7 (by decide)).trans f7
        have f6 := x3c
        refine ⟨.normal, (env3, σ'), (execW_seq_of x1a (execW_block_of (execW_seq_of x2a x3a))), .inl ⟨rfl, ⟨i, (i + j) / 2, by omega, by omega, x3b, rfl, f1, f5, f6, q1, fun x h hx => ?_⟩, ?_⟩⟩
        · rcases Nat.lt_or_eq_of_le hx with hx | hx
          · exact Int.lt_trans hm (good_mono hG hx h)
          · subst hx; exact hm
        · have e1 : iOf (env3, σ') = i := by simp [iOf, f5]
          have e2 : jOf (env3, σ') = (i + j) / 2 := by simp only [jOf, f6, Int.toNat_natCast]
          rw [e1, e2, hi1, hj1]; omega
      · rw [decide_eq_false hm] at hc
        obtain ⟨env3, x3a, x3b, x3c, x3d⟩ := rL cx env2 σ' p q (((i + j) / 2)) x2b hcx f1 f7 hc hp1 hp2 (wr_ok (by omega) (by omega)) 
        have f1 := (x3d 1 (by decide)).trans f1
        have f6 := (x3d 6 (by decide)).trans f6
        have f7 := (x3d 7 (by decide)).trans f7
        have f5 := x3c
        have f5 : Env.get env3 5 = .int .i64 (((i + j) / 2 + 1 : Nat) : Int) := f5
        refine ⟨.normal, (env3, σ'), (execW_seq_of x1a (execW_block_of (execW_seq_of x2a x3a))), .inl ⟨rfl, ⟨(i + j) / 2 + 1, j, by omega, by omega, x3b, rfl, f1, f5, f6, fun x h hx => ?_, q2⟩, ?_⟩⟩
        · rcases Nat.lt_or_eq_of_le (Nat.le_of_lt_succ hx) with hx | hx
          · have := good_mono hG hx hh; omega
          · subst hx; omega
        · have e1 : iOf (env3, σ') = (i + j) / 2 + 1 := by simp only [iOf, f5, Int.toNat_natCast]
          have e2 : jOf (env3, σ') = j := by simp [jOf, f6]
          rw [e1, e2, hi1, hj1]; omega
    · skip
      obtain ⟨env1, x1a, x1b, x1c, x1d⟩ := rU cx env σ' i j hlen hcx f5 f6 hlt 
      have f1 := (x1d 1 (by decide)).trans f1
      have f5 := (x1d 5 (by decide)).trans f5
      have f6 := (x1d 6 (by decide)).trans f6
      have hu : uptoN L m = i := upto_eq (by omega) q1 (fun x h hx => q2 x h (by omega))
      exact ⟨.exit 0, (env1, σ'), (execW_seq_exit x1a), .inr ⟨by simp, rfl, rfl, x1b, by rw [hu]; exact f5⟩⟩
  obtain ⟨e, ⟨env', σ'⟩, r, he, rfl, h3, h4, h5⟩ := while_exit step (jOf (env, σ) - iOf (env, σ)) (env, σ) (Nat.le_refl _) h0
  simp only at h3 h4 h5
  subst h3
  rw [loop_eq]
  exact ⟨env', block_out r, h4, h5⟩
theorem ok (hp s : List AObj) (ro : Option Nat) (p q : Nat) (L : List Vn) (m : Int) (hro' : ∀ k, ro = some k → k ≤ s.length) (hG : GoodO L) (h1 : s[p]? = some (.cells [slV 4 (L.map encVn)])) (h2 : s[q]? = some (.cells [.int .i64 m])) :
    callW Try.prog how 82 [.int .i64 (L.length : Int), .fn (.func 83) [] [.ptr (.st p) 0, .ptr (.st q) 0]] ⟨hp, s⟩ ro = some (.int .i64 (uptoN L m : Int), ⟨hp, s⟩) := by
  let cx : Cx := { h := s.length, ro := ro, esc := [] }
  have hcx : cx.esc = [] := rfl
  have hro : ∀ k, cx.ro = some k → k ≤ cx.h := hro'
  obtain ⟨env, henv⟩ : ∃ e, e = frameA Try.f82 [.int .i64 (L.length : Int), .fn (.func 83) [] [.ptr (.st p) 0, .ptr (.st q) 0]] := ⟨_, rfl⟩
  have hlen : env.length = 26 := by rw [henv]; rfl
  have f0 : Env.get env 0 = .int .i64 (L.length : Int) := by rw [henv]; rfl
  have f1 : Env.get env 1 = .fn (.func 83) [] [.ptr (.st p) 0, .ptr (.st q) 0] := by rw [henv]; rfl
  have ho : Outside s.length (AS.mk hp s) (AS.mk hp s) := Outside.refl (Nat.le_refl _)
  obtain ⟨env1, x1a, x1b, x1c, x1d⟩ := rA cx env (AS.mk hp s)  hlen hcx   
  have f0 := (x1d 0 (by decide)).trans f0
  have f1 := (x1d 1 (by decide)).trans f1
  have f4 := x1c
  obtain ⟨env2, x2a, x2b, x2c, x2d⟩ := rB cx env1 (AS.mk hp s) L.length x1b hcx f0  
  have f0 := (x2d 0 (by decide)).trans f0
  have f1 := (x2d 1 (by decide)).trans f1
  have f4 := (x2d 4 (by decide)).trans f4
  have f5 := x2c.1
  have f6 := x2c.2
  obtain ⟨env9, x9a, x9b, f5⟩ := loop cx hcx hro p q L m hG ⟨hp, s⟩ (Nat.le_refl _) h1 h2 env2 ⟨0, L.length, Nat.zero_le _, Nat.le_refl _, x2b, rfl, f1, f5, f6, fun x h hx => absurd hx (Nat.not_lt_zero _), fun x h hx => absurd h (by omega)⟩
  obtain ⟨env10, x10a, x10b, x10c, x10d⟩ := rD cx env9 (AS.mk hp s) (uptoN L m) x9b hcx f5  
  have f5 := (x10d 5 (by decide)).trans f5
  have f4 := x10c
  exact call_of (fl := {}) (fn := Try.f82) (c := bodyC) (env := env) (e := (.ret, (env10, AS.mk hp s))) rfl Try.func82 body henv (by unfold bodyC; exact (execW_seq_of x1a (execW_seq_of x2a (execW_seq_of x9a (execW_seq_of x10a (by rfl)))))) ((fin_tmp (k := 4) (.inl rfl) rfl rfl f4 (by simp [AV.back]) (by simp [AV.inb])).trans (congrArg (fun x => some (_, x)) (outside_st ho)))
end F82

section
attribute [local simp] ofV ofCell ofCells seqA_nil seqA_cons seqVK_eq seqEK_eq wantedA yieldedA isVal effA ev evs evps putE optsA optsOk valA fieldAddrA fieldA loadA partA aggA isAggD buildA placesA fillA lay storeA AV.withCells buildSliceA elemsA rowParts fzL promL okE isSrc bytesOk pushA cxOf lenA binA intBinA strBinA unA indexAddrA eqA AVs.inb AV.inb Loc.inb calleeA opsOf sub bodyOf Env.get_set quietA_nil quietA_cons quietK_none quietK_some qstep newA isNew escNew boxOk newLoc flat rowPartsQ quietN quietOp isBS List.takeWhile finishA_eq finK_ret finK_normal retK backK resA oneA AV.back AVs.back execW_seq_eq seqK_normal seqK_ret seqK_exit execW_cond_eq condK_true condK_false execW_block_eq blockK_exit blockK_normal blockK_ret execW_region_eq regK_eq execW_skip execW_exit execW_ret regionA_plain regionA_quiet0 tailK_eq nilCheckA guardOk isConst lookupA keyFits mapUpdateA beqI bneI
theorem f62_ok (hp s : List AObj) (ro : Option Nat) (L : List Vn) (m : Int) (hro : ∀ k, ro = some k → k ≤ s.length) (hG : GoodO L) :
    callW Try.prog how 62 [.agg [slV 4 (L.map encVn)], .int .i64 m] ⟨hp, s⟩ ro = some (.int .i64 (uptoN L m : Int), ⟨hp, s⟩) := by
  refine callW_body (fl := {}) (fn := Try.f62) (c := bodyOf Try.f62) rfl Try.func62 rfl ?_
  have henv : ∃ e, e = frameA Try.f62 [.agg [slV 4 (L.map encVn)], .int .i64 m] := ⟨_, rfl⟩
  obtain ⟨env, henv⟩ := henv
  have hl : env.length = 10 := by rw [henv]; rfl
  have h0 : Env.get env 0 = .agg [slV 4 (L.map encVn)] := by rw [henv]; rfl
  have h1 : Env.get env 1 = .int .i64 m := by rw [henv]; rfl
  rw [← henv]
  clear henv
  have h82 := F82.ok hp (s ++ [.cells [slV 4 (L.map encVn)], .cells [.int .i64 m]]) ro s.length (s.length + 1) L m (lt_app hro _) hG (by simp) (by simp)
  have hla := lenL L
  simp -implicitDefEqProofs [-lenA, Try.f62, hl, h0, h1, wok_le hro, wok_le' hro, h82, hla, slV_isRow, slV_one]

end