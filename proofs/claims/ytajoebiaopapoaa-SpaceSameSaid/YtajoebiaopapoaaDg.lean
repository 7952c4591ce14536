/- The law SpaceSame, run. -/

import Derived.Test.YtajoebiaopapoaaDf
open Go Go.Abs Go.Proofs
set_option maxRecDepth 100000
set_option maxHeartbeats 4000000
set_option linter.unusedSimpArgs false
set_option linter.unusedVariables false

section
attribute [local simp] ofV ofCell ofCells seqA_nil seqA_cons seqVK_eq seqEK_eq wantedA yieldedA isVal effA ev evs evps putE optsA optsOk valA fieldAddrA fieldA loadA partA aggA isAggD buildA placesA fillA lay storeA AV.withCells buildSliceA elemsA rowParts fzL promL okE isSrc bytesOk pushA cxOf lenA binA intBinA strBinA unA indexAddrA eqA AVs.inb AV.inb Loc.inb calleeA opsOf sub bodyOf Env.get_set quietA_nil quietA_cons quietK_none quietK_some qstep newA isNew escNew boxOk newLoc flat rowPartsQ quietN quietOp isBS List.takeWhile finishA_eq finK_ret finK_normal retK backK resA oneA AV.back AVs.back execW_seq_eq seqK_normal seqK_ret seqK_exit execW_cond_eq condK_true condK_false execW_block_eq blockK_exit blockK_normal blockK_ret execW_region_eq regK_eq execW_skip execW_exit execW_ret regionA_plain regionA_quiet0 tailK_eq nilCheckA guardOk isConst lookupA keyFits mapUpdateA beqI bneI
theorem f12_nil (hp s : List AObj) (ro : Option Nat)  (hro : ∀ k, ro = some k → k ≤ s.length) :
    callW Try.prog how 12 [.nilp] ⟨hp, s⟩ ro = some (.nils, ⟨hp, s⟩) := by
  refine callW_body (fl := {}) (fn := Try.f12) (c := bodyOf Try.f12) rfl Try.func12 rfl ?_
  have henv : ∃ e, e = frameA Try.f12 [.nilp] := ⟨_, rfl⟩
  obtain ⟨env, henv⟩ := henv
  have hl : env.length = 11 := by rw [henv]; rfl
  have h0 : Env.get env 0 = .nilp := by rw [henv]; rfl
  rw [← henv]
  clear henv
  simp -implicitDefEqProofs [Try.f12, hl, h0, wok_le hro, wok_le' hro]

end
namespace F19
theorem loop_nil (cx : Cx) (hcx : cx.esc = []) (σ : AS) (env : Env) (hl : env.length = 36) (h1 : Env.get env 17 = .int .i64 0) (h2 : Env.get env 16 = .int .i64 ((([] : List AV).length : Nat) : Int)) :
    ∃ en σ', execW Try.prog cx [] (callW Try.prog how) (cr [.r, .r, .r, .l, .r]) (env, σ) = some (.normal, (en, σ')) ∧ en.length = 36 ∧ σ' = σ ∧ ∀ i, i ∉ [18, 35, 17] → Env.get en i = Env.get env i := by
  rw [loop_eq]
  obtain ⟨e, en, τ, r, hh⟩ := range_std (P := Try.prog) (cx := cx) (tails := []) (call := callW Try.prog how) (B := 0) (idT := 5) (idI := 9) (oT := oT) (o1 := oI.headD default) (o2 := (oI.drop 1).headD default) (body := (.block 1 (.seq (cr [.r, .r, .r, .l, .r, .i, .i, .r, .r, .l, .i, .l]) (cr [.r, .r, .r, .l, .r, .i, .i, .r, .r, .l, .i, .r])))) (J := fun _ e s => s = σ ∧ ∀ i, i ∉ [18, 35, 17] → Env.get e i = Env.get env i) (Ex := fun _ _ _ => False) (n := 0) (N := 36) (tc := 18) (ti := 17) (tl := 16) (tx := 35) (ty1 := 3) (ty2 := 3) (ty3 := 3) (ty4 := 3) ⟨by kernel_rfl, by kernel_rfl, by kernel_rfl⟩ ⟨by kernel_rfl, by kernel_rfl, by kernel_rfl⟩ ⟨by kernel_rfl, by kernel_rfl, by kernel_rfl⟩ (by decide) (by omega) (fun _ _ _ _ _ _ hf h => ⟨h.1, fun i hi => (hf i (fun e => hi (by simp [e])) (fun e => hi (by simp [e])) (fun e => hi (by simp [e]))).trans (h.2 i hi)⟩) (fun k _ _ hk => by cases hk) (σ := σ) hl h1 h2 ⟨rfl, fun _ _ => rfl⟩
  rcases hh with ⟨rfl, ⟨h, h2, h3⟩ | h⟩ | ⟨_, _, h⟩
  · exact ⟨en, τ, r, h, h2, h3⟩
  · exact h.elim
  · exact h.elim
theorem nil_ok (hp s : List AObj) (b nn : Nat) (h2 : PS hp b nn [] []) :
    callW Try.prog how 19 [.nilp, .ptr (.hp b) 0] ⟨hp, s⟩ none = some (.bool true, ⟨hp ++ [.cells [.map (.hp nn)]], s⟩) := by
  let cx : Cx := { h := s.length, ro := none, esc := [] }
  have hcx : cx.esc = [] := rfl
  have hro : ∀ k, cx.ro = some k → k ≤ cx.h := fun k hk => by cases hk
  obtain ⟨env, henv⟩ : ∃ e, e = frameA Try.f19 [.nilp, .ptr (.hp b) 0] := ⟨_, rfl⟩
  have hlen : env.length = 36 := by rw [henv]; rfl
  have f0 : Env.get env 0 = .nilp := by rw [henv]; rfl
  have f1 : Env.get env 1 = .ptr (.hp b) 0 := by rw [henv]; rfl
  have ho : Outside s.length (AS.mk hp s) (AS.mk hp s) := Outside.refl (Nat.le_refl _)
  obtain ⟨env1, x1a, x1b, x1c, x1d⟩ := rA cx env (AS.mk hp s)  hlen hcx   
  have f0 := (x1d 0 (by decide)).trans f0
  have f1 := (x1d 1 (by decide)).trans f1
  have f4 := x1c
  obtain ⟨env2, x2a, x2b, x2c, x2d⟩ := rB cx env1 (AS.mk hp s) _ _ _ x1b hcx f0 rfl (f12_nil hp s none (fun k hk => by cases hk)) (fun n => rfl) 
  have f0 := (x2d 0 (by decide)).trans f0
  have f1 := (x2d 1 (by decide)).trans f1
  have f4 := (x2d 4 (by decide)).trans f4
  have f5 := x2c
  have hc2 := f12_ok hp s b nn [] [] h2 goodS_nil
  have hr : Rd Try.prog (AS.mk (hp ++ [AObj.cells [.map (.hp nn)]]) s) 33 9 .nils (([] : List ByteArray).map AV.str) := rd_slV (sz := 1) (l := []) Try.underlying33 s9 (by decide) (fun c hc => by cases hc)
  have h40 := F40.ok (hp ++ [AObj.cells [.map (.hp nn)]]) s none .nils .nils [] [] (fun k hk => by cases hk) hr hr (by decide)
  rw [decide_eq_true rfl] at h40
  obtain ⟨env3, x3a, x3b, x3c, x3d⟩ := rC cx env2 (AS.mk hp s) _ _ _ _ x2b hcx f1 f5 (fun n => rfl) (slV_plain (l := []) (sz := 1)) (slV_plain (l := []) (sz := 1)) hc2 h40 
  have f0 := (x3d 0 (by decide)).trans f0
  have f1 := (x3d 1 (by decide)).trans f1
  have f4 := (x3d 4 (by decide)).trans f4
  have f5 := (x3d 5 (by decide)).trans f5
  obtain ⟨env4, x4a, x4b, x4c, x4d⟩ := rL cx env3 (AS.mk (hp ++ [AObj.cells [.map (.hp nn)]]) s) 0 _ x3b hcx f5 (by simp [lenA]) 
  have f0 := (x4d 0 (by decide)).trans f0
  have f1 := (x4d 1 (by decide)).trans f1
  have f4 := (x4d 4 (by decide)).trans f4
  have f5 := (x4d 5 (by decide)).trans f5
  have f15 := x4c.1
  have f16 := x4c.2.1
  have f17 := x4c.2.2
  obtain ⟨en9, σ9, x90a, x90b, rfl, x90d⟩ := loop_nil cx hcx (AS.mk (hp ++ [AObj.cells [.map (.hp nn)]]) s) env4 x4b f17 f16
  have ho : Outside s.length (AS.mk (hp ++ [AObj.cells [.map (.hp nn)]]) s) (AS.mk (hp ++ [AObj.cells [.map (.hp nn)]]) s) := Outside.refl (Nat.le_refl _)
  obtain ⟨env91, x91a, x91b, x91c, x91d⟩ := rD cx en9 (AS.mk (hp ++ [AObj.cells [.map (.hp nn)]]) s)  x90b hcx   
  have f4 := x91c
  exact call_of (fl := {}) (fn := Try.f19) (c := bodyC) (env := env) (e := (.ret, (env91, AS.mk (hp ++ [AObj.cells [.map (.hp nn)]]) s))) rfl Try.func19 body henv (by unfold bodyC; exact (execW_seq_of x1a (execW_seq_of x2a (execW_seq_of x3a (execW_seq_of (execW_seq_of x4a x90a) (execW_seq_of x91a (by rfl))))))) ((fin_tmp (k := 4) (.inl rfl) rfl rfl f4 (by simp [AV.back]) (by simp [AV.inb])).trans (congrArg (fun x => some (_, x)) (outside_st ho)))
end F19

theorem new_at0 (H : List AObj) (x y : AObj) : (H ++ [x, y])[H.length]? = some x := by rw [List.getElem?_append_right (Nat.le_refl _)]; simp
theorem new_at1 (H : List AObj) (x y : AObj) : (H ++ [x, y])[H.length + 1]? = some y := by rw [List.getElem?_append_right (Nat.le_succ _)]; simp
theorem rdV4 (σ : AS) (L : List Vn) : Rd Try.prog σ 34 40 (slV 4 (L.map encVn)) (L.map encVn) := rd_slV Try.underlying34 s40 (by decide) (fun c hc => by
  obtain ⟨r, _, rfl⟩ := List.mem_map.1 hc
  exact el40 r)
theorem frame2 {hp hp' : List AObj} {a mm b a2 mm2 b2 : Nat} {S T : List Rw} (h : Two hp a mm b S) (h2 : Two hp a2 mm2 b2 T) (hk : Keep2 hp hp' mm2 b2) (q1 : a ≠ b2) (q2 : mm ≠ mm2) (q3 : b ≠ b2) : Two hp' a mm b S := by
  obtain ⟨M, hP⟩ := h2.p
  obtain ⟨X, hX, _⟩ := h2.r
  exact h.frame hk hP.oM hX q1 q2 q3
namespace F5
noncomputable def cr (p : List Dir) : Code := sub p (bodyOf Try.f5)

section
attribute [local simp] ofV ofCell ofCells seqA_nil seqA_cons seqVK_eq seqEK_eq wantedA yieldedA isVal effA ev evs evps putE optsA optsOk valA fieldAddrA fieldA loadA partA aggA isAggD buildA placesA fillA lay storeA AV.withCells buildSliceA elemsA rowParts fzL promL okE isSrc bytesOk pushA cxOf lenA binA intBinA strBinA unA indexAddrA eqA AVs.inb AV.inb Loc.inb calleeA opsOf sub bodyOf Env.get_set quietA_nil quietA_cons quietK_none quietK_some qstep newA isNew escNew boxOk newLoc flat rowPartsQ quietN quietOp isBS List.takeWhile finishA_eq finK_ret finK_normal retK backK resA oneA AV.back AVs.back execW_seq_eq seqK_normal seqK_ret seqK_exit execW_cond_eq condK_true condK_false execW_block_eq blockK_exit blockK_normal blockK_ret execW_region_eq regK_eq execW_skip execW_exit execW_ret regionA_plain regionA_quiet0 tailK_eq nilCheckA guardOk isConst lookupA keyFits mapUpdateA beqI bneI
theorem rA (cx : Cx) (env : Env) (σ : AS)  (hlen : env.length = 116) (hcx : cx.esc = [18, 21])  :
    Pc Try.prog how cx [] 116 [4] (cr [.l]) env σ (.normal) (σ) (fun env' => Env.get env' 4 = .bool false) := by
  refine pc_of fun res hr => ?_
  simp -implicitDefEqProofs [AS.get_push_at, AS.get_push_old, AS.push_len, AS.set_st_len, AS.next_st', AS.set_push_at, AS.get_set_self, AS.get_set_other, cr, Try.f5, hlen, hcx] at hr
  subst hr
  refine ⟨_, rfl, by simp [hlen], by simp [Env.get_set, hlen], fun i hi => ?_⟩
  simp only [List.mem_cons, List.not_mem_nil, or_false, not_or] at hi
  simp only [get_set2, hi, false_and, if_false]

theorem rN (cx : Cx) (env : Env) (σ : AS) (hp s : List AObj) (hlen : env.length = 116) (hcx : cx.esc = [18, 21])  (h7 : callW Try.prog how 7 [] ⟨hp, s⟩ none = some (.ptr (.hp (hp.length + 1)) 0, ⟨hp ++ [.map [], .cells [.map (.hp hp.length)]], s⟩)) (hσ : σ = ⟨hp, s⟩) (hro0 : cx.ro = none) :
    Pc Try.prog how cx [] 116 [5, 6, 16, 17, 18] (cr [.r, .l]) env σ (.normal) (AS.mk (hp ++ [.map [], .cells [.map (.hp hp.length)], .cells [.nils]]) s) (fun env' => Env.get env' 5 = .ptr (.hp (hp.length + 1)) 0 ∧ Env.get env' 6 = .ptr (.hp (hp.length + 2)) 0) := by
  refine pc_of fun res hr => ?_
  simp -implicitDefEqProofs [AS.get_push_at, AS.get_push_old, AS.push_len, AS.set_st_len, AS.next_st', AS.set_push_at, AS.get_set_self, AS.get_set_other, cr, Try.f5, hlen, hcx, h7, hσ, hro0] at hr
  subst hr
  refine ⟨_, rfl, by simp [hlen], by simp [Env.get_set, hlen, h7, hσ, hro0], fun i hi => ?_⟩
  simp only [List.mem_cons, List.not_mem_nil, or_false, not_or] at hi
  simp only [get_set2, hi, false_and, if_false]

theorem rM (cx : Cx) (env : Env) (σ : AS) (hp s : List AObj) (hlen : env.length = 116) (hcx : cx.esc = [18, 21])  (h7 : callW Try.prog how 7 [] ⟨hp, s⟩ none = some (.ptr (.hp (hp.length + 1)) 0, ⟨hp ++ [.map [], .cells [.map (.hp hp.length)]], s⟩)) (hσ : σ = ⟨hp, s⟩) (hro0 : cx.ro = none) :
    Pc Try.prog how cx [] 116 [7, 8, 19, 20, 21] (cr [.r, .r, .l]) env σ (.normal) (AS.mk (hp ++ [.map [], .cells [.map (.hp hp.length)], .cells [.nils]]) s) (fun env' => Env.get env' 7 = .ptr (.hp (hp.length + 1)) 0 ∧ Env.get env' 8 = .ptr (.hp (hp.length + 2)) 0) := by
  refine pc_of fun res hr => ?_
  simp -implicitDefEqProofs [AS.get_push_at, AS.get_push_old, AS.push_len, AS.set_st_len, AS.next_st', AS.set_push_at, AS.get_set_self, AS.get_set_other, cr, Try.f5, hlen, hcx, h7, hσ, hro0] at hr
  subst hr
  refine ⟨_, rfl, by simp [hlen], by simp [Env.get_set, hlen, h7, hσ, hro0], fun i hi => ?_⟩
  simp only [List.mem_cons, List.not_mem_nil, or_false, not_or] at hi
  simp only [get_set2, hi, false_and, if_false]

theorem rLn (cx : Cx) (env : Env) (σ : AS)  (hlen : env.length = 116) (hcx : cx.esc = [18, 21]) (f0 : Env.get env 0 = .nils) :
    Pc Try.prog how cx [] 116 [22, 23, 24] (cr [.r, .r, .r, .l, .l]) env σ (.normal) (σ) (fun env' => Env.get env' 22 = .nils ∧ Env.get env' 23 = .int .i64 0 ∧ Env.get env' 24 = .int .i64 0) := by
  refine pc_of fun res hr => ?_
  simp -implicitDefEqProofs [AS.get_push_at, AS.get_push_old, AS.push_len, AS.set_st_len, AS.next_st', AS.set_push_at, AS.get_set_self, AS.get_set_other, cr, Try.f5, hlen, hcx, f0] at hr
  subst hr
  refine ⟨_, rfl, by simp [hlen], by simp [Env.get_set, hlen, f0], fun i hi => ?_⟩
  simp only [List.mem_cons, List.not_mem_nil, or_false, not_or] at hi
  simp only [get_set2, hi, false_and, if_false]

theorem rLs (cx : Cx) (env : Env) (σ : AS) (es : List AV) (hlen : env.length = 116) (hcx : cx.esc = [18, 21]) (f0 : Env.get env 0 = .sl false 5 es) :
    Pc Try.prog how cx [] 116 [22, 23, 24] (cr [.r, .r, .r, .l, .l]) env σ (.normal) (σ) (fun env' => Env.get env' 22 = .sl false 5 es ∧ Env.get env' 23 = .int .i64 (es.length : Int) ∧ Env.get env' 24 = .int .i64 0) := by
  refine pc_of fun res hr => ?_
  simp -implicitDefEqProofs [AS.get_push_at, AS.get_push_old, AS.push_len, AS.set_st_len, AS.next_st', AS.set_push_at, AS.get_set_self, AS.get_set_other, cr, Try.f5, hlen, hcx, f0] at hr
  subst hr
  refine ⟨_, rfl, by simp [hlen], by simp [Env.get_set, hlen, f0], fun i hi => ?_⟩
  simp only [List.mem_cons, List.not_mem_nil, or_false, not_or] at hi
  simp only [get_set2, hi, false_and, if_false]

theorem rPn (cx : Cx) (env : Env) (σ : AS)  (hlen : env.length = 116) (hcx : cx.esc = [18, 21]) (f1 : Env.get env 1 = .nils) :
    Pc Try.prog how cx [] 116 [36, 37, 38] (cr [.r, .r, .r, .r, .l, .l]) env σ (.normal) (σ) (fun env' => Env.get env' 36 = .nils ∧ Env.get env' 37 = .int .i64 0 ∧ Env.get env' 38 = .int .i64 0) := by
  refine pc_of fun res hr => ?_
  simp -implicitDefEqProofs [AS.get_push_at, AS.get_push_old, AS.push_len, AS.set_st_len, AS.next_st', AS.set_push_at, AS.get_set_self, AS.get_set_other, cr, Try.f5, hlen, hcx, f1] at hr
  subst hr
  refine ⟨_, rfl, by simp [hlen], by simp [Env.get_set, hlen, f1], fun i hi => ?_⟩
  simp only [List.mem_cons, List.not_mem_nil, or_false, not_or] at hi
  simp only [get_set2, hi, false_and, if_false]

theorem rPs (cx : Cx) (env : Env) (σ : AS) (es : List AV) (hlen : env.length = 116) (hcx : cx.esc = [18, 21]) (f1 : Env.get env 1 = .sl false 5 es) :
    Pc Try.prog how cx [] 116 [36, 37, 38] (cr [.r, .r, .r, .r, .l, .l]) env σ (.normal) (σ) (fun env' => Env.get env' 36 = .sl false 5 es ∧ Env.get env' 37 = .int .i64 (es.length : Int) ∧ Env.get env' 38 = .int .i64 0) := by
  refine pc_of fun res hr => ?_
  simp -implicitDefEqProofs [AS.get_push_at, AS.get_push_old, AS.push_len, AS.set_st_len, AS.next_st', AS.set_push_at, AS.get_set_self, AS.get_set_other, cr, Try.f5, hlen, hcx, f1] at hr
  subst hr
  refine ⟨_, rfl, by simp [hlen], by simp [Env.get_set, hlen, f1], fun i hi => ?_⟩
  simp only [List.mem_cons, List.not_mem_nil, or_false, not_or] at hi
  simp only [get_set2, hi, false_and, if_false]

theorem rE1 (cx : Cx) (env : Env) (σ : AS) (es : List AV) (k : Nat) (c0 oa : Int) (ok_ ov : ByteArray) (og : Bool) (hlen : env.length = 116) (hcx : cx.esc = [18, 21]) (f22 : Env.get env 22 = .sl false 5 es) (f24 : Env.get env 24 = .int .i64 (k : Int)) (hk : k < es.length) (hv : es[k] = .agg [.int .i64 c0, .str ok_, .int .i64 oa, .str ov, .bool og]) (hw : wok cx.ro (.st σ.st.length) = true) (hh : cx.h ≤ σ.st.length) :
    Pc Try.prog how cx [] 116 [9, 10, 26, 27, 28] (cr [.r, .r, .r, .l, .r, .i, .i, .r, .r, .l, .i, .l]) env σ (.normal) (σ.push false (.cells [.int .i64 c0, .str ok_, .int .i64 oa, .str ov, .bool og])) (fun env' => Env.get env' 9 = .int .i64 (k : Int) ∧ Env.get env' 10 = .ptr (.st σ.st.length) 0) := by
  refine pc_of fun res hr => ?_
  simp -implicitDefEqProofs [AS.get_push_at, AS.get_push_old, AS.push_len, AS.set_st_len, AS.next_st', AS.set_push_at, AS.get_set_self, AS.get_set_other, cr, Try.f5, hlen, hcx, f22, f24, hk, hv, hw, hh] at hr
  subst hr
  refine ⟨_, rfl, by simp [hlen], by simp [Env.get_set, hlen, f22, f24, hk, hv, hw, hh], fun i hi => ?_⟩
  simp only [List.mem_cons, List.not_mem_nil, or_false, not_or] at hi
  simp only [get_set2, hi, false_and, if_false]

theorem rS1 (cx : Cx) (env : Env) (σ : AS) (a b c k : Nat) (c0 oa : Int) (ok_ ov : ByteArray) (og : Bool) (σ' : AS) (hlen : env.length = 116) (hcx : cx.esc = [18, 21]) (f5 : Env.get env 5 = .ptr (.hp a) 0) (f6 : Env.get env 6 = .ptr (.hp b) 0) (f9 : Env.get env 9 = .int .i64 (k : Int)) (f10 : Env.get env 10 = .ptr (.st c) 0) (gc : σ.get (.st c) = some (.cells [.int .i64 c0, .str ok_, .int .i64 oa, .str ov, .bool og])) (q : (k : Int) < 12) (h8 : callW Try.prog how 8 [.ptr (.hp a) 0, .ptr (.hp b) 0, .agg [.int .i64 c0, .str ok_, .int .i64 oa, .str ov, .bool og]] σ cx.ro = some (.bool true, σ')) :
    Pc Try.prog how cx [] 116 [29, 30, 31, 32, 33, 34] (cr [.r, .r, .r, .l, .r, .i, .i, .r, .r, .l, .i, .r]) env σ (.normal) (σ') (fun _ => True) := by
  refine pc_of fun res hr => ?_
  simp -implicitDefEqProofs [AS.get_push_at, AS.get_push_old, AS.push_len, AS.set_st_len, AS.next_st', AS.set_push_at, AS.get_set_self, AS.get_set_other, cr, Try.f5, hlen, hcx, f5, f6, f9, f10, gc, q, h8] at hr
  subst hr
  refine ⟨_, rfl, by simp [hlen], by simp [Env.get_set, hlen, f5, f6, f9, f10, gc, q, h8], fun i hi => ?_⟩
  simp only [List.mem_cons, List.not_mem_nil, or_false, not_or] at hi
  simp only [get_set2, hi, false_and, if_false]

theorem rK1 (cx : Cx) (env : Env) (σ : AS) (k : Nat) (hlen : env.length = 116) (hcx : cx.esc = [18, 21]) (f9 : Env.get env 9 = .int .i64 (k : Int)) (q : ¬ (k : Int) < 12) :
    Pc Try.prog how cx [] 116 [29, 30] (cr [.r, .r, .r, .l, .r, .i, .i, .r, .r, .l, .i, .r]) env σ (.normal) (σ) (fun _ => True) := by
  refine pc_of fun res hr => ?_
  simp -implicitDefEqProofs [AS.get_push_at, AS.get_push_old, AS.push_len, AS.set_st_len, AS.next_st', AS.set_push_at, AS.get_set_self, AS.get_set_other, cr, Try.f5, hlen, hcx, f9, q] at hr
  subst hr
  refine ⟨_, rfl, by simp [hlen], by simp [Env.get_set, hlen, f9, q], fun i hi => ?_⟩
  simp only [List.mem_cons, List.not_mem_nil, or_false, not_or] at hi
  simp only [get_set2, hi, false_and, if_false]

theorem rE2 (cx : Cx) (env : Env) (σ : AS) (es : List AV) (k : Nat) (c0 oa : Int) (ok_ ov : ByteArray) (og : Bool) (hlen : env.length = 116) (hcx : cx.esc = [18, 21]) (f36 : Env.get env 36 = .sl false 5 es) (f38 : Env.get env 38 = .int .i64 (k : Int)) (hk : k < es.length) (hv : es[k] = .agg [.int .i64 c0, .str ok_, .int .i64 oa, .str ov, .bool og]) (hw : wok cx.ro (.st σ.st.length) = true) (hh : cx.h ≤ σ.st.length) :
    Pc Try.prog how cx [] 116 [11, 12, 40, 41, 42] (cr [.r, .r, .r, .r, .l, .r, .i, .i, .r, .r, .l, .i, .l]) env σ (.normal) (σ.push false (.cells [.int .i64 c0, .str ok_, .int .i64 oa, .str ov, .bool og])) (fun env' => Env.get env' 11 = .int .i64 (k : Int) ∧ Env.get env' 12 = .ptr (.st σ.st.length) 0) := by
  refine pc_of fun res hr => ?_
  simp -implicitDefEqProofs [AS.get_push_at, AS.get_push_old, AS.push_len, AS.set_st_len, AS.next_st', AS.set_push_at, AS.get_set_self, AS.get_set_other, cr, Try.f5, hlen, hcx, f36, f38, hk, hv, hw, hh] at hr
  subst hr
  refine ⟨_, rfl, by simp [hlen], by simp [Env.get_set, hlen, f36, f38, hk, hv, hw, hh], fun i hi => ?_⟩
  simp only [List.mem_cons, List.not_mem_nil, or_false, not_or] at hi
  simp only [get_set2, hi, false_and, if_false]

theorem rS2 (cx : Cx) (env : Env) (σ : AS) (a b c k : Nat) (c0 oa : Int) (ok_ ov : ByteArray) (og : Bool) (σ' : AS) (hlen : env.length = 116) (hcx : cx.esc = [18, 21]) (f7 : Env.get env 7 = .ptr (.hp a) 0) (f8 : Env.get env 8 = .ptr (.hp b) 0) (f11 : Env.get env 11 = .int .i64 (k : Int)) (f12 : Env.get env 12 = .ptr (.st c) 0) (gc : σ.get (.st c) = some (.cells [.int .i64 c0, .str ok_, .int .i64 oa, .str ov, .bool og])) (q : (k : Int) < 12) (h8 : callW Try.prog how 8 [.ptr (.hp a) 0, .ptr (.hp b) 0, .agg [.int .i64 c0, .str ok_, .int .i64 oa, .str ov, .bool og]] σ cx.ro = some (.bool true, σ')) :
    Pc Try.prog how cx [] 116 [43, 44, 45, 46, 47, 48] (cr [.r, .r, .r, .r, .l, .r, .i, .i, .r, .r, .l, .i, .r]) env σ (.normal) (σ') (fun _ => True) := by
  refine pc_of fun res hr => ?_
  simp -implicitDefEqProofs [AS.get_push_at, AS.get_push_old, AS.push_len, AS.set_st_len, AS.next_st', AS.set_push_at, AS.get_set_self, AS.get_set_other, cr, Try.f5, hlen, hcx, f7, f8, f11, f12, gc, q, h8] at hr
  subst hr
  refine ⟨_, rfl, by simp [hlen], by simp [Env.get_set, hlen, f7, f8, f11, f12, gc, q, h8], fun i hi => ?_⟩
  simp only [List.mem_cons, List.not_mem_nil, or_false, not_or] at hi
  simp only [get_set2, hi, false_and, if_false]

theorem rK2 (cx : Cx) (env : Env) (σ : AS) (k : Nat) (hlen : env.length = 116) (hcx : cx.esc = [18, 21]) (f11 : Env.get env 11 = .int .i64 (k : Int)) (q : ¬ (k : Int) < 12) :
    Pc Try.prog how cx [] 116 [43, 44] (cr [.r, .r, .r, .r, .l, .r, .i, .i, .r, .r, .l, .i, .r]) env σ (.normal) (σ) (fun _ => True) := by
  refine pc_of fun res hr => ?_
  simp -implicitDefEqProofs [AS.get_push_at, AS.get_push_old, AS.push_len, AS.set_st_len, AS.next_st', AS.set_push_at, AS.get_set_self, AS.get_set_other, cr, Try.f5, hlen, hcx, f11, q] at hr
  subst hr
  refine ⟨_, rfl, by simp [hlen], by simp [Env.get_set, hlen, f11, q], fun i hi => ?_⟩
  simp only [List.mem_cons, List.not_mem_nil, or_false, not_or] at hi
  simp only [get_set2, hi, false_and, if_false]

theorem rQ (cx : Cx) (env : Env) (σ : AS) (b b2 n n2 : Nat) (X X2 : AV) (hlen : env.length = 116) (hcx : cx.esc = [18, 21]) (f6 : Env.get env 6 = .ptr (.hp b) 0) (f8 : Env.get env 8 = .ptr (.hp b2) 0) (hA : σ.get (.hp b) = some (.cells [X])) (hA2 : σ.get (.hp b2) = some (.cells [X2])) (hl : lenA Try.prog σ 26 X = some n) (hl2 : lenA Try.prog σ 26 X2 = some n2) :
    Pc Try.prog how cx [] 116 [13, 50, 51, 52, 53, 54, 55, 56, 57, 58, 59, 60] (cr [.r, .r, .r, .r, .r, .l]) env σ (.normal) (σ) (fun env' => Env.get env' 13 = .bool (decide (n = n2))) := by
  refine pc_of fun res hr => ?_
  simp -implicitDefEqProofs [-lenA, AS.get_push_at, AS.get_push_old, AS.push_len, AS.set_st_len, AS.next_st', AS.set_push_at, AS.get_set_self, AS.get_set_other, cr, Try.f5, hlen, hcx, f6, f8, hA, hA2, hl, hl2, Int.natCast_inj] at hr
  subst hr
  refine ⟨_, rfl, by simp [hlen], by simp [Env.get_set, hlen, f6, f8, hA, hA2, hl, hl2, Int.natCast_inj], fun i hi => ?_⟩
  simp only [List.mem_cons, List.not_mem_nil, or_false, not_or] at hi
  simp only [get_set2, hi, false_and, if_false]

theorem rR (cx : Cx) (env : Env) (σ : AS) (b n : Nat) (X : AV) (hlen : env.length = 116) (hcx : cx.esc = [18, 21]) (f6 : Env.get env 6 = .ptr (.hp b) 0) (hA : σ.get (.hp b) = some (.cells [X])) (hl : lenA Try.prog σ 26 X = some n) :
    Pc Try.prog how cx [] 116 [61, 62, 63, 64, 65, 66] (cr [.r, .r, .r, .r, .r, .r, .l, .l]) env σ (.normal) (σ) (fun env' => Env.get env' 64 = X ∧ Env.get env' 65 = .int .i64 (n : Int) ∧ Env.get env' 66 = .int .i64 0) := by
  refine pc_of fun res hr => ?_
  simp -implicitDefEqProofs [-lenA, AS.get_push_at, AS.get_push_old, AS.push_len, AS.set_st_len, AS.next_st', AS.set_push_at, AS.get_set_self, AS.get_set_other, cr, Try.f5, hlen, hcx, f6, hA, hl] at hr
  subst hr
  refine ⟨_, rfl, by simp [hlen], by simp [Env.get_set, hlen, f6, hA, hl], fun i hi => ?_⟩
  simp only [List.mem_cons, List.not_mem_nil, or_false, not_or] at hi
  simp only [get_set2, hi, false_and, if_false]

theorem rE3 (cx : Cx) (env : Env) (σ : AS) (k : Nat) (X p Y0 : AV) (k0 : ByteArray) (hlen : env.length = 116) (hcx : cx.esc = [18, 21]) (f64 : Env.get env 64 = X) (f66 : Env.get env 66 = .int .i64 (k : Int)) (hia : indexAddrA Try.prog σ 26 X (.int .i64 (k : Int)) = some p) (hpa : loadA Try.prog σ 36 p = some (.agg [.str k0, Y0])) (hY : Plain Y0) (hw : wok cx.ro (.st σ.st.length) = true) (hh : cx.h ≤ σ.st.length) :
    Pc Try.prog how cx [] 116 [14, 15, 68, 69, 70] (cr [.r, .r, .r, .r, .r, .r, .l, .r, .i, .i, .r, .r, .l, .i, .l]) env σ (.normal) (σ.push false (.cells [.str k0, Y0])) (fun env' => Env.get env' 14 = .int .i64 (k : Int) ∧ Env.get env' 15 = .ptr (.st σ.st.length) 0) := by
  refine pc_of fun res hr => ?_
  simp -implicitDefEqProofs [-lenA, -indexAddrA, -loadA, AS.get_push_at, AS.get_push_old, AS.push_len, AS.set_st_len, AS.next_st', AS.set_push_at, AS.get_set_self, AS.get_set_other, cr, Try.f5, hlen, hcx, f64, f66, hia, hpa, hY.one, hY.inb, hY.row, hw, hh] at hr
  subst hr
  refine ⟨_, rfl, by simp [hlen], by simp [Env.get_set, hlen, f64, f66, hia, hpa, hY.one, hY.inb, hY.row, hw, hh], fun i hi => ?_⟩
  simp only [List.mem_cons, List.not_mem_nil, or_false, not_or] at hi
  simp only [get_set2, hi, false_and, if_false]

theorem rF0 (cx : Cx) (env : Env) (σ : AS)  (hlen : env.length = 116) (hcx : cx.esc = [18, 21]) (f13 : Env.get env 13 = .bool false) :
    Pc Try.prog how cx [] 116 [13, 71, 72, 73, 74, 75, 76, 77, 78, 79, 80, 81, 82, 83, 84, 85, 86, 87, 88, 89, 90, 91, 92, 93, 94, 95, 96, 97] (cr [.r, .r, .r, .r, .r, .r, .l, .r, .i, .i, .r, .r, .l, .i, .r]) env σ (.normal) (σ) (fun env' => Env.get env' 13 = .bool false) := by
  refine pc_of fun res hr => ?_
  simp -implicitDefEqProofs [AS.get_push_at, AS.get_push_old, AS.push_len, AS.set_st_len, AS.next_st', AS.set_push_at, AS.get_set_self, AS.get_set_other, cr, Try.f5, hlen, hcx, f13] at hr
  subst hr
  refine ⟨_, rfl, by simp [hlen], by simp [Env.get_set, hlen, f13], fun i hi => ?_⟩
  simp only [List.mem_cons, List.not_mem_nil, or_false, not_or] at hi
  simp only [get_set2, hi, false_and, if_false]

theorem rT1 (cx : Cx) (env : Env) (σ : AS) (b2 c k j w : Nat) (fr : Bool) (T : List Rw) (Y0 : AV) (k0 k1 : ByteArray) (L1 : List Vn) (hlen : env.length = 116) (hcx : cx.esc = [18, 21]) (f8 : Env.get env 8 = .ptr (.hp b2) 0) (f13 : Env.get env 13 = .bool true) (f14 : Env.get env 14 = .int .i64 (k : Int)) (f15 : Env.get env 15 = .ptr (.st c) 0) (gc : σ.get (.st c) = some (.cells [.str k0, Y0])) (hY : Plain Y0) (hA2 : σ.get (.hp b2) = some (.cells [.row (.hp j) w 0 T.length])) (hj : σ.get (.hp j) = some (.row (T.map encRow) 2 w fr)) (hk : k < T.length) (hv : T[k] = (k1, L1)) (hq : beqS k0 k1 = false) :
    Pc Try.prog how cx [] 116 [13, 71, 72, 73, 74, 75, 76, 77, 78, 79, 80, 81, 82, 83, 84, 85, 86, 87, 88, 89, 90, 91, 92, 93, 94, 95, 96, 97] (cr [.r, .r, .r, .r, .r, .r, .l, .r, .i, .i, .r, .r, .l, .i, .r]) env σ (.normal) (σ) (fun env' => Env.get env' 13 = .bool false) := by
  refine pc_of fun res hr => ?_
  simp -implicitDefEqProofs [AS.get_push_at, AS.get_push_old, AS.push_len, AS.set_st_len, AS.next_st', AS.set_push_at, AS.get_set_self, AS.get_set_other, cr, Try.f5, hlen, hcx, f8, f13, f14, f15, gc, hY.one, hY.inb, hY.row, hA2, hj, hk, hv, hq, encRow] at hr
  subst hr
  refine ⟨_, rfl, by simp [hlen], by simp [Env.get_set, hlen, f8, f13, f14, f15, gc, hY.one, hY.inb, hY.row, hA2, hj, hk, hv, hq, encRow], fun i hi => ?_⟩
  simp only [List.mem_cons, List.not_mem_nil, or_false, not_or] at hi
  simp only [get_set2, hi, false_and, if_false]

theorem rT2 (cx : Cx) (env : Env) (σ : AS) (b2 c k j w : Nat) (fr : Bool) (T : List Rw) (Y0 : AV) (k0 k1 : ByteArray) (L1 : List Vn) (v : Bool) (hlen : env.length = 116) (hcx : cx.esc = [18, 21]) (f8 : Env.get env 8 = .ptr (.hp b2) 0) (f13 : Env.get env 13 = .bool true) (f14 : Env.get env 14 = .int .i64 (k : Int)) (f15 : Env.get env 15 = .ptr (.st c) 0) (gc : σ.get (.st c) = some (.cells [.str k0, Y0])) (hY : Plain Y0) (hA2 : σ.get (.hp b2) = some (.cells [.row (.hp j) w 0 T.length])) (hj : σ.get (.hp j) = some (.row (T.map encRow) 2 w fr)) (hk : k < T.length) (hv : T[k] = (k1, L1)) (hq : beqS k0 k1 = true) (hY1 : Plain (slV 4 (L1.map encVn))) (h18 : callW Try.prog how 18 [Y0, slV 4 (L1.map encVn)] σ (some σ.st.length) = some (.bool v, σ)) :
    Pc Try.prog how cx [] 116 [13, 71, 72, 73, 74, 75, 76, 77, 78, 79, 80, 81, 82, 83, 84, 85, 86, 87, 88, 89, 90, 91, 92, 93, 94, 95, 96, 97] (cr [.r, .r, .r, .r, .r, .r, .l, .r, .i, .i, .r, .r, .l, .i, .r]) env σ (.normal) (σ) (fun env' => Env.get env' 13 = .bool v) := by
  refine pc_of fun res hr => ?_
  simp -implicitDefEqProofs [AS.get_push_at, AS.get_push_old, AS.push_len, AS.set_st_len, AS.next_st', AS.set_push_at, AS.get_set_self, AS.get_set_other, cr, Try.f5, hlen, hcx, f8, f13, f14, f15, gc, hY.one, hY.inb, hY.row, hA2, hj, hk, hv, hq, hY1.one, hY1.inb, hY1.row, h18, encRow] at hr
  subst hr
  refine ⟨_, rfl, by simp [hlen], by simp [Env.get_set, hlen, f8, f13, f14, f15, gc, hY.one, hY.inb, hY.row, hA2, hj, hk, hv, hq, hY1.one, hY1.inb, hY1.row, h18, encRow], fun i hi => ?_⟩
  simp only [List.mem_cons, List.not_mem_nil, or_false, not_or] at hi
  simp only [get_set2, hi, false_and, if_false]

theorem rZ (cx : Cx) (env : Env) (σ : AS) (a a2 n : Nat) (d : Bool) (σ1 σ2 σ3 σ4 σ5 : AS) (hlen : env.length = 116) (hcx : cx.esc = [18, 21]) (f5 : Env.get env 5 = .ptr (.hp a) 0) (f7 : Env.get env 7 = .ptr (.hp a2) 0) (f13 : Env.get env 13 = .bool d) (h19a : callW Try.prog how 19 [.ptr (.hp a) 0, .ptr (.hp a2) 0] σ cx.ro = some (.bool d, σ1)) (heb : eqA Try.prog 40 4 (.bool d) (.bool d) = some true) (h19b : callW Try.prog how 19 [.ptr (.hp a) 0, .ptr (.hp a) 0] σ1 cx.ro = some (.bool true, σ2)) (h7 : callW Try.prog how 7 [] σ2 cx.ro = some (.ptr (.hp n) 0, σ3)) (h19c : callW Try.prog how 19 [.nilp, .ptr (.hp n) 0] σ3 cx.ro = some (.bool true, σ4)) (h15 : callW Try.prog how 15 [] σ4 cx.ro = some (.bool true, σ5)) :
    Pc Try.prog how cx [] 116 [4, 99, 100, 101, 102, 103, 104, 105, 106, 107, 108, 109, 110, 111, 112, 113, 114, 115] (cr [.r, .r, .r, .r, .r, .r, .r, .l]) env σ (.normal) (σ5) (fun env' => Env.get env' 4 = .bool true) := by
  refine pc_of fun res hr => ?_
  simp -implicitDefEqProofs [-eqA, AS.get_push_at, AS.get_push_old, AS.push_len, AS.set_st_len, AS.next_st', AS.set_push_at, AS.get_set_self, AS.get_set_other, cr, Try.f5, hlen, hcx, f5, f7, f13, h19a, heb, h19b, h7, h19c, h15] at hr
  subst hr
  refine ⟨_, rfl, by simp [hlen], by simp [Env.get_set, hlen, f5, f7, f13, h19a, heb, h19b, h7, h19c, h15], fun i hi => ?_⟩
  simp only [List.mem_cons, List.not_mem_nil, or_false, not_or] at hi
  simp only [get_set2, hi, false_and, if_false]

end
noncomputable def bodyC : Code := (.seq (cr [.l]) (.seq (cr [.r, .l]) (.seq (cr [.r, .r, .l]) (.seq (.seq (cr [.r, .r, .r, .l, .l]) (cr [.r, .r, .r, .l, .r])) (.seq (.seq (cr [.r, .r, .r, .r, .l, .l]) (cr [.r, .r, .r, .r, .l, .r])) (.seq (cr [.r, .r, .r, .r, .r, .l]) (.seq (.seq (cr [.r, .r, .r, .r, .r, .r, .l, .l]) (cr [.r, .r, .r, .r, .r, .r, .l, .r])) (.seq (cr [.r, .r, .r, .r, .r, .r, .r, .l]) .ret))))))))
theorem body : Try.f5.body = some bodyC := by kernel_rfl
/-- What holds ahead of round k. -/
def J1 (h : Nat) (σ0 : AS) (y : AV) (es : List AV) (k : Nat) (env : Env) (σ : AS) : Prop :=
  Env.get env 1 = y ∧ Env.get env 5 = .ptr (.hp 1) 0 ∧ Env.get env 6 = .ptr (.hp 2) 0 ∧ Env.get env 7 = .ptr (.hp 4) 0 ∧ Env.get env 8 = .ptr (.hp 5) 0 ∧ Env.get env 22 = .sl false 5 es ∧ (∃ S T, Two σ.hp 1 0 2 S ∧ GoodS S ∧ Bnd (min k 12) S ∧ Two σ.hp 4 3 5 T ∧ GoodS T ∧ Bnd 0 T) ∧ Outside h (AS.mk σ.hp σ0.st) σ
def Ex1 (h : Nat) (σ0 : AS) (y : AV) (es : List AV) (e : AExit) (env : Env) (σ : AS) : Prop := False
theorem J1_stable {h : Nat} {σ0 : AS} {y : AV} {es : List AV} : ∀ k env env' σ, env.length = 116 → env'.length = 116 → (∀ i, i ≠ 25 → i ≠ 35 → i ≠ 24 → Env.get env' i = Env.get env i) → J1 h σ0 y es k env σ → J1 h σ0 y es k env' σ := by
  rintro k env env' σ _ _ hf ⟨j1, j5, j6, j7, j8, j22, q0, ho⟩
  exact ⟨(hf 1 (by decide) (by decide) (by decide)).trans j1, (hf 5 (by decide) (by decide) (by decide)).trans j5, (hf 6 (by decide) (by decide) (by decide)).trans j6, (hf 7 (by decide) (by decide) (by decide)).trans j7, (hf 8 (by decide) (by decide) (by decide)).trans j8, (hf 22 (by decide) (by decide) (by decide)).trans j22, q0, ho⟩
noncomputable def oT1 : Oper := (opsOf (cr [.r, .r, .r, .l, .r, .i, .i, .l])).headD default
noncomputable def oI1 : List Oper := opsOf (cr [.r, .r, .r, .l, .r, .i, .i, .r, .r, .r])
theorem loop_eq1 : (cr [.r, .r, .r, .l, .r]) = .block 0 (.loop (.seq (.region 4 #[oT1] false) (.seq (.cond (.tmp 25) .skip (.exit 0)) (.seq (.block 1 (.seq (cr [.r, .r, .r, .l, .r, .i, .i, .r, .r, .l, .i, .l]) (cr [.r, .r, .r, .l, .r, .i, .i, .r, .r, .l, .i, .r]))) (.region 8 #[oI1.headD default, (oI1.drop 1).headD default] false))))) := by kernel_rfl
theorem step1 (cx : Cx) (hcx : cx.esc = [18, 21]) (hro : ∀ k, cx.ro = some k → k ≤ cx.h) (σ0 : AS) (y : AV) (es : List AV) (hr0 : cx.ro = none) (hh0 : cx.h = 0) (hes : ∀ e ∈ es, isOp e) :
    ∀ k env σ, k < es.length → env.length = 116 → Env.get env 24 = .int .i64 (k : Int) → Env.get env 23 = .int .i64 ((es.length : Nat) : Int) → J1 cx.h σ0 y es k env σ → ∃ e env' σ', execW Try.prog cx [] (callW Try.prog how) (.block 1 (.seq (cr [.r, .r, .r, .l, .r, .i, .i, .r, .r, .l, .i, .l]) (cr [.r, .r, .r, .l, .r, .i, .i, .r, .r, .l, .i, .r]))) (env, σ) = some (e, (env', σ')) ∧
      ((e = .normal ∧ env'.length = 116 ∧ Env.get env' 24 = .int .i64 (k : Int) ∧ Env.get env' 23 = .int .i64 ((es.length : Nat) : Int) ∧ J1 cx.h σ0 y es (k + 1) env' σ') ∨ (e ≠ .normal ∧ Ex1 cx.h σ0 y es e env' σ')) := by
  rintro k env σ hk hlen f24 f23 ⟨f1, f5, f6, f7, f8, f22, q0, ho⟩
  obtain ⟨c0, oa, ok_, ov, og, he, hko, hvo⟩ := hes es[k] (List.getElem_mem hk)
  obtain ⟨S, T, hT, hS, hB, hT2, hS2, hB2⟩ := q0
  obtain ⟨env1, x1a, x1b, x1c, x1d⟩ := rE1 cx env σ es k c0 oa ok_ ov og hlen hcx f22 f24 hk he (wokst hro ho.2.2) ho.2.2
  have f1 := (x1d 1 (by decide)).trans f1
  have f5 := (x1d 5 (by decide)).trans f5
  have f6 := (x1d 6 (by decide)).trans f6
  have f7 := (x1d 7 (by decide)).trans f7
  have f8 := (x1d 8 (by decide)).trans f8
  have f22 := (x1d 22 (by decide)).trans f22
  have f23 := (x1d 23 (by decide)).trans f23
  have f24 := (x1d 24 (by decide)).trans f24
  have f9 := x1c.1
  have f10 := x1c.2
  have g1 : ((σ : AS).push false (.cells [.int .i64 c0, .str ok_, .int .i64 oa, .str ov, .bool og])).get (.st (σ : AS).st.length) = some (.cells [.int .i64 c0, .str ok_, .int .i64 oa, .str ov, .bool og]) := AS.get_push_at rfl
  have ho := ho.push (ob := .cells [.int .i64 c0, .str ok_, .int .i64 oa, .str ov, .bool og])
  generalize hib1 : (σ : AS).st.length = ib1 at g1 f10
  generalize (σ : AS).push false (.cells [.int .i64 c0, .str ok_, .int .i64 oa, .str ov, .bool og]) = σ1 at x1a g1 ho
  have hhp : σ1.hp = σ.hp := ho.1
  rw [← hhp] at hT hT2
  by_cases q : (k : Int) < 12
  · skip
    obtain ⟨hp1, S1, h8, hT1, hS1, hB1, hk1⟩ := F8.ok σ1.hp σ1.st 1 0 2 (min k 12) c0 oa ok_ ov og S hT hS hB (by omega)
    rw [← hr0] at h8
    rw [min_succ_le (by omega)] at hB1
    obtain ⟨env2, x2a, x2b, x2c, x2d⟩ := rS1 cx env1 σ1 1 2 _ k c0 oa ok_ ov og _ x1b hcx f5 f6 f9 f10 g1 q h8 
    have f1 := (x2d 1 (by decide)).trans f1
    have f5 := (x2d 5 (by decide)).trans f5
    have f6 := (x2d 6 (by decide)).trans f6
    have f7 := (x2d 7 (by decide)).trans f7
    have f8 := (x2d 8 (by decide)).trans f8
    have f9 := (x2d 9 (by decide)).trans f9
    have f10 := (x2d 10 (by decide)).trans f10
    have f22 := (x2d 22 (by decide)).trans f22
    have f23 := (x2d 23 (by decide)).trans f23
    have f24 := (x2d 24 (by decide)).trans f24
    exact ⟨.normal, env2, _, (execW_block_of (execW_seq_of x1a x2a)), .inl ⟨rfl, x2b, f24, f23, f1, f5, f6, f7, f8, f22, ⟨S1, T, hT1, hS1, hB1, frame2 hT2 hT hk1 (by decide) (by decide) (by decide), hS2, hB2⟩, (by rw [hh0]; exact ⟨rfl, by simp, Nat.zero_le _⟩)⟩⟩
  · skip
    obtain ⟨env2, x2a, x2b, x2c, x2d⟩ := rK1 cx env1 σ1 k x1b hcx f9 q 
    have f1 := (x2d 1 (by decide)).trans f1
    have f5 := (x2d 5 (by decide)).trans f5
    have f6 := (x2d 6 (by decide)).trans f6
    have f7 := (x2d 7 (by decide)).trans f7
    have f8 := (x2d 8 (by decide)).trans f8
    have f9 := (x2d 9 (by decide)).trans f9
    have f10 := (x2d 10 (by decide)).trans f10
    have f22 := (x2d 22 (by decide)).trans f22
    have f23 := (x2d 23 (by decide)).trans f23
    have f24 := (x2d 24 (by decide)).trans f24
    exact ⟨.normal, env2, _, (execW_block_of (execW_seq_of x1a x2a)), .inl ⟨rfl, x2b, f24, f23, f1, f5, f6, f7, f8, f22, ⟨S, T, hT, hS, hB.le (by omega), hT2, hS2, hB2⟩, (by rw [hh0]; exact ⟨rfl, by simp, Nat.zero_le _⟩)⟩⟩
theorem loop1 (cx : Cx) (hcx : cx.esc = [18, 21]) (hro : ∀ k, cx.ro = some k → k ≤ cx.h) (σ0 : AS) (y : AV) (es : List AV) (hr0 : cx.ro = none) (hh0 : cx.h = 0) (hes : ∀ e ∈ es, isOp e) (hnn : es.length ≤ 9223372036854775807) {env : Env} {σ : AS} (hl : env.length = 116) (h1 : Env.get env 24 = .int .i64 0) (h2 : Env.get env 23 = .int .i64 ((es.length : Nat) : Int)) (h0 : J1 cx.h σ0 y es 0 env σ) :
    ∃ e env' σ', execW Try.prog cx [] (callW Try.prog how) (cr [.r, .r, .r, .l, .r]) (env, σ) = some (e, (env', σ')) ∧ ((e = .normal ∧ ((env'.length = 116 ∧ J1 cx.h σ0 y es (es.length) env' σ') ∨ Ex1 cx.h σ0 y es (.exit 0) env' σ')) ∨ (e ≠ .normal ∧ e ≠ .exit 0 ∧ Ex1 cx.h σ0 y es e env' σ')) := by
  rw [loop_eq1]
  exact range_std (Ex := Ex1 cx.h σ0 y es) (N := 116) (tc := 25) (ti := 24) (tl := 23) (tx := 35) (ty1 := 3) (ty2 := 3) (ty3 := 3) (ty4 := 3) ⟨by kernel_rfl, by kernel_rfl, by kernel_rfl⟩ ⟨by kernel_rfl, by kernel_rfl, by kernel_rfl⟩ ⟨by kernel_rfl, by kernel_rfl, by kernel_rfl⟩ (by decide) hnn J1_stable (step1 cx hcx hro σ0 y es hr0 hh0 hes) hl h1 h2 h0
theorem loop1_nil (cx : Cx) (hcx : cx.esc = [18, 21]) (σ : AS) (env : Env) (hl : env.length = 116) (h1 : Env.get env 24 = .int .i64 0) (h2 : Env.get env 23 = .int .i64 ((([] : List AV).length : Nat) : Int)) :
    ∃ en σ', execW Try.prog cx [] (callW Try.prog how) (cr [.r, .r, .r, .l, .r]) (env, σ) = some (.normal, (en, σ')) ∧ en.length = 116 ∧ σ' = σ ∧ ∀ i, i ∉ [25, 35, 24] → Env.get en i = Env.get env i := by
  rw [loop_eq1]
  obtain ⟨e, en, τ, r, hh⟩ := range_std (P := Try.prog) (cx := cx) (tails := []) (call := callW Try.prog how) (B := 0) (idT := 4) (idI := 8) (oT := oT1) (o1 := oI1.headD default) (o2 := (oI1.drop 1).headD default) (body := (.block 1 (.seq (cr [.r, .r, .r, .l, .r, .i, .i, .r, .r, .l, .i, .l]) (cr [.r, .r, .r, .l, .r, .i, .i, .r, .r, .l, .i, .r])))) (J := fun _ e s => s = σ ∧ ∀ i, i ∉ [25, 35, 24] → Env.get e i = Env.get env i) (Ex := fun _ _ _ => False) (n := 0) (N := 116) (tc := 25) (ti := 24) (tl := 23) (tx := 35) (ty1 := 3) (ty2 := 3) (ty3 := 3) (ty4 := 3) ⟨by kernel_rfl, by kernel_rfl, by kernel_rfl⟩ ⟨by kernel_rfl, by kernel_rfl, by kernel_rfl⟩ ⟨by kernel_rfl, by kernel_rfl, by kernel_rfl⟩ (by decide) (by omega) (fun _ _ _ _ _ _ hf h => ⟨h.1, fun i hi => (hf i (fun e => hi (by simp [e])) (fun e => hi (by simp [e])) (fun e => hi (by simp [e]))).trans (h.2 i hi)⟩) (fun k _ _ hk => by cases hk) (σ := σ) hl h1 h2 ⟨rfl, fun _ _ => rfl⟩
  rcases hh with ⟨rfl, ⟨h, h2, h3⟩ | h⟩ | ⟨_, _, h⟩
  · exact ⟨en, τ, r, h, h2, h3⟩
  · exact h.elim
  · exact h.elim
/-- What holds ahead of round k. -/
def J2 (h : Nat) (σ0 : AS) (y : AV) (es : List AV) (k : Nat) (env : Env) (σ : AS) : Prop :=
  Env.get env 5 = .ptr (.hp 1) 0 ∧ Env.get env 6 = .ptr (.hp 2) 0 ∧ Env.get env 7 = .ptr (.hp 4) 0 ∧ Env.get env 8 = .ptr (.hp 5) 0 ∧ Env.get env 36 = .sl false 5 es ∧ (∃ S T, Two σ.hp 1 0 2 S ∧ GoodS S ∧ Bnd 12 S ∧ Two σ.hp 4 3 5 T ∧ GoodS T ∧ Bnd (min k 12) T) ∧ Outside h (AS.mk σ.hp σ0.st) σ
def Ex2 (h : Nat) (σ0 : AS) (y : AV) (es : List AV) (e : AExit) (env : Env) (σ : AS) : Prop := False
theorem J2_stable {h : Nat} {σ0 : AS} {y : AV} {es : List AV} : ∀ k env env' σ, env.length = 116 → env'.length = 116 → (∀ i, i ≠ 39 → i ≠ 49 → i ≠ 38 → Env.get env' i = Env.get env i) → J2 h σ0 y es k env σ → J2 h σ0 y es k env' σ := by
  rintro k env env' σ _ _ hf ⟨j5, j6, j7, j8, j36, q0, ho⟩
  exact ⟨(hf 5 (by decide) (by decide) (by decide)).trans j5, (hf 6 (by decide) (by decide) (by decide)).trans j6, (hf 7 (by decide) (by decide) (by decide)).trans j7, (hf 8 (by decide) (by decide) (by decide)).trans j8, (hf 36 (by decide) (by decide) (by decide)).trans j36, q0, ho⟩
noncomputable def oT2 : Oper := (opsOf (cr [.r, .r, .r, .r, .l, .r, .i, .i, .l])).headD default
noncomputable def oI2 : List Oper := opsOf (cr [.r, .r, .r, .r, .l, .r, .i, .i, .r, .r, .r])
theorem loop_eq2 : (cr [.r, .r, .r, .r, .l, .r]) = .block 2 (.loop (.seq (.region 10 #[oT2] false) (.seq (.cond (.tmp 39) .skip (.exit 2)) (.seq (.block 3 (.seq (cr [.r, .r, .r, .r, .l, .r, .i, .i, .r, .r, .l, .i, .l]) (cr [.r, .r, .r, .r, .l, .r, .i, .i, .r, .r, .l, .i, .r]))) (.region 14 #[oI2.headD default, (oI2.drop 1).headD default] false))))) := by kernel_rfl
theorem step2 (cx : Cx) (hcx : cx.esc = [18, 21]) (hro : ∀ k, cx.ro = some k → k ≤ cx.h) (σ0 : AS) (y : AV) (es : List AV) (hr0 : cx.ro = none) (hh0 : cx.h = 0) (hes : ∀ e ∈ es, isOp e) :
    ∀ k env σ, k < es.length → env.length = 116 → Env.get env 38 = .int .i64 (k : Int) → Env.get env 37 = .int .i64 ((es.length : Nat) : Int) → J2 cx.h σ0 y es k env σ → ∃ e env' σ', execW Try.prog cx [] (callW Try.prog how) (.block 3 (.seq (cr [.r, .r, .r, .r, .l, .r, .i, .i, .r, .r, .l, .i, .l]) (cr [.r, .r, .r, .r, .l, .r, .i, .i, .r, .r, .l, .i, .r]))) (env, σ) = some (e, (env', σ')) ∧
      ((e = .normal ∧ env'.length = 116 ∧ Env.get env' 38 = .int .i64 (k : Int) ∧ Env.get env' 37 = .int .i64 ((es.length : Nat) : Int) ∧ J2 cx.h σ0 y es (k + 1) env' σ') ∨ (e ≠ .normal ∧ Ex2 cx.h σ0 y es e env' σ')) := by
  rintro k env σ hk hlen f38 f37 ⟨f5, f6, f7, f8, f36, q0, ho⟩
  obtain ⟨c0, oa, ok_, ov, og, he, hko, hvo⟩ := hes es[k] (List.getElem_mem hk)
  obtain ⟨S, T, hT, hS, hB, hT2, hS2, hB2⟩ := q0
  obtain ⟨env1, x1a, x1b, x1c, x1d⟩ := rE2 cx env σ es k c0 oa ok_ ov og hlen hcx f36 f38 hk he (wokst hro ho.2.2) ho.2.2
  have f5 := (x1d 5 (by decide)).trans f5
  have f6 := (x1d 6 (by decide)).trans f6
  have f7 := (x1d 7 (by decide)).trans f7
  have f8 := (x1d 8 (by decide)).trans f8
  have f36 := (x1d 36 (by decide)).trans f36
  have f37 := (x1d 37 (by decide)).trans f37
  have f38 := (x1d 38 (by decide)).trans f38
  have f11 := x1c.1
  have f12 := x1c.2
  have g1 : ((σ : AS).push false (.cells [.int .i64 c0, .str ok_, .int .i64 oa, .str ov, .bool og])).get (.st (σ : AS).st.length) = some (.cells [.int .i64 c0, .str ok_, .int .i64 oa, .str ov, .bool og]) := AS.get_push_at rfl
  have ho := ho.push (ob := .cells [.int .i64 c0, .str ok_, .int .i64 oa, .str ov, .bool og])
  generalize hib1 : (σ : AS).st.length = ib1 at g1 f12
  generalize (σ : AS).push false (.cells [.int .i64 c0, .str ok_, .int .i64 oa, .str ov, .bool og]) = σ1 at x1a g1 ho
  have hhp : σ1.hp = σ.hp := ho.1
  rw [← hhp] at hT hT2
  by_cases q : (k : Int) < 12
  · skip
    obtain ⟨hp1, S1, h8, hT1, hS1, hB1, hk1⟩ := F8.ok σ1.hp σ1.st 4 3 5 (min k 12) c0 oa ok_ ov og T hT2 hS2 hB2 (by omega)
    rw [← hr0] at h8
    rw [min_succ_le (by omega)] at hB1
    obtain ⟨env2, x2a, x2b, x2c, x2d⟩ := rS2 cx env1 σ1 4 5 _ k c0 oa ok_ ov og _ x1b hcx f7 f8 f11 f12 g1 q h8 
    have f5 := (x2d 5 (by decide)).trans f5
    have f6 := (x2d 6 (by decide)).trans f6
    have f7 := (x2d 7 (by decide)).trans f7
    have f8 := (x2d 8 (by decide)).trans f8
    have f11 := (x2d 11 (by decide)).trans f11
    have f12 := (x2d 12 (by decide)).trans f12
    have f36 := (x2d 36 (by decide)).trans f36
    have f37 := (x2d 37 (by decide)).trans f37
    have f38 := (x2d 38 (by decide)).trans f38
    exact ⟨.normal, env2, _, (execW_block_of (execW_seq_of x1a x2a)), .inl ⟨rfl, x2b, f38, f37, f5, f6, f7, f8, f36, ⟨S, S1, frame2 hT hT2 hk1 (by decide) (by decide) (by decide), hS, hB, hT1, hS1, hB1⟩, (by rw [hh0]; exact ⟨rfl, by simp, Nat.zero_le _⟩)⟩⟩
  · skip
    obtain ⟨env2, x2a, x2b, x2c, x2d⟩ := rK2 cx env1 σ1 k x1b hcx f11 q 
    have f5 := (x2d 5 (by decide)).trans f5
    have f6 := (x2d 6 (by decide)).trans f6
    have f7 := (x2d 7 (by decide)).trans f7
    have f8 := (x2d 8 (by decide)).trans f8
    have f11 := (x2d 11 (by decide)).trans f11
    have f12 := (x2d 12 (by decide)).trans f12
    have f36 := (x2d 36 (by decide)).trans f36
    have f37 := (x2d 37 (by decide)).trans f37
    have f38 := (x2d 38 (by decide)).trans f38
    exact ⟨.normal, env2, _, (execW_block_of (execW_seq_of x1a x2a)), .inl ⟨rfl, x2b, f38, f37, f5, f6, f7, f8, f36, ⟨S, T, hT, hS, hB, hT2, hS2, hB2.le (by omega)⟩, (by rw [hh0]; exact ⟨rfl, by simp, Nat.zero_le _⟩)⟩⟩
theorem loop2 (cx : Cx) (hcx : cx.esc = [18, 21]) (hro : ∀ k, cx.ro = some k → k ≤ cx.h) (σ0 : AS) (y : AV) (es : List AV) (hr0 : cx.ro = none) (hh0 : cx.h = 0) (hes : ∀ e ∈ es, isOp e) (hnn : es.length ≤ 9223372036854775807) {env : Env} {σ : AS} (hl : env.length = 116) (h1 : Env.get env 38 = .int .i64 0) (h2 : Env.get env 37 = .int .i64 ((es.length : Nat) : Int)) (h0 : J2 cx.h σ0 y es 0 env σ) :
    ∃ e env' σ', execW Try.prog cx [] (callW Try.prog how) (cr [.r, .r, .r, .r, .l, .r]) (env, σ) = some (e, (env', σ')) ∧ ((e = .normal ∧ ((env'.length = 116 ∧ J2 cx.h σ0 y es (es.length) env' σ') ∨ Ex2 cx.h σ0 y es (.exit 2) env' σ')) ∨ (e ≠ .normal ∧ e ≠ .exit 2 ∧ Ex2 cx.h σ0 y es e env' σ')) := by
  rw [loop_eq2]
  exact range_std (Ex := Ex2 cx.h σ0 y es) (N := 116) (tc := 39) (ti := 38) (tl := 37) (tx := 49) (ty1 := 3) (ty2 := 3) (ty3 := 3) (ty4 := 3) ⟨by kernel_rfl, by kernel_rfl, by kernel_rfl⟩ ⟨by kernel_rfl, by kernel_rfl, by kernel_rfl⟩ ⟨by kernel_rfl, by kernel_rfl, by kernel_rfl⟩ (by decide) hnn J2_stable (step2 cx hcx hro σ0 y es hr0 hh0 hes) hl h1 h2 h0
theorem loop2_nil (cx : Cx) (hcx : cx.esc = [18, 21]) (σ : AS) (env : Env) (hl : env.length = 116) (h1 : Env.get env 38 = .int .i64 0) (h2 : Env.get env 37 = .int .i64 ((([] : List AV).length : Nat) : Int)) :
    ∃ en σ', execW Try.prog cx [] (callW Try.prog how) (cr [.r, .r, .r, .r, .l, .r]) (env, σ) = some (.normal, (en, σ')) ∧ en.length = 116 ∧ σ' = σ ∧ ∀ i, i ∉ [39, 49, 38] → Env.get en i = Env.get env i := by
  rw [loop_eq2]
  obtain ⟨e, en, τ, r, hh⟩ := range_std (P := Try.prog) (cx := cx) (tails := []) (call := callW Try.prog how) (B := 2) (idT := 10) (idI := 14) (oT := oT2) (o1 := oI2.headD default) (o2 := (oI2.drop 1).headD default) (body := (.block 3 (.seq (cr [.r, .r, .r, .r, .l, .r, .i, .i, .r, .r, .l, .i, .l]) (cr [.r, .r, .r, .r, .l, .r, .i, .i, .r, .r, .l, .i, .r])))) (J := fun _ e s => s = σ ∧ ∀ i, i ∉ [39, 49, 38] → Env.get e i = Env.get env i) (Ex := fun _ _ _ => False) (n := 0) (N := 116) (tc := 39) (ti := 38) (tl := 37) (tx := 49) (ty1 := 3) (ty2 := 3) (ty3 := 3) (ty4 := 3) ⟨by kernel_rfl, by kernel_rfl, by kernel_rfl⟩ ⟨by kernel_rfl, by kernel_rfl, by kernel_rfl⟩ ⟨by kernel_rfl, by kernel_rfl, by kernel_rfl⟩ (by decide) (by omega) (fun _ _ _ _ _ _ hf h => ⟨h.1, fun i hi => (hf i (fun e => hi (by simp [e])) (fun e => hi (by simp [e])) (fun e => hi (by simp [e]))).trans (h.2 i hi)⟩) (fun k _ _ hk => by cases hk) (σ := σ) hl h1 h2 ⟨rfl, fun _ _ => rfl⟩
  rcases hh with ⟨rfl, ⟨h, h2, h3⟩ | h⟩ | ⟨_, _, h⟩
  · exact ⟨en, τ, r, h, h2, h3⟩
  · exact h.elim
  · exact h.elim
/-- What holds ahead of round k. -/
def J3 (h : Nat) (σ0 : AS) (S T : List Rw) (X : AV) (k : Nat) (env : Env) (σ : AS) : Prop :=
  Env.get env 5 = .ptr (.hp 1) 0 ∧ Env.get env 6 = .ptr (.hp 2) 0 ∧ Env.get env 7 = .ptr (.hp 4) 0 ∧ Env.get env 8 = .ptr (.hp 5) 0 ∧ Env.get env 64 = X ∧ Env.get env 13 = .bool (decide (S.length = T.length) && decide (S.take k = T.take k)) ∧ Outside h σ0 σ
def Ex3 (h : Nat) (σ0 : AS) (S T : List Rw) (X : AV) (e : AExit) (env : Env) (σ : AS) : Prop := False
theorem J3_stable {h : Nat} {σ0 : AS} {S T : List Rw} {X : AV} : ∀ k env env' σ, env.length = 116 → env'.length = 116 → (∀ i, i ≠ 67 → i ≠ 98 → i ≠ 66 → Env.get env' i = Env.get env i) → J3 h σ0 S T X k env σ → J3 h σ0 S T X k env' σ := by
  rintro k env env' σ _ _ hf ⟨j5, j6, j7, j8, j64, j13, ho⟩
  exact ⟨(hf 5 (by decide) (by decide) (by decide)).trans j5, (hf 6 (by decide) (by decide) (by decide)).trans j6, (hf 7 (by decide) (by decide) (by decide)).trans j7, (hf 8 (by decide) (by decide) (by decide)).trans j8, (hf 64 (by decide) (by decide) (by decide)).trans j64, (hf 13 (by decide) (by decide) (by decide)).trans j13, ho⟩
noncomputable def oT3 : Oper := (opsOf (cr [.r, .r, .r, .r, .r, .r, .l, .r, .i, .i, .l])).headD default
noncomputable def oI3 : List Oper := opsOf (cr [.r, .r, .r, .r, .r, .r, .l, .r, .i, .i, .r, .r, .r])
theorem loop_eq3 : (cr [.r, .r, .r, .r, .r, .r, .l, .r]) = .block 4 (.loop (.seq (.region 17 #[oT3] false) (.seq (.cond (.tmp 67) .skip (.exit 4)) (.seq (.block 5 (.seq (cr [.r, .r, .r, .r, .r, .r, .l, .r, .i, .i, .r, .r, .l, .i, .l]) (cr [.r, .r, .r, .r, .r, .r, .l, .r, .i, .i, .r, .r, .l, .i, .r]))) (.region 20 #[oI3.headD default, (oI3.drop 1).headD default] false))))) := by kernel_rfl
theorem step3 (cx : Cx) (hcx : cx.esc = [18, 21]) (hro : ∀ k, cx.ro = some k → k ≤ cx.h) (σ0 : AS) (S T : List Rw) (X : AV) (X2 : AV) (hX : HRow σ0.hp X (S.map encRow)) (hA2 : σ0.hp[5]? = some (.cells [X2])) (hX2 : HRow σ0.hp X2 (T.map encRow)) (hS : GoodS S) (hT : GoodS T) :
    ∀ k env σ, k < S.length → env.length = 116 → Env.get env 66 = .int .i64 (k : Int) → Env.get env 65 = .int .i64 ((S.length : Nat) : Int) → J3 cx.h σ0 S T X k env σ → ∃ e env' σ', execW Try.prog cx [] (callW Try.prog how) (.block 5 (.seq (cr [.r, .r, .r, .r, .r, .r, .l, .r, .i, .i, .r, .r, .l, .i, .l]) (cr [.r, .r, .r, .r, .r, .r, .l, .r, .i, .i, .r, .r, .l, .i, .r]))) (env, σ) = some (e, (env', σ')) ∧
      ((e = .normal ∧ env'.length = 116 ∧ Env.get env' 66 = .int .i64 (k : Int) ∧ Env.get env' 65 = .int .i64 ((S.length : Nat) : Int) ∧ J3 cx.h σ0 S T X (k + 1) env' σ') ∨ (e ≠ .normal ∧ Ex3 cx.h σ0 S T X e env' σ')) := by
  rintro k env σ hk hlen f66 f65 ⟨f5, f6, f7, f8, f64, f13, ho⟩
  have hXσ : Rd Try.prog σ 26 36 X (S.map encRow) := by have := hX.rd σ.st; rw [← ho.1] at this; exact this
  obtain ⟨p, hia, hpa⟩ := hXσ.2 k (encRow S[k]) (by rw [List.getElem?_map, List.getElem?_eq_getElem hk]; rfl)
  obtain ⟨env1, x1a, x1b, x1c, x1d⟩ := rE3 cx env σ k X p (slV 4 (S[k].2.map encVn)) (S[k].1) hlen hcx f64 f66 hia hpa slV_plain (wokst hro ho.2.2) ho.2.2
  have f5 := (x1d 5 (by decide)).trans f5
  have f6 := (x1d 6 (by decide)).trans f6
  have f7 := (x1d 7 (by decide)).trans f7
  have f8 := (x1d 8 (by decide)).trans f8
  have f13 := (x1d 13 (by decide)).trans f13
  have f64 := (x1d 64 (by decide)).trans f64
  have f65 := (x1d 65 (by decide)).trans f65
  have f66 := (x1d 66 (by decide)).trans f66
  have f14 := x1c.1
  have f15 := x1c.2
  have g1 : ((σ : AS).push false (.cells [.str S[k].1, slV 4 (S[k].2.map encVn)])).get (.st (σ : AS).st.length) = some (.cells [.str S[k].1, slV 4 (S[k].2.map encVn)]) := AS.get_push_at rfl
  have ho := ho.push (ob := .cells [.str S[k].1, slV 4 (S[k].2.map encVn)])
  generalize hib1 : (σ : AS).st.length = ib1 at g1 f15
  generalize (σ : AS).push false (.cells [.str S[k].1, slV 4 (S[k].2.map encVn)]) = σ1 at x1a g1 ho
  have hhp : σ1.hp = σ0.hp := ho.1
  by_cases hl : S.length = T.length
  · skip
    have hkT : k < T.length := by omega
    rw [decide_eq_true hl, Bool.true_and] at f13
    by_cases ht : S.take k = T.take k
    · rw [decide_eq_true ht] at f13
      obtain ⟨j, w, fr, rfl, hj⟩ : ∃ j w fr, X2 = .row (.hp j) w 0 T.length ∧ σ0.hp[j]? = some (.row (T.map encRow) 2 w fr) := by
        rcases hX2 with ⟨_, h⟩ | ⟨j, w, fr, e, hj⟩
        · have : T = [] := by simpa using h
          rw [this] at hkT
          cases hkT
        · rw [List.length_map] at e
          exact ⟨j, w, fr, e, hj⟩
      rw [← hhp] at hA2 hj
      have hq := beqS_dec S[k].1 T[k].1
      by_cases qe : S[k].1 = T[k].1
      · rw [decide_eq_true qe] at hq
        have h18 := F18.ok σ1.hp σ1.st (some σ1.st.length) (slV 4 (S[k].2.map encVn)) (slV 4 (T[k].2.map encVn)) S[k].2 T[k].2 (hq1 (Nat.le_refl _)) (rdV4 _ _) (rdV4 _ _) (by have := (hS.go _ (List.getElem_mem hk)).len; have := (hT.go _ (List.getElem_mem hkT)).len; omega)
        obtain ⟨env2, x2a, x2b, x2c, x2d⟩ := rT2 cx env1 σ1 5 _ k j w fr T (slV 4 (S[k].2.map encVn)) (S[k].1) (T[k].1) (T[k].2) _ x1b hcx f8 f13 f14 f15 g1 slV_plain hA2 hj hkT rfl hq slV_plain h18 
        have f5 := (x2d 5 (by decide)).trans f5
        have f6 := (x2d 6 (by decide)).trans f6
        have f7 := (x2d 7 (by decide)).trans f7
        have f8 := (x2d 8 (by decide)).trans f8
        have f14 := (x2d 14 (by decide)).trans f14
        have f15 := (x2d 15 (by decide)).trans f15
        have f64 := (x2d 64 (by decide)).trans f64
        have f65 := (x2d 65 (by decide)).trans f65
        have f66 := (x2d 66 (by decide)).trans f66
        have f13 := x2c
        have hw : (decide (S.length = T.length) && decide (S.take (k + 1) = T.take (k + 1))) = decide (S[k].2 = T[k].2) := by
          rw [decide_eq_true hl, Bool.true_and]
          by_cases q2 : S[k].2 = T[k].2
          · rw [decide_eq_true q2, decide_eq_true (take_eq_succ hk hkT ht (Prod.ext qe q2))]
          · rw [decide_eq_false q2, decide_eq_false]
            intro h
            rw [List.take_succ_eq_append_getElem hk, List.take_succ_eq_append_getElem hkT, ht] at h
            have h3 := List.append_cancel_left h
            exact q2 (congrArg Prod.snd (List.cons.inj h3).1)
        exact ⟨.normal, env2, _, (execW_block_of (execW_seq_of x1a x2a)), .inl ⟨rfl, x2b, f66, f65, f5, f6, f7, f8, f64, (by rw [hw]; exact f13), ho⟩⟩
      · rw [decide_eq_false qe] at hq
        obtain ⟨env2, x2a, x2b, x2c, x2d⟩ := rT1 cx env1 σ1 5 _ k j w fr T (slV 4 (S[k].2.map encVn)) (S[k].1) (T[k].1) (T[k].2) x1b hcx f8 f13 f14 f15 g1 slV_plain hA2 hj hkT rfl hq 
        have f5 := (x2d 5 (by decide)).trans f5
        have f6 := (x2d 6 (by decide)).trans f6
        have f7 := (x2d 7 (by decide)).trans f7
        have f8 := (x2d 8 (by decide)).trans f8
        have f14 := (x2d 14 (by decide)).trans f14
        have f15 := (x2d 15 (by decide)).trans f15
        have f64 := (x2d 64 (by decide)).trans f64
        have f65 := (x2d 65 (by decide)).trans f65
        have f66 := (x2d 66 (by decide)).trans f66
        have f13 := x2c
        have hw : (decide (S.length = T.length) && decide (S.take (k + 1) = T.take (k + 1))) = false := by
          rw [decide_eq_true hl, Bool.true_and, decide_eq_false]
          intro h
          rw [List.take_succ_eq_append_getElem hk, List.take_succ_eq_append_getElem hkT, ht] at h
          have h3 := List.append_cancel_left h
          exact qe (congrArg Prod.fst (List.cons.inj h3).1)
        exact ⟨.normal, env2, _, (execW_block_of (execW_seq_of x1a x2a)), .inl ⟨rfl, x2b, f66, f65, f5, f6, f7, f8, f64, (by rw [hw]; exact f13), ho⟩⟩
    · rw [decide_eq_false ht] at f13
      obtain ⟨env2, x2a, x2b, x2c, x2d⟩ := rF0 cx env1 σ1  x1b hcx f13  
      have f5 := (x2d 5 (by decide)).trans f5
      have f6 := (x2d 6 (by decide)).trans f6
      have f7 := (x2d 7 (by decide)).trans f7
      have f8 := (x2d 8 (by decide)).trans f8
      have f14 := (x2d 14 (by decide)).trans f14
      have f15 := (x2d 15 (by decide)).trans f15
      have f64 := (x2d 64 (by decide)).trans f64
      have f65 := (x2d 65 (by decide)).trans f65
      have f66 := (x2d 66 (by decide)).trans f66
      have f13 := x2c
      have hw : (decide (S.length = T.length) && decide (S.take (k + 1) = T.take (k + 1))) = false := by
        rw [decide_eq_true hl, Bool.true_and, decide_eq_false]
        intro h
        have h3 := congrArg (List.take k) h
        rw [List.take_take, List.take_take, Nat.min_eq_left (Nat.le_succ k)] at h3
        exact ht h3
      exact ⟨.normal, env2, _, (execW_block_of (execW_seq_of x1a x2a)), .inl ⟨rfl, x2b, f66, f65, f5, f6, f7, f8, f64, (by rw [hw]; exact f13), ho⟩⟩
  · rw [decide_eq_false hl, Bool.false_and] at f13
    obtain ⟨env2, x2a, x2b, x2c, x2d⟩ := rF0 cx env1 σ1  x1b hcx f13  
    have f5 := (x2d 5 (by decide)).trans f5
    have f6 := (x2d 6 (by decide)).trans f6
    have f7 := (x2d 7 (by decide)).trans f7
    have f8 := (x2d 8 (by decide)).trans f8
    have f14 := (x2d 14 (by decide)).trans f14
    have f15 := (x2d 15 (by decide)).trans f15
    have f64 := (x2d 64 (by decide)).trans f64
    have f65 := (x2d 65 (by decide)).trans f65
    have f66 := (x2d 66 (by decide)).trans f66
    have f13 := x2c
    have hw : (decide (S.length = T.length) && decide (S.take (k + 1) = T.take (k + 1))) = false := by rw [decide_eq_false hl, Bool.false_and]
    exact ⟨.normal, env2, _, (execW_block_of (execW_seq_of x1a x2a)), .inl ⟨rfl, x2b, f66, f65, f5, f6, f7, f8, f64, (by rw [hw]; exact f13), ho⟩⟩
theorem loop3 (cx : Cx) (hcx : cx.esc = [18, 21]) (hro : ∀ k, cx.ro = some k → k ≤ cx.h) (σ0 : AS) (S T : List Rw) (X : AV) (X2 : AV) (hX : HRow σ0.hp X (S.map encRow)) (hA2 : σ0.hp[5]? = some (.cells [X2])) (hX2 : HRow σ0.hp X2 (T.map encRow)) (hS : GoodS S) (hT : GoodS T) (hnn : S.length ≤ 9223372036854775807) {env : Env} {σ : AS} (hl : env.length = 116) (h1 : Env.get env 66 = .int .i64 0) (h2 : Env.get env 65 = .int .i64 ((S.length : Nat) : Int)) (h0 : J3 cx.h σ0 S T X 0 env σ) :
    ∃ e env' σ', execW Try.prog cx [] (callW Try.prog how) (cr [.r, .r, .r, .r, .r, .r, .l, .r]) (env, σ) = some (e, (env', σ')) ∧ ((e = .normal ∧ ((env'.length = 116 ∧ J3 cx.h σ0 S T X (S.length) env' σ') ∨ Ex3 cx.h σ0 S T X (.exit 4) env' σ')) ∨ (e ≠ .normal ∧ e ≠ .exit 4 ∧ Ex3 cx.h σ0 S T X e env' σ')) := by
  rw [loop_eq3]
  exact range_std (Ex := Ex3 cx.h σ0 S T X) (N := 116) (tc := 67) (ti := 66) (tl := 65) (tx := 98) (ty1 := 3) (ty2 := 3) (ty3 := 3) (ty4 := 3) ⟨by kernel_rfl, by kernel_rfl, by kernel_rfl⟩ ⟨by kernel_rfl, by kernel_rfl, by kernel_rfl⟩ ⟨by kernel_rfl, by kernel_rfl, by kernel_rfl⟩ (by decide) hnn J3_stable (step3 cx hcx hro σ0 S T X X2 hX hA2 hX2 hS hT) hl h1 h2 h0
theorem ok (x y : AV) (hx : isOps x) (hy : isOps y) : ∃ σ', callW Try.prog how 5 [x, y] ⟨[], []⟩ none = some (.bool true, σ') := by
  let cx : Cx := { h := 0, ro := none, esc := [18, 21] }
  have hcx : cx.esc = [18, 21] := rfl
  have hro : ∀ k, cx.ro = some k → k ≤ cx.h := fun k hk => by cases hk
  obtain ⟨env, henv⟩ : ∃ e, e = frameA Try.f5 [x, y] := ⟨_, rfl⟩
  have hlen : env.length = 116 := by rw [henv]; rfl
  have f0 : Env.get env 0 = x := by rw [henv]; rfl
  have f1 : Env.get env 1 = y := by rw [henv]; rfl
  obtain ⟨env1, x1a, x1b, x1c, x1d⟩ := rA cx env (AS.mk [] [])  hlen hcx   
  have f0 := (x1d 0 (by decide)).trans f0
  have f1 := (x1d 1 (by decide)).trans f1
  have f4 := x1c
  obtain ⟨env2, x2a, x2b, x2c, x2d⟩ := rN cx env1 (AS.mk [] []) ([]) ([]) x1b hcx  (f7_ok [] []) rfl rfl 
  have f0 := (x2d 0 (by decide)).trans f0
  have f1 := (x2d 1 (by decide)).trans f1
  have f4 := (x2d 4 (by decide)).trans f4
  have f5 := x2c.1
  have f6 := x2c.2
  obtain ⟨env3, x3a, x3b, x3c, x3d⟩ := rM cx env2 (AS.mk [AObj.map [], AObj.cells [.map (.hp 0)], AObj.cells [.nils]] []) ([AObj.map [], AObj.cells [.map (.hp 0)], AObj.cells [.nils]]) ([]) x2b hcx  (f7_ok [AObj.map [], AObj.cells [.map (.hp 0)], AObj.cells [.nils]] []) rfl rfl 
  have f0 := (x3d 0 (by decide)).trans f0
  have f1 := (x3d 1 (by decide)).trans f1
  have f4 := (x3d 4 (by decide)).trans f4
  have f5 := (x3d 5 (by decide)).trans f5
  have f6 := (x3d 6 (by decide)).trans f6
  have f7 := x3c.1
  have f8 := x3c.2
  have hT1 : Two [AObj.map [], AObj.cells [.map (.hp 0)], AObj.cells [.nils], AObj.map [], AObj.cells [.map (.hp 3)], AObj.cells [.nils]] 1 0 2 [] := (newTwo []).app _
  have hT2 : Two [AObj.map [], AObj.cells [.map (.hp 0)], AObj.cells [.nils], AObj.map [], AObj.cells [.map (.hp 3)], AObj.cells [.nils]] 4 3 5 [] := newTwo [AObj.map [], AObj.cells [.map (.hp 0)], AObj.cells [.nils]]
  have key4 : ∃ es : List AV, (∀ e ∈ es, isOp e) ∧ es.length ≤ 9223372036854775807 ∧ (es = [] ∨ x = .sl false 5 es) ∧ ∃ env', execW Try.prog cx [] (callW Try.prog how) (cr [.r, .r, .r, .l, .l]) (env3, AS.mk [AObj.map [], AObj.cells [.map (.hp 0)], AObj.cells [.nils], AObj.map [], AObj.cells [.map (.hp 3)], AObj.cells [.nils]] []) = some (.normal, (env', AS.mk [AObj.map [], AObj.cells [.map (.hp 0)], AObj.cells [.nils], AObj.map [], AObj.cells [.map (.hp 3)], AObj.cells [.nils]] [])) ∧ env'.length = 116 ∧ (Env.get env' 22 = x ∧ Env.get env' 23 = .int .i64 ((es.length : Nat) : Int) ∧ Env.get env' 24 = .int .i64 0) ∧ ∀ i, i ∉ [22, 23, 24] → Env.get env' i = Env.get env3 i := by
    rcases hx with rfl | ⟨es, rfl, hle, hes⟩
    · exact ⟨[], fun e he => (by cases he), by simp, .inl rfl, rLn cx env3 _ x3b hcx f0⟩
    · exact ⟨es, hes, hle, .inr rfl, rLs cx env3 _ es x3b hcx f0⟩
  obtain ⟨es4, hes4, hle4, hxe4, env4, x4a, x4b, ⟨f22, f23, f24⟩, x4d⟩ := key4
  have f0 := (x4d 0 (by decide)).trans f0
  have f1 := (x4d 1 (by decide)).trans f1
  have f4 := (x4d 4 (by decide)).trans f4
  have f5 := (x4d 5 (by decide)).trans f5
  have f6 := (x4d 6 (by decide)).trans f6
  have f7 := (x4d 7 (by decide)).trans f7
  have f8 := (x4d 8 (by decide)).trans f8
  have loop5 : ∃ en σ, execW Try.prog cx [] (callW Try.prog how) (cr [.r, .r, .r, .l, .r]) (env4, AS.mk [AObj.map [], AObj.cells [.map (.hp 0)], AObj.cells [.nils], AObj.map [], AObj.cells [.map (.hp 3)], AObj.cells [.nils]] []) = some (.normal, (en, σ)) ∧ en.length = 116 ∧ (Env.get en 1 = y ∧ Env.get en 5 = .ptr (.hp 1) 0 ∧ Env.get en 6 = .ptr (.hp 2) 0 ∧ Env.get en 7 = .ptr (.hp 4) 0 ∧ Env.get en 8 = .ptr (.hp 5) 0) ∧ (∃ S T, Two σ.hp 1 0 2 S ∧ GoodS S ∧ Bnd 12 S ∧ Two σ.hp 4 3 5 T ∧ GoodS T ∧ Bnd 0 T) := by
    rcases hxe4 with rfl | hxe4
    · obtain ⟨en, τ, r, h1, rfl, h3⟩ := loop1_nil cx hcx (AS.mk [AObj.map [], AObj.cells [.map (.hp 0)], AObj.cells [.nils], AObj.map [], AObj.cells [.map (.hp 3)], AObj.cells [.nils]] []) env4 x4b f24 f23
      exact ⟨en, _, r, h1, ⟨(h3 1 (by decide)).trans f1, (h3 5 (by decide)).trans f5, (h3 6 (by decide)).trans f6, (h3 7 (by decide)).trans f7, (h3 8 (by decide)).trans f8⟩, ⟨[], [], hT1, goodS_nil, bnd_nil _, hT2, goodS_nil, bnd_nil _⟩⟩
    · rw [hxe4] at f22
      obtain ⟨e, en, τ, r, hh⟩ := loop1 cx hcx hro ⟨[], []⟩ y es4 rfl rfl hes4 hle4 (σ := AS.mk [AObj.map [], AObj.cells [.map (.hp 0)], AObj.cells [.nils], AObj.map [], AObj.cells [.map (.hp 3)], AObj.cells [.nils]] []) x4b f24 f23 ⟨f1, f5, f6, f7, f8, f22, ⟨[], [], hT1, goodS_nil, bnd_nil _, hT2, goodS_nil, bnd_nil _⟩, ⟨rfl, rfl, Nat.zero_le _⟩⟩
      rcases hh with ⟨rfl, ⟨h1, j1, j5, j6, j7, j8, _, ⟨S, T, q1, q2, q3, q4, q5, q6⟩, _⟩ | h1⟩ | ⟨_, _, h3⟩
      · exact ⟨en, τ, r, h1, ⟨j1, j5, j6, j7, j8⟩, S, T, q1, q2, q3.le (by omega), q4, q5, q6.le (by omega)⟩
      · cases h1
      · cases h3
  obtain ⟨en5, σ5, x5a, x5b, ⟨f1, f5, f6, f7, f8⟩, hTT5⟩ := loop5
  obtain ⟨S0, T0, p1, p2, p3, p4, p5, p6⟩ := hTT5
  have key6 : ∃ es : List AV, (∀ e ∈ es, isOp e) ∧ es.length ≤ 9223372036854775807 ∧ (es = [] ∨ y = .sl false 5 es) ∧ ∃ env', execW Try.prog cx [] (callW Try.prog how) (cr [.r, .r, .r, .r, .l, .l]) (en5, σ5) = some (.normal, (env', σ5)) ∧ env'.length = 116 ∧ (Env.get env' 36 = y ∧ Env.get env' 37 = .int .i64 ((es.length : Nat) : Int) ∧ Env.get env' 38 = .int .i64 0) ∧ ∀ i, i ∉ [36, 37, 38] → Env.get env' i = Env.get en5 i := by
    rcases hy with rfl | ⟨es, rfl, hle, hes⟩
    · exact ⟨[], fun e he => (by cases he), by simp, .inl rfl, rPn cx en5 _ x5b hcx f1⟩
    · exact ⟨es, hes, hle, .inr rfl, rPs cx en5 _ es x5b hcx f1⟩
  obtain ⟨es6, hes6, hle6, hxe6, env6, x6a, x6b, ⟨f36, f37, f38⟩, x6d⟩ := key6
  have f1 := (x6d 1 (by decide)).trans f1
  have f5 := (x6d 5 (by decide)).trans f5
  have f6 := (x6d 6 (by decide)).trans f6
  have f7 := (x6d 7 (by decide)).trans f7
  have f8 := (x6d 8 (by decide)).trans f8
  have loop7 : ∃ en σ, execW Try.prog cx [] (callW Try.prog how) (cr [.r, .r, .r, .r, .l, .r]) (env6, σ5) = some (.normal, (en, σ)) ∧ en.length = 116 ∧ (Env.get en 5 = .ptr (.hp 1) 0 ∧ Env.get en 6 = .ptr (.hp 2) 0 ∧ Env.get en 7 = .ptr (.hp 4) 0 ∧ Env.get en 8 = .ptr (.hp 5) 0) ∧ (∃ S T, Two σ.hp 1 0 2 S ∧ GoodS S ∧ Bnd 12 S ∧ Two σ.hp 4 3 5 T ∧ GoodS T ∧ Bnd 12 T) := by
    rcases hxe6 with rfl | hxe6
    · obtain ⟨en, τ, r, h1, rfl, h3⟩ := loop2_nil cx hcx (σ5) env6 x6b f38 f37
      exact ⟨en, _, r, h1, ⟨(h3 5 (by decide)).trans f5, (h3 6 (by decide)).trans f6, (h3 7 (by decide)).trans f7, (h3 8 (by decide)).trans f8⟩, ⟨S0, T0, p1, p2, p3, p4, p5, p6.le (Nat.zero_le _)⟩⟩
    · rw [hxe6] at f36
      obtain ⟨e, en, τ, r, hh⟩ := loop2 cx hcx hro ⟨[], []⟩ y es6 rfl rfl hes6 hle6 (σ := σ5) x6b f38 f37 ⟨f5, f6, f7, f8, f36, ⟨S0, T0, p1, p2, p3, p4, p5, p6.le (Nat.zero_le _)⟩, ⟨rfl, rfl, Nat.zero_le _⟩⟩
      rcases hh with ⟨rfl, ⟨h1, j5, j6, j7, j8, _, ⟨S, T, q1, q2, q3, q4, q5, q6⟩, _⟩ | h1⟩ | ⟨_, _, h3⟩
      · exact ⟨en, τ, r, h1, ⟨j5, j6, j7, j8⟩, S, T, q1, q2, q3.le (by omega), q4, q5, q6.le (by omega)⟩
      · cases h1
      · cases h3
  obtain ⟨en7, σ7, x7a, x7b, ⟨f5, f6, f7, f8⟩, hTT7⟩ := loop7
  obtain ⟨S, T, hT1, hS, _, hT2, hST, _⟩ := hTT7
  obtain ⟨X, hX, hR⟩ := hT1.r
  obtain ⟨X2, hX2, hR2⟩ := hT2.r
  have hlx := (hR.rd σ7.st).1
  rw [List.length_map] at hlx
  have hlx2 := (hR2.rd σ7.st).1
  rw [List.length_map] at hlx2
  obtain ⟨env8, x8a, x8b, x8c, x8d⟩ := rQ cx en7 σ7 2 5 S.length T.length X X2 x7b hcx f6 f8 hX hX2 hlx hlx2 
  have f5 := (x8d 5 (by decide)).trans f5
  have f6 := (x8d 6 (by decide)).trans f6
  have f7 := (x8d 7 (by decide)).trans f7
  have f8 := (x8d 8 (by decide)).trans f8
  have f13 := x8c
  obtain ⟨env9, x9a, x9b, x9c, x9d⟩ := rR cx env8 σ7 2 S.length X x8b hcx f6 hX hlx 
  have f5 := (x9d 5 (by decide)).trans f5
  have f6 := (x9d 6 (by decide)).trans f6
  have f7 := (x9d 7 (by decide)).trans f7
  have f8 := (x9d 8 (by decide)).trans f8
  have f13 := (x9d 13 (by decide)).trans f13
  have f64 := x9c.1
  have f65 := x9c.2.1
  have f66 := x9c.2.2
  have hj0 : (decide (S.length = T.length) && decide (S.take 0 = T.take 0)) = decide (S.length = T.length) := by simp
  rw [← hj0] at f13
  have ho : Outside 0 σ7 σ7 := Outside.refl (Nat.zero_le _)
  have hl9 := hS.len
  obtain ⟨e10, env10, σ10, x10a, x10p⟩ := loop3 cx hcx hro σ7 S T X X2 hR hX2 hR2 hS hST (by omega) (σ := σ7) x9b f66 f65 (⟨f5, f6, f7, f8, f64, f13, ho⟩)
  rcases x10p with ⟨rfl, ⟨x10b, f5, f6, f7, f8, f64, f13, ho⟩ | x10p⟩ | ⟨x10q, x10r, x10p⟩
  · skip
    have hw : (decide (S.length = T.length) && decide (S.take S.length = T.take S.length)) = decide (S = T) := by
      by_cases q : S = T
      · subst q; simp
      · rw [decide_eq_false q]
        by_cases ql : S.length = T.length
        · rw [decide_eq_true ql, Bool.true_and, decide_eq_false]
          rw [List.take_length, ql, List.take_length]
          exact q
        · rw [decide_eq_false ql, Bool.false_and]
    rw [hw] at f13
    have hhp : σ10.hp = σ7.hp := ho.1
    rw [← hhp] at hT1 hT2
    obtain ⟨M, hP⟩ := hT1.p
    obtain ⟨N, hQ⟩ := hT2.p
    have h19a := F19.ok σ10.hp σ10.st 1 4 0 3 M S N T hP hS hQ hST
    have h19b := F19.ok (σ10.hp ++ [AObj.cells [.map (.hp 0)], AObj.cells [.map (.hp 3)]]) σ10.st 1 1 0 0 M S M S (hP.app _) hS (hP.app _) hS
    rw [decide_eq_true rfl] at h19b
    have h7 := f7_ok ((σ10.hp ++ [AObj.cells [.map (.hp 0)], AObj.cells [.map (.hp 3)]]) ++ [AObj.cells [.map (.hp 0)], AObj.cells [.map (.hp 0)]]) σ10.st
    have h19c := F19.nil_ok (((σ10.hp ++ [AObj.cells [.map (.hp 0)], AObj.cells [.map (.hp 3)]]) ++ [AObj.cells [.map (.hp 0)], AObj.cells [.map (.hp 0)]]) ++ [AObj.map [], AObj.cells [.map (.hp ((σ10.hp ++ [AObj.cells [.map (.hp 0)], AObj.cells [.map (.hp 3)]]) ++ [AObj.cells [.map (.hp 0)], AObj.cells [.map (.hp 0)]]).length)]]) σ10.st (((σ10.hp ++ [AObj.cells [.map (.hp 0)], AObj.cells [.map (.hp 3)]]) ++ [AObj.cells [.map (.hp 0)], AObj.cells [.map (.hp 0)]]).length + 1) ((σ10.hp ++ [AObj.cells [.map (.hp 0)], AObj.cells [.map (.hp 3)]]) ++ [AObj.cells [.map (.hp 0)], AObj.cells [.map (.hp 0)]]).length ⟨new_at1 _ _ _, new_at0 _ _ _, List.Perm.refl _⟩
    obtain ⟨hp9, h15⟩ := f15_ok ((((σ10.hp ++ [AObj.cells [.map (.hp 0)], AObj.cells [.map (.hp 3)]]) ++ [AObj.cells [.map (.hp 0)], AObj.cells [.map (.hp 0)]]) ++ [AObj.map [], AObj.cells [.map (.hp ((σ10.hp ++ [AObj.cells [.map (.hp 0)], AObj.cells [.map (.hp 3)]]) ++ [AObj.cells [.map (.hp 0)], AObj.cells [.map (.hp 0)]]).length)]]) ++ [AObj.cells [.map (.hp ((σ10.hp ++ [AObj.cells [.map (.hp 0)], AObj.cells [.map (.hp 3)]]) ++ [AObj.cells [.map (.hp 0)], AObj.cells [.map (.hp 0)]]).length)]]) σ10.st
    obtain ⟨env11, x11a, x11b, x11c, x11d⟩ := rZ cx env10 σ10 1 4 _ _ _ _ _ _ _ x10b hcx f5 f7 f13 h19a (by simp [eqA]) h19b h7 h19c h15 
    have f5 := (x11d 5 (by decide)).trans f5
    have f6 := (x11d 6 (by decide)).trans f6
    have f7 := (x11d 7 (by decide)).trans f7
    have f8 := (x11d 8 (by decide)).trans f8
    have f13 := (x11d 13 (by decide)).trans f13
    have f64 := (x11d 64 (by decide)).trans f64
    have f4 := x11c
    exact ⟨_, call_of (fl := { esc := [18, 21] }) (fn := Try.f5) (c := bodyC) (env := env) (e := (.ret, (env11, AS.mk hp9 σ10.st))) rfl Try.func5 body henv (by unfold bodyC; exact (execW_seq_of x1a (execW_seq_of x2a (execW_seq_of x3a (execW_seq_of (execW_seq_of x4a x5a) (execW_seq_of (execW_seq_of x6a x7a) (execW_seq_of x8a (execW_seq_of (execW_seq_of x9a x10a) (execW_seq_of x11a (by rfl)))))))))) (fin_tmp (k := 4) (w := .bool true) (.inl rfl) rfl rfl f4 (by simp [AV.back]) (by simp [AV.inb]))⟩
  · cases x10p
  · cases x10p
end F5
