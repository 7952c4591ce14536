/- The lead's code: what it answers. -/

import Derived.Test.YtidfkjpcpgeilaaD3
open Go Go.Abs Go.Proofs Go.RowKit
set_option maxRecDepth 100000
set_option maxHeartbeats 4000000
set_option linter.unusedSimpArgs false
set_option linter.unusedVariables false
namespace Ldr
open Ld
noncomputable def o0 : List Oper := opsOf (Ld.cr [.l])
noncomputable def o1 : List Oper := opsOf (Ld.cr [.r, .l, .l])
noncomputable def s1 : Oper := (o0.drop 8).headD default
noncomputable def s2 : Oper := (o0.drop 11).headD default
noncomputable def r1 : Oper := (o1.drop 4).headD default
theorem o0_eq : o0 = o0.take 8 ++ (s1 :: ((o0.drop 9).take 2 ++ [s2])) := by kernel_rfl
theorem o1_eq : o1 = o1.take 4 ++ [r1] := by kernel_rfl
theorem s1_g : s1.guard = none := by kernel_rfl
theorem s2_g : s2.guard = none := by kernel_rfl
theorem r1_g : r1.guard = none := by kernel_rfl
theorem s1_dst : s1.dst = none := by kernel_rfl
theorem s2_dst : s2.dst = none := by kernel_rfl
theorem r1_dst : r1.dst = some 18 := by kernel_rfl
theorem s1_op : s1.op = .store 3 (.tmp 11) (.const (.int .i64 2)) := by kernel_rfl
theorem s2_op : s2.op = .store 3 (.tmp 13) (.tmp 9) := by kernel_rfl
theorem r1_op : r1.op = .range 75 (.tmp 17) := by kernel_rfl
theorem body_eq : Try.f30.body = some (.seq (.region 0 o0.toArray false) (.seq (.seq (.region 1 o1.toArray false) (.block 0 (.loop rnd))) (Ldr.cr [.r, .r]))) := by kernel_rfl
section
attribute [local simp] Try.underlying78 Try.underlying3 Try.underlying23 Try.underlying75 Ld.s3
section
attribute [local simp] ofV ofCell ofCells seqA_nil seqA_cons seqVK_eq seqEK_eq wantedA yieldedA isVal effA ev evs evps putE optsA optsOk valA fieldAddrA fieldA loadA partA aggA isAggD buildA placesA fillA lay storeA AV.withCells buildSliceA elemsA rowParts fzL promL okE isSrc bytesOk pushA cxOf lenA binA intBinA strBinA unA indexAddrA eqA AVs.inb AV.inb Loc.inb calleeA opsOf sub bodyOf Env.get_set quietA_nil quietA_cons quietK_none quietK_some qstep newA isNew escNew boxOk newLoc flat rowPartsQ quietN quietOp isBS List.takeWhile finishA_eq finK_ret finK_normal retK backK resA oneA AV.back AVs.back execW_seq_eq seqK_normal seqK_ret seqK_exit execW_cond_eq condK_true condK_false execW_block_eq blockK_exit blockK_normal blockK_ret execW_region_eq regK_eq execW_skip execW_exit execW_ret regionA_plain regionA_quiet0 tailK_eq nilCheckA guardOk isConst lookupA keyFits mapUpdateA beqI bneI
theorem v0 (σ : AS) (env : Env) (h : Nat) (c0 c1 c2 c3 c4 c5 c6 c7 c8 : AV) (fr : Int) (hlen : env.length = 59) (f0 : Env.get env 0 = .ptr (.hp h) 0)
    (hg : σ.get (.hp h) = some (.cells [c0, c1, c2, c3, c4, .int .i64 fr, c6, c7, c8, c5])) :
    ∃ env', seqV Try.prog σ o0 (o0.take 8) env = some env' ∧ env'.length = 59 ∧ (Env.get env' 11 = .ptr (.hp h) 2 ∧ Env.get env' 9 = .int .i64 fr ∧ Env.get env' 5 = .ptr (.hp h) 0) ∧ ∀ i, i ∉ [4, 5, 6, 7, 8, 9, 10, 11] → Env.get env' i = Env.get env i := by
  suffices hh : ∀ res, seqV Try.prog σ o0 (o0.take 8) env = res → ∃ env', res = some env' ∧ env'.length = 59 ∧ (Env.get env' 11 = .ptr (.hp h) 2 ∧ Env.get env' 9 = .int .i64 fr ∧ Env.get env' 5 = .ptr (.hp h) 0) ∧ ∀ i, i ∉ [4, 5, 6, 7, 8, 9, 10, 11] → Env.get env' i = Env.get env i from hh _ rfl
  intro res hr
  simp -implicitDefEqProofs [seqV, isVal, o0, opsOf, Ld.cr, Try.f30, hlen, f0, hg] at hr
  subst hr
  refine ⟨_, rfl, by simp [hlen], ?_, fun i hi => ?_⟩
  · simp [Env.get_set, hlen, f0, hg]
  · simp only [List.mem_cons, List.not_mem_nil, or_false, not_or] at hi
    simp [Env.get_set, hi, Ne.symm]
theorem v0b (σ : AS) (env : Env) (h : Nat) (hlen : env.length = 59) (f5 : Env.get env 5 = .ptr (.hp h) 0) :
    ∃ env', seqV Try.prog σ o0 ((o0.drop 9).take 2) env = some env' ∧ env'.length = 59 ∧ (Env.get env' 13 = .ptr (.hp h) 9) ∧ ∀ i, i ∉ [12, 13] → Env.get env' i = Env.get env i := by
  suffices hh : ∀ res, seqV Try.prog σ o0 ((o0.drop 9).take 2) env = res → ∃ env', res = some env' ∧ env'.length = 59 ∧ (Env.get env' 13 = .ptr (.hp h) 9) ∧ ∀ i, i ∉ [12, 13] → Env.get env' i = Env.get env i from hh _ rfl
  intro res hr
  simp -implicitDefEqProofs [seqV, isVal, o0, opsOf, Ld.cr, Try.f30, hlen, f5] at hr
  subst hr
  refine ⟨_, rfl, by simp [hlen], ?_, fun i hi => ?_⟩
  · simp [Env.get_set, hlen, f5]
  · simp only [List.mem_cons, List.not_mem_nil, or_false, not_or] at hi
    simp [Env.get_set, hi, Ne.symm]
theorem v1 (σ : AS) (env : Env) (h m : Nat) (c0 c1 c2 c3 c4 c5 c6 c8 c9 : AV) (hlen : env.length = 59) (f0 : Env.get env 0 = .ptr (.hp h) 0)
    (hg : σ.get (.hp h) = some (.cells [c0, c1, c2, c3, c4, c5, c6, .map (.hp m), c8, c9])) :
    ∃ env', seqV Try.prog σ o1 (o1.take 4) env = some env' ∧ env'.length = 59 ∧ (Env.get env' 17 = .map (.hp m)) ∧ ∀ i, i ∉ [14, 15, 16, 17] → Env.get env' i = Env.get env i := by
  suffices hh : ∀ res, seqV Try.prog σ o1 (o1.take 4) env = res → ∃ env', res = some env' ∧ env'.length = 59 ∧ (Env.get env' 17 = .map (.hp m)) ∧ ∀ i, i ∉ [14, 15, 16, 17] → Env.get env' i = Env.get env i from hh _ rfl
  intro res hr
  simp -implicitDefEqProofs [seqV, isVal, o1, opsOf, Ld.cr, Try.f30, hlen, f0, hg] at hr
  subst hr
  refine ⟨_, rfl, by simp [hlen], ?_, fun i hi => ?_⟩
  · simp [Env.get_set, hlen, f0, hg]
  · simp only [List.mem_cons, List.not_mem_nil, or_false, not_or] at hi
    simp [Env.get_set, hi, Ne.symm]
end
end
/-- A lead's cells. -/
def ldC (me n st br bn fr pr : Int) (mb mo : Nat) (nx : Int) : List AV := [.int .i64 me, .int .i64 n, .int .i64 st, .int .u64 br, .int .i64 bn, .int .i64 fr, .int .u8 pr, .map (.hp mb), .map (.hp mo), .int .i64 nx]
/-- What function 30 finds. -/
structure LeadIn (hp : List AObj) (a mb mo : Nat) (me n st br bn fr pr nx : Int) (best : List (Int × Vt)) : Prop where
  hA : hp[a]? = some (.cells (ldC me n st br bn fr pr mb mo nx))
  hmb : hp[mb]? = some (.map (best.map (ment kI encVt)))
  hmo : hp[mo]? = some (.map [])
  hd : mb ≠ mo
  hk : ∀ e ∈ best, 0 ≤ e.1 ∧ e.1 ≤ 1000
  hfr : 0 ≤ fr ∧ fr ≤ 1000
def leadHp (hp : List AObj) (a mb mo : Nat) (me n br bn fr pr : Int) (best : List (Int × Vt)) : List AObj :=
  hpK (hp.set a (.cells (ldC me n 2 br bn fr pr mb mo (nextB fr best)))) mo fr best (nextB fr best - fr).toNat
def LeadR (args : List AV) (σ : AS) (ro : Option Nat) (r : AV × AS) : Prop :=
  ro = none ∧ ∃ a mb mo me n st br bn fr pr nx best, args = [.ptr (.hp a) 0] ∧ LeadIn σ.hp a mb mo me n st br bn fr pr nx best ∧ r = (.tup [], ⟨leadHp σ.hp a mb mo me n br bn fr pr best, σ.st⟩)
open Classical in
noncomputable def leadP (args : List AV) (σ : AS) (ro : Option Nat) : Option (AV × AS) := if h : ∃ r, LeadR args σ ro r then some h.choose else none
theorem leadP_inv {args : List AV} {σ : AS} {ro : Option Nat} {r : AV × AS} (h : leadP args σ ro = some r) : LeadR args σ ro r := by
  unfold leadP at h
  split at h
  · rename_i hx
    cases h
    exact hx.choose_spec
  · cases h
theorem enc_inj : ∀ {l l' : List (Int × Vt)}, l.map (ment kI encVt) = l'.map (ment kI encVt) → l = l'
  | [], [], _ => rfl
  | [], _ :: _, h => by cases h
  | _ :: _, [], h => by cases h
  | (k, ⟨s, r, n, v⟩) :: l, (k', ⟨s', r', n', v'⟩) :: l', h => by
    simp only [List.map_cons, List.cons.injEq, ment, kI, encVt, Prod.mk.injEq, AV.int.injEq, true_and, AV.agg.injEq, AV.str.injEq, and_true] at h
    obtain ⟨⟨rfl, rfl, rfl, rfl, rfl⟩, h⟩ := h
    rw [enc_inj h]
theorem leadR_one {args : List AV} {σ : AS} {ro : Option Nat} {r r' : AV × AS} (h : LeadR args σ ro r) (h' : LeadR args σ ro r') : r = r' := by
  obtain ⟨_, a, mb, mo, me, n, st, br, bn, fr, pr, nx, best, h1, h2, rfl⟩ := h
  obtain ⟨_, a', mb', mo', me', n', st', br', bn', fr', pr', nx', best', h1', h2', rfl⟩ := h'
  rw [h1] at h1'
  simp only [List.cons.injEq, AV.ptr.injEq, Abs.Loc.hp.injEq, and_true] at h1'
  subst h1'
  have e := h2.hA.symm.trans h2'.hA
  simp only [ldC, Option.some.injEq, AObj.cells.injEq, List.cons.injEq, AV.int.injEq, AV.map.injEq, Abs.Loc.hp.injEq, true_and, and_true] at e
  obtain ⟨rfl, rfl, rfl, rfl, rfl, rfl, rfl, rfl, rfl, rfl⟩ := e
  have e2 := h2.hmb.symm.trans h2'.hmb
  simp only [Option.some.injEq, AObj.map.injEq] at e2
  rw [enc_inj e2]
theorem leadP_eq {args : List AV} {σ : AS} {ro : Option Nat} {r : AV × AS} (h : LeadR args σ ro r) : leadP args σ ro = some r := by
  unfold leadP
  rw [dif_pos ⟨r, h⟩]
  exact congrArg some (leadR_one (Exists.choose_spec (⟨r, h⟩ : ∃ r, LeadR args σ ro r)) h)
theorem nextI_B : ∀ (best : List (Int × Vt)) (fr : Int), nextI fr (best.map (ment kI encVt)) = nextB fr best
  | [], _ => rfl
  | e :: l, fr => by
    have := nextI_B l (max fr (e.1 + 1))
    exact this
theorem howN_ok : HowOk Try.prog howN := { body := fun f fl fn c h => (by cases h), prim := fun f p h => (by cases h) }
theorem rest_ok : codeOk Try.prog [] (Ldr.cr [.r, .r]) = true := by kernel_rfl
theorem lead_ok (hm : Try.prog.follows .mixedOrders = true) : PrimOk Try.prog 30 leadP := {
  ent := ⟨Try.f30, Try.func30, by kernel_rfl, by kernel_rfl⟩
  beh := by
    intro args σ ro v σ' h
    obtain ⟨hro, a, mb, mo, me, n, st, br, bn, fr, pr, nx, best, h1, h2, e⟩ := leadP_inv h
    cases e
    subst hro
    exact ⟨fun k _ hi i cs hik hg => hi i cs hik hg, fun k hk => (by cases hk), Nat.le_refl _⟩
  snd := by
    intro args σ ro v σ' h ρ w us s hv
    obtain ⟨hro, a, mb, mo, me, n, st, br, bn, fr, pr, nx, best, rfl, hL, e⟩ := leadP_inv h
    cases e
    subst hro
    have lA := (List.getElem?_eq_some_iff.1 hL.hA).1
    have lB := (List.getElem?_eq_some_iff.1 hL.hmb).1
    have hab : mb ≠ a := by rintro rfl; have e1 := hL.hA; rw [hL.hmb] at e1; cases e1
    have hao : mo ≠ a := by rintro rfl; have e1 := hL.hA; rw [hL.hmo] at e1; cases e1
    obtain ⟨pa, hpa, _⟩ := s.obj (.hp a) _ (show σ.get (.hp a) = _ from hL.hA)
    refine calls_of_wp Try.func30 body_eq (wp_seq (wp_region_list ?_))
    have hE0 := Act.init_ER (fn := Try.f30) hv
    generalize hen : frameA Try.f30 [.ptr (.hp a) 0] = env0 at hE0
    have l0 : env0.length = 59 := by rw [← hen]; rfl
    have f0 : Env.get env0 0 = .ptr (.hp a) 0 := by rw [← hen]; rfl
    rw [show o0.toArray.toList = o0.take 8 ++ (s1 :: ((o0.drop 9).take 2 ++ [s2])) from o0_eq]
    obtain ⟨env1, a1, a2, ⟨a3, a4, a5⟩, a6⟩ := v0 σ env0 a (.int .i64 me) (.int .i64 n) (.int .i64 st) (.int .u64 br) (.int .i64 bn) (.int .i64 nx) (.int .u8 pr) (.map (.hp mb)) (.map (.hp mo)) fr l0 f0 hL.hA
    refine seqV_sound s (o0.take 8) env0 env1 _ hE0 rfl (by rw [show o0.toArray.toList = o0 from rfl]; exact a1) fun t1 hE1 hd1 => ?_
    refine wpList_cons hE1 (wN s1_g) (wp_store s hE1 s1_op (L := .hp a) (k := 2) (by show some (Env.get _ 11) = _; rw [a3]) (by rfl) Ld.s3 (show σ.get (.hp a) = some (.cells (ldC me n st br bn fr pr mb mo nx)) from hL.hA) (by simp [ldC]) hpa fun w1 ρ1 x1 sr1 _ => ?_)
    rw [s1_dst]
    obtain ⟨env2, b1, b2, b3, b4⟩ := v0b (σ.set (.hp a) (.cells ((ldC me n st br bn fr pr mb mo nx).set 2 (.int .i64 2)))) env1 a a2 a5
    refine seqV_sound sr1 ((o0.drop 9).take 2) env1 env2 _ (hE1.mono x1) hd1 (by rw [show o0.toArray.toList = o0 from rfl]; exact b1) fun t2 hE2 hd2 => ?_
    have g1 : (σ.set (.hp a) (.cells ((ldC me n st br bn fr pr mb mo nx).set 2 (.int .i64 2)))).get (.hp a) = some (.cells (ldC me n 2 br bn fr pr mb mo nx)) := by
      rw [AS.get_set, if_pos rfl, show σ.get (.hp a) = _ from hL.hA]; rfl
    obtain ⟨pa1, hpa1, _⟩ := sr1.obj (.hp a) _ g1
    refine wpList_cons hE2 (wN s2_g) (wp_store sr1 hE2 s2_op (L := .hp a) (k := 9) (by show some (Env.get _ 13) = _; rw [b3]) (by show some (Env.get _ 9) = _; rw [(b4 9 (by decide)).trans a4]) Ld.s3 g1 (by simp [ldC]) hpa1 fun w2 ρ2 x2 sr2 _ => ?_)
    rw [s2_dst]
    refine wp_seq (wp_seq (wp_region_list ?_))
    have hσ2 : ((σ.set (.hp a) (.cells ((ldC me n st br bn fr pr mb mo nx).set 2 (.int .i64 2)))).set (.hp a) (.cells ((ldC me n 2 br bn fr pr mb mo nx).set 9 (.int .i64 fr)))) = σ.set (.hp a) (.cells (ldC me n 2 br bn fr pr mb mo fr)) := by
      show AS.mk ((σ.hp.set a _).set a _) σ.st = AS.mk (σ.hp.set a _) σ.st
      rw [List.set_set]; rfl
    rw [hσ2] at sr2
    generalize hs2 : σ.set (.hp a) (.cells (ldC me n 2 br bn fr pr mb mo fr)) = σ2 at sr2
    have g2 : σ2.get (.hp a) = some (.cells (ldC me n 2 br bn fr pr mb mo fr)) := by
      rw [← hs2, AS.get_set, if_pos rfl, show σ.get (.hp a) = _ from hL.hA]; rfl
    have g2b : σ2.get (.hp mb) = some (.map (best.map (ment kI encVt))) := by
      rw [← hs2, AS.get_set, if_neg (by simpa using hab)]; exact hL.hmb
    rw [show o1.toArray.toList = o1.take 4 ++ [r1] from o1_eq]
    obtain ⟨env3, c1, c2, c3, c4⟩ := v1 σ2 env2 a mb _ _ _ _ _ _ _ _ _ b2 (((b4 0 (by decide)).trans (a6 0 (by decide))).trans f0) g2
    refine seqV_sound sr2 (o1.take 4) env2 env3 _ (hE2.mono x2) hd2 (by rw [show o1.toArray.toList = o1 from rfl]; exact c1) fun t3 hE3 hd3 => ?_
    refine wpList_cons hE3 (wN r1_g) (wp_range sr2 hE3 r1_op Try.underlying75 (M := .hp mb) (by show some (Env.get _ 17) = _; rw [c3]) g2b rfl fun w3 ρ3 p q arr clock x3 sr3 hp3 hprow hq3 k1 k2 hst hes => ?_)
    rw [r1_dst]
    have hst2 : σ2.st = σ.st := by rw [← hs2]; rfl
    have hnext : σ2.next false = .st σ.st.length := by show Abs.Loc.st σ2.st.length = _; rw [hst2]
    rw [hnext] at hp3
    have hE4 : ER ρ3 w3 (putE env3 (some 18) (.ptr (.st σ.st.length) 0)) (t3.put (some 18) (.pointer (some ⟨p.b, 0, none⟩))).tmps := (hE3.mono x3).put (.ptr _ _ _ hp3 hprow)
    have q18 : Env.get (putE env3 (some 18) (.ptr (.st σ.st.length) 0)) 18 = .ptr (.st σ.st.length) 0 := by rw [get_put, if_pos ⟨rfl, by omega⟩]
    have q0 : Env.get (putE env3 (some 18) (.ptr (.st σ.st.length) 0)) 0 = .ptr (.hp a) 0 := by
      rw [get_put, if_neg (by simp)]
      exact (c4 0 (by decide)).trans (((b4 0 (by decide)).trans (a6 0 (by decide))).trans f0)
    refine wp_block (wp_loop_rounds ((leftOf arr #[]).size + 1) ?_)
    have hgi : (σ2.push false (.iter (.map (.hp mb)))).get (.st σ.st.length) = some (.iter (.map (.hp mb))) := AS.get_push_at (by rw [hst2])
    have hgm : (σ2.push false (.iter (.map (.hp mb)))).get (.hp mb) = some (.map (best.map (ment kI encVt))) := g2b
    have hgh : (σ2.push false (.iter (.map (.hp mb)))).get (.hp a) = some (.cells (ldC me n 2 br bn fr pr mb mo fr)) := g2
    have hSx : Sx (σ2.push false (.iter (.map (.hp mb)))) a (ldC me n 2 br bn fr pr mb mo fr) fr = σ2.push false (.iter (.map (.hp mb))) := by
      have : (σ2.push false (.iter (.map (.hp mb)))).hp[a]? = some (.cells (ldC me n 2 br bn fr pr mb mo fr)) := g2
      show AS.mk ((σ2.push false (.iter (.map (.hp mb)))).hp.set a _) (σ2.push false (.iter (.map (.hp mb)))).st = _
      rw [List.set_getElem?_self' (by rw [this]; rfl)]
    refine Ld.rounds (h := a) (i := σ.st.length) (m := mb) (σ := σ2.push false (.iter (.map (.hp mb)))) (es := best.map (ment kI encVt)) ⟨_, hgh⟩ hgi hgm hab (fun e he => ?_) (from_ := fr) (arr := arr) (since := clock) (clock := clock) (pb := p.b) (qb := q.b) hst.1 hst.2.1 (w0 := w3) (ρ0 := ρ3) ?_ _ _ _ w3 ρ3 fr #[] clock ?_ (Ext.refl _ _) (by rw [← hSx] at sr3; exact sr3) hE4 (put_defers hd3 _ _) (by rw [len_put]; exact c2) q0 q18 ⟨p, hp3, rfl⟩ ⟨q, hq3, rfl⟩ k1 k2 (Nat.le_refl _) (Nat.le_refl _) hes ⟨Int.le_refl _, fun j e me he hme hc => by simp at hc, .inl rfl⟩
    · obtain ⟨b, hb, rfl⟩ := List.mem_map.1 he
      exact ⟨b.1, rfl, hL.hk b hb⟩
    · intro env a' w' ρ' x x4 sr4 hE5 hd5 l5 e0 hx
      rw [nextI_B] at hx
      subst hx
      have hb := nextB_max best fr
      have hnx : fr ≤ nextB fr best ∧ nextB fr best ≤ 1001 := by
        refine ⟨hb.1.1, ?_⟩
        rcases hb.2 with h9 | ⟨e, he, h9⟩
        · have := hL.hfr; omega
        · have := hL.hk e he; omega
      have hσ4 : Sx (σ2.push false (.iter (.map (.hp mb)))) a (ldC me n 2 br bn fr pr mb mo fr) (nextB fr best) = ⟨(σ.hp.set a (.cells (ldC me n 2 br bn fr pr mb mo (nextB fr best)))).set mo (.map []), σ.st ++ [.iter (.map (.hp mb))]⟩ := by
        have e1 : (σ.hp.set a (.cells (ldC me n 2 br bn fr pr mb mo (nextB fr best)))).set mo (.map []) = σ.hp.set a (.cells (ldC me n 2 br bn fr pr mb mo (nextB fr best))) := List.set_getElem?_self' (by rw [List.getElem?_set_ne (fun e => hao e.symm)]; exact hL.hmo)
        rw [e1, ← hs2]
        show AS.mk ((σ.hp.set a _).set a _) (σ.st ++ _) = _
        rw [List.set_set]; rfl
      have sr5 := sr4
      have sr5 : SR ρ' (Sx (σ2.push false (.iter (.map (.hp mb)))) a (ldC me n 2 br bn fr pr mb mo fr) (nextB fr best)) w' := sr4
      rw [hσ4] at sr5
      obtain ⟨env', run⟩ := rest { h := σ.st.length, ro := none, esc := [58] } rfl rfl a mb mo me n 2 br bn fr pr (nextB fr best) (σ.hp.set a (.cells (ldC me n 2 br bn fr pr mb mo (nextB fr best)))) (σ.st ++ [.iter (.map (.hp mb))]) best (List.getElem?_set_self lA) (by rw [List.getElem?_set_ne (fun e => hab e.symm)]; exact hL.hmb) ⟨_, by rw [List.getElem?_set_ne (fun e => hao e.symm)]; exact hL.hmo⟩ ⟨fun e => hao e.symm, hL.hd⟩ hL.hfr.1 hnx env l5 e0
      obtain ⟨m, run⟩ := execW_cont (calls := callN Try.prog howN) (fun n m h => callN_mono h) (fun f a σ ro r h => callW_inv h) _ _ _ run
      refine execA_sound hm (callN_ok hm howN_ok m) _ _ _ _ _ _ _ rest_ok sr5 hE5 hd5 run _ fun a6 w6 ρ6 x6 sr6 hE6 hd6 => ?_
      obtain ⟨u, hu, vu⟩ := results_sound (fn := Try.f30) (vs := []) (P := Try.prog) sr6.toSRo hE6 rfl
      refine ⟨hd6, u, hu, ρ6.cut σ.st.length, u, rfl, (((((x1.trans x2).trans x3).trans x4).trans x6)).cut s.doml, ?_, vu.cut rfl⟩
      have hinv : Inv σ.st.length (AS.mk (leadHp σ.hp a mb mo me n br bn fr pr best) (σ.st ++ [.iter (.map (.hp mb))])) := fun i cs hi hg => by
        have hg : (σ.st ++ [AObj.iter (.map (.hp mb))])[i]? = some (.cells cs) := hg
        rw [List.getElem?_append_left hi] at hg
        exact s.inv i cs hi hg
      have hc : SR (ρ6.cut σ.st.length) ((AS.mk (leadHp σ.hp a mb mo me n br bn fr pr best) (σ.st ++ [.iter (.map (.hp mb))])).cut σ.st.length) w6 := sr6.cut hinv
      have e : (AS.mk (leadHp σ.hp a mb mo me n br bn fr pr best) (σ.st ++ [.iter (.map (.hp mb))])).cut σ.st.length = AS.mk (leadHp σ.hp a mb mo me n br bn fr pr best) σ.st := by
        show AS.mk _ ((σ.st ++ [_]).take σ.st.length) = _
        rw [List.take_left]
      rw [e] at hc
      exact hc
    · exact Nat.lt_succ_self _ }
end Ldr
