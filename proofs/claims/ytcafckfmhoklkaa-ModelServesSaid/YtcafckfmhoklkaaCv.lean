/- What Check and Final do. -/

import Derived.Test.YtcafckfmhoklkaaCu
open Go Go.Abs Go.Proofs
set_option maxRecDepth 100000
set_option maxHeartbeats 4000000
set_option linter.unusedSimpArgs false
set_option linter.unusedVariables false

theorem fin_two {P : Program} {fl : Flags} {fn : Func} {h : Nat} {en : Env} {σ : AS} {v v' : AV} {w : AV} {e : AExit} (he : e = .ret ∨ e = .normal) (hk : fl.keep = false) (hr : resA P σ en fn.results.toList = some [v, v']) (hb : (AV.tup [v, v']).back h σ = some w) (hi : w.inb h = true) : finishA P fl fn h (some (e, (en, σ))) = some (w, ⟨σ.hp, σ.st.take h⟩) := by
  rcases he with rfl | rfl <;> simp [finishA, hr, hk, oneA, hb, hi]
namespace F11
theorem ok (hp s : List AObj) (X : AV) (l H : List RowD) (hpk : Nat → List AObj) (gk : Nat → Bool) (hX1 : X.one = true) (hX : ∀ σ : AS, s.length ≤ σ.st.length → σ.st.take s.length = s → Rd Try.prog σ 28 59 X (l.map encRow)) (hn : l.length ≤ 15) (hor : ∀ x ∈ l, x.ca < x.st ∧ x.st < x.an ∧ x.st ≠ 0 ∧ x.an ≠ 0) (hp1 : l.Perm H) (hri : H.Pairwise (fun x y => x.st < y.st)) (h0 : hpk 0 = hp ++ [.map [], .cells [.map (.hp hp.length)]]) (h24 : ∀ (k : Nat) (hk : k < H.length) (s : List AObj), callW Try.prog how 24 [.ptr (.hp (hp.length + 1)) 0, encRow H[k]] ⟨hpk k, s⟩ none = some (.bool (gk k), ⟨hpk (k + 1), s⟩)) :
    ((∀ k, k < H.length → gk k = true) ∧ callW Try.prog how 11 [X] ⟨hp, s⟩ none = some (.tup [.agg [.int .i64 0, .int .u64 0], .int .i64 0], ⟨hpk H.length, s⟩)) ∨
    (∃ (k : Nat) (hk : k < H.length), gk k = false ∧ callW Try.prog how 11 [X] ⟨hp, s⟩ none = some (.tup [.agg [.int .i64 H[k].cl, .int .u64 H[k].sq], .int .i64 3], ⟨hpk (k + 1), s⟩)) := by
  let cx : Cx := { h := s.length, ro := none, esc := [] }
  have hcx : cx.esc = [] := rfl
  have hro : ∀ k, cx.ro = some k → k ≤ cx.h := fun k hk => by cases hk
  obtain ⟨env, henv⟩ : ∃ e, e = frameA Try.f11 [X] := ⟨_, rfl⟩
  have hlen : env.length = 37 := by rw [henv]; rfl
  have f0 : Env.get env 0 = X := by rw [henv]; rfl
  have ho : Outside s.length (AS.mk hp s) (AS.mk hp s) := Outside.refl (Nat.le_refl _)
  obtain ⟨env1, x1a, x1b, x1c, x1d⟩ := rA cx env (AS.mk hp s) hp s hlen hcx  rfl rfl (Nat.le_refl _) 
  have f0 := (x1d 0 (by decide)).trans f0
  have f2 := x1c.1
  have f3 := x1c.2
  have ga : (AS.mk hp (s ++ [AObj.cells [.int .i64 0, .int .u64 0]])).get (.st s.length) = some (.cells [.int .i64 0, .int .u64 0]) := by simp [AS.get]
  have ho : Outside s.length (AS.mk hp s) (AS.mk hp (s ++ [AObj.cells [.int .i64 0, .int .u64 0]])) := ⟨rfl, by simp, by simp⟩
  have hXk : ∀ σ, Outside s.length (AS.mk hp s) σ → Rd Try.prog σ 28 59 X (l.map encRow) := fun σ ho => hX σ ho.2.2 (ho.2.1.trans List.take_length)
  have hl1 := (hXk _ ho).1
  rw [List.length_map] at hl1
  obtain ⟨env2, x2a, x2b, x2c, x2d⟩ := rB cx env1 (AS.mk hp (s ++ [AObj.cells [.int .i64 0, .int .u64 0]])) X l.length x1b hcx f0 hl1 hX1 
  have f0 := (x2d 0 (by decide)).trans f0
  have f2 := (x2d 2 (by decide)).trans f2
  have f3 := (x2d 3 (by decide)).trans f3
  have f9 := x2c.1
  have f10 := x2c.2.1
  have f11 := x2c.2.2
  obtain ⟨e3, env3, σ3, x3a, x3p⟩ := loop1 cx hcx hro ⟨hp, s⟩ s.length X l hXk hor (by omega) (σ := AS.mk hp (s ++ [AObj.cells [.int .i64 0, .int .u64 0]])) x2b f11 f10 (⟨f0, f2, f9, ga, ho⟩)
  rcases x3p with ⟨rfl, ⟨x3b, f0, f2, f9, q0, ho⟩ | x3p⟩ | ⟨x3q, x3r, x3p⟩
  · skip
    have hhp : σ3.hp = hp := ho.1
    have h22 := f22_ok σ3.hp σ3.st
    rw [hhp, ← h0] at h22
    have e22 : AS.mk hp σ3.st = σ3 := by rw [← hhp]
    rw [e22] at h22
    obtain ⟨env4, x4a, x4b, x4c, x4d⟩ := rC cx env3 σ3 _ _ x3b hcx  h22 
    have f0 := (x4d 0 (by decide)).trans f0
    have f2 := (x4d 2 (by decide)).trans f2
    have f9 := (x4d 9 (by decide)).trans f9
    have f6 := x4c
    have hXm : ∀ σ, Outside σ3.st.length (AS.mk (hpk 0) σ3.st) σ → Rd Try.prog σ 28 59 X (l.map encRow) := by
      intro σ h9
      refine hX σ (Nat.le_trans ho.2.2 h9.2.2) ?_
      have e1 := h9.2.1
      have e3 : σ.st.take s.length = (σ.st.take σ3.st.length).take s.length := by rw [List.take_take, Nat.min_eq_left ho.2.2]
      rw [e3, e1]
      show List.take s.length (List.take σ3.st.length σ3.st) = s
      rw [List.take_length]; exact ho.2.1.trans List.take_length
    obtain ⟨l2, h23, hp2, hs2⟩ := F23.ok (hpk 0) σ3.st none X l (fun k hk => by cases hk) hX1 hXm (fun x hx => (hor x hx).2.2.1) hn
    have hlH := decided_eq hp2 hs2 hp1 hri
    subst hlH
    have hl2 := (rd28 (σ := (AS.mk (hpk 0) σ3.st)) (slOf_slV (sz := 17) (l := l2.map encRow))).1
    rw [List.length_map] at hl2
    obtain ⟨env5, x5a, x5b, x5c, x5d⟩ := rD cx env4 (AS.mk (hpk 0) σ3.st) X _ l2.length x4b hcx f0 hX1 slV_plain h23 hl2 
    have f0 := (x5d 0 (by decide)).trans f0
    have f2 := (x5d 2 (by decide)).trans f2
    have f6 := (x5d 6 (by decide)).trans f6
    have f9 := (x5d 9 (by decide)).trans f9
    have f23 := x5c.1
    have f24 := x5c.2.1
    have f25 := x5c.2.2
    have hoz : Outside s.length (AS.mk (hpk 0) s) (AS.mk (hpk 0) σ3.st) := ⟨rfl, ho.2.1, ho.2.2⟩
    have q0 : (AS.mk (hpk 0) σ3.st).get (.st s.length) = some (.cells [.int .i64 0, .int .u64 0]) := q0
    have hll : l2.length ≤ 15 := by rw [hp2.length_eq]; exact hn
    obtain ⟨e6, env6, σ6, x6a, x6p⟩ := loop2 cx hcx hro ⟨hp, s⟩ s.length (hp.length + 1) _ l2 hpk gk rfl (Nat.le_refl _) slOf_slV h24 (by omega) (σ := AS.mk (hpk 0) σ3.st) x5b f25 f24 (⟨f2, f6, f23, q0, rfl, fun j hj => by omega, hoz⟩)
    rcases x6p with ⟨rfl, ⟨x6b, f2, f6, f23, q0, q1, q2, ho⟩ | x6p⟩ | ⟨x6q, x6r, x6p⟩
    · skip
      obtain ⟨env7, x7a, x7b, x7c, x7d⟩ := rZ cx env6 σ6 s.length x6b hcx f2 q0 rfl (Nat.le_refl _) 
      have f2 := (x7d 2 (by decide)).trans f2
      have f6 := (x7d 6 (by decide)).trans f6
      have f23 := (x7d 23 (by decide)).trans f23
      have f3 := x7c
      have g9 := get_set_at (ob' := .cells [.int .i64 0, .int .u64 0]) q0
      have ho := ho.set (ob := .cells [.int .i64 0, .int .u64 0]) (L := .st s.length) ⟨s.length, rfl, Nat.le_refl _⟩
      have hre : resA Try.prog (σ6.set (.st s.length) (.cells [.int .i64 0, .int .u64 0])) env7 Try.f11.results.toList = some [.agg [.int .i64 0, .int .u64 0], .int .i64 0] := by
        have hrs : Try.f11.results.toList = [.cell 2 41, .tmp 3] := by kernel_rfl
        rw [hrs]; simp [resA, f2, f3, loadA, g9, partA, aggA, isAggD]
      have htk : (σ6.set (.st s.length) (.cells [.int .i64 0, .int .u64 0])).st.take s.length = s := ho.2.1.trans List.take_length
      have hhw : (σ6.set (.st s.length) (.cells [.int .i64 0, .int .u64 0])).hp = hpk l2.length := q1
      exact .inl ⟨q2, call_of (fl := {}) (fn := Try.f11) (c := bodyC) (env := env) (e := (.ret, (env7, σ6.set (.st s.length) (.cells [.int .i64 0, .int .u64 0])))) rfl Try.func11 body henv (by unfold bodyC; exact (execW_seq_of x1a (execW_seq_of (execW_seq_of x2a x3a) (execW_seq_of x4a (execW_seq_of (execW_seq_of x5a x6a) (execW_seq_of x7a (by rfl))))))) ((fin_two (.inl rfl) rfl hre (w := .tup [.agg [.int .i64 0, .int .u64 0], .int .i64 0]) (by simp [AV.back, AVs.back]) (by simp [AV.inb, AVs.inb])).trans (by rw [hhw, htk]))⟩
    · obtain ⟨k, hk, h9, _⟩ := x6p; cases h9
    · obtain ⟨k, hk, rfl, hgk, x6b, f2, f3, g9, hh9, ho⟩ := x6p
      have hre : resA Try.prog σ6 env6 Try.f11.results.toList = some [.agg [.int .i64 l2[k].cl, .int .u64 l2[k].sq], .int .i64 3] := by
        have hrs : Try.f11.results.toList = [.cell 2 41, .tmp 3] := by kernel_rfl
        rw [hrs]; simp [resA, f2, f3, loadA, g9, partA, aggA, isAggD]
      have htk : σ6.st.take s.length = s := ho.2.1.trans List.take_length
      have hhw : σ6.hp = hpk (k + 1) := hh9
      exact .inr ⟨k, hk, hgk, call_of (fl := {}) (fn := Try.f11) (c := bodyC) (env := env) (e := (.ret, (env6, σ6))) rfl Try.func11 body henv (by unfold bodyC; exact (execW_seq_of x1a (execW_seq_of (execW_seq_of x2a x3a) (execW_seq_of x4a (execW_seq_ret (execW_seq_of x5a x6a)))))) ((fin_two (.inl rfl) rfl hre (w := .tup [.agg [.int .i64 l2[k].cl, .int .u64 l2[k].sq], .int .i64 3]) (by simp [AV.back, AVs.back]) (by simp [AV.inb, AVs.inb])).trans (by rw [hhw, htk]))⟩
  · cases x3p
  · cases x3p
end F11

namespace F13
noncomputable def cr (p : List Dir) : Code := sub p (bodyOf Try.f13)

section
attribute [local simp] ofV ofCell ofCells seqA_nil seqA_cons seqVK_eq seqEK_eq wantedA yieldedA isVal effA ev evs evps putE optsA optsOk valA fieldAddrA fieldA loadA partA aggA isAggD buildA placesA fillA lay storeA AV.withCells buildSliceA elemsA rowParts fzL promL okE isSrc bytesOk pushA cxOf lenA binA intBinA strBinA unA indexAddrA eqA AVs.inb AV.inb Loc.inb calleeA opsOf sub bodyOf Env.get_set quietA_nil quietA_cons quietK_none quietK_some qstep newA isNew escNew boxOk newLoc flat rowPartsQ quietN quietOp isBS List.takeWhile finishA_eq finK_ret finK_normal retK backK resA oneA AV.back AVs.back execW_seq_eq seqK_normal seqK_ret seqK_exit execW_cond_eq condK_true condK_false execW_block_eq blockK_exit blockK_normal blockK_ret execW_region_eq regK_eq execW_skip execW_exit execW_ret regionA_plain regionA_quiet0 tailK_eq nilCheckA guardOk isConst lookupA keyFits mapUpdateA beqI bneI
theorem rA (cx : Cx) (env : Env) (σ : AS)  (hlen : env.length = 19) (hcx : cx.esc = [])  :
    Pc Try.prog how cx [] 19 [2] (cr [.l]) env σ (.normal) (σ) (fun env' => Env.get env' 2 = .nilp) := by
  refine pc_of fun res hr => ?_
  simp -implicitDefEqProofs [-lenA, -indexAddrA, -loadA, AS.get_push_at, AS.get_push_old, AS.push_len, AS.set_st_len, AS.next_st', AS.set_push_at, AS.get_set_self, AS.get_set_other, cr, Try.f13, hlen, hcx] at hr
  subst hr
  refine ⟨_, rfl, by simp [hlen], by simp [Env.get_set, hlen], fun i hi => ?_⟩
  simp only [List.mem_cons, List.not_mem_nil, or_false, not_or] at hi
  simp only [get_set2, hi, false_and, if_false]

theorem rC (cx : Cx) (env : Env) (σ : AS) (a : Nat) (σ' : AS) (hlen : env.length = 19) (hcx : cx.esc = [])  (h22 : callW Try.prog how 22 [] σ cx.ro = some (.ptr (.hp a) 0, σ')) :
    Pc Try.prog how cx [] 19 [3, 6] (cr [.r, .l]) env σ (.normal) (σ') (fun env' => Env.get env' 3 = .ptr (.hp a) 0) := by
  refine pc_of fun res hr => ?_
  simp -implicitDefEqProofs [-lenA, -indexAddrA, -loadA, AS.get_push_at, AS.get_push_old, AS.push_len, AS.set_st_len, AS.next_st', AS.set_push_at, AS.get_set_self, AS.get_set_other, cr, Try.f13, hlen, hcx, h22] at hr
  subst hr
  refine ⟨_, rfl, by simp [hlen], by simp [Env.get_set, hlen, h22], fun i hi => ?_⟩
  simp only [List.mem_cons, List.not_mem_nil, or_false, not_or] at hi
  simp only [get_set2, hi, false_and, if_false]

theorem rD (cx : Cx) (env : Env) (σ : AS) (X Z : AV) (n : Nat) (hlen : env.length = 19) (hcx : cx.esc = []) (f0 : Env.get env 0 = X) (hX : X.one = true) (hZ : Plain Z) (h23 : callW Try.prog how 23 [X] σ cx.ro = some (Z, σ)) (hl : lenA Try.prog σ 28 Z = some n) :
    Pc Try.prog how cx [] 19 [7, 8, 9, 10] (cr [.r, .r, .l, .l]) env σ (.normal) (σ) (fun env' => Env.get env' 8 = Z ∧ Env.get env' 9 = .int .i64 (n : Int) ∧ Env.get env' 10 = .int .i64 0) := by
  refine pc_of fun res hr => ?_
  simp -implicitDefEqProofs [-lenA, AS.get_push_at, AS.get_push_old, AS.push_len, AS.set_st_len, AS.next_st', AS.set_push_at, AS.get_set_self, AS.get_set_other, cr, Try.f13, hlen, hcx, f0, hX, hZ.one, hZ.inb, hZ.row, h23, hl] at hr
  subst hr
  refine ⟨_, rfl, by simp [hlen], by simp [Env.get_set, hlen, f0, hX, hZ.one, hZ.inb, hZ.row, h23, hl], fun i hi => ?_⟩
  simp only [List.mem_cons, List.not_mem_nil, or_false, not_or] at hi
  simp only [get_set2, hi, false_and, if_false]

theorem rE1 (cx : Cx) (env : Env) (σ : AS) (k : Nat) (Z p : AV) (x : RowD) (RX WX : AV) (hlen : env.length = 19) (hcx : cx.esc = []) (f8 : Env.get env 8 = Z) (f10 : Env.get env 10 = .int .i64 (k : Int)) (hRX : Plain RX) (hWX : Plain WX) (hia : indexAddrA Try.prog σ 28 Z (.int .i64 (k : Int)) = some p) (hpa : loadA Try.prog σ 59 p = some (.agg [.int .i64 x.cl, .int .u64 x.sq, .int .i64 x.kind, .str x.key, .str x.val, RX, WX, .int .i64 x.ca, .int .i64 x.st, .int .i64 x.an, .int .i64 x.code, .int .i64 x.rcl, .int .u64 x.rsq, .int .i64 x.rn, .int .i64 x.rcode, .str x.rval, .int .u64 x.rnum])) (hw : wok cx.ro (.st σ.st.length) = true) (hh : cx.h ≤ σ.st.length) :
    Pc Try.prog how cx [] 19 [5, 12, 13] (cr [.r, .r, .l, .r, .i, .i, .r, .r, .l, .i, .l]) env σ (.normal) (σ.push false (.cells [.int .i64 x.cl, .int .u64 x.sq, .int .i64 x.kind, .str x.key, .str x.val, RX, WX, .int .i64 x.ca, .int .i64 x.st, .int .i64 x.an, .int .i64 x.code, .int .i64 x.rcl, .int .u64 x.rsq, .int .i64 x.rn, .int .i64 x.rcode, .str x.rval, .int .u64 x.rnum])) (fun env' => Env.get env' 5 = .ptr (.st σ.st.length) 0) := by
  refine pc_of fun res hr => ?_
  simp -implicitDefEqProofs [-lenA, -indexAddrA, -loadA, AS.get_push_at, AS.get_push_old, AS.push_len, AS.set_st_len, AS.next_st', AS.set_push_at, AS.get_set_self, AS.get_set_other, cr, Try.f13, hlen, hcx, f8, f10, hRX.one, hRX.inb, hRX.row, hRX.cells, hWX.one, hWX.inb, hWX.row, hWX.cells, hia, hpa, hw, hh] at hr
  subst hr
  refine ⟨_, rfl, by simp [hlen], by simp [Env.get_set, hlen, f8, f10, hRX.one, hRX.inb, hRX.row, hRX.cells, hWX.one, hWX.inb, hWX.row, hWX.cells, hia, hpa, hw, hh], fun i hi => ?_⟩
  simp only [List.mem_cons, List.not_mem_nil, or_false, not_or] at hi
  simp only [get_set2, hi, false_and, if_false]

theorem rT1 (cx : Cx) (env : Env) (σ : AS) (a c : Nat) (b : Bool) (σ' : AS) (x : RowD) (RX WX : AV) (hlen : env.length = 19) (hcx : cx.esc = []) (f3 : Env.get env 3 = .ptr (.hp a) 0) (f5 : Env.get env 5 = .ptr (.st c) 0) (g5 : σ.get (.st c) = some (.cells [.int .i64 x.cl, .int .u64 x.sq, .int .i64 x.kind, .str x.key, .str x.val, RX, WX, .int .i64 x.ca, .int .i64 x.st, .int .i64 x.an, .int .i64 x.code, .int .i64 x.rcl, .int .u64 x.rsq, .int .i64 x.rn, .int .i64 x.rcode, .str x.rval, .int .u64 x.rnum])) (hRX : Plain RX) (hWX : Plain WX) (h24 : callW Try.prog how 24 [.ptr (.hp a) 0, .agg [.int .i64 x.cl, .int .u64 x.sq, .int .i64 x.kind, .str x.key, .str x.val, RX, WX, .int .i64 x.ca, .int .i64 x.st, .int .i64 x.an, .int .i64 x.code, .int .i64 x.rcl, .int .u64 x.rsq, .int .i64 x.rn, .int .i64 x.rcode, .str x.rval, .int .u64 x.rnum]] σ cx.ro = some (.bool b, σ')) :
    Pc Try.prog how cx [] 19 [14, 15, 16] (cr [.r, .r, .l, .r, .i, .i, .r, .r, .l, .i, .r]) env σ (.normal) (σ') (fun _ => True) := by
  refine pc_of fun res hr => ?_
  simp -implicitDefEqProofs [AS.get_push_at, AS.get_push_old, AS.push_len, AS.set_st_len, AS.next_st', AS.set_push_at, AS.get_set_self, AS.get_set_other, cr, Try.f13, hlen, hcx, f3, f5, g5, h24, hRX.one, hRX.inb, hRX.row, hRX.cells, hWX.one, hWX.inb, hWX.row, hWX.cells] at hr
  subst hr
  refine ⟨_, rfl, by simp [hlen], by simp [Env.get_set, hlen, f3, f5, g5, h24, hRX.one, hRX.inb, hRX.row, hRX.cells, hWX.one, hWX.inb, hWX.row, hWX.cells], fun i hi => ?_⟩
  simp only [List.mem_cons, List.not_mem_nil, or_false, not_or] at hi
  simp only [get_set2, hi, false_and, if_false]

theorem rZ (cx : Cx) (env : Env) (σ : AS) (a : Nat) (hlen : env.length = 19) (hcx : cx.esc = []) (f3 : Env.get env 3 = .ptr (.hp a) 0) :
    Pc Try.prog how cx [] 19 [2, 18] (cr [.r, .r, .r, .l]) env σ (.normal) (σ) (fun env' => Env.get env' 2 = .ptr (.hp a) 0) := by
  refine pc_of fun res hr => ?_
  simp -implicitDefEqProofs [-lenA, -indexAddrA, -loadA, AS.get_push_at, AS.get_push_old, AS.push_len, AS.set_st_len, AS.next_st', AS.set_push_at, AS.get_set_self, AS.get_set_other, cr, Try.f13, hlen, hcx, f3] at hr
  subst hr
  refine ⟨_, rfl, by simp [hlen], by simp [Env.get_set, hlen, f3], fun i hi => ?_⟩
  simp only [List.mem_cons, List.not_mem_nil, or_false, not_or] at hi
  simp only [get_set2, hi, false_and, if_false]

end
/-- What holds ahead of round k. -/
def J (h : Nat) (σ0 : AS) (a : Nat) (Z : AV) (H : List RowD) (hpk : Nat → List AObj) (gk : Nat → Bool) (k : Nat) (env : Env) (σ : AS) : Prop :=
  Env.get env 3 = .ptr (.hp a) 0 ∧ Env.get env 8 = Z ∧ (σ.hp = hpk k) ∧ Outside h (AS.mk σ.hp σ0.st) σ
def Ex (h : Nat) (σ0 : AS) (a : Nat) (Z : AV) (H : List RowD) (hpk : Nat → List AObj) (gk : Nat → Bool) (e : AExit) (env : Env) (σ : AS) : Prop := False
theorem J_stable {h : Nat} {σ0 : AS} {a : Nat} {Z : AV} {H : List RowD} {hpk : Nat → List AObj} {gk : Nat → Bool} : ∀ k env env' σ, env.length = 19 → env'.length = 19 → (∀ i, i ≠ 11 → i ≠ 17 → i ≠ 10 → Env.get env' i = Env.get env i) → J h σ0 a Z H hpk gk k env σ → J h σ0 a Z H hpk gk k env' σ := by
  rintro k env env' σ _ _ hf ⟨j3, j8, q0, ho⟩
  exact ⟨(hf 3 (by decide) (by decide) (by decide)).trans j3, (hf 8 (by decide) (by decide) (by decide)).trans j8, q0, ho⟩
noncomputable def oT : Oper := (opsOf (cr [.r, .r, .l, .r, .i, .i, .l])).headD default
noncomputable def oI : List Oper := opsOf (cr [.r, .r, .l, .r, .i, .i, .r, .r, .r])
theorem loop_eq : (cr [.r, .r, .l, .r]) = .block 0 (.loop (.seq (.region 3 #[oT] false) (.seq (.cond (.tmp 11) .skip (.exit 0)) (.seq (.block 1 (.seq (cr [.r, .r, .l, .r, .i, .i, .r, .r, .l, .i, .l]) (cr [.r, .r, .l, .r, .i, .i, .r, .r, .l, .i, .r]))) (.region 6 #[oI.headD default, (oI.drop 1).headD default] false))))) := by kernel_rfl
theorem step (cx : Cx) (hcx : cx.esc = []) (hro : ∀ k, cx.ro = some k → k ≤ cx.h) (σ0 : AS) (a : Nat) (Z : AV) (H : List RowD) (hpk : Nat → List AObj) (gk : Nat → Bool) (hr0 : cx.ro = none) (hZ : SlOf 17 Z (H.map encRow)) (h24 : ∀ (k : Nat) (hk : k < H.length) (s : List AObj), callW Try.prog how 24 [.ptr (.hp a) 0, encRow H[k]] ⟨hpk k, s⟩ none = some (.bool (gk k), ⟨hpk (k + 1), s⟩)) :
    ∀ k env σ, k < H.length → env.length = 19 → Env.get env 10 = .int .i64 (k : Int) → Env.get env 9 = .int .i64 ((H.length : Nat) : Int) → J cx.h σ0 a Z H hpk gk k env σ → ∃ e env' σ', execW Try.prog cx [] (callW Try.prog how) (.block 1 (.seq (cr [.r, .r, .l, .r, .i, .i, .r, .r, .l, .i, .l]) (cr [.r, .r, .l, .r, .i, .i, .r, .r, .l, .i, .r]))) (env, σ) = some (e, (env', σ')) ∧
      ((e = .normal ∧ env'.length = 19 ∧ Env.get env' 10 = .int .i64 (k : Int) ∧ Env.get env' 9 = .int .i64 ((H.length : Nat) : Int) ∧ J cx.h σ0 a Z H hpk gk (k + 1) env' σ') ∨ (e ≠ .normal ∧ Ex cx.h σ0 a Z H hpk gk e env' σ')) := by
  rintro k env σ hk hlen f10 f9 ⟨f3, f8, q0, ho⟩
  obtain ⟨p, hia, hpa⟩ := (rd28 (σ := σ) hZ).2 k (encRow H[k]) (get_el hk)
  obtain ⟨env1, x1a, x1b, x1c, x1d⟩ := rE1 cx env σ k Z p (H[k]) ((slV 2 (H[k].rs.map encRd))) ((slV 3 (H[k].ws.map encWr))) hlen hcx f8 f10 slV_plain slV_plain hia hpa (wokst hro ho.2.2) ho.2.2
  have f3 := (x1d 3 (by decide)).trans f3
  have f8 := (x1d 8 (by decide)).trans f8
  have f9 := (x1d 9 (by decide)).trans f9
  have f10 := (x1d 10 (by decide)).trans f10
  have f5 := x1c
  have g1 : ((σ : AS).push false (.cells [.int .i64 H[k].cl, .int .u64 H[k].sq, .int .i64 H[k].kind, .str H[k].key, .str H[k].val, (slV 2 (H[k].rs.map encRd)), (slV 3 (H[k].ws.map encWr)), .int .i64 H[k].ca, .int .i64 H[k].st, .int .i64 H[k].an, .int .i64 H[k].code, .int .i64 H[k].rcl, .int .u64 H[k].rsq, .int .i64 H[k].rn, .int .i64 H[k].rcode, .str H[k].rval, .int .u64 H[k].rnum])).get (.st (σ : AS).st.length) = some (.cells [.int .i64 H[k].cl, .int .u64 H[k].sq, .int .i64 H[k].kind, .str H[k].key, .str H[k].val, (slV 2 (H[k].rs.map encRd)), (slV 3 (H[k].ws.map encWr)), .int .i64 H[k].ca, .int .i64 H[k].st, .int .i64 H[k].an, .int .i64 H[k].code, .int .i64 H[k].rcl, .int .u64 H[k].rsq, .int .i64 H[k].rn, .int .i64 H[k].rcode, .str H[k].rval, .int .u64 H[k].rnum]) := AS.get_push_at rfl
  have ho := ho.push (ob := .cells [.int .i64 H[k].cl, .int .u64 H[k].sq, .int .i64 H[k].kind, .str H[k].key, .str H[k].val, (slV 2 (H[k].rs.map encRd)), (slV 3 (H[k].ws.map encWr)), .int .i64 H[k].ca, .int .i64 H[k].st, .int .i64 H[k].an, .int .i64 H[k].code, .int .i64 H[k].rcl, .int .u64 H[k].rsq, .int .i64 H[k].rn, .int .i64 H[k].rcode, .str H[k].rval, .int .u64 H[k].rnum])
  generalize hib1 : (σ : AS).st.length = ib1 at g1 f5
  generalize (σ : AS).push false (.cells [.int .i64 H[k].cl, .int .u64 H[k].sq, .int .i64 H[k].kind, .str H[k].key, .str H[k].val, (slV 2 (H[k].rs.map encRd)), (slV 3 (H[k].ws.map encWr)), .int .i64 H[k].ca, .int .i64 H[k].st, .int .i64 H[k].an, .int .i64 H[k].code, .int .i64 H[k].rcl, .int .u64 H[k].rsq, .int .i64 H[k].rn, .int .i64 H[k].rcode, .str H[k].rval, .int .u64 H[k].rnum]) = σ1 at x1a g1 ho
  have hhp : σ1.hp = hpk k := ho.1.trans q0
  have h24 := h24 k hk σ1.st
  have e24 : AS.mk (hpk k) σ1.st = σ1 := by rw [← hhp]
  rw [e24, ← hr0] at h24
  obtain ⟨env2, x2a, x2b, x2c, x2d⟩ := rT1 cx env1 σ1 a _ _ _ (H[k]) ((slV 2 (H[k].rs.map encRd))) ((slV 3 (H[k].ws.map encWr))) x1b hcx f3 f5 g1 slV_plain slV_plain h24 
  have f3 := (x2d 3 (by decide)).trans f3
  have f5 := (x2d 5 (by decide)).trans f5
  have f8 := (x2d 8 (by decide)).trans f8
  have f9 := (x2d 9 (by decide)).trans f9
  have f10 := (x2d 10 (by decide)).trans f10
  exact ⟨.normal, env2, _, (execW_block_of (execW_seq_of x1a x2a)), .inl ⟨rfl, x2b, f10, f9, f3, f8, rfl, ⟨rfl, ho.2.1, ho.2.2⟩⟩⟩
theorem loop (cx : Cx) (hcx : cx.esc = []) (hro : ∀ k, cx.ro = some k → k ≤ cx.h) (σ0 : AS) (a : Nat) (Z : AV) (H : List RowD) (hpk : Nat → List AObj) (gk : Nat → Bool) (hr0 : cx.ro = none) (hZ : SlOf 17 Z (H.map encRow)) (h24 : ∀ (k : Nat) (hk : k < H.length) (s : List AObj), callW Try.prog how 24 [.ptr (.hp a) 0, encRow H[k]] ⟨hpk k, s⟩ none = some (.bool (gk k), ⟨hpk (k + 1), s⟩)) (hnn : H.length ≤ 9223372036854775807) {env : Env} {σ : AS} (hl : env.length = 19) (h1 : Env.get env 10 = .int .i64 0) (h2 : Env.get env 9 = .int .i64 ((H.length : Nat) : Int)) (h0 : J cx.h σ0 a Z H hpk gk 0 env σ) :
    ∃ e env' σ', execW Try.prog cx [] (callW Try.prog how) (cr [.r, .r, .l, .r]) (env, σ) = some (e, (env', σ')) ∧ ((e = .normal ∧ ((env'.length = 19 ∧ J cx.h σ0 a Z H hpk gk (H.length) env' σ') ∨ Ex cx.h σ0 a Z H hpk gk (.exit 0) env' σ')) ∨ (e ≠ .normal ∧ e ≠ .exit 0 ∧ Ex cx.h σ0 a Z H hpk gk e env' σ')) := by
  rw [loop_eq]
  exact range_std (Ex := Ex cx.h σ0 a Z H hpk gk) (N := 19) (tc := 11) (ti := 10) (tl := 9) (tx := 17) (ty1 := 3) (ty2 := 3) (ty3 := 3) (ty4 := 3) ⟨by kernel_rfl, by kernel_rfl, by kernel_rfl⟩ ⟨by kernel_rfl, by kernel_rfl, by kernel_rfl⟩ ⟨by kernel_rfl, by kernel_rfl, by kernel_rfl⟩ (by decide) hnn J_stable (step cx hcx hro σ0 a Z H hpk gk hr0 hZ h24) hl h1 h2 h0
noncomputable def bodyC : Code := (.seq (cr [.l]) (.seq (cr [.r, .l]) (.seq (.seq (cr [.r, .r, .l, .l]) (cr [.r, .r, .l, .r])) (.seq (cr [.r, .r, .r, .l]) .ret))))
theorem body : Try.f13.body = some bodyC := by kernel_rfl
theorem ok (hp s : List AObj) (X : AV) (l H : List RowD) (hpk : Nat → List AObj) (gk : Nat → Bool) (hX1 : X.one = true) (hX : ∀ σ : AS, s.length ≤ σ.st.length → σ.st.take s.length = s → Rd Try.prog σ 28 59 X (l.map encRow)) (hn : l.length ≤ 15) (hst : ∀ x ∈ l, ¬ x.st = 0) (hp1 : l.Perm H) (hri : H.Pairwise (fun x y => x.st < y.st)) (h0 : hpk 0 = hp ++ [.map [], .cells [.map (.hp hp.length)]]) (h24 : ∀ (k : Nat) (hk : k < H.length) (s : List AObj), callW Try.prog how 24 [.ptr (.hp (hp.length + 1)) 0, encRow H[k]] ⟨hpk k, s⟩ none = some (.bool (gk k), ⟨hpk (k + 1), s⟩)) :
    callW Try.prog how 13 [X] ⟨hp, s⟩ none = some (.ptr (.hp (hp.length + 1)) 0, ⟨hpk H.length, s⟩) := by
  let cx : Cx := { h := s.length, ro := none, esc := [] }
  have hcx : cx.esc = [] := rfl
  have hro : ∀ k, cx.ro = some k → k ≤ cx.h := fun k hk => by cases hk
  obtain ⟨env, henv⟩ : ∃ e, e = frameA Try.f13 [X] := ⟨_, rfl⟩
  have hlen : env.length = 19 := by rw [henv]; rfl
  have f0 : Env.get env 0 = X := by rw [henv]; rfl
  have ho : Outside s.length (AS.mk hp s) (AS.mk hp s) := Outside.refl (Nat.le_refl _)
  obtain ⟨env1, x1a, x1b, x1c, x1d⟩ := rA cx env (AS.mk hp s)  hlen hcx   
  have f0 := (x1d 0 (by decide)).trans f0
  have f2 := x1c
  have h22 := f22_ok hp s
  rw [← h0] at h22
  obtain ⟨env2, x2a, x2b, x2c, x2d⟩ := rC cx env1 (AS.mk hp s) _ _ x1b hcx  h22 
  have f0 := (x2d 0 (by decide)).trans f0
  have f2 := (x2d 2 (by decide)).trans f2
  have f3 := x2c
  have hXm : ∀ σ, Outside s.length (AS.mk (hpk 0) s) σ → Rd Try.prog σ 28 59 X (l.map encRow) := fun σ h9 => hX σ h9.2.2 (h9.2.1.trans List.take_length)
  obtain ⟨l2, h23, hp2, hs2⟩ := F23.ok (hpk 0) s none X l (fun k hk => by cases hk) hX1 hXm hst hn
  have hlH := decided_eq hp2 hs2 hp1 hri
  subst hlH
  have hl2 := (rd28 (σ := AS.mk (hpk 0) s) (slOf_slV (sz := 17) (l := l2.map encRow))).1
  rw [List.length_map] at hl2
  obtain ⟨env3, x3a, x3b, x3c, x3d⟩ := rD cx env2 (AS.mk (hpk 0) s) X _ l2.length x2b hcx f0 hX1 slV_plain h23 hl2 
  have f0 := (x3d 0 (by decide)).trans f0
  have f2 := (x3d 2 (by decide)).trans f2
  have f3 := (x3d 3 (by decide)).trans f3
  have f8 := x3c.1
  have f9 := x3c.2.1
  have f10 := x3c.2.2
  have hoz : Outside s.length (AS.mk (hpk 0) s) (AS.mk (hpk 0) s) := Outside.refl (Nat.le_refl _)
  have hll : l2.length ≤ 15 := by rw [hp2.length_eq]; exact hn
  obtain ⟨e4, env4, σ4, x4a, x4p⟩ := loop cx hcx hro ⟨hp, s⟩ (hp.length + 1) _ l2 hpk gk rfl slOf_slV h24 (by omega) (σ := AS.mk (hpk 0) s) x3b f10 f9 (⟨f3, f8, rfl, hoz⟩)
  rcases x4p with ⟨rfl, ⟨x4b, f3, f8, q0, ho⟩ | x4p⟩ | ⟨x4q, x4r, x4p⟩
  · skip
    obtain ⟨env5, x5a, x5b, x5c, x5d⟩ := rZ cx env4 σ4 _ x4b hcx f3  
    have f3 := (x5d 3 (by decide)).trans f3
    have f8 := (x5d 8 (by decide)).trans f8
    have f2 := x5c
    have htk : σ4.st.take s.length = s := ho.2.1.trans List.take_length
    exact call_of (fl := {}) (fn := Try.f13) (c := bodyC) (env := env) (e := (.ret, (env5, σ4))) rfl Try.func13 body henv (by unfold bodyC; exact (execW_seq_of x1a (execW_seq_of x2a (execW_seq_of (execW_seq_of x3a x4a) (execW_seq_of x5a (by rfl)))))) ((fin_tmp (k := 2) (w := .ptr (.hp (hp.length + 1)) 0) (.inl rfl) rfl rfl f2 (by simp [AV.back]) (by simp [AV.inb, Loc.inb])).trans (by rw [q0, htk]))
  · cases x4p
  · cases x4p
end F13
