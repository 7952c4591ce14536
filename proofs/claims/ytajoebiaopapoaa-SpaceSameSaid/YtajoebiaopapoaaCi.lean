/- An object without later, without elder versions. -/

import Derived.Test.YtajoebiaopapoaaCh
open Go Go.Abs Go.Proofs
set_option maxRecDepth 100000
set_option maxHeartbeats 4000000
set_option linter.unusedSimpArgs false
set_option linter.unusedVariables false

theorem fin_one {P : Program} {fl : Flags} {fn : Func} {h : Nat} {en : Env} {σ : AS} {v w : AV} {e : AExit} (he : e = .ret ∨ e = .normal) (hk : fl.keep = false) (hr : resA P σ en fn.results.toList = some [v]) (hb : v.back h σ = some w) (hi : w.inb h = true) : finishA P fl fn h (some (e, (en, σ))) = some (w, ⟨σ.hp, σ.st.take h⟩) := by
  rcases he with rfl | rfl <;> simp [finishA, hr, hk, oneA, hb, hi]
theorem fin_two {P : Program} {fl : Flags} {fn : Func} {h : Nat} {en : Env} {σ : AS} {v v' : AV} {w : AV} {e : AExit} (he : e = .ret ∨ e = .normal) (hk : fl.keep = false) (hr : resA P σ en fn.results.toList = some [v, v']) (hb : (AV.tup [v, v']).back h σ = some w) (hi : w.inb h = true) : finishA P fl fn h (some (e, (en, σ))) = some (w, ⟨σ.hp, σ.st.take h⟩) := by
  rcases he with rfl | rfl <;> simp [finishA, hr, hk, oneA, hb, hi]
theorem vn_beq (x : Vn) : AV.beq (encVn x) (encVn x) = true := by simp [encVn, AV.beq, AVs.beq, bytes_beq]
theorem vns_beq : ∀ l : List Vn, AVs.beq (l.map encVn) (l.map encVn) = true
  | [] => rfl
  | x :: l => by simp only [List.map_cons, AVs.beq, vn_beq, vns_beq l, Bool.and_self]
theorem slV_beq (L : List Vn) : AV.beq (slV 4 (L.map encVn)) (slV 4 (L.map encVn)) = true := by
  cases L with
  | nil => rfl
  | cons x l =>
    have := vns_beq (x :: l)
    simpa [slV, AV.beq] using this
/-- The first, the last k versions, as a slice of a slice. -/
theorem slice_to (L : List Vn) (hL : L ≠ []) (u : Nat) (hu : u ≤ L.length) (σ : AS) : sliceA Try.prog σ 72 (slV 4 (L.map encVn)) none (some (.int .i64 (u : Int))) none = some (.sl false 4 ((L.take u).map encVn)) := by
  cases L with
  | nil => exact absurd rfl hL
  | cons x l =>
    have h1 : ((u : Int) ≤ ((l.map encVn).length + 1 : Nat)) := by simp at hu; simp; omega
    have h2 : (0 : Int) ≤ (u : Int) := by omega
    simp only [slV, List.map_cons, List.isEmpty_cons, Bool.false_eq_true, if_false, sliceA, intOf?, Try.underlying72, s46, if_true, boundsA, List.length_cons]
    rw [if_pos ⟨h2, h1⟩]
    simp [List.map_take]
theorem slice_from (L : List Vn) (hL : L ≠ []) (u : Nat) (hu : u ≤ L.length) (σ : AS) : sliceA Try.prog σ 72 (slV 4 (L.map encVn)) (some (.int .i64 (u : Int))) none none = some (.sl false 4 ((L.drop u).map encVn)) := by
  cases L with
  | nil => exact absurd rfl hL
  | cons x l =>
    have h1 : ((u : Int) ≤ ((l.map encVn).length + 1 : Nat)) := by simp at hu; simp; omega
    have h2 : (0 : Int) ≤ (u : Int) := by omega
    simp only [slV, List.map_cons, List.isEmpty_cons, Bool.false_eq_true, if_false, sliceA, intOf?, Try.underlying72, s46, if_true, boundsA, List.length_cons, Option.isSome_none]
    rw [if_pos ⟨h2, h1⟩]
    simp [List.map_drop]
    rw [List.take_of_length_le (by simp)]
theorem max_pred (u : Nat) : minMaxA true [.int .i64 ((u : Int) - 1), .int .i64 0] = some (.int .i64 ((u - 1 : Nat) : Int)) := by
  cases u with
  | zero => rfl
  | succ n =>
    have h : ¬ (0 : Int) > (n : Int) := by omega
    simp [minMaxA, mmStep, h]
namespace F54
noncomputable def cr (p : List Dir) : Code := sub p (bodyOf Try.f54)

section
attribute [local simp] ofV ofCell ofCells seqA_nil seqA_cons seqVK_eq seqEK_eq wantedA yieldedA isVal effA ev evs evps putE optsA optsOk valA fieldAddrA fieldA loadA partA aggA isAggD buildA placesA fillA lay storeA AV.withCells buildSliceA elemsA rowParts fzL promL okE isSrc bytesOk pushA cxOf lenA binA intBinA strBinA unA indexAddrA eqA AVs.inb AV.inb Loc.inb calleeA opsOf sub bodyOf Env.get_set quietA_nil quietA_cons quietK_none quietK_some qstep newA isNew escNew boxOk newLoc flat rowPartsQ quietN quietOp isBS List.takeWhile finishA_eq finK_ret finK_normal retK backK resA oneA AV.back AVs.back execW_seq_eq seqK_normal seqK_ret seqK_exit execW_cond_eq condK_true condK_false execW_block_eq blockK_exit blockK_normal blockK_ret execW_region_eq regK_eq execW_skip execW_exit execW_ret regionA_plain regionA_quiet0 tailK_eq nilCheckA guardOk isConst lookupA keyFits mapUpdateA beqI bneI mixL_nil mixL_cons mixK_eq tK_pre tK_eq vK_eq stepL_0 stepL_1n stepL_1s stepL_2 stepL_3 stepL_4 stepL_5 cutCall newL tchkL agreeB Op.operands sameO truncM beq_bool beq_int beq_str beq_nilp beq_ptr beq_eptr beq_nils beq_row beq_nilm beq_map beq_agg beq_sl beqs_nil beqs_cons
theorem rA (cx : Cx) (env : Env) (σ : AS) (hp s : List AObj) (X : AV) (hlen : env.length = 17) (hcx : cx.esc = []) (f0 : Env.get env 0 = .agg [X]) (hσ : σ = ⟨hp, s⟩) (hX : Plain X) (hw : wok cx.ro (.st σ.st.length) = true) (hh : cx.h ≤ σ.st.length) :
    Pc Try.prog how cx [2000003] 17 [2, 4] (cr [.l]) env σ (.normal) (AS.mk hp (s ++ [.cells [X], .cells [.nils]])) (fun env' => Env.get env' 2 = .ptr (.st s.length) 0 ∧ Env.get env' 4 = .ptr (.st (s.length + 1)) 0) := by
  refine pc_of fun res hr => ?_
  simp -implicitDefEqProofs [-lenA, -indexAddrA, AS.get_push_at, AS.get_push_old, AS.push_len, AS.set_st_len, AS.next_st', AS.set_push_at, AS.get_set_self, AS.get_set_other, cr, Try.f54, hlen, hcx, f0, hσ, hX.one, hX.inb, hX.row, hw, hh] at hr
  subst hr
  refine ⟨_, rfl, by simp [hlen], by simp [Env.get_set, hlen, f0, hσ, hX.one, hX.inb, hX.row, hw, hh], fun i hi => ?_⟩
  simp only [List.mem_cons, List.not_mem_nil, or_false, not_or] at hi
  simp only [get_set2, hi, false_and, if_false]

theorem rB (cx : Cx) (env : Env) (σ : AS) (a : Nat) (X : AV) (hlen : env.length = 17) (hcx : cx.esc = []) (f2 : Env.get env 2 = .ptr (.st a) 0) (ga : σ.get (.st a) = some (.cells [X])) (h58 : callW Try.prog how 58 [.agg [X]] σ cx.ro = some (.bool true, σ)) :
    Pc Try.prog how cx [2000003] 17 [5, 6, 7] (cr [.r, .l]) env σ (.normal) (σ) (fun _ => True) := by
  refine pc_of fun res hr => ?_
  simp -implicitDefEqProofs [-lenA, -indexAddrA, AS.get_push_at, AS.get_push_old, AS.push_len, AS.set_st_len, AS.next_st', AS.set_push_at, AS.get_set_self, AS.get_set_other, cr, Try.f54, hlen, hcx, f2, ga, h58] at hr
  subst hr
  refine ⟨_, rfl, by simp [hlen], by simp [Env.get_set, hlen, f2, ga, h58], fun i hi => ?_⟩
  simp only [List.mem_cons, List.not_mem_nil, or_false, not_or] at hi
  simp only [get_set2, hi, false_and, if_false]

noncomputable def mx_q : List Oper := opsOf (cr [.r, .r, .l])
def mx_plan : List (Nat × List Nat) := [(0, []), (1, []), (2, []), (0, []), (4, [1]), (2, []), (4, []), (0, []), (4, [])]
theorem mx_reg : (cr [.r, .r, .l]) = .region 3 mx_q.toArray true := by kernel_rfl
theorem mx_ok (h : Nat) (ro : Option Nat) : planOk Try.prog (Cx.mk h ro []) mx_q mx_plan = true := by kernel_rfl
theorem mx_lt : anyLT Try.prog mx_q = true := by kernel_rfl
theorem mx_room (h : Nat) (ro : Option Nat) : roomL Try.prog (Cx.mk h ro []) mx_q = 0 := by kernel_rfl
theorem mx (h : Nat) (ro : Option Nat) (hp s : List AObj) (env : Env) (a b u v n : Nat) (m : Int) (X Y : AV) (ob : AObj) (hlen : env.length = 17) (f1 : Env.get env 1 = .int .i64 m) (f2 : Env.get env 2 = .ptr (.st a) 0) (f4 : Env.get env 4 = .ptr (.st b) 0) (hro0 : ro = none) (ga : (AS.mk hp s).get (.st a) = some (.cells [X])) (gb : (AS.mk hp s).get (.st b) = some (.cells [.nils])) (gb2 : (AS.mk (hp ++ [ob]) s).get (.st b) = some (.cells [.nils])) (hX : Plain X) (hbq : AV.beq X X = true) (h62 : callW Try.prog how 62 [.agg [X], .int .i64 m] ⟨hp, s⟩ none = some (.int .i64 (u : Int), ⟨hp, s⟩)) (h65 : callW Try.prog how 65 [Y] ⟨hp, s⟩ none = some (.row (.hp hp.length) v 0 n, ⟨hp ++ [ob], s⟩)) (hsl : ∀ σ, sliceA Try.prog σ 72 X none (some (.int .i64 (u : Int))) none = some Y) :
    Pc Try.prog how (Cx.mk h ro []) [2000003] 17 [9, 10, 11, 12, 13, 14, 15, 16] (cr [.r, .r, .l]) env ⟨hp, s⟩ .normal ⟨hp ++ [ob], s.set b (.cells [.row (.hp hp.length) v 0 n])⟩ (fun _ => True) := by
  refine pc_of fun res hr => ?_
  have hroom := mx_room h ro
  rw [mx_reg, execW_region_eq] at hr
  rw [show (mx_q.toArray).toList = mx_q from rfl, regionA_mix rfl rfl] at hr
  generalize h1 : mixL Try.prog (Cx.mk h ro []) (callW Try.prog how) ⟨hp, s⟩ mx_q true none (mx_q.zip mx_plan) env (layL Try.prog (Cx.mk h ro []) ⟨hp, s⟩ mx_q) = r1 at *
  have h1' := h1
  rw [layL0 hroom] at h1'
  simp -implicitDefEqProofs [mx_plan, -lenA, -indexAddrA, mx_q, cr, Try.f54, hlen, f1, f2, f4, hro0, ga, gb, gb2, hX.one, hX.inb, hX.row, hbq, h62, h65, hsl, AS.set] at h1'
  subst h1'
  rw [mixA_plan2 (mx_ok h ro) mx_lt h1, layL0 hroom] at hr
  simp -implicitDefEqProofs [mx_plan, -lenA, -indexAddrA, mx_q, cr, Try.f54, hlen, f1, f2, f4, hro0, ga, gb, gb2, hX.one, hX.inb, hX.row, hbq, h62, h65, hsl, AS.set] at hr
  subst hr
  refine ⟨_, rfl, by simp [hlen], by simp [Env.get_set, hlen, f1, f2, f4, hro0, ga, gb, gb2, hX.one, hX.inb, hX.row, hbq, h62, h65, hsl, AS.set], fun i hi => ?_⟩
  simp only [List.mem_cons, List.not_mem_nil, or_false, not_or] at hi
  simp only [get_set2, hi, false_and, if_false]

end
noncomputable def bodyC : Code := (.seq (cr [.l]) (.seq (cr [.r, .l]) (.seq (cr [.r, .r, .l]) .ret)))
theorem body : Try.f54.body = some bodyC := by kernel_rfl
theorem ok (hp s : List AObj) (L : List Vn) (m : Int) (hG : GoodO L) (hL : L ≠ []) :
    callW Try.prog how 54 [.agg [slV 4 (L.map encVn)], .int .i64 m] ⟨hp, s⟩ none = some (.agg [clR hp.length ((L.take (uptoN L m)).map encVn)], ⟨hp ++ [clO ((L.take (uptoN L m)).map encVn)], s⟩) := by
  let cx : Cx := { h := s.length, ro := none, esc := [] }
  have hcx : cx.esc = [] := rfl
  have hro : ∀ k, cx.ro = some k → k ≤ cx.h := fun k hk => by cases hk
  obtain ⟨env, henv⟩ : ∃ e, e = frameA Try.f54 [.agg [slV 4 (L.map encVn)], .int .i64 m] := ⟨_, rfl⟩
  have hlen : env.length = 17 := by rw [henv]; rfl
  have f0 : Env.get env 0 = .agg [slV 4 (L.map encVn)] := by rw [henv]; rfl
  have f1 : Env.get env 1 = .int .i64 m := by rw [henv]; rfl
  have ho : Outside s.length (AS.mk hp s) (AS.mk hp s) := Outside.refl (Nat.le_refl _)
  obtain ⟨env1, x1a, x1b, x1c, x1d⟩ := rA cx env (AS.mk hp s) hp s (slV 4 (L.map encVn)) hlen hcx f0 rfl slV_plain rfl (Nat.le_refl _)
  have f0 := (x1d 0 (by decide)).trans f0
  have f1 := (x1d 1 (by decide)).trans f1
  have f2 := x1c.1
  have f4 := x1c.2
  have ga : (AS.mk hp (s ++ [AObj.cells [slV 4 (L.map encVn)], AObj.cells [.nils]])).get (.st s.length) = some (.cells [slV 4 (L.map encVn)]) := by simp [AS.get]
  have gb : (AS.mk hp (s ++ [AObj.cells [slV 4 (L.map encVn)], AObj.cells [.nils]])).get (.st (s.length + 1)) = some (.cells [.nils]) := by simp [AS.get]
  obtain ⟨env2, x2a, x2b, x2c, x2d⟩ := rB cx env1 (AS.mk hp (s ++ [.cells [slV 4 (L.map encVn)], .cells [.nils]])) _ (slV 4 (L.map encVn)) x1b hcx f2 ga (F58.ok hp (s ++ [AObj.cells [slV 4 (L.map encVn)], AObj.cells [.nils]]) none L (fun k hk => by cases hk) hG) 
  have f0 := (x2d 0 (by decide)).trans f0
  have f1 := (x2d 1 (by decide)).trans f1
  have f2 := (x2d 2 (by decide)).trans f2
  have f4 := (x2d 4 (by decide)).trans f4
  have h62 := f62_ok hp (s ++ [AObj.cells [slV 4 (L.map encVn)], AObj.cells [.nils]]) none L m (fun k hk => by cases hk) hG
  have hle := upto_le L m
  have hlen2 := hG.len
  have h65 := f65_sl hp (s ++ [AObj.cells [slV 4 (L.map encVn)], AObj.cells [.nils]]) false ((L.take (uptoN L m)).map encVn) (by simp; omega)
  obtain ⟨env3, x3a, x3b, x3c, x3d⟩ := mx s.length none hp (s ++ [AObj.cells [slV 4 (L.map encVn)], AObj.cells [.nils]]) env2 s.length ((s.length + 1)) ((uptoN L m)) _ _ m (slV 4 (L.map encVn)) _ _ x2b f1 f2 f4 rfl ga gb (by simp [AS.get]) slV_plain (slV_beq L) h62 h65 (slice_to L hL _ hle)
  have f0 := (x3d 0 (by decide)).trans f0
  have f1 := (x3d 1 (by decide)).trans f1
  have f2 := (x3d 2 (by decide)).trans f2
  have f4 := (x3d 4 (by decide)).trans f4
  have gz : (AS.mk (hp ++ [clO ((L.take (uptoN L m)).map encVn)]) ((s ++ [AObj.cells [slV 4 (L.map encVn)], AObj.cells [.nils]]).set (s.length + 1) (.cells [clR hp.length ((L.take (uptoN L m)).map encVn)]))).get (.st (s.length + 1)) = some (.cells [clR hp.length ((L.take (uptoN L m)).map encVn)]) := by simp [AS.get]
  exact call_of (fl := { tails := [2000003] }) (fn := Try.f54) (c := bodyC) (env := env) (e := (.ret, (env3, AS.mk (hp ++ [clO ((L.take (uptoN L m)).map encVn)]) ((s ++ [AObj.cells [slV 4 (L.map encVn)], AObj.cells [.nils]]).set (s.length + 1) (.cells [clR hp.length ((L.take (uptoN L m)).map encVn)]))))) rfl Try.func54 body henv (by unfold bodyC; exact (execW_seq_of x1a (execW_seq_of x2a (execW_seq_of x3a (by rfl))))) ((fin_one (v := .agg [clR hp.length ((L.take (uptoN L m)).map encVn)]) (w := .agg [clR hp.length ((L.take (uptoN L m)).map encVn)]) (.inl rfl) rfl (by simp [resA, Try.f54, f4, loadA, partA, gz, aggA, isAggD]) (by simp [AV.back, AVs.back, clR]) (by simp [AV.inb, AVs.inb, clR, Loc.inb])).trans (by simp))
end F54

namespace F56
noncomputable def cr (p : List Dir) : Code := sub p (bodyOf Try.f56)

section
attribute [local simp] ofV ofCell ofCells seqA_nil seqA_cons seqVK_eq seqEK_eq wantedA yieldedA isVal effA ev evs evps putE optsA optsOk valA fieldAddrA fieldA loadA partA aggA isAggD buildA placesA fillA lay storeA AV.withCells buildSliceA elemsA rowParts fzL promL okE isSrc bytesOk pushA cxOf lenA binA intBinA strBinA unA indexAddrA eqA AVs.inb AV.inb Loc.inb calleeA opsOf sub bodyOf Env.get_set quietA_nil quietA_cons quietK_none quietK_some qstep newA isNew escNew boxOk newLoc flat rowPartsQ quietN quietOp isBS List.takeWhile finishA_eq finK_ret finK_normal retK backK resA oneA AV.back AVs.back execW_seq_eq seqK_normal seqK_ret seqK_exit execW_cond_eq condK_true condK_false execW_block_eq blockK_exit blockK_normal blockK_ret execW_region_eq regK_eq execW_skip execW_exit execW_ret regionA_plain regionA_quiet0 tailK_eq nilCheckA guardOk isConst lookupA keyFits mapUpdateA beqI bneI mixL_nil mixL_cons mixK_eq tK_pre tK_eq vK_eq stepL_0 stepL_1n stepL_1s stepL_2 stepL_3 stepL_4 stepL_5 cutCall newL tchkL agreeB Op.operands sameO truncM beq_bool beq_int beq_str beq_nilp beq_ptr beq_eptr beq_nils beq_row beq_nilm beq_map beq_agg beq_sl beqs_nil beqs_cons
theorem rA (cx : Cx) (env : Env) (σ : AS) (hp s : List AObj) (X : AV) (hlen : env.length = 19) (hcx : cx.esc = []) (f0 : Env.get env 0 = .agg [X]) (hσ : σ = ⟨hp, s⟩) (hX : Plain X) (hw : wok cx.ro (.st σ.st.length) = true) (hh : cx.h ≤ σ.st.length) :
    Pc Try.prog how cx [2000003] 19 [2, 4] (cr [.l]) env σ (.normal) (AS.mk hp (s ++ [.cells [X], .cells [.nils]])) (fun env' => Env.get env' 2 = .ptr (.st s.length) 0 ∧ Env.get env' 4 = .ptr (.st (s.length + 1)) 0) := by
  refine pc_of fun res hr => ?_
  simp -implicitDefEqProofs [-lenA, -indexAddrA, AS.get_push_at, AS.get_push_old, AS.push_len, AS.set_st_len, AS.next_st', AS.set_push_at, AS.get_set_self, AS.get_set_other, cr, Try.f56, hlen, hcx, f0, hσ, hX.one, hX.inb, hX.row, hw, hh] at hr
  subst hr
  refine ⟨_, rfl, by simp [hlen], by simp [Env.get_set, hlen, f0, hσ, hX.one, hX.inb, hX.row, hw, hh], fun i hi => ?_⟩
  simp only [List.mem_cons, List.not_mem_nil, or_false, not_or] at hi
  simp only [get_set2, hi, false_and, if_false]

theorem rB (cx : Cx) (env : Env) (σ : AS) (a : Nat) (X : AV) (hlen : env.length = 19) (hcx : cx.esc = []) (f2 : Env.get env 2 = .ptr (.st a) 0) (ga : σ.get (.st a) = some (.cells [X])) (h58 : callW Try.prog how 58 [.agg [X]] σ cx.ro = some (.bool true, σ)) :
    Pc Try.prog how cx [2000003] 19 [5, 6, 7] (cr [.r, .l]) env σ (.normal) (σ) (fun _ => True) := by
  refine pc_of fun res hr => ?_
  simp -implicitDefEqProofs [-lenA, -indexAddrA, AS.get_push_at, AS.get_push_old, AS.push_len, AS.set_st_len, AS.next_st', AS.set_push_at, AS.get_set_self, AS.get_set_other, cr, Try.f56, hlen, hcx, f2, ga, h58] at hr
  subst hr
  refine ⟨_, rfl, by simp [hlen], by simp [Env.get_set, hlen, f2, ga, h58], fun i hi => ?_⟩
  simp only [List.mem_cons, List.not_mem_nil, or_false, not_or] at hi
  simp only [get_set2, hi, false_and, if_false]

noncomputable def mx_q : List Oper := opsOf (cr [.r, .r, .l])
def mx_plan : List (Nat × List Nat) := [(0, []), (1, []), (2, []), (0, []), (4, [1]), (0, []), (0, []), (2, []), (4, []), (0, []), (4, [])]
theorem mx_reg : (cr [.r, .r, .l]) = .region 3 mx_q.toArray true := by kernel_rfl
theorem mx_ok (h : Nat) (ro : Option Nat) : planOk Try.prog (Cx.mk h ro []) mx_q mx_plan = true := by kernel_rfl
theorem mx_lt : anyLT Try.prog mx_q = true := by kernel_rfl
theorem mx_room (h : Nat) (ro : Option Nat) : roomL Try.prog (Cx.mk h ro []) mx_q = 0 := by kernel_rfl
theorem mx (h : Nat) (ro : Option Nat) (hp s : List AObj) (env : Env) (a b u v n : Nat) (m : Int) (X Y : AV) (ob : AObj) (hlen : env.length = 19) (f1 : Env.get env 1 = .int .i64 m) (f2 : Env.get env 2 = .ptr (.st a) 0) (f4 : Env.get env 4 = .ptr (.st b) 0) (hro0 : ro = none) (ga : (AS.mk hp s).get (.st a) = some (.cells [X])) (gb : (AS.mk hp s).get (.st b) = some (.cells [.nils])) (gb2 : (AS.mk (hp ++ [ob]) s).get (.st b) = some (.cells [.nils])) (hX : Plain X) (hbq : AV.beq X X = true) (h62 : callW Try.prog how 62 [.agg [X], .int .i64 m] ⟨hp, s⟩ none = some (.int .i64 (u : Int), ⟨hp, s⟩)) (h65 : callW Try.prog how 65 [Y] ⟨hp, s⟩ none = some (.row (.hp hp.length) v 0 n, ⟨hp ++ [ob], s⟩)) (hw : wr .i64 ((u : Int) - 1) = (u : Int) - 1) (hmx : minMaxA true [.int .i64 ((u : Int) - 1), .int .i64 0] = some (.int .i64 ((u - 1 : Nat) : Int))) (hsl : ∀ σ, sliceA Try.prog σ 72 X (some (.int .i64 ((u - 1 : Nat) : Int))) none none = some Y) :
    Pc Try.prog how (Cx.mk h ro []) [2000003] 19 [9, 10, 11, 12, 13, 14, 15, 16, 17, 18] (cr [.r, .r, .l]) env ⟨hp, s⟩ .normal ⟨hp ++ [ob], s.set b (.cells [.row (.hp hp.length) v 0 n])⟩ (fun _ => True) := by
  refine pc_of fun res hr => ?_
  have hroom := mx_room h ro
  rw [mx_reg, execW_region_eq] at hr
  rw [show (mx_q.toArray).toList = mx_q from rfl, regionA_mix rfl rfl] at hr
  generalize h1 : mixL Try.prog (Cx.mk h ro []) (callW Try.prog how) ⟨hp, s⟩ mx_q true none (mx_q.zip mx_plan) env (layL Try.prog (Cx.mk h ro []) ⟨hp, s⟩ mx_q) = r1 at *
  have h1' := h1
  rw [layL0 hroom] at h1'
  simp -implicitDefEqProofs [mx_plan, -lenA, -indexAddrA, mx_q, cr, Try.f56, hlen, f1, f2, f4, hro0, ga, gb, gb2, hX.one, hX.inb, hX.row, hbq, h62, h65, hw, hmx, hsl, AS.set] at h1'
  subst h1'
  rw [mixA_plan2 (mx_ok h ro) mx_lt h1, layL0 hroom] at hr
  simp -implicitDefEqProofs [mx_plan, -lenA, -indexAddrA, mx_q, cr, Try.f56, hlen, f1, f2, f4, hro0, ga, gb, gb2, hX.one, hX.inb, hX.row, hbq, h62, h65, hw, hmx, hsl, AS.set] at hr
  subst hr
  refine ⟨_, rfl, by simp [hlen], by simp [Env.get_set, hlen, f1, f2, f4, hro0, ga, gb, gb2, hX.one, hX.inb, hX.row, hbq, h62, h65, hw, hmx, hsl, AS.set], fun i hi => ?_⟩
  simp only [List.mem_cons, List.not_mem_nil, or_false, not_or] at hi
  simp only [get_set2, hi, false_and, if_false]

end
noncomputable def bodyC : Code := (.seq (cr [.l]) (.seq (cr [.r, .l]) (.seq (cr [.r, .r, .l]) .ret)))
theorem body : Try.f56.body = some bodyC := by kernel_rfl
theorem ok (hp s : List AObj) (L : List Vn) (m : Int) (hG : GoodO L) (hL : L ≠ []) :
    callW Try.prog how 56 [.agg [slV 4 (L.map encVn)], .int .i64 m] ⟨hp, s⟩ none = some (.agg [clR hp.length ((L.drop (uptoN L m - 1)).map encVn)], ⟨hp ++ [clO ((L.drop (uptoN L m - 1)).map encVn)], s⟩) := by
  let cx : Cx := { h := s.length, ro := none, esc := [] }
  have hcx : cx.esc = [] := rfl
  have hro : ∀ k, cx.ro = some k → k ≤ cx.h := fun k hk => by cases hk
  obtain ⟨env, henv⟩ : ∃ e, e = frameA Try.f56 [.agg [slV 4 (L.map encVn)], .int .i64 m] := ⟨_, rfl⟩
  have hlen : env.length = 19 := by rw [henv]; rfl
  have f0 : Env.get env 0 = .agg [slV 4 (L.map encVn)] := by rw [henv]; rfl
  have f1 : Env.get env 1 = .int .i64 m := by rw [henv]; rfl
  have ho : Outside s.length (AS.mk hp s) (AS.mk hp s) := Outside.refl (Nat.le_refl _)
  obtain ⟨env1, x1a, x1b, x1c, x1d⟩ := rA cx env (AS.mk hp s) hp s (slV 4 (L.map encVn)) hlen hcx f0 rfl slV_plain rfl (Nat.le_refl _)
  have f0 := (x1d 0 (by decide)).trans f0
  have f1 := (x1d 1 (by decide)).trans f1
  have f2 := x1c.1
  have f4 := x1c.2
  have ga : (AS.mk hp (s ++ [AObj.cells [slV 4 (L.map encVn)], AObj.cells [.nils]])).get (.st s.length) = some (.cells [slV 4 (L.map encVn)]) := by simp [AS.get]
  have gb : (AS.mk hp (s ++ [AObj.cells [slV 4 (L.map encVn)], AObj.cells [.nils]])).get (.st (s.length + 1)) = some (.cells [.nils]) := by simp [AS.get]
  obtain ⟨env2, x2a, x2b, x2c, x2d⟩ := rB cx env1 (AS.mk hp (s ++ [.cells [slV 4 (L.map encVn)], .cells [.nils]])) _ (slV 4 (L.map encVn)) x1b hcx f2 ga (F58.ok hp (s ++ [AObj.cells [slV 4 (L.map encVn)], AObj.cells [.nils]]) none L (fun k hk => by cases hk) hG) 
  have f0 := (x2d 0 (by decide)).trans f0
  have f1 := (x2d 1 (by decide)).trans f1
  have f2 := (x2d 2 (by decide)).trans f2
  have f4 := (x2d 4 (by decide)).trans f4
  have h62 := f62_ok hp (s ++ [AObj.cells [slV 4 (L.map encVn)], AObj.cells [.nils]]) none L m (fun k hk => by cases hk) hG
  have hle := upto_le L m
  have hlen2 := hG.len
  have h65 := f65_sl hp (s ++ [AObj.cells [slV 4 (L.map encVn)], AObj.cells [.nils]]) false ((L.drop (uptoN L m - 1)).map encVn) (by simp; omega)
  obtain ⟨env3, x3a, x3b, x3c, x3d⟩ := mx s.length none hp (s ++ [AObj.cells [slV 4 (L.map encVn)], AObj.cells [.nils]]) env2 s.length ((s.length + 1)) ((uptoN L m)) _ _ m (slV 4 (L.map encVn)) _ _ x2b f1 f2 f4 rfl ga gb (by simp [AS.get]) slV_plain (slV_beq L) h62 h65 (wr_ok (by omega) (by omega)) (max_pred _) (slice_from L hL (uptoN L m - 1) (by omega))
  have f0 := (x3d 0 (by decide)).trans f0
  have f1 := (x3d 1 (by decide)).trans f1
  have f2 := (x3d 2 (by decide)).trans f2
  have f4 := (x3d 4 (by decide)).trans f4
  have gz : (AS.mk (hp ++ [clO ((L.drop (uptoN L m - 1)).map encVn)]) ((s ++ [AObj.cells [slV 4 (L.map encVn)], AObj.cells [.nils]]).set (s.length + 1) (.cells [clR hp.length ((L.drop (uptoN L m - 1)).map encVn)]))).get (.st (s.length + 1)) = some (.cells [clR hp.length ((L.drop (uptoN L m - 1)).map encVn)]) := by simp [AS.get]
  exact call_of (fl := { tails := [2000003] }) (fn := Try.f56) (c := bodyC) (env := env) (e := (.ret, (env3, AS.mk (hp ++ [clO ((L.drop (uptoN L m - 1)).map encVn)]) ((s ++ [AObj.cells [slV 4 (L.map encVn)], AObj.cells [.nils]]).set (s.length + 1) (.cells [clR hp.length ((L.drop (uptoN L m - 1)).map encVn)]))))) rfl Try.func56 body henv (by unfold bodyC; exact (execW_seq_of x1a (execW_seq_of x2a (execW_seq_of x3a (by rfl))))) ((fin_one (v := .agg [clR hp.length ((L.drop (uptoN L m - 1)).map encVn)]) (w := .agg [clR hp.length ((L.drop (uptoN L m - 1)).map encVn)]) (.inl rfl) rfl (by simp [resA, Try.f56, f4, loadA, partA, gz, aggA, isAggD]) (by simp [AV.back, AVs.back, clR]) (by simp [AV.inb, AVs.inb, clR, Loc.inb])).trans (by simp))
end F56
