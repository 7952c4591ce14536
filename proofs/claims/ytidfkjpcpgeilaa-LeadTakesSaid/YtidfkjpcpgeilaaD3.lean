/- The lead's code walked. -/

import Derived.Test.YtidfkjpcpgeilaaC1
import Derived.Test.YtidfkjpcpgeilaaD2
import Derived.Test.YtidfkjpcpgeilaaE0
import Derived.Test.YtidfkjpcpgeilaaB0
open Go Go.Abs Go.Proofs
set_option maxRecDepth 100000
set_option maxHeartbeats 4000000
set_option linter.unusedSimpArgs false
set_option linter.unusedVariables false

namespace Ldr
def howN : FuncId → Option How := fun _ => none
def kI (k : Int) : AV := .int .i64 k
def opK (B : Nat) (fr : Int) (k : Nat) : List (AV × AV) := (List.range k).map fun (j : Nat) => (.int .i64 (fr + (j : Int)), .ptr (.hp (B + j)) 0)
def obK (best : List (Int × Vt)) (fr : Int) (k : Nat) : List AObj := (List.range k).map fun (j : Nat) => .cells [.str ((mget (fr + (j : Int)) best).getD zeroVt).v, .int .u8 0]
def hpK (hp : List AObj) (mo : Nat) (fr : Int) (best : List (Int × Vt)) (k : Nat) : List AObj := hp.set mo (.map (opK hp.length fr k)) ++ obK best fr k
theorem obK_len {best : List (Int × Vt)} {fr : Int} {k : Nat} : (obK best fr k).length = k := by simp [obK]
theorem opK_succ {B : Nat} {fr : Int} {k : Nat} : opK B fr (k + 1) = opK B fr k ++ [(.int .i64 (fr + (k : Int)), .ptr (.hp (B + k)) 0)] := by simp [opK, List.range_succ]
theorem obK_succ {best : List (Int × Vt)} {fr : Int} {k : Nat} : obK best fr (k + 1) = obK best fr k ++ [.cells [.str ((mget (fr + (k : Int)) best).getD zeroVt).v, .int .u8 0]] := by simp [obK, List.range_succ]
theorem hpK_len {hp : List AObj} {mo : Nat} {fr : Int} {best : List (Int × Vt)} {k : Nat} : (hpK hp mo fr best k).length = hp.length + k := by simp [hpK, obK_len]
theorem hpK_old {hp : List AObj} {mo i : Nat} {fr : Int} {best : List (Int × Vt)} {k : Nat} (hi : i < hp.length) (hn : i ≠ mo) : (hpK hp mo fr best k)[i]? = hp[i]? := by
  unfold hpK
  rw [List.getElem?_append_left (by simpa using hi), List.getElem?_set_ne (fun e => hn e.symm)]
theorem hpK_mo {hp : List AObj} {mo : Nat} {fr : Int} {best : List (Int × Vt)} {k : Nat} (hi : mo < hp.length) : (hpK hp mo fr best k)[mo]? = some (.map (opK hp.length fr k)) := by
  unfold hpK
  rw [List.getElem?_append_left (by simpa using hi), List.getElem?_set_self hi]
theorem putA_opK {B : Nat} {fr : Int} {v : AV} : ∀ (n k : Nat), putA (.int .i64 (fr + ((n + k : Nat) : Int))) v ((List.range n).map fun (j : Nat) => ((.int .i64 (fr + (j : Int)) : AV), (AV.ptr (.hp (B + j)) 0))) = some (((List.range n).map fun (j : Nat) => ((.int .i64 (fr + (j : Int)) : AV), (AV.ptr (.hp (B + j)) 0))) ++ [(.int .i64 (fr + ((n + k : Nat) : Int)), v)]) := by
  intro n k
  have h : ∀ l : List Nat, (∀ j ∈ l, j < n) → putA (.int .i64 (fr + ((n + k : Nat) : Int))) v (l.map fun (j : Nat) => ((.int .i64 (fr + (j : Int)) : AV), (AV.ptr (.hp (B + j)) 0))) = some ((l.map fun (j : Nat) => ((.int .i64 (fr + (j : Int)) : AV), (AV.ptr (.hp (B + j)) 0))) ++ [(.int .i64 (fr + ((n + k : Nat) : Int)), v)]) := by
    intro l
    induction l with
    | nil => intro _; rfl
    | cons a l ih =>
      intro hl
      have ha := hl a (by simp)
      have ih' := ih fun j hj => hl j (by simp [hj])
      have hne : ¬ (fr + ((n + k : Nat) : Int) = fr + (a : Int)) := by omega
      have hke : keyEq (.int .i64 (fr + ((n + k : Nat) : Int))) (AV.int .i64 (fr + (a : Int))) = some false := by
        simp [keyEq]
        omega
      simp only [List.map_cons, putA, hke, ih', List.cons_append]
  exact h _ fun j hj => List.mem_range.1 hj
theorem lookup_best (σ : AS) (mb : Nat) (best : List (Int × Vt)) (slot : Int) (hm : σ.get (.hp mb) = some (.map (best.map (ment kI encVt)))) : lookupA Try.prog σ 75 (.map (.hp mb)) (.int .i64 slot) false = some (encVt ((mget slot best).getD zeroVt)) := by
  unfold lookupA
  have hk : ∀ a b, keyEq (kI a) (kI b) = some (decide (b = a)) := fun a b => by
    unfold kI
    simp only [keyEq, if_true]
    congr 1
    by_cases q : a = b
    · subst q; simp
    · rw [decide_eq_false (fun e => q e.symm)]; simp [q]
  have hf := findA_m kI encVt hk slot best
  unfold kI at hf
  simp only [Try.underlying75, Try.underlying3, z49, keyFits, if_true, hm]
  rw [show best.map (ment kI encVt) = best.map (ment (fun k => AV.int .i64 k) encVt) from rfl, hf]
  cases mget slot best <;> rfl
end Ldr
namespace Ldr
noncomputable def cr (p : List Dir) : Code := sub p (bodyOf Try.f30)

section
attribute [local simp] ofV ofCell ofCells seqA_nil seqA_cons seqVK_eq seqEK_eq wantedA yieldedA isVal effA ev evs evps putE optsA optsOk valA fieldAddrA fieldA loadA partA aggA isAggD buildA placesA fillA lay storeA AV.withCells buildSliceA elemsA rowParts fzL promL okE isSrc bytesOk pushA cxOf lenA binA intBinA strBinA unA indexAddrA eqA AVs.inb AV.inb Loc.inb calleeA opsOf sub bodyOf Env.get_set quietA_nil quietA_cons quietK_none quietK_some qstep newA isNew escNew boxOk newLoc flat rowPartsQ quietN quietOp isBS List.takeWhile finishA_eq finK_ret finK_normal retK backK resA oneA AV.back AVs.back execW_seq_eq seqK_normal seqK_ret seqK_exit execW_cond_eq condK_true condK_false execW_block_eq blockK_exit blockK_normal blockK_ret execW_region_eq regK_eq execW_skip execW_exit execW_ret regionA_plain regionA_quiet0 tailK_eq nilCheckA guardOk isConst lookupA keyFits mapUpdateA beqI bneI
theorem r5 (cx : Cx) (env : Env) (σ : AS) (a mb mo : Nat) (me n st br bn fr pr nx : Int) (hlen : env.length = 59) (hcx : cx.esc = [58]) (f0 : Env.get env 0 = .ptr (.hp a) 0) (hA : σ.get (.hp a) = some (.cells [.int .i64 me, .int .i64 n, .int .i64 st, .int .u64 br, .int .i64 bn, .int .i64 fr, .int .u8 pr, .map (.hp mb), .map (.hp mo), .int .i64 nx])) :
    Pc Try.prog howN cx [] 59 [3, 33, 34, 35, 36] (cr [.r, .r, .l]) env σ (.normal) (σ) (fun env' => Env.get env' 3 = .int .i64 fr) := by
  refine pc_of fun res hr => ?_
  simp -implicitDefEqProofs [AS.get_push_at, AS.get_push_old, AS.push_len, AS.set_st_len, AS.next_st', AS.set_push_at, AS.get_set_self, AS.get_set_other, cr, Try.f30, hlen, hcx, f0, hA] at hr
  subst hr
  refine ⟨_, rfl, by simp [hlen], by simp [Env.get_set, hlen, f0, hA], fun i hi => ?_⟩
  simp only [List.mem_cons, List.not_mem_nil, or_false, not_or] at hi
  simp only [putE, get_set2, hi, false_and, if_false]

theorem r6 (cx : Cx) (env : Env) (σ : AS) (a mb mo : Nat) (me n st br bn fr pr nx : Int) (i : Int) (hlen : env.length = 59) (hcx : cx.esc = [58]) (f0 : Env.get env 0 = .ptr (.hp a) 0) (f3 : Env.get env 3 = .int .i64 i) (hA : σ.get (.hp a) = some (.cells [.int .i64 me, .int .i64 n, .int .i64 st, .int .u64 br, .int .i64 bn, .int .i64 fr, .int .u8 pr, .map (.hp mb), .map (.hp mo), .int .i64 nx])) :
    Pc Try.prog howN cx [] 59 [37, 38, 39, 40, 41, 42] (cr [.r, .r, .r, .i, .i, .l, .l]) env σ (.normal) (σ) (fun env' => Env.get env' 42 = .bool (decide (i < nx))) := by
  refine pc_of fun res hr => ?_
  simp -implicitDefEqProofs [AS.get_push_at, AS.get_push_old, AS.push_len, AS.set_st_len, AS.next_st', AS.set_push_at, AS.get_set_self, AS.get_set_other, cr, Try.f30, hlen, hcx, f0, f3, hA] at hr
  subst hr
  refine ⟨_, rfl, by simp [hlen], by simp [Env.get_set, hlen, f0, f3, hA], fun i hi => ?_⟩
  simp only [List.mem_cons, List.not_mem_nil, or_false, not_or] at hi
  simp only [putE, get_set2, hi, false_and, if_false]

theorem r8 (cx : Cx) (env : Env) (σ : AS) (a mb mo : Nat) (me n st br bn fr pr nx : Int) (i : Int) (hp s : List AObj) (v : Vt) (σ' : AS) (hlen : env.length = 59) (hcx : cx.esc = [58]) (f0 : Env.get env 0 = .ptr (.hp a) 0) (f3 : Env.get env 3 = .int .i64 i) (hσ : σ = ⟨hp, s⟩) (hro0 : cx.ro = none) (hA : (AS.mk hp s).get (.hp a) = some (.cells [.int .i64 me, .int .i64 n, .int .i64 st, .int .u64 br, .int .i64 bn, .int .i64 fr, .int .u8 pr, .map (.hp mb), .map (.hp mo), .int .i64 nx])) (hlk : lookupA Try.prog ⟨hp, s⟩ 75 (.map (.hp mb)) (.int .i64 i) false = some (encVt v)) (hmu : mapUpdateA Try.prog cx ⟨hp ++ [.cells [.str v.v, .int .u8 0]], s⟩ 76 (.map (.hp mo)) (.int .i64 i) (.ptr (.hp hp.length) 0) = some σ') :
    Pc Try.prog howN cx [] 59 [45, 46, 47, 48, 49, 50, 51, 52, 53, 54, 55, 56, 57, 58] (cr [.r, .r, .r, .i, .i, .r, .l, .i]) env σ (.normal) (σ') (fun _ => True) := by
  refine pc_of fun res hr => ?_
  simp -implicitDefEqProofs [-lookupA, -mapUpdateA, AS.get_push_at, AS.get_push_old, AS.push_len, AS.set_st_len, AS.next_st', AS.set_push_at, AS.get_set_self, AS.get_set_other, cr, Try.f30, hlen, hcx, f0, f3, hσ, hro0, hA, hlk, hmu, encVt, fieldValA] at hr
  subst hr
  refine ⟨_, rfl, by simp [hlen], by simp [Env.get_set, hlen, f0, f3, hσ, hro0, hA, hlk, hmu, encVt, fieldValA], fun i hi => ?_⟩
  simp only [List.mem_cons, List.not_mem_nil, or_false, not_or] at hi
  simp only [putE, get_set2, hi, false_and, if_false]

theorem r7 (cx : Cx) (env : Env) (σ : AS) (i : Int) (hlen : env.length = 59) (hcx : cx.esc = [58]) (f3 : Env.get env 3 = .int .i64 i) (hw : wr .i64 (i + 1) = i + 1) :
    Pc Try.prog howN cx [] 59 [3, 43, 44] (cr [.r, .r, .r, .i, .i, .r, .r]) env σ (.normal) (σ) (fun env' => Env.get env' 3 = .int .i64 (i + 1)) := by
  refine pc_of fun res hr => ?_
  simp -implicitDefEqProofs [AS.get_push_at, AS.get_push_old, AS.push_len, AS.set_st_len, AS.next_st', AS.set_push_at, AS.get_set_self, AS.get_set_other, cr, Try.f30, hlen, hcx, f3, hw] at hr
  subst hr
  refine ⟨_, rfl, by simp [hlen], by simp [Env.get_set, hlen, f3, hw], fun i hi => ?_⟩
  simp only [List.mem_cons, List.not_mem_nil, or_false, not_or] at hi
  simp only [putE, get_set2, hi, false_and, if_false]

end
/-- What holds ahead of round k. -/
def J (h : Nat) (σ0 : AS) (a mb mo : Nat) (me n st br bn fr pr nx : Int) (hp s : List AObj) (best : List (Int × Vt)) (k : Nat) (env : Env) (σ : AS) : Prop :=
  env.length = 59 ∧ Env.get env 0 = .ptr (.hp a) 0 ∧ Env.get env 3 = .int .i64 (fr + (k : Int)) ∧ σ = AS.mk (hpK hp mo fr best k) s
def Ex (h : Nat) (σ0 : AS) (a mb mo : Nat) (me n st br bn fr pr nx : Int) (hp s : List AObj) (best : List (Int × Vt)) (e : AExit) (env : Env) (σ : AS) : Prop := False
noncomputable def lp : Code := (.seq (.seq (cr [.r, .r, .r, .i, .i, .l, .l]) (cr [.r, .r, .r, .i, .i, .l, .r])) (.seq (.block 3 (cr [.r, .r, .r, .i, .i, .r, .l, .i])) (cr [.r, .r, .r, .i, .i, .r, .r])))
theorem lp_eq : (cr [.r, .r, .r]) = .block 2 (.loop lp) := by kernel_rfl
theorem step (cx : Cx) (hcx : cx.esc = [58]) (hro : ∀ k, cx.ro = some k → k ≤ cx.h) (σ0 : AS) (a mb mo : Nat) (me n st br bn fr pr nx : Int) (hp s : List AObj) (best : List (Int × Vt)) (hro0 : cx.ro = none) (hA : hp[a]? = some (.cells [.int .i64 me, .int .i64 n, .int .i64 st, .int .u64 br, .int .i64 bn, .int .i64 fr, .int .u8 pr, .map (.hp mb), .map (.hp mo), .int .i64 nx])) (hmb : hp[mb]? = some (.map (best.map (ment kI encVt)))) (hmo : ∃ ob, hp[mo]? = some ob) (hd : a ≠ mo ∧ mb ≠ mo) (hfr : 0 ≤ fr) (hnx : fr ≤ nx ∧ nx ≤ 1001) :
    ∀ k env σ, k < (nx - fr).toNat → J cx.h σ0 a mb mo me n st br bn fr pr nx hp s best k env σ → ∃ e env' σ', execW Try.prog cx [] (callW Try.prog howN) lp (env, σ) = some (e, (env', σ')) ∧ ((e = .normal ∧ J cx.h σ0 a mb mo me n st br bn fr pr nx hp s best (k + 1) env' σ') ∨ (e ≠ .normal ∧ ((e = .exit 2 ∧ J cx.h σ0 a mb mo me n st br bn fr pr nx hp s best ((nx - fr).toNat) env' σ') ∨ Ex cx.h σ0 a mb mo me n st br bn fr pr nx hp s best e env' σ'))) := by
  rintro k env σ hk ⟨hlen, f0, f3, ho⟩
  unfold lp
  subst ho
  have lA := (List.getElem?_eq_some_iff.1 hA).1; have lB := (List.getElem?_eq_some_iff.1 hmb).1; obtain ⟨ob, hmo⟩ := hmo; have lM := (List.getElem?_eq_some_iff.1 hmo).1
  have hA1 : (AS.mk (hpK hp mo fr best k) s).get (.hp a) = some (.cells [.int .i64 me, .int .i64 n, .int .i64 st, .int .u64 br, .int .i64 bn, .int .i64 fr, .int .u8 pr, .map (.hp mb), .map (.hp mo), .int .i64 nx]) := (hpK_old lA hd.1).trans hA
  have hB1 : (AS.mk (hpK hp mo fr best k) s).get (.hp mb) = some (.map (best.map (ment kI encVt))) := (hpK_old lB hd.2).trans hmb
  obtain ⟨env1, x1a, x1b, x1c, x1d⟩ := r6 cx env (AS.mk (hpK hp mo fr best k) s) a mb mo me n st br bn fr pr nx _ hlen hcx f0 f3 hA1 
  have f0 := (x1d 0 (by decide)).trans f0
  have f3 := (x1d 3 (by decide)).trans f3
  have f42 := x1c
  have hlt : fr + (k : Int) < nx := by omega
  rw [decide_eq_true hlt] at f42
  have ev1 := ev_tmp f42
  have hlk := lookup_best _ mb best (fr + (k : Int)) hB1
  have hmu : mapUpdateA Try.prog cx ⟨hpK hp mo fr best k ++ [.cells [.str ((mget (fr + (k : Int)) best).getD zeroVt).v, .int .u8 0]], s⟩ 76 (.map (.hp mo)) (.int .i64 (fr + (k : Int))) (.ptr (.hp (hpK hp mo fr best k).length) 0) = some (AS.mk (hpK hp mo fr best (k + 1)) s) := by
    have hg : (AS.mk (hpK hp mo fr best k ++ [.cells [.str ((mget (fr + (k : Int)) best).getD zeroVt).v, .int .u8 0]]) s).get (.hp mo) = some (.map (opK hp.length fr k)) := by
      show (hpK hp mo fr best k ++ _)[mo]? = _
      rw [List.getElem?_append_left (by rw [hpK_len]; omega)]
      exact hpK_mo lM
    have hpu : putA (.int .i64 (fr + (k : Int))) (.ptr (.hp (hpK hp mo fr best k).length) 0) (opK hp.length fr k) = some (opK hp.length fr (k + 1)) := by
      rw [hpK_len, opK_succ]
      exact putA_opK k 0
    have e : (hpK hp mo fr best k ++ [AObj.cells [.str ((mget (fr + (k : Int)) best).getD zeroVt).v, .int .u8 0]]).set mo (.map (opK hp.length fr (k + 1))) = hpK hp mo fr best (k + 1) := by
      unfold hpK
      rw [obK_succ, List.append_assoc, List.set_append_left _ _ (by simpa using lM), List.set_set]
    simp [mapUpdateA, keyFits, fzL, AV.cells, AV.withCells, AV.one, hg, wok, hro0, AV.inb, Loc.inb, hpu, AS.set, e]
  obtain ⟨env2, x2a, x2b, x2c, x2d⟩ := r8 cx env1 (AS.mk (hpK hp mo fr best k) s) a mb mo me n st br bn fr pr nx _ _ s _ _ x1b hcx f0 f3 rfl hro0 hA1 hlk hmu 
  have f0 := (x2d 0 (by decide)).trans f0
  have f3 := (x2d 3 (by decide)).trans f3
  have f42 := (x2d 42 (by decide)).trans f42
  obtain ⟨env3, x3a, x3b, x3c, x3d⟩ := r7 cx env2 (AS.mk (hpK hp mo fr best (k + 1)) s) _ x2b hcx f3 (wr_ok (by omega) (by omega)) 
  have f0 := (x3d 0 (by decide)).trans f0
  have f42 := (x3d 42 (by decide)).trans f42
  have f3 := x3c
  exact ⟨.normal, env3, _, (execW_seq_of (execW_seq_of x1a (execW_cond_t ev1 (by rfl))) (execW_seq_of (execW_block_of x2a) x3a)), .inl ⟨rfl, x3b, f0, (by rw [f3]; congr 1; omega), rfl⟩⟩
theorem last (cx : Cx) (hcx : cx.esc = [58]) (hro : ∀ k, cx.ro = some k → k ≤ cx.h) (σ0 : AS) (a mb mo : Nat) (me n st br bn fr pr nx : Int) (hp s : List AObj) (best : List (Int × Vt)) (hro0 : cx.ro = none) (hA : hp[a]? = some (.cells [.int .i64 me, .int .i64 n, .int .i64 st, .int .u64 br, .int .i64 bn, .int .i64 fr, .int .u8 pr, .map (.hp mb), .map (.hp mo), .int .i64 nx])) (hmb : hp[mb]? = some (.map (best.map (ment kI encVt)))) (hmo : ∃ ob, hp[mo]? = some ob) (hd : a ≠ mo ∧ mb ≠ mo) (hfr : 0 ≤ fr) (hnx : fr ≤ nx ∧ nx ≤ 1001) :
    ∀ env σ, J cx.h σ0 a mb mo me n st br bn fr pr nx hp s best ((nx - fr).toNat) env σ → ∃ e env' σ', execW Try.prog cx [] (callW Try.prog howN) lp (env, σ) = some (e, (env', σ')) ∧ (e ≠ .normal ∧ ((e = .exit 2 ∧ J cx.h σ0 a mb mo me n st br bn fr pr nx hp s best ((nx - fr).toNat) env' σ') ∨ Ex cx.h σ0 a mb mo me n st br bn fr pr nx hp s best e env' σ')) := by
  rintro env σ ⟨hlen, f0, f3, ho⟩
  unfold lp
  subst ho
  have lA := (List.getElem?_eq_some_iff.1 hA).1
  have hA1 : (AS.mk (hpK hp mo fr best (nx - fr).toNat) s).get (.hp a) = some (.cells [.int .i64 me, .int .i64 n, .int .i64 st, .int .u64 br, .int .i64 bn, .int .i64 fr, .int .u8 pr, .map (.hp mb), .map (.hp mo), .int .i64 nx]) := (hpK_old lA hd.1).trans hA
  obtain ⟨env1, x1a, x1b, x1c, x1d⟩ := r6 cx env (AS.mk (hpK hp mo fr best (nx - fr).toNat) s) a mb mo me n st br bn fr pr nx _ hlen hcx f0 f3 hA1 
  have f0 := (x1d 0 (by decide)).trans f0
  have f3 := (x1d 3 (by decide)).trans f3
  have f42 := x1c
  have hlt : ¬ fr + (((nx - fr).toNat : Nat) : Int) < nx := by omega
  rw [decide_eq_false hlt] at f42
  have ev1 := ev_tmp f42
  exact ⟨.exit 2, env1, _, (execW_seq_exit (execW_seq_of x1a (execW_cond_f ev1 (by rfl)))), by simp, .inl ⟨rfl, x1b, f0, f3, rfl⟩⟩
theorem loop (cx : Cx) (hcx : cx.esc = [58]) (hro : ∀ k, cx.ro = some k → k ≤ cx.h) (σ0 : AS) (a mb mo : Nat) (me n st br bn fr pr nx : Int) (hp s : List AObj) (best : List (Int × Vt)) (hro0 : cx.ro = none) (hA : hp[a]? = some (.cells [.int .i64 me, .int .i64 n, .int .i64 st, .int .u64 br, .int .i64 bn, .int .i64 fr, .int .u8 pr, .map (.hp mb), .map (.hp mo), .int .i64 nx])) (hmb : hp[mb]? = some (.map (best.map (ment kI encVt)))) (hmo : ∃ ob, hp[mo]? = some ob) (hd : a ≠ mo ∧ mb ≠ mo) (hfr : 0 ≤ fr) (hnx : fr ≤ nx ∧ nx ≤ 1001) {env : Env} {σ : AS} (h0 : J cx.h σ0 a mb mo me n st br bn fr pr nx hp s best 0 env σ) :
    ∃ e env' σ', execW Try.prog cx [] (callW Try.prog howN) (cr [.r, .r, .r]) (env, σ) = some (e, (env', σ')) ∧ ((e = .normal ∧ (J cx.h σ0 a mb mo me n st br bn fr pr nx hp s best ((nx - fr).toNat) env' σ' ∨ Ex cx.h σ0 a mb mo me n st br bn fr pr nx hp s best (.exit 2) env' σ')) ∨ (e ≠ .normal ∧ e ≠ .exit 2 ∧ Ex cx.h σ0 a mb mo me n st br bn fr pr nx hp s best e env' σ')) := by
  rw [lp_eq]
  exact block_up (J := J cx.h σ0 a mb mo me n st br bn fr pr nx hp s best) (Ex := Ex cx.h σ0 a mb mo me n st br bn fr pr nx hp s best) (step cx hcx hro σ0 a mb mo me n st br bn fr pr nx hp s best hro0 hA hmb hmo hd hfr hnx) (last cx hcx hro σ0 a mb mo me n st br bn fr pr nx hp s best hro0 hA hmb hmo hd hfr hnx) h0
theorem rest (cx : Cx) (hcx : cx.esc = [58]) (hro0 : cx.ro = none) (a mb mo : Nat) (me n st br bn fr pr nx : Int) (hp s : List AObj) (best : List (Int × Vt)) (hA : hp[a]? = some (.cells [.int .i64 me, .int .i64 n, .int .i64 st, .int .u64 br, .int .i64 bn, .int .i64 fr, .int .u8 pr, .map (.hp mb), .map (.hp mo), .int .i64 nx])) (hmb : hp[mb]? = some (.map (best.map (ment kI encVt)))) (hmo : ∃ ob, hp[mo]? = some ob) (hd : a ≠ mo ∧ mb ≠ mo) (hfr : 0 ≤ fr) (hnx : fr ≤ nx ∧ nx ≤ 1001) (env : Env) (hlen : env.length = 59) (f0 : Env.get env 0 = .ptr (.hp a) 0) :
    ∃ env', execW Try.prog cx [] (callW Try.prog howN) (cr [.r, .r]) (env, ⟨hp.set mo (.map []), s⟩) = some (.normal, (env', ⟨hpK hp mo fr best (nx - fr).toNat, s⟩)) := by
  have hro : ∀ k, cx.ro = some k → k ≤ cx.h := fun k hk => by rw [hro0] at hk; cases hk
  have lA := (List.getElem?_eq_some_iff.1 hA).1
  have h0 : hpK hp mo fr best 0 = hp.set mo (.map []) := by simp [hpK, opK, obK]
  have hA1 : (AS.mk (hp.set mo (.map [])) s).get (.hp a) = some (.cells [.int .i64 me, .int .i64 n, .int .i64 st, .int .u64 br, .int .i64 bn, .int .i64 fr, .int .u8 pr, .map (.hp mb), .map (.hp mo), .int .i64 nx]) := by rw [← h0]; exact (hpK_old lA hd.1).trans hA
  obtain ⟨env1, x1a, x1b, x1c, x1d⟩ := r5 cx env ⟨hp.set mo (.map []), s⟩ a mb mo me n st br bn fr pr nx hlen hcx f0 hA1
  obtain ⟨e2, env2, σ2, x2a, x2p⟩ := loop cx hcx hro ⟨hp, s⟩ a mb mo me n st br bn fr pr nx hp s best hro0 hA hmb hmo hd hfr hnx (env := env1) (σ := ⟨hp.set mo (.map []), s⟩) ⟨x1b, (x1d 0 (by decide)).trans f0, by rw [x1c]; congr 1; simp, by rw [h0]⟩
  rcases x2p with ⟨rfl, ⟨x2b, y0, y3, ho⟩ | x2p⟩ | ⟨x2q, x2r, x2p⟩
  · subst ho
    have e : (cr [.r, .r]) = (.seq (cr [.r, .r, .l]) (cr [.r, .r, .r])) := by kernel_rfl
    rw [e]
    exact ⟨env2, execW_seq_of x1a x2a⟩
  · cases x2p
  · cases x2p
end Ldr
