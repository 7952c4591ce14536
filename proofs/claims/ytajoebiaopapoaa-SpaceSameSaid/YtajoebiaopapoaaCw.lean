/- What the program's Put does. -/

import Derived.Test.YtajoebiaopapoaaCv
open Go Go.Abs Go.Proofs
set_option maxRecDepth 100000
set_option maxHeartbeats 4000000
set_option linter.unusedSimpArgs false
set_option linter.unusedVariables false

/-- All stays but for one place. -/
def Keep1 (hp hp' : List AObj) (m : Nat) : Prop := hp.length ≤ hp'.length ∧ ∀ i, i ≠ m → i < hp.length → hp'[i]? = hp[i]?
theorem Keep1.refl (hp : List AObj) (m : Nat) : Keep1 hp hp m := ⟨Nat.le_refl _, fun _ _ _ => rfl⟩
theorem Keep1.trans {a b c : List AObj} {m : Nat} (h : Keep1 a b m) (h' : Keep1 b c m) : Keep1 a c m := ⟨Nat.le_trans h.1 h'.1, fun i hi hl => (h'.2 i hi (Nat.lt_of_lt_of_le hl h.1)).trans (h.2 i hi hl)⟩
theorem Keep1.app (hp l : List AObj) (m : Nat) : Keep1 hp (hp ++ l) m := ⟨by simp, fun i _ hl => List.getElem?_append_left hl⟩
theorem Keep1.set (hp : List AObj) (m : Nat) (o : AObj) : Keep1 hp (hp.set m o) m := ⟨by simp, fun i hi _ => List.getElem?_set_ne (fun e => hi e.symm)⟩
theorem at_lt {hp : List AObj} {i : Nat} {o : AObj} (h : hp[i]? = some o) : i < hp.length := (List.getElem?_eq_some_iff.1 h).1
/-- A value that is stored into the map: a slice of its own, maybe in the heap. -/
def NewY (hp hp2 : List AObj) (Y : AV) (es : List AV) : Prop := (hp2 = hp ∧ Y = .sl false 4 es) ∨ (∃ v, hp2 = hp ++ [.row es 4 v false] ∧ Y = .row (.hp hp.length) v 0 es.length)
theorem NewY.one {hp hp2 : List AObj} {Y : AV} {es : List AV} (h : NewY hp hp2 Y es) : Y.one = true := by rcases h with ⟨_, rfl⟩ | ⟨_, _, rfl⟩ <;> rfl
theorem NewY.cells {hp hp2 : List AObj} {Y : AV} {es : List AV} (h : NewY hp hp2 Y es) : Y.cells = [Y] := by rcases h with ⟨_, rfl⟩ | ⟨_, _, rfl⟩ <;> rfl
theorem NewY.inb {hp hp2 : List AObj} {Y : AV} {es : List AV} (h : NewY hp hp2 Y es) (n : Nat) : Y.inb n = true := by rcases h with ⟨_, rfl⟩ | ⟨_, _, rfl⟩ <;> rfl
theorem NewY.len {hp hp2 : List AObj} {Y : AV} {es : List AV} (h : NewY hp hp2 Y es) (σ : AS) : lenA Try.prog σ 72 Y = some es.length := by rcases h with ⟨_, rfl⟩ | ⟨_, _, rfl⟩ <;> simp [lenA]
theorem NewY.keep {hp hp2 : List AObj} {Y : AV} {es : List AV} (h : NewY hp hp2 Y es) (m : Nat) : Keep1 hp hp2 m := by
  rcases h with ⟨rfl, _⟩ | ⟨_, rfl, _⟩
  · exact Keep1.refl _ _
  · exact Keep1.app _ _ _
theorem PutY.new {hp hp2 : List AObj} {Y : AV} {es : List AV} (h : PutY hp hp2 Y es) : NewY hp hp2 Y es := by
  rcases h with h | h
  · exact .inl h
  · exact .inr ⟨2, h⟩
theorem slV_ne {l : List AV} (h : l ≠ []) : slV 4 l = .sl false 4 l := by
  cases l with
  | nil => exact absurd rfl h
  | cons => rfl
/-- A value goes into the map. -/
theorem mapUp {hp hp2 s : List AObj} {mm : Nat} {M : List Rw} {key : ByteArray} {Y : AV} {l : List Vn} {cx : Cx} (hro : cx.ro = none) (hm : hp[mm]? = some (.map (M.map entS))) (hY : NewY hp hp2 Y (l.map encVn)) (hl : l ≠ []) :
    ∃ hp3, mapUpdateA Try.prog cx ⟨hp2, s⟩ 65 (.map (.hp mm)) (.str key) (.agg [Y]) = some ⟨hp3, s⟩ ∧ hp3[mm]? = some (.map ((putM key l M).map entS)) ∧ Keep1 hp hp3 mm := by
  have hlt := at_lt hm
  have hne : l.map encVn ≠ [] := by simpa using hl
  have hpu := putA_ofS key l M
  rw [slV_ne hne] at hpu
  rcases hY with ⟨rfl, rfl⟩ | ⟨v, rfl, rfl⟩
  · have hg : (AS.mk hp2 s).get (.hp mm) = some (.map (M.map entS)) := hm
    refine ⟨hp2.set mm (.map ((putM key l M).map entS)), ?_, List.getElem?_set_self hlt, Keep1.set _ _ _⟩
    simp [mapUpdateA, keyFits, fzL, AV.cells, AV.withCells, hg, wok, hro, AV.inb, AVs.inb, hpu, AS.set]
  · have hg0 : (AS.mk (hp ++ [.row (l.map encVn) 4 v false]) s).get (.hp hp.length) = some (.row (l.map encVn) 4 v false) := by simp [AS.get]
    have hg : (AS.mk (hp ++ [.row (l.map encVn) 4 v true]) s).get (.hp mm) = some (.map (M.map entS)) := by
      simp only [AS.get]
      rw [List.getElem?_append_left hlt]
      exact hm
    refine ⟨(hp ++ [AObj.row (l.map encVn) 4 v true]).set mm (.map ((putM key l M).map entS)), ?_, List.getElem?_set_self (by simp; omega), (Keep1.app _ _ _).trans (Keep1.set _ _ _)⟩
    have ht : (l.map encVn).take (l.map encVn).length = l.map encVn := List.take_length
    simp [mapUpdateA, keyFits, fzL, AV.cells, AV.withCells, hg0, hg, wok, hro, AV.inb, AVs.inb, AS.set]
    have e : (AS.mk (hp ++ [AObj.row (l.map encVn) 4 v true]) s).get (.hp mm) = some (.map (M.map entS)) := hg
    simp only [AS.get] at e hpu ⊢
    rw [List.take_of_length_le (by simp)]
    rw [hpu]
namespace F17
noncomputable def cr (p : List Dir) : Code := sub p (bodyOf Try.f17)

section
attribute [local simp] ofV ofCell ofCells seqA_nil seqA_cons seqVK_eq seqEK_eq wantedA yieldedA isVal effA ev evs evps putE optsA optsOk valA fieldAddrA fieldA loadA partA aggA isAggD buildA placesA fillA lay storeA AV.withCells buildSliceA elemsA rowParts fzL promL okE isSrc bytesOk pushA cxOf lenA binA intBinA strBinA unA indexAddrA eqA AVs.inb AV.inb Loc.inb calleeA opsOf sub bodyOf Env.get_set quietA_nil quietA_cons quietK_none quietK_some qstep newA isNew escNew boxOk newLoc flat rowPartsQ quietN quietOp isBS List.takeWhile finishA_eq finK_ret finK_normal retK backK resA oneA AV.back AVs.back execW_seq_eq seqK_normal seqK_ret seqK_exit execW_cond_eq condK_true condK_false execW_block_eq blockK_exit blockK_normal blockK_ret execW_region_eq regK_eq execW_skip execW_exit execW_ret regionA_plain regionA_quiet0 tailK_eq nilCheckA guardOk isConst lookupA keyFits mapUpdateA beqI bneI
theorem rA (cx : Cx) (env : Env) (σ : AS)  (hlen : env.length = 42) (hcx : cx.esc = [])  :
    Pc Try.prog how cx [] 42 [10] (cr [.l]) env σ (.normal) (σ) (fun env' => Env.get env' 10 = .int .i64 0) := by
  refine pc_of fun res hr => ?_
  simp -implicitDefEqProofs [-lenA, -indexAddrA, -lookupA, -mapUpdateA, AS.get_push_at, AS.get_push_old, AS.push_len, AS.set_st_len, AS.next_st', AS.set_push_at, AS.get_set_self, AS.get_set_other, cr, Try.f17, hlen, hcx] at hr
  subst hr
  refine ⟨_, rfl, by simp [hlen], by simp [Env.get_set, hlen], fun i hi => ?_⟩
  simp only [List.mem_cons, List.not_mem_nil, or_false, not_or] at hi
  simp only [get_set2, hi, false_and, if_false]

theorem rB (cx : Cx) (env : Env) (σ : AS) (a : Nat) (key : ByteArray) (hlen : env.length = 42) (hcx : cx.esc = []) (f0 : Env.get env 0 = .ptr (.hp a) 0) (f1 : Env.get env 1 = .str key) (h38 : callW Try.prog how 38 [.str key] σ cx.ro = some (.bool true, σ)) :
    Pc Try.prog how cx [] 42 [13, 14, 15, 16, 17, 18, 19] (cr [.r, .l]) env σ (.normal) (σ) (fun _ => True) := by
  refine pc_of fun res hr => ?_
  simp -implicitDefEqProofs [-lenA, -indexAddrA, -lookupA, -mapUpdateA, AS.get_push_at, AS.get_push_old, AS.push_len, AS.set_st_len, AS.next_st', AS.set_push_at, AS.get_set_self, AS.get_set_other, cr, Try.f17, hlen, hcx, f0, f1, h38] at hr
  subst hr
  refine ⟨_, rfl, by simp [hlen], by simp [Env.get_set, hlen, f0, f1, h38], fun i hi => ?_⟩
  simp only [List.mem_cons, List.not_mem_nil, or_false, not_or] at hi
  simp only [get_set2, hi, false_and, if_false]

theorem rX (cx : Cx) (env : Env) (σ : AS) (a : Nat) (key : ByteArray) (hlen : env.length = 42) (hcx : cx.esc = []) (f0 : Env.get env 0 = .ptr (.hp a) 0) (f1 : Env.get env 1 = .str key) (h38 : callW Try.prog how 38 [.str key] σ cx.ro = some (.bool false, σ)) :
    Pc Try.prog how cx [] 42 [10, 13, 14, 15, 16, 17, 18, 19] (cr [.r, .l]) env σ (.ret) (σ) (fun env' => Env.get env' 10 = .int .i64 1) := by
  refine pc_of fun res hr => ?_
  simp -implicitDefEqProofs [-lenA, -indexAddrA, -lookupA, -mapUpdateA, AS.get_push_at, AS.get_push_old, AS.push_len, AS.set_st_len, AS.next_st', AS.set_push_at, AS.get_set_self, AS.get_set_other, cr, Try.f17, hlen, hcx, f0, f1, h38] at hr
  subst hr
  refine ⟨_, rfl, by simp [hlen], by simp [Env.get_set, hlen, f0, f1, h38], fun i hi => ?_⟩
  simp only [List.mem_cons, List.not_mem_nil, or_false, not_or] at hi
  simp only [get_set2, hi, false_and, if_false]

theorem rC (cx : Cx) (env : Env) (σ : AS) (hp s hp2 : List AObj) (a mm : Nat) (at_ e : Int) (key val : ByteArray) (gone : Bool) (Y Y2 : AV) (hlen : env.length = 42) (hcx : cx.esc = []) (f0 : Env.get env 0 = .ptr (.hp a) 0) (f1 : Env.get env 1 = .str key) (f2 : Env.get env 2 = .int .i64 at_) (f3 : Env.get env 3 = .str val) (f4 : Env.get env 4 = .bool gone) (hσ : σ = ⟨hp, s⟩) (hA : (AS.mk hp s).get (.hp a) = some (.cells [.map (.hp mm)])) (hlk : lookupA Try.prog ⟨hp, s⟩ 65 (.map (.hp mm)) (.str key) false = some (.agg [Y])) (hY : Plain Y) (h39 : callW Try.prog how 39 [.agg [Y], .int .i64 at_, .str val, .bool gone] ⟨hp, s⟩ cx.ro = some (.tup [.agg [Y2], .int .i64 e], ⟨hp2, s⟩)) (hY1 : Y2.one = true) (hY2 : ∀ n, Y2.inb n = true) (hww : wok cx.ro (.st s.length) = true) (hhr : cx.h ≤ s.length) :
    Pc Try.prog how cx [] 42 [11, 12, 20, 21, 22, 23, 24, 25, 26, 27, 28, 29, 30, 31, 32] (cr [.r, .r, .l]) env σ (.normal) (AS.mk hp2 (s ++ [.cells [Y2]])) (fun env' => Env.get env' 11 = .ptr (.st s.length) 0 ∧ Env.get env' 12 = .int .i64 e) := by
  refine pc_of fun res hr => ?_
  simp -implicitDefEqProofs [-lenA, -indexAddrA, -lookupA, -mapUpdateA, AS.get_push_at, AS.get_push_old, AS.push_len, AS.set_st_len, AS.next_st', AS.set_push_at, AS.get_set_self, AS.get_set_other, cr, Try.f17, hlen, hcx, f0, f1, f2, f3, f4, hσ, hA, hlk, hY.one, hY.inb, hY.row, h39, hY1, hY2, hww, hhr] at hr
  subst hr
  refine ⟨_, rfl, by simp [hlen], by simp [Env.get_set, hlen, f0, f1, f2, f3, f4, hσ, hA, hlk, hY.one, hY.inb, hY.row, h39, hY1, hY2, hww, hhr], fun i hi => ?_⟩
  simp only [List.mem_cons, List.not_mem_nil, or_false, not_or] at hi
  simp only [get_set2, hi, false_and, if_false]

theorem rD0 (cx : Cx) (env : Env) (σ : AS)  (hlen : env.length = 42) (hcx : cx.esc = []) (f12 : Env.get env 12 = .int .i64 1) :
    Pc Try.prog how cx [] 42 [33, 34] (cr [.r, .r, .r, .l]) env σ (.normal) (σ) (fun _ => True) := by
  refine pc_of fun res hr => ?_
  simp -implicitDefEqProofs [-lenA, -indexAddrA, -lookupA, -mapUpdateA, AS.get_push_at, AS.get_push_old, AS.push_len, AS.set_st_len, AS.next_st', AS.set_push_at, AS.get_set_self, AS.get_set_other, cr, Try.f17, hlen, hcx, f12] at hr
  subst hr
  refine ⟨_, rfl, by simp [hlen], by simp [Env.get_set, hlen, f12], fun i hi => ?_⟩
  simp only [List.mem_cons, List.not_mem_nil, or_false, not_or] at hi
  simp only [get_set2, hi, false_and, if_false]

theorem rD1 (cx : Cx) (env : Env) (σ : AS) (hp s : List AObj) (a mm c : Nat) (key : ByteArray) (Y2 : AV) (σ' : AS) (hlen : env.length = 42) (hcx : cx.esc = []) (f0 : Env.get env 0 = .ptr (.hp a) 0) (f1 : Env.get env 1 = .str key) (f11 : Env.get env 11 = .ptr (.st c) 0) (f12 : Env.get env 12 = .int .i64 0) (hσ : σ = ⟨hp, s⟩) (hA : (AS.mk hp s).get (.hp a) = some (.cells [.map (.hp mm)])) (gc : (AS.mk hp s).get (.st c) = some (.cells [Y2])) (hY1 : Y2.one = true) (hmu : mapUpdateA Try.prog cx ⟨hp, s⟩ 65 (.map (.hp mm)) (.str key) (.agg [Y2]) = some σ') :
    Pc Try.prog how cx [] 42 [33, 34, 35, 36, 37, 38, 39, 40] (cr [.r, .r, .r, .l]) env σ (.normal) (σ') (fun _ => True) := by
  refine pc_of fun res hr => ?_
  simp -implicitDefEqProofs [-lenA, -indexAddrA, -lookupA, -mapUpdateA, AS.get_push_at, AS.get_push_old, AS.push_len, AS.set_st_len, AS.next_st', AS.set_push_at, AS.get_set_self, AS.get_set_other, cr, Try.f17, hlen, hcx, f0, f1, f11, f12, hσ, hA, gc, hY1, hmu] at hr
  subst hr
  refine ⟨_, rfl, by simp [hlen], by simp [Env.get_set, hlen, f0, f1, f11, f12, hσ, hA, gc, hY1, hmu], fun i hi => ?_⟩
  simp only [List.mem_cons, List.not_mem_nil, or_false, not_or] at hi
  simp only [get_set2, hi, false_and, if_false]

theorem rE (cx : Cx) (env : Env) (σ : AS) (e : Int) (hlen : env.length = 42) (hcx : cx.esc = []) (f12 : Env.get env 12 = .int .i64 e) :
    Pc Try.prog how cx [] 42 [10, 41] (cr [.r, .r, .r, .r, .l]) env σ (.normal) (σ) (fun env' => Env.get env' 10 = .int .i64 e) := by
  refine pc_of fun res hr => ?_
  simp -implicitDefEqProofs [-lenA, -indexAddrA, -lookupA, -mapUpdateA, AS.get_push_at, AS.get_push_old, AS.push_len, AS.set_st_len, AS.next_st', AS.set_push_at, AS.get_set_self, AS.get_set_other, cr, Try.f17, hlen, hcx, f12] at hr
  subst hr
  refine ⟨_, rfl, by simp [hlen], by simp [Env.get_set, hlen, f12], fun i hi => ?_⟩
  simp only [List.mem_cons, List.not_mem_nil, or_false, not_or] at hi
  simp only [get_set2, hi, false_and, if_false]

end
noncomputable def bodyC : Code := (.seq (cr [.l]) (.seq (cr [.r, .l]) (.seq (cr [.r, .r, .l]) (.seq (cr [.r, .r, .r, .l]) (.seq (cr [.r, .r, .r, .r, .l]) .ret)))))
theorem body : Try.f17.body = some bodyC := by kernel_rfl
theorem ok (hp s : List AObj) (a mm : Nat) (at_ : Int) (key val : ByteArray) (gone : Bool) (M S : List Rw) (h : PS hp a mm M S) (hS : GoodS S) (hk : key.size ≤ 9223372036854775807) (hv : val.size ≤ 9223372036854775807) :
    ((!keyOk key || badPut (ofS S key) at_ val gone) = true ∧ callW Try.prog how 17 [.ptr (.hp a) 0, .str key, .int .i64 at_, .str val, .bool gone] ⟨hp, s⟩ none = some (.int .i64 1, ⟨hp, s⟩)) ∨
    ((!keyOk key || badPut (ofS S key) at_ val gone) = false ∧ ∃ hp', callW Try.prog how 17 [.ptr (.hp a) 0, .str key, .int .i64 at_, .str val, .bool gone] ⟨hp, s⟩ none = some (.int .i64 0, ⟨hp', s⟩) ∧ PS hp' a mm (putM key ((ofS S key) ++ [newV (ofS S key) at_ val gone]) M) (setS key ((ofS S key) ++ [newV (ofS S key) at_ val gone]) S) ∧ Keep1 hp hp' mm) := by
  let cx : Cx := { h := s.length, ro := none, esc := [] }
  have hcx : cx.esc = [] := rfl
  have hro : ∀ k, cx.ro = some k → k ≤ cx.h := fun k hk => by cases hk
  obtain ⟨env, henv⟩ : ∃ e, e = frameA Try.f17 [.ptr (.hp a) 0, .str key, .int .i64 at_, .str val, .bool gone] := ⟨_, rfl⟩
  have hlen : env.length = 42 := by rw [henv]; rfl
  have f0 : Env.get env 0 = .ptr (.hp a) 0 := by rw [henv]; rfl
  have f1 : Env.get env 1 = .str key := by rw [henv]; rfl
  have f2 : Env.get env 2 = .int .i64 at_ := by rw [henv]; rfl
  have f3 : Env.get env 3 = .str val := by rw [henv]; rfl
  have f4 : Env.get env 4 = .bool gone := by rw [henv]; rfl
  have ho : Outside s.length (AS.mk hp s) (AS.mk hp s) := Outside.refl (Nat.le_refl _)
  obtain ⟨env1, x1a, x1b, x1c, x1d⟩ := rA cx env (AS.mk hp s)  hlen hcx   
  have f0 := (x1d 0 (by decide)).trans f0
  have f1 := (x1d 1 (by decide)).trans f1
  have f2 := (x1d 2 (by decide)).trans f2
  have f3 := (x1d 3 (by decide)).trans f3
  have f4 := (x1d 4 (by decide)).trans f4
  have f10 := x1c
  have h38 := f38_ok hp s none key (fun k hk => by cases hk) hk
  have hlk := h.look hS s key
  have hG := hS.gof key
  have hpp := put_perm hS.so h.p key (l := (ofS S key) ++ [newV (ofS S key) at_ val gone]) (by simp)
  have ham : a ≠ mm := by rintro rfl; have e1 := h.oA; rw [h.oM] at e1; cases e1
  cases qk : keyOk key with
  | false =>
    rw [qk] at h38
    obtain ⟨env2, x2a, x2b, x2c, x2d⟩ := rX cx env1 (AS.mk hp s) a key x1b hcx f0 f1 h38 
    have f0 := (x2d 0 (by decide)).trans f0
    have f1 := (x2d 1 (by decide)).trans f1
    have f2 := (x2d 2 (by decide)).trans f2
    have f3 := (x2d 3 (by decide)).trans f3
    have f4 := (x2d 4 (by decide)).trans f4
    have f10 := x2c
    left
    refine ⟨rfl, ?_⟩
    exact call_of (fl := {}) (fn := Try.f17) (c := bodyC) (env := env) (e := (.ret, (env2, AS.mk hp s))) rfl Try.func17 body henv (by unfold bodyC; exact (execW_seq_of x1a (execW_seq_ret x2a))) ((fin_tmp (k := 10) (.inl rfl) rfl rfl f10 (by simp [AV.back]) (by simp [AV.inb])).trans (congrArg (fun x => some (_, x)) (outside_st ho)))
  | true =>
    rw [qk] at h38
    obtain ⟨env2, x2a, x2b, x2c, x2d⟩ := rB cx env1 (AS.mk hp s) a key x1b hcx f0 f1 h38 
    have f0 := (x2d 0 (by decide)).trans f0
    have f1 := (x2d 1 (by decide)).trans f1
    have f2 := (x2d 2 (by decide)).trans f2
    have f3 := (x2d 3 (by decide)).trans f3
    have f4 := (x2d 4 (by decide)).trans f4
    have f10 := (x2d 10 (by decide)).trans f10
    generalize (ofS S key) = L at *
    rcases F39.ok hp s L at_ val gone hG hv with ⟨q1, h39⟩ | ⟨q1, Y2, hp2, h39, hPY⟩
    · skip
      obtain ⟨env3, x3a, x3b, x3c, x3d⟩ := rC cx env2 (AS.mk hp s) hp s hp a mm at_ 1 key val gone (slV 4 (L.map encVn)) .nils x2b hcx f0 f1 f2 f3 f4 rfl h.oA hlk slV_plain h39 rfl (fun n => rfl) rfl (Nat.le_refl _) 
      have f0 := (x3d 0 (by decide)).trans f0
      have f1 := (x3d 1 (by decide)).trans f1
      have f2 := (x3d 2 (by decide)).trans f2
      have f3 := (x3d 3 (by decide)).trans f3
      have f4 := (x3d 4 (by decide)).trans f4
      have f10 := (x3d 10 (by decide)).trans f10
      have f11 := x3c.1
      have f12 := x3c.2
      obtain ⟨env4, x4a, x4b, x4c, x4d⟩ := rD0 cx env3 (AS.mk hp (s ++ [AObj.cells [.nils]]))  x3b hcx f12  
      have f0 := (x4d 0 (by decide)).trans f0
      have f1 := (x4d 1 (by decide)).trans f1
      have f2 := (x4d 2 (by decide)).trans f2
      have f3 := (x4d 3 (by decide)).trans f3
      have f4 := (x4d 4 (by decide)).trans f4
      have f10 := (x4d 10 (by decide)).trans f10
      have f11 := (x4d 11 (by decide)).trans f11
      have f12 := (x4d 12 (by decide)).trans f12
      obtain ⟨env5, x5a, x5b, x5c, x5d⟩ := rE cx env4 (AS.mk hp (s ++ [AObj.cells [.nils]])) 1 x4b hcx f12  
      have f0 := (x5d 0 (by decide)).trans f0
      have f1 := (x5d 1 (by decide)).trans f1
      have f2 := (x5d 2 (by decide)).trans f2
      have f3 := (x5d 3 (by decide)).trans f3
      have f4 := (x5d 4 (by decide)).trans f4
      have f11 := (x5d 11 (by decide)).trans f11
      have f12 := (x5d 12 (by decide)).trans f12
      have f10 := x5c
      exact .inl ⟨by rw [q1]; rfl, call_of (fl := {}) (fn := Try.f17) (c := bodyC) (env := env) (e := (.ret, (env5, AS.mk hp (s ++ [AObj.cells [.nils]])))) rfl Try.func17 body henv (by unfold bodyC; exact (execW_seq_of x1a (execW_seq_of x2a (execW_seq_of x3a (execW_seq_of x4a (execW_seq_of x5a (by rfl))))))) ((fin_tmp (k := 10) (w := .int .i64 1) (.inl rfl) rfl rfl f10 (by simp [AV.back]) (by simp [AV.inb])).trans (by simp))⟩
    · skip
      have hN := hPY.new
      obtain ⟨env3, x3a, x3b, x3c, x3d⟩ := rC cx env2 (AS.mk hp s) hp s hp2 a mm at_ 0 key val gone (slV 4 (L.map encVn)) Y2 x2b hcx f0 f1 f2 f3 f4 rfl h.oA hlk slV_plain h39 hN.one hN.inb rfl (Nat.le_refl _) 
      have f0 := (x3d 0 (by decide)).trans f0
      have f1 := (x3d 1 (by decide)).trans f1
      have f2 := (x3d 2 (by decide)).trans f2
      have f3 := (x3d 3 (by decide)).trans f3
      have f4 := (x3d 4 (by decide)).trans f4
      have f10 := (x3d 10 (by decide)).trans f10
      have f11 := x3c.1
      have f12 := x3c.2
      have hkp := hN.keep mm
      have hA2 : (AS.mk hp2 (s ++ [AObj.cells [Y2]])).get (.hp a) = some (.cells [.map (.hp mm)]) := (hkp.2 a ham (at_lt h.oA)).trans h.oA
      have gc2 : (AS.mk hp2 (s ++ [AObj.cells [Y2]])).get (.st s.length) = some (.cells [Y2]) := by simp [AS.get]
      obtain ⟨hp3, hmu, hm3, hk3⟩ := mapUp (cx := cx) (s := s ++ [AObj.cells [Y2]]) (key := key) rfl h.oM hN (by simp)
      obtain ⟨env4, x4a, x4b, x4c, x4d⟩ := rD1 cx env3 (AS.mk hp2 (s ++ [AObj.cells [Y2]])) hp2 ((s ++ [AObj.cells [Y2]])) a mm _ key Y2 _ x3b hcx f0 f1 f11 f12 rfl hA2 gc2 hN.one hmu 
      have f0 := (x4d 0 (by decide)).trans f0
      have f1 := (x4d 1 (by decide)).trans f1
      have f2 := (x4d 2 (by decide)).trans f2
      have f3 := (x4d 3 (by decide)).trans f3
      have f4 := (x4d 4 (by decide)).trans f4
      have f10 := (x4d 10 (by decide)).trans f10
      have f11 := (x4d 11 (by decide)).trans f11
      have f12 := (x4d 12 (by decide)).trans f12
      obtain ⟨env5, x5a, x5b, x5c, x5d⟩ := rE cx env4 (AS.mk hp3 (s ++ [AObj.cells [Y2]])) 0 x4b hcx f12  
      have f0 := (x5d 0 (by decide)).trans f0
      have f1 := (x5d 1 (by decide)).trans f1
      have f2 := (x5d 2 (by decide)).trans f2
      have f3 := (x5d 3 (by decide)).trans f3
      have f4 := (x5d 4 (by decide)).trans f4
      have f11 := (x5d 11 (by decide)).trans f11
      have f12 := (x5d 12 (by decide)).trans f12
      have f10 := x5c
      exact .inr ⟨by rw [q1]; rfl, hp3, call_of (fl := {}) (fn := Try.f17) (c := bodyC) (env := env) (e := (.ret, (env5, AS.mk hp3 (s ++ [AObj.cells [Y2]])))) rfl Try.func17 body henv (by unfold bodyC; exact (execW_seq_of x1a (execW_seq_of x2a (execW_seq_of x3a (execW_seq_of x4a (execW_seq_of x5a (by rfl))))))) ((fin_tmp (k := 10) (w := .int .i64 0) (.inl rfl) rfl rfl f10 (by simp [AV.back]) (by simp [AV.inb])).trans (by simp)), ⟨(hk3.2 a ham (at_lt h.oA)).trans h.oA, hm3, hpp⟩, hk3⟩
end F17
