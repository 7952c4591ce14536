/- What a key has in the document's map. -/

import Derived.Test.YtcafckfmhoklkaaCh
open Go Go.Abs Go.Proofs
set_option maxRecDepth 100000
set_option maxHeartbeats 4000000
set_option linter.unusedSimpArgs false
set_option linter.unusedVariables false

/-- A key of the document's map; what a key has. -/
abbrev Vl := Int × ByteArray × Bool
abbrev KeyD := ByteArray × Vl
def encK (k : KeyD) : AV := .agg [.str k.1, .int .u64 k.2.1, .str k.2.2.1, .bool k.2.2.2]
def zeroVl : Vl := (0, ⟨#[]⟩, false)
def ofK (L : List KeyD) (key : ByteArray) : Vl := match L.find? (fun k => decide (k.1 = key)) with
  | some k => k.2
  | none => zeroVl
/-- A slice of keys in the heap. -/
def HRow (hp : List AObj) (X : AV) (l : List AV) : Prop := (X = .nils ∧ l = []) ∨ (∃ j w f, X = .row (.hp j) w 0 l.length ∧ hp[j]? = some (.row l 4 w f))
theorem elK (r : KeyD) : partA Try.prog 49 (encK r).cells 0 = some (encK r) := by simp [partA, aggA, isAggD, AV.cells, encK]
theorem HRow.rd {hp : List AObj} {X : AV} {S : List KeyD} (h : HRow hp X (S.map encK)) (st : List AObj) : Rd Try.prog ⟨hp, st⟩ 25 49 X (S.map encK) := by
  have he : ∀ c ∈ S.map encK, partA Try.prog 49 c.cells 0 = some c := by
    intro c hc
    obtain ⟨r, _, rfl⟩ := List.mem_map.1 hc
    exact elK r
  rcases h with ⟨rfl, h⟩ | ⟨j, w, f, rfl, hj⟩
  · rw [h]
    exact rd_slV (sz := 4) (l := []) Try.underlying25 s49 (by decide) (fun c hc => by cases hc)
  · exact rd_row Try.underlying25 s49 (by decide) (show (AS.mk hp st).get (.hp j) = _ from hj) he
theorem HRow.one {hp : List AObj} {X : AV} {l : List AV} (h : HRow hp X l) : X.one = true := by rcases h with ⟨rfl, _⟩ | ⟨_, _, _, rfl, _⟩ <;> rfl
theorem HRow.inb {hp : List AObj} {X : AV} {l : List AV} (h : HRow hp X l) (n : Nat) : X.inb n = true := by rcases h with ⟨rfl, _⟩ | ⟨_, _, _, rfl, _⟩ <;> rfl
theorem ofK_at {S : List KeyD} {key : ByteArray} {k : Nat} (hk : k < S.length) (h1 : ∀ r ∈ S.take k, r.1 ≠ key) (h2 : S[k].1 = key) : ofK S key = S[k].2 := by
  unfold ofK
  have hd : S.drop k = S[k] :: S.drop (k + 1) := List.drop_eq_getElem_cons hk
  obtain ⟨x, hx⟩ : ∃ x, x = S[k] := ⟨_, rfl⟩
  rw [← hx] at h2 hd ⊢
  have e : S.find? (fun r => decide (r.1 = key)) = some x := by
    have e1 : (S.take k).find? (fun r => decide (r.1 = key)) = none := by
      rw [List.find?_eq_none]
      intro r hr
      simpa using h1 r hr
    rw [← List.take_append_drop k S, List.find?_append, e1, hd, List.find?_cons_of_pos (by simpa using h2)]
    rfl
  rw [e]
theorem ofK_none {S : List KeyD} {key : ByteArray} (h : ∀ r ∈ S, r.1 ≠ key) : ofK S key = zeroVl := by
  unfold ofK
  have e : S.find? (fun r => decide (r.1 = key)) = none := by
    rw [List.find?_eq_none]
    intro r hr
    simpa using h r hr
  rw [e]
/-- A key is written. -/
def updV (v : Vl) (w : WrI) : Vl := (wr .u64 (v.1 + 1), w.2.1, !w.2.2)
def putK (L : List KeyD) (w : WrI) : List KeyD := L.filter (fun k => decide (k.1 ≠ w.1)) ++ [(w.1, updV (ofK L w.1) w)]
theorem ofK_put (L : List KeyD) (w : WrI) (key : ByteArray) : ofK (putK L w) key = if key = w.1 then updV (ofK L w.1) w else ofK L key := by
  by_cases q : key = w.1
  · rw [if_pos q]
    subst q
    unfold putK
    generalize updV (ofK L w.1) w = v
    unfold ofK
    have e1 : (L.filter fun k => decide (k.1 ≠ w.1)).find? (fun r => decide (r.1 = w.1)) = none := by
      rw [List.find?_eq_none]
      intro r hr
      have := (List.mem_filter.1 hr).2
      simpa using this
    rw [List.find?_append, e1]
    simp
  · rw [if_neg q]
    unfold putK
    generalize updV (ofK L w.1) w = v
    unfold ofK
    have e2 : List.find? (fun r : KeyD => decide (r.1 = key)) [(w.1, v)] = none := by
      rw [List.find?_eq_none]
      intro r hr
      rw [List.mem_singleton] at hr
      subst hr
      simpa using fun e => q e.symm
    rw [List.find?_append, e2, Option.or_none]
    have e3 : ∀ l : List KeyD, (l.filter fun k => decide (k.1 ≠ w.1)).find? (fun r => decide (r.1 = key)) = l.find? (fun r => decide (r.1 = key)) := by
      intro l
      induction l with
      | nil => rfl
      | cons a l ih =>
        by_cases h1 : a.1 = w.1
        · rw [List.filter_cons_of_neg (by simpa using h1), List.find?_cons_of_neg (by simp; exact fun e => q (e.symm.trans h1)), ih]
        · rw [List.filter_cons_of_pos (by simpa using h1)]
          by_cases h2 : a.1 = key
          · rw [List.find?_cons_of_pos (by simpa using h2), List.find?_cons_of_pos (by simpa using h2)]
          · rw [List.find?_cons_of_neg (by simpa using h2), List.find?_cons_of_neg (by simpa using h2), ih]
    rw [e3]
theorem putK_len (L : List KeyD) (w : WrI) : (putK L w).length ≤ L.length + 1 := by
  unfold putK
  rw [List.length_append]
  have := List.length_filter_le (fun k : KeyD => decide (k.1 ≠ w.1)) L
  exact Nat.add_le_add_right this 1
theorem filter_succ {α : Type} {p : α → Bool} {l : List α} {k : Nat} (hk : k < l.length) : (l.take (k + 1)).filter p = (l.take k).filter p ++ (if p l[k] then [l[k]] else []) := by
  rw [List.take_succ_eq_append_getElem hk, List.filter_append]
  congr 1
  cases h : p l[k] <;> simp [h]
theorem Rows0 {h : Nat} {σ : AS} {sz : Nat} : Rows h σ [(sz, .nils, [])] := ⟨fun e he => by
    simp only [List.mem_cons, List.not_mem_nil, or_false] at he
    subst he
    exact .inl ⟨rfl, rfl⟩, by simp⟩
namespace F7
noncomputable def cr (p : List Dir) : Code := sub p (bodyOf Try.f7)

section
attribute [local simp] ofV ofCell ofCells seqA_nil seqA_cons seqVK_eq seqEK_eq wantedA yieldedA isVal effA ev evs evps putE optsA optsOk valA fieldAddrA fieldA loadA partA aggA isAggD buildA placesA fillA lay storeA AV.withCells buildSliceA elemsA rowParts fzL promL okE isSrc bytesOk pushA cxOf lenA binA intBinA strBinA unA indexAddrA eqA AVs.inb AV.inb Loc.inb calleeA opsOf sub bodyOf Env.get_set quietA_nil quietA_cons quietK_none quietK_some qstep newA isNew escNew boxOk newLoc flat rowPartsQ quietN quietOp isBS List.takeWhile finishA_eq finK_ret finK_normal retK backK resA oneA AV.back AVs.back execW_seq_eq seqK_normal seqK_ret seqK_exit execW_cond_eq condK_true condK_false execW_block_eq blockK_exit blockK_normal blockK_ret execW_region_eq regK_eq execW_skip execW_exit execW_ret regionA_plain regionA_quiet0 tailK_eq nilCheckA guardOk isConst lookupA keyFits mapUpdateA beqI bneI
theorem rA (cx : Cx) (env : Env) (σ : AS) (hp s : List AObj) (hlen : env.length = 24) (hcx : cx.esc = [])  (hσ : σ = ⟨hp, s⟩) :
    Pc Try.prog how cx [] 24 [4] (cr [.l]) env σ (.normal) (AS.mk hp (s ++ [.cells [.str ⟨#[]⟩, .int .u64 0, .str ⟨#[]⟩, .bool false]])) (fun env' => Env.get env' 4 = .ptr (.st s.length) 0) := by
  refine pc_of fun res hr => ?_
  simp -implicitDefEqProofs [-lenA, -indexAddrA, AS.get_push_at, AS.get_push_old, AS.push_len, AS.set_st_len, AS.next_st', AS.set_push_at, AS.get_set_self, AS.get_set_other, cr, Try.f7, hlen, hcx, hσ] at hr
  subst hr
  refine ⟨_, rfl, by simp [hlen], by simp [Env.get_set, hlen, hσ], fun i hi => ?_⟩
  simp only [List.mem_cons, List.not_mem_nil, or_false, not_or] at hi
  simp only [get_set2, hi, false_and, if_false]

theorem rB (cx : Cx) (env : Env) (σ : AS) (b n : Nat) (X : AV) (hlen : env.length = 24) (hcx : cx.esc = []) (f0 : Env.get env 0 = .ptr (.hp b) 0) (hA : σ.get (.hp b) = some (.cells [X])) (hX : lenA Try.prog σ 25 X = some n) :
    Pc Try.prog how cx [] 24 [7, 8, 9, 10, 11, 12] (cr [.r, .l, .l]) env σ (.normal) (σ) (fun env' => Env.get env' 10 = X ∧ Env.get env' 11 = .int .i64 (n : Int) ∧ Env.get env' 12 = .int .i64 0) := by
  refine pc_of fun res hr => ?_
  simp -implicitDefEqProofs [-lenA, -indexAddrA, AS.get_push_at, AS.get_push_old, AS.push_len, AS.set_st_len, AS.next_st', AS.set_push_at, AS.get_set_self, AS.get_set_other, cr, Try.f7, hlen, hcx, f0, hA, hX] at hr
  subst hr
  refine ⟨_, rfl, by simp [hlen], by simp [Env.get_set, hlen, f0, hA, hX], fun i hi => ?_⟩
  simp only [List.mem_cons, List.not_mem_nil, or_false, not_or] at hi
  simp only [get_set2, hi, false_and, if_false]

theorem rE (cx : Cx) (env : Env) (σ : AS) (k : Nat) (X p : AV) (k0 : ByteArray) (n0 : Int) (v0 : ByteArray) (h0 : Bool) (hlen : env.length = 24) (hcx : cx.esc = []) (f10 : Env.get env 10 = X) (f12 : Env.get env 12 = .int .i64 (k : Int)) (hia : indexAddrA Try.prog σ 25 X (.int .i64 (k : Int)) = some p) (hpa : loadA Try.prog σ 49 p = some (.agg [.str k0, .int .u64 n0, .str v0, .bool h0])) (hw : wok cx.ro (.st σ.st.length) = true) (hh : cx.h ≤ σ.st.length) :
    Pc Try.prog how cx [] 24 [6, 14, 15] (cr [.r, .l, .r, .i, .i, .r, .r, .l, .i, .l]) env σ (.normal) (σ.push false (.cells [.str k0, .int .u64 n0, .str v0, .bool h0])) (fun env' => Env.get env' 6 = .ptr (.st σ.st.length) 0) := by
  refine pc_of fun res hr => ?_
  simp -implicitDefEqProofs [-lenA, -indexAddrA, -loadA, AS.get_push_at, AS.get_push_old, AS.push_len, AS.set_st_len, AS.next_st', AS.set_push_at, AS.get_set_self, AS.get_set_other, cr, Try.f7, hlen, hcx, f10, f12, hia, hpa, hw, hh] at hr
  subst hr
  refine ⟨_, rfl, by simp [hlen], by simp [Env.get_set, hlen, f10, f12, hia, hpa, hw, hh], fun i hi => ?_⟩
  simp only [List.mem_cons, List.not_mem_nil, or_false, not_or] at hi
  simp only [get_set2, hi, false_and, if_false]

theorem rN (cx : Cx) (env : Env) (σ : AS) (c : Nat) (key : ByteArray) (k0 : ByteArray) (n0 : Int) (v0 : ByteArray) (h0 : Bool) (hlen : env.length = 24) (hcx : cx.esc = []) (f1 : Env.get env 1 = .str key) (f6 : Env.get env 6 = .ptr (.st c) 0) (gc : σ.get (.st c) = some (.cells [.str k0, .int .u64 n0, .str v0, .bool h0])) (hq : beqS k0 key = false) :
    Pc Try.prog how cx [] 24 [16, 17, 18, 19] (cr [.r, .l, .r, .i, .i, .r, .r, .l, .i, .r]) env σ (.normal) (σ) (fun _ => True) := by
  refine pc_of fun res hr => ?_
  simp -implicitDefEqProofs [-lenA, -indexAddrA, AS.get_push_at, AS.get_push_old, AS.push_len, AS.set_st_len, AS.next_st', AS.set_push_at, AS.get_set_self, AS.get_set_other, cr, Try.f7, hlen, hcx, f1, f6, gc, hq] at hr
  subst hr
  refine ⟨_, rfl, by simp [hlen], by simp [Env.get_set, hlen, f1, f6, gc, hq], fun i hi => ?_⟩
  simp only [List.mem_cons, List.not_mem_nil, or_false, not_or] at hi
  simp only [get_set2, hi, false_and, if_false]

theorem rY (cx : Cx) (env : Env) (σ : AS) (b c : Nat) (key : ByteArray) (k0 : ByteArray) (n0 : Int) (v0 : ByteArray) (h0 : Bool) (hlen : env.length = 24) (hcx : cx.esc = []) (f1 : Env.get env 1 = .str key) (f4 : Env.get env 4 = .ptr (.st b) 0) (f6 : Env.get env 6 = .ptr (.st c) 0) (gc : σ.get (.st c) = some (.cells [.str k0, .int .u64 n0, .str v0, .bool h0])) (hq : beqS k0 key = true) (gb : σ.get (.st b) = some (.cells [.str ⟨#[]⟩, .int .u64 0, .str ⟨#[]⟩, .bool false])) (hw : wok cx.ro (.st b) = true) (hh : cx.h ≤ b) :
    Pc Try.prog how cx [] 24 [16, 17, 18, 19, 20] (cr [.r, .l, .r, .i, .i, .r, .r, .l, .i, .r]) env σ (.ret) (σ.set (.st b) (.cells [.str k0, .int .u64 n0, .str v0, .bool h0])) (fun _ => True) := by
  refine pc_of fun res hr => ?_
  simp -implicitDefEqProofs [-lenA, -indexAddrA, AS.get_push_at, AS.get_push_old, AS.push_len, AS.set_st_len, AS.next_st', AS.set_push_at, AS.get_set_self, AS.get_set_other, cr, Try.f7, hlen, hcx, f1, f4, f6, gc, hq, gb, hw, hh] at hr
  subst hr
  refine ⟨_, rfl, by simp [hlen], by simp [Env.get_set, hlen, f1, f4, f6, gc, hq, gb, hw, hh], fun i hi => ?_⟩
  simp only [List.mem_cons, List.not_mem_nil, or_false, not_or] at hi
  simp only [get_set2, hi, false_and, if_false]

theorem rD (cx : Cx) (env : Env) (σ : AS) (b : Nat) (key : ByteArray) (hlen : env.length = 24) (hcx : cx.esc = []) (f1 : Env.get env 1 = .str key) (f4 : Env.get env 4 = .ptr (.st b) 0) (gb : σ.get (.st b) = some (.cells [.str ⟨#[]⟩, .int .u64 0, .str ⟨#[]⟩, .bool false])) (hw : wok cx.ro (.st b) = true) (hh : cx.h ≤ b) :
    Pc Try.prog how cx [] 24 [22, 23] (cr [.r, .r, .l]) env σ (.normal) (σ.set (.st b) (.cells [.str key, .int .u64 0, .str ⟨#[]⟩, .bool false])) (fun _ => True) := by
  refine pc_of fun res hr => ?_
  simp -implicitDefEqProofs [-lenA, -indexAddrA, AS.get_push_at, AS.get_push_old, AS.push_len, AS.set_st_len, AS.next_st', AS.set_push_at, AS.get_set_self, AS.get_set_other, cr, Try.f7, hlen, hcx, f1, f4, gb, hw, hh] at hr
  subst hr
  refine ⟨_, rfl, by simp [hlen], by simp [Env.get_set, hlen, f1, f4, gb, hw, hh], fun i hi => ?_⟩
  simp only [List.mem_cons, List.not_mem_nil, or_false, not_or] at hi
  simp only [get_set2, hi, false_and, if_false]

end
noncomputable def bodyC : Code := (.seq (cr [.l]) (.seq (.seq (cr [.r, .l, .l]) (cr [.r, .l, .r])) (.seq (cr [.r, .r, .l]) .ret)))
theorem body : Try.f7.body = some bodyC := by kernel_rfl
/-- What holds ahead of round k. -/
def J (h : Nat) (σ0 : AS) (b : Nat) (key : ByteArray) (X : AV) (S : List KeyD) (k : Nat) (env : Env) (σ : AS) : Prop :=
  Env.get env 1 = .str key ∧ Env.get env 4 = .ptr (.st b) 0 ∧ Env.get env 10 = X ∧ (σ.get (.st b) = some (.cells [.str ⟨#[]⟩, .int .u64 0, .str ⟨#[]⟩, .bool false])) ∧ (∀ r ∈ S.take k, r.1 ≠ key) ∧ Outside h σ0 σ
def Ex (h : Nat) (σ0 : AS) (b : Nat) (key : ByteArray) (X : AV) (S : List KeyD) (e : AExit) (env : Env) (σ : AS) : Prop := e = .ret ∧ Env.get env 4 = .ptr (.st b) 0 ∧ σ.get (.st b) = some (.cells [.str key, .int .u64 (ofK S key).1, .str (ofK S key).2.1, .bool (ofK S key).2.2]) ∧ Outside h σ0 σ ∧ env.length = 24
theorem J_stable {h : Nat} {σ0 : AS} {b : Nat} {key : ByteArray} {X : AV} {S : List KeyD} : ∀ k env env' σ, env.length = 24 → env'.length = 24 → (∀ i, i ≠ 13 → i ≠ 21 → i ≠ 12 → Env.get env' i = Env.get env i) → J h σ0 b key X S k env σ → J h σ0 b key X S k env' σ := by
  rintro k env env' σ _ _ hf ⟨j1, j4, j10, q0, q1, ho⟩
  exact ⟨(hf 1 (by decide) (by decide) (by decide)).trans j1, (hf 4 (by decide) (by decide) (by decide)).trans j4, (hf 10 (by decide) (by decide) (by decide)).trans j10, q0, q1, ho⟩
noncomputable def oT : Oper := (opsOf (cr [.r, .l, .r, .i, .i, .l])).headD default
noncomputable def oI : List Oper := opsOf (cr [.r, .l, .r, .i, .i, .r, .r, .r])
theorem loop_eq : (cr [.r, .l, .r]) = .block 0 (.loop (.seq (.region 2 #[oT] false) (.seq (.cond (.tmp 13) .skip (.exit 0)) (.seq (.block 1 (.seq (cr [.r, .l, .r, .i, .i, .r, .r, .l, .i, .l]) (cr [.r, .l, .r, .i, .i, .r, .r, .l, .i, .r]))) (.region 6 #[oI.headD default, (oI.drop 1).headD default] false))))) := by kernel_rfl
theorem step (cx : Cx) (hcx : cx.esc = []) (hro : ∀ k, cx.ro = some k → k ≤ cx.h) (σ0 : AS) (b : Nat) (key : ByteArray) (X : AV) (S : List KeyD) (hX : HRow σ0.hp X (S.map encK)) (hh : cx.h ≤ b) :
    ∀ k env σ, k < S.length → env.length = 24 → Env.get env 12 = .int .i64 (k : Int) → Env.get env 11 = .int .i64 ((S.length : Nat) : Int) → J cx.h σ0 b key X S k env σ → ∃ e env' σ', execW Try.prog cx [] (callW Try.prog how) (.block 1 (.seq (cr [.r, .l, .r, .i, .i, .r, .r, .l, .i, .l]) (cr [.r, .l, .r, .i, .i, .r, .r, .l, .i, .r]))) (env, σ) = some (e, (env', σ')) ∧
      ((e = .normal ∧ env'.length = 24 ∧ Env.get env' 12 = .int .i64 (k : Int) ∧ Env.get env' 11 = .int .i64 ((S.length : Nat) : Int) ∧ J cx.h σ0 b key X S (k + 1) env' σ') ∨ (e ≠ .normal ∧ Ex cx.h σ0 b key X S e env' σ')) := by
  rintro k env σ hk hlen f12 f11 ⟨f1, f4, f10, q0, q1, ho⟩
  have hXσ : Rd Try.prog σ 25 49 X (S.map encK) := by have := hX.rd σ.st; rw [← ho.1] at this; exact this
  obtain ⟨p, hia, hpa⟩ := hXσ.2 k (encK S[k]) (get_el hk)
  obtain ⟨env1, x1a, x1b, x1c, x1d⟩ := rE cx env σ k X p (S[k].1) (S[k].2.1) (S[k].2.2.1) (S[k].2.2.2) hlen hcx f10 f12 hia hpa (wokst hro ho.2.2) ho.2.2
  have f1 := (x1d 1 (by decide)).trans f1
  have f4 := (x1d 4 (by decide)).trans f4
  have f10 := (x1d 10 (by decide)).trans f10
  have f11 := (x1d 11 (by decide)).trans f11
  have f12 := (x1d 12 (by decide)).trans f12
  have f6 := x1c
  have g1 : ((σ : AS).push false (.cells [.str S[k].1, .int .u64 S[k].2.1, .str S[k].2.2.1, .bool S[k].2.2.2])).get (.st (σ : AS).st.length) = some (.cells [.str S[k].1, .int .u64 S[k].2.1, .str S[k].2.2.1, .bool S[k].2.2.2]) := AS.get_push_at rfl
  have q0 := get_push' (ob' := .cells [.str S[k].1, .int .u64 S[k].2.1, .str S[k].2.2.1, .bool S[k].2.2.2]) q0
  have ho := ho.push (ob := .cells [.str S[k].1, .int .u64 S[k].2.1, .str S[k].2.2.1, .bool S[k].2.2.2])
  generalize hib1 : (σ : AS).st.length = ib1 at g1 f6
  generalize (σ : AS).push false (.cells [.str S[k].1, .int .u64 S[k].2.1, .str S[k].2.2.1, .bool S[k].2.2.2]) = σ1 at x1a g1 q0 ho
  have hq := beqS_dec S[k].1 key
  by_cases q : S[k].1 = key
  · rw [decide_eq_true q] at hq
    have g9 := get_set_at (ob' := .cells [.str S[k].1, .int .u64 S[k].2.1, .str S[k].2.2.1, .bool S[k].2.2.2]) q0
    have f4k := f4
    obtain ⟨env2, x2a, x2b, x2c, x2d⟩ := rY cx env1 σ1 b _ key (S[k].1) (S[k].2.1) (S[k].2.2.1) (S[k].2.2.2) x1b hcx f1 f4 f6 g1 hq q0 (wokst hro hh) hh 
    have f1 := (x2d 1 (by decide)).trans f1
    have f4 := (x2d 4 (by decide)).trans f4
    have f6 := (x2d 6 (by decide)).trans f6
    have f10 := (x2d 10 (by decide)).trans f10
    have f11 := (x2d 11 (by decide)).trans f11
    have f12 := (x2d 12 (by decide)).trans f12
    exact ⟨.ret, env2, _, (block_exit (execW_seq_of x1a x2a) (by simp)), .inr ⟨by simp, rfl, f4, (by rw [ofK_at hk q1 q, g9, q]), ho.set ⟨b, rfl, hh⟩, x2b⟩⟩
  · rw [decide_eq_false q] at hq
    obtain ⟨env2, x2a, x2b, x2c, x2d⟩ := rN cx env1 σ1 _ key (S[k].1) (S[k].2.1) (S[k].2.2.1) (S[k].2.2.2) x1b hcx f1 f6 g1 hq 
    have f1 := (x2d 1 (by decide)).trans f1
    have f4 := (x2d 4 (by decide)).trans f4
    have f6 := (x2d 6 (by decide)).trans f6
    have f10 := (x2d 10 (by decide)).trans f10
    have f11 := (x2d 11 (by decide)).trans f11
    have f12 := (x2d 12 (by decide)).trans f12
    exact ⟨.normal, env2, _, (execW_block_of (execW_seq_of x1a x2a)), .inl ⟨rfl, x2b, f12, f11, f1, f4, f10, q0, (fun r hr => by rw [List.take_succ_eq_append_getElem hk, List.mem_append] at hr; rcases hr with hr | hr; exact q1 r hr; rw [List.mem_singleton] at hr; subst hr; exact q), ho⟩⟩
theorem loop (cx : Cx) (hcx : cx.esc = []) (hro : ∀ k, cx.ro = some k → k ≤ cx.h) (σ0 : AS) (b : Nat) (key : ByteArray) (X : AV) (S : List KeyD) (hX : HRow σ0.hp X (S.map encK)) (hh : cx.h ≤ b) (hnn : S.length ≤ 9223372036854775807) {env : Env} {σ : AS} (hl : env.length = 24) (h1 : Env.get env 12 = .int .i64 0) (h2 : Env.get env 11 = .int .i64 ((S.length : Nat) : Int)) (h0 : J cx.h σ0 b key X S 0 env σ) :
    ∃ e env' σ', execW Try.prog cx [] (callW Try.prog how) (cr [.r, .l, .r]) (env, σ) = some (e, (env', σ')) ∧ ((e = .normal ∧ ((env'.length = 24 ∧ J cx.h σ0 b key X S (S.length) env' σ') ∨ Ex cx.h σ0 b key X S (.exit 0) env' σ')) ∨ (e ≠ .normal ∧ e ≠ .exit 0 ∧ Ex cx.h σ0 b key X S e env' σ')) := by
  rw [loop_eq]
  exact range_std (Ex := Ex cx.h σ0 b key X S) (N := 24) (tc := 13) (ti := 12) (tl := 11) (tx := 21) (ty1 := 3) (ty2 := 3) (ty3 := 3) (ty4 := 3) ⟨by kernel_rfl, by kernel_rfl, by kernel_rfl⟩ ⟨by kernel_rfl, by kernel_rfl, by kernel_rfl⟩ ⟨by kernel_rfl, by kernel_rfl, by kernel_rfl⟩ (by decide) hnn J_stable (step cx hcx hro σ0 b key X S hX hh) hl h1 h2 h0
theorem ok (hp s : List AObj) (ro : Option Nat) (b : Nat) (key : ByteArray) (X : AV) (S : List KeyD) (hro' : ∀ k, ro = some k → k ≤ s.length) (hA : hp[b]? = some (.cells [X])) (hX : HRow hp X (S.map encK)) (hlen2 : S.length ≤ 1000) :
    callW Try.prog how 7 [.ptr (.hp b) 0, .str key] ⟨hp, s⟩ ro = some (.agg [.str key, .int .u64 (ofK S key).1, .str (ofK S key).2.1, .bool (ofK S key).2.2], ⟨hp, s⟩) := by
  let cx : Cx := { h := s.length, ro := ro, esc := [] }
  have hcx : cx.esc = [] := rfl
  have hro : ∀ k, cx.ro = some k → k ≤ cx.h := hro'
  obtain ⟨env, henv⟩ : ∃ e, e = frameA Try.f7 [.ptr (.hp b) 0, .str key] := ⟨_, rfl⟩
  have hlen : env.length = 24 := by rw [henv]; rfl
  have f0 : Env.get env 0 = .ptr (.hp b) 0 := by rw [henv]; rfl
  have f1 : Env.get env 1 = .str key := by rw [henv]; rfl
  have ho : Outside s.length (AS.mk hp s) (AS.mk hp s) := Outside.refl (Nat.le_refl _)
  obtain ⟨env1, x1a, x1b, x1c, x1d⟩ := rA cx env (AS.mk hp s) hp s hlen hcx  rfl 
  have f0 := (x1d 0 (by decide)).trans f0
  have f1 := (x1d 1 (by decide)).trans f1
  have f4 := x1c
  have ga : (AS.mk hp (s ++ [AObj.cells [.str ⟨#[]⟩, .int .u64 0, .str ⟨#[]⟩, .bool false]])).get (.st s.length) = some (.cells [.str ⟨#[]⟩, .int .u64 0, .str ⟨#[]⟩, .bool false]) := by simp [AS.get]
  have ho : Outside s.length (AS.mk hp s) (AS.mk hp (s ++ [AObj.cells [.str ⟨#[]⟩, .int .u64 0, .str ⟨#[]⟩, .bool false]])) := ⟨rfl, by simp, by simp⟩
  have hlx := (hX.rd (s ++ [AObj.cells [.str ⟨#[]⟩, .int .u64 0, .str ⟨#[]⟩, .bool false]])).1
  rw [List.length_map] at hlx
  obtain ⟨env2, x2a, x2b, x2c, x2d⟩ := rB cx env1 (AS.mk hp (s ++ [AObj.cells [.str ⟨#[]⟩, .int .u64 0, .str ⟨#[]⟩, .bool false]])) b S.length X x1b hcx f0 hA hlx 
  have f0 := (x2d 0 (by decide)).trans f0
  have f1 := (x2d 1 (by decide)).trans f1
  have f4 := (x2d 4 (by decide)).trans f4
  have f10 := x2c.1
  have f11 := x2c.2.1
  have f12 := x2c.2.2
  obtain ⟨e3, env3, σ3, x3a, x3p⟩ := loop cx hcx hro ⟨hp, s⟩ s.length key X S hX (Nat.le_refl _) (by omega) (σ := AS.mk hp (s ++ [AObj.cells [.str ⟨#[]⟩, .int .u64 0, .str ⟨#[]⟩, .bool false]])) x2b f12 f11 (⟨f1, f4, f10, ga, fun r hr => by simp at hr, ho⟩)
  rcases x3p with ⟨rfl, ⟨x3b, f1, f4, f10, q0, q1, ho⟩ | x3p⟩ | ⟨x3q, x3r, x3p⟩
  · skip
    rw [List.take_length] at q1
    obtain ⟨env4, x4a, x4b, x4c, x4d⟩ := rD cx env3 σ3 s.length key x3b hcx f1 f4 q0 (wokst hro (Nat.le_refl _)) (Nat.le_refl _) 
    have f1 := (x4d 1 (by decide)).trans f1
    have f4 := (x4d 4 (by decide)).trans f4
    have f10 := (x4d 10 (by decide)).trans f10
    have g9 := get_set_at (ob' := .cells [.str key, .int .u64 0, .str ⟨#[]⟩, .bool false]) q0
    have ho := ho.set (ob := .cells [.str key, .int .u64 0, .str ⟨#[]⟩, .bool false]) (L := .st s.length) ⟨s.length, rfl, Nat.le_refl _⟩
    have hz := ofK_none q1
    rw [hz]
    have hre : resA Try.prog (σ3.set (.st s.length) (.cells [.str key, .int .u64 0, .str ⟨#[]⟩, .bool false])) env4 Try.f7.results.toList = some [.agg [.str key, .int .u64 zeroVl.1, .str zeroVl.2.1, .bool zeroVl.2.2]] := by
      have hrs : Try.f7.results.toList = [.cell 4 49] := by kernel_rfl
      rw [hrs]; simp [resA, f4, loadA, g9, zeroVl, partA, aggA, isAggD]
    exact call_of (fl := {}) (fn := Try.f7) (c := bodyC) (env := env) (e := (.ret, (env4, σ3.set (.st s.length) (.cells [.str key, .int .u64 0, .str ⟨#[]⟩, .bool false])))) rfl Try.func7 body henv (by unfold bodyC; exact (execW_seq_of x1a (execW_seq_of (execW_seq_of x2a x3a) (execW_seq_of x4a (by rfl))))) ((fin_one (.inl rfl) rfl hre (w := .agg [.str key, .int .u64 zeroVl.1, .str zeroVl.2.1, .bool zeroVl.2.2]) (by simp [AV.back, AVs.back]) (by simp [AV.inb, AVs.inb])).trans (congrArg (fun x => some (_, x)) (outside_st ho)))
  · cases x3p.1
  · obtain ⟨rfl, f4, g9, ho, x3b⟩ := x3p
    have hre : resA Try.prog σ3 env3 Try.f7.results.toList = some [.agg [.str key, .int .u64 (ofK S key).1, .str (ofK S key).2.1, .bool (ofK S key).2.2]] := by
      have hrs : Try.f7.results.toList = [.cell 4 49] := by kernel_rfl
      rw [hrs]; simp [resA, f4, loadA, g9, partA, aggA, isAggD]
    exact call_of (fl := {}) (fn := Try.f7) (c := bodyC) (env := env) (e := (.ret, (env3, σ3))) rfl Try.func7 body henv (by unfold bodyC; exact (execW_seq_of x1a (execW_seq_ret (execW_seq_of x2a x3a)))) ((fin_one (.inl rfl) rfl hre (w := .agg [.str key, .int .u64 (ofK S key).1, .str (ofK S key).2.1, .bool (ofK S key).2.2]) (by simp [AV.back, AVs.back]) (by simp [AV.inb, AVs.inb])).trans (congrArg (fun x => some (_, x)) (outside_st ho)))
end F7
