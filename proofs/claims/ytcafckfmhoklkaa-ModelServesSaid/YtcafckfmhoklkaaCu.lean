/- What Check does: its pieces and loops. -/

import Derived.Test.YtcafckfmhoklkaaCt
open Go Go.Abs Go.Proofs
set_option maxRecDepth 100000
set_option maxHeartbeats 4000000
set_option linter.unusedSimpArgs false
set_option linter.unusedVariables false

/-- A sorted row is what it was, where it rises. -/
theorem sorted_eq : ∀ (a b : List RowD), a.Perm b → a.Pairwise (fun x y => x.st ≤ y.st) → b.Pairwise (fun x y => x.st < y.st) → a = b
  | [], b, hp, _, _ => by rw [List.nil_perm] at hp; exact hp.symm
  | x :: a, [], hp, _, _ => by rw [List.perm_nil] at hp; cases hp
  | x :: a, y :: b, hp, ha, hb => by
    have ha' := List.pairwise_cons.1 ha
    have hb' := List.pairwise_cons.1 hb
    have hxb : x ∈ y :: b := hp.mem_iff.1 (List.mem_cons_self ..)
    have hya : y ∈ x :: a := hp.mem_iff.2 (List.mem_cons_self ..)
    have e : x = y := by
      rcases List.mem_cons.1 hxb with h | h
      · exact h
      · rcases List.mem_cons.1 hya with h2 | h2
        · exact h2.symm
        · have h3 := hb'.1 x h
          have h4 := ha'.1 y h2
          omega
    subst e
    rw [sorted_eq a b (List.Perm.cons_inv hp) ha'.2 hb'.2]
theorem sorted_of_to {l : List RowD} (h : SortTo l l.length) : l.Pairwise (fun x y => x.st ≤ y.st) :=
  List.pairwise_iff_getElem.2 fun i j hi hj hij => h i j hi hj hij hj
theorem decided_eq {l2 l H : List RowD} (hp : l2.Perm l) (hs : SortTo l2 l.length) (hH : l.Perm H) (hr : H.Pairwise (fun x y => x.st < y.st)) : l2 = H :=
  sorted_eq l2 H (hp.trans hH) (sorted_of_to (by rw [hp.length_eq]; exact hs)) hr
def encT : Bool → List AV → List AV := fun _ l => l
theorem rd28 {σ : AS} {X : AV} {l : List RowD} (h : SlOf 17 X (l.map encRow)) : Rd Try.prog σ 28 59 X (l.map encRow) := h.rd Try.underlying28 s59 (by decide) (fun c hc => by obtain ⟨r, _, rfl⟩ := List.mem_map.1 hc; exact elRow r)
namespace F11
noncomputable def cr (p : List Dir) : Code := sub p (bodyOf Try.f11)

section
attribute [local simp] ofV ofCell ofCells seqA_nil seqA_cons seqVK_eq seqEK_eq wantedA yieldedA isVal effA ev evs evps putE optsA optsOk valA fieldAddrA fieldA loadA partA aggA isAggD buildA placesA fillA lay storeA AV.withCells buildSliceA elemsA rowParts fzL promL okE isSrc bytesOk pushA cxOf lenA binA intBinA strBinA unA indexAddrA eqA AVs.inb AV.inb Loc.inb calleeA opsOf sub bodyOf Env.get_set quietA_nil quietA_cons quietK_none quietK_some qstep newA isNew escNew boxOk newLoc flat rowPartsQ quietN quietOp isBS List.takeWhile finishA_eq finK_ret finK_normal retK backK resA oneA AV.back AVs.back execW_seq_eq seqK_normal seqK_ret seqK_exit execW_cond_eq condK_true condK_false execW_block_eq blockK_exit blockK_normal blockK_ret execW_region_eq regK_eq execW_skip execW_exit execW_ret regionA_plain regionA_quiet0 tailK_eq nilCheckA guardOk isConst lookupA keyFits mapUpdateA beqI bneI
theorem rA (cx : Cx) (env : Env) (σ : AS) (hp s : List AObj) (hlen : env.length = 37) (hcx : cx.esc = [])  (hσ : σ = ⟨hp, s⟩) (hw : wok cx.ro (.st s.length) = true) (hh : cx.h ≤ s.length) :
    Pc Try.prog how cx [] 37 [2, 3] (cr [.l]) env σ (.normal) (AS.mk hp (s ++ [.cells [.int .i64 0, .int .u64 0]])) (fun env' => Env.get env' 2 = .ptr (.st s.length) 0 ∧ Env.get env' 3 = .int .i64 0) := by
  refine pc_of fun res hr => ?_
  simp -implicitDefEqProofs [AS.get_push_at, AS.get_push_old, AS.push_len, AS.set_st_len, AS.next_st', AS.set_push_at, AS.get_set_self, AS.get_set_other, cr, Try.f11, hlen, hcx, hσ, hw, hh] at hr
  subst hr
  refine ⟨_, rfl, by simp [hlen], by simp [Env.get_set, hlen, hσ, hw, hh], fun i hi => ?_⟩
  simp only [List.mem_cons, List.not_mem_nil, or_false, not_or] at hi
  simp only [get_set2, hi, false_and, if_false]

theorem rB (cx : Cx) (env : Env) (σ : AS) (X : AV) (n : Nat) (hlen : env.length = 37) (hcx : cx.esc = []) (f0 : Env.get env 0 = X) (hl : lenA Try.prog σ 28 X = some n) (hX : X.one = true) :
    Pc Try.prog how cx [] 37 [9, 10, 11] (cr [.r, .l, .l]) env σ (.normal) (σ) (fun env' => Env.get env' 9 = X ∧ Env.get env' 10 = .int .i64 (n : Int) ∧ Env.get env' 11 = .int .i64 0) := by
  refine pc_of fun res hr => ?_
  simp -implicitDefEqProofs [-lenA, AS.get_push_at, AS.get_push_old, AS.push_len, AS.set_st_len, AS.next_st', AS.set_push_at, AS.get_set_self, AS.get_set_other, cr, Try.f11, hlen, hcx, f0, hl, hX] at hr
  subst hr
  refine ⟨_, rfl, by simp [hlen], by simp [Env.get_set, hlen, f0, hl, hX], fun i hi => ?_⟩
  simp only [List.mem_cons, List.not_mem_nil, or_false, not_or] at hi
  simp only [get_set2, hi, false_and, if_false]

theorem rE1 (cx : Cx) (env : Env) (σ : AS) (k : Nat) (Z p : AV) (x : RowD) (RX WX : AV) (hlen : env.length = 37) (hcx : cx.esc = []) (f9 : Env.get env 9 = Z) (f11 : Env.get env 11 = .int .i64 (k : Int)) (hRX : Plain RX) (hWX : Plain WX) (hia : indexAddrA Try.prog σ 28 Z (.int .i64 (k : Int)) = some p) (hpa : loadA Try.prog σ 59 p = some (.agg [.int .i64 x.cl, .int .u64 x.sq, .int .i64 x.kind, .str x.key, .str x.val, RX, WX, .int .i64 x.ca, .int .i64 x.st, .int .i64 x.an, .int .i64 x.code, .int .i64 x.rcl, .int .u64 x.rsq, .int .i64 x.rn, .int .i64 x.rcode, .str x.rval, .int .u64 x.rnum])) (hw : wok cx.ro (.st σ.st.length) = true) (hh : cx.h ≤ σ.st.length) :
    Pc Try.prog how cx [] 37 [5, 13, 14] (cr [.r, .l, .r, .i, .i, .r, .r, .l, .i, .l]) env σ (.normal) (σ.push false (.cells [.int .i64 x.cl, .int .u64 x.sq, .int .i64 x.kind, .str x.key, .str x.val, RX, WX, .int .i64 x.ca, .int .i64 x.st, .int .i64 x.an, .int .i64 x.code, .int .i64 x.rcl, .int .u64 x.rsq, .int .i64 x.rn, .int .i64 x.rcode, .str x.rval, .int .u64 x.rnum])) (fun env' => Env.get env' 5 = .ptr (.st σ.st.length) 0) := by
  refine pc_of fun res hr => ?_
  simp -implicitDefEqProofs [-lenA, -indexAddrA, -loadA, AS.get_push_at, AS.get_push_old, AS.push_len, AS.set_st_len, AS.next_st', AS.set_push_at, AS.get_set_self, AS.get_set_other, cr, Try.f11, hlen, hcx, f9, f11, hRX.one, hRX.inb, hRX.row, hRX.cells, hWX.one, hWX.inb, hWX.row, hWX.cells, hia, hpa, hw, hh] at hr
  subst hr
  refine ⟨_, rfl, by simp [hlen], by simp [Env.get_set, hlen, f9, f11, hRX.one, hRX.inb, hRX.row, hRX.cells, hWX.one, hWX.inb, hWX.row, hWX.cells, hia, hpa, hw, hh], fun i hi => ?_⟩
  simp only [List.mem_cons, List.not_mem_nil, or_false, not_or] at hi
  simp only [get_set2, hi, false_and, if_false]

theorem rE2 (cx : Cx) (env : Env) (σ : AS) (k : Nat) (Z p : AV) (x : RowD) (RX WX : AV) (hlen : env.length = 37) (hcx : cx.esc = []) (f23 : Env.get env 23 = Z) (f25 : Env.get env 25 = .int .i64 (k : Int)) (hRX : Plain RX) (hWX : Plain WX) (hia : indexAddrA Try.prog σ 28 Z (.int .i64 (k : Int)) = some p) (hpa : loadA Try.prog σ 59 p = some (.agg [.int .i64 x.cl, .int .u64 x.sq, .int .i64 x.kind, .str x.key, .str x.val, RX, WX, .int .i64 x.ca, .int .i64 x.st, .int .i64 x.an, .int .i64 x.code, .int .i64 x.rcl, .int .u64 x.rsq, .int .i64 x.rn, .int .i64 x.rcode, .str x.rval, .int .u64 x.rnum])) (hw : wok cx.ro (.st σ.st.length) = true) (hh : cx.h ≤ σ.st.length) :
    Pc Try.prog how cx [] 37 [8, 27, 28] (cr [.r, .r, .r, .l, .r, .i, .i, .r, .r, .l, .i, .l]) env σ (.normal) (σ.push false (.cells [.int .i64 x.cl, .int .u64 x.sq, .int .i64 x.kind, .str x.key, .str x.val, RX, WX, .int .i64 x.ca, .int .i64 x.st, .int .i64 x.an, .int .i64 x.code, .int .i64 x.rcl, .int .u64 x.rsq, .int .i64 x.rn, .int .i64 x.rcode, .str x.rval, .int .u64 x.rnum])) (fun env' => Env.get env' 8 = .ptr (.st σ.st.length) 0) := by
  refine pc_of fun res hr => ?_
  simp -implicitDefEqProofs [-lenA, -indexAddrA, -loadA, AS.get_push_at, AS.get_push_old, AS.push_len, AS.set_st_len, AS.next_st', AS.set_push_at, AS.get_set_self, AS.get_set_other, cr, Try.f11, hlen, hcx, f23, f25, hRX.one, hRX.inb, hRX.row, hRX.cells, hWX.one, hWX.inb, hWX.row, hWX.cells, hia, hpa, hw, hh] at hr
  subst hr
  refine ⟨_, rfl, by simp [hlen], by simp [Env.get_set, hlen, f23, f25, hRX.one, hRX.inb, hRX.row, hRX.cells, hWX.one, hWX.inb, hWX.row, hWX.cells, hia, hpa, hw, hh], fun i hi => ?_⟩
  simp only [List.mem_cons, List.not_mem_nil, or_false, not_or] at hi
  simp only [get_set2, hi, false_and, if_false]

theorem rT1 (cx : Cx) (env : Env) (σ : AS) (c : Nat) (x : RowD) (RX WX : AV) (hlen : env.length = 37) (hcx : cx.esc = []) (f5 : Env.get env 5 = .ptr (.st c) 0) (g5 : σ.get (.st c) = some (.cells [.int .i64 x.cl, .int .u64 x.sq, .int .i64 x.kind, .str x.key, .str x.val, RX, WX, .int .i64 x.ca, .int .i64 x.st, .int .i64 x.an, .int .i64 x.code, .int .i64 x.rcl, .int .u64 x.rsq, .int .i64 x.rn, .int .i64 x.rcode, .str x.rval, .int .u64 x.rnum])) (hRX : Plain RX) (hWX : Plain WX) (h21 : callW Try.prog how 21 [.agg [.int .i64 x.cl, .int .u64 x.sq, .int .i64 x.kind, .str x.key, .str x.val, RX, WX, .int .i64 x.ca, .int .i64 x.st, .int .i64 x.an, .int .i64 x.code, .int .i64 x.rcl, .int .u64 x.rsq, .int .i64 x.rn, .int .i64 x.rcode, .str x.rval, .int .u64 x.rnum]] σ cx.ro = some (.bool true, σ)) :
    Pc Try.prog how cx [] 37 [15, 16, 17] (cr [.r, .l, .r, .i, .i, .r, .r, .l, .i, .r, .l]) env σ (.normal) (σ) (fun env' => Env.get env' 17 = .bool false) := by
  refine pc_of fun res hr => ?_
  simp -implicitDefEqProofs [AS.get_push_at, AS.get_push_old, AS.push_len, AS.set_st_len, AS.next_st', AS.set_push_at, AS.get_set_self, AS.get_set_other, cr, Try.f11, hlen, hcx, f5, g5, h21, hRX.one, hRX.inb, hRX.row, hRX.cells, hWX.one, hWX.inb, hWX.row, hWX.cells] at hr
  subst hr
  refine ⟨_, rfl, by simp [hlen], by simp [Env.get_set, hlen, f5, g5, h21, hRX.one, hRX.inb, hRX.row, hRX.cells, hWX.one, hWX.inb, hWX.row, hWX.cells], fun i hi => ?_⟩
  simp only [List.mem_cons, List.not_mem_nil, or_false, not_or] at hi
  simp only [get_set2, hi, false_and, if_false]

theorem rC (cx : Cx) (env : Env) (σ : AS) (a : Nat) (σ' : AS) (hlen : env.length = 37) (hcx : cx.esc = [])  (h22 : callW Try.prog how 22 [] σ cx.ro = some (.ptr (.hp a) 0, σ')) :
    Pc Try.prog how cx [] 37 [6, 21] (cr [.r, .r, .l]) env σ (.normal) (σ') (fun env' => Env.get env' 6 = .ptr (.hp a) 0) := by
  refine pc_of fun res hr => ?_
  simp -implicitDefEqProofs [-lenA, -indexAddrA, -loadA, AS.get_push_at, AS.get_push_old, AS.push_len, AS.set_st_len, AS.next_st', AS.set_push_at, AS.get_set_self, AS.get_set_other, cr, Try.f11, hlen, hcx, h22] at hr
  subst hr
  refine ⟨_, rfl, by simp [hlen], by simp [Env.get_set, hlen, h22], fun i hi => ?_⟩
  simp only [List.mem_cons, List.not_mem_nil, or_false, not_or] at hi
  simp only [get_set2, hi, false_and, if_false]

theorem rD (cx : Cx) (env : Env) (σ : AS) (X Z : AV) (n : Nat) (hlen : env.length = 37) (hcx : cx.esc = []) (f0 : Env.get env 0 = X) (hX : X.one = true) (hZ : Plain Z) (h23 : callW Try.prog how 23 [X] σ cx.ro = some (Z, σ)) (hl : lenA Try.prog σ 28 Z = some n) :
    Pc Try.prog how cx [] 37 [22, 23, 24, 25] (cr [.r, .r, .r, .l, .l]) env σ (.normal) (σ) (fun env' => Env.get env' 23 = Z ∧ Env.get env' 24 = .int .i64 (n : Int) ∧ Env.get env' 25 = .int .i64 0) := by
  refine pc_of fun res hr => ?_
  simp -implicitDefEqProofs [-lenA, AS.get_push_at, AS.get_push_old, AS.push_len, AS.set_st_len, AS.next_st', AS.set_push_at, AS.get_set_self, AS.get_set_other, cr, Try.f11, hlen, hcx, f0, hX, hZ.one, hZ.inb, hZ.row, h23, hl] at hr
  subst hr
  refine ⟨_, rfl, by simp [hlen], by simp [Env.get_set, hlen, f0, hX, hZ.one, hZ.inb, hZ.row, h23, hl], fun i hi => ?_⟩
  simp only [List.mem_cons, List.not_mem_nil, or_false, not_or] at hi
  simp only [get_set2, hi, false_and, if_false]

theorem rT2 (cx : Cx) (env : Env) (σ : AS) (a c : Nat) (b : Bool) (σ' : AS) (x : RowD) (RX WX : AV) (hlen : env.length = 37) (hcx : cx.esc = []) (f6 : Env.get env 6 = .ptr (.hp a) 0) (f8 : Env.get env 8 = .ptr (.st c) 0) (g5 : σ.get (.st c) = some (.cells [.int .i64 x.cl, .int .u64 x.sq, .int .i64 x.kind, .str x.key, .str x.val, RX, WX, .int .i64 x.ca, .int .i64 x.st, .int .i64 x.an, .int .i64 x.code, .int .i64 x.rcl, .int .u64 x.rsq, .int .i64 x.rn, .int .i64 x.rcode, .str x.rval, .int .u64 x.rnum])) (hRX : Plain RX) (hWX : Plain WX) (h24 : callW Try.prog how 24 [.ptr (.hp a) 0, .agg [.int .i64 x.cl, .int .u64 x.sq, .int .i64 x.kind, .str x.key, .str x.val, RX, WX, .int .i64 x.ca, .int .i64 x.st, .int .i64 x.an, .int .i64 x.code, .int .i64 x.rcl, .int .u64 x.rsq, .int .i64 x.rn, .int .i64 x.rcode, .str x.rval, .int .u64 x.rnum]] σ cx.ro = some (.bool b, σ')) :
    Pc Try.prog how cx [] 37 [29, 30, 31, 32] (cr [.r, .r, .r, .l, .r, .i, .i, .r, .r, .l, .i, .r, .l]) env σ (.normal) (σ') (fun env' => Env.get env' 32 = .bool (!b)) := by
  refine pc_of fun res hr => ?_
  simp -implicitDefEqProofs [AS.get_push_at, AS.get_push_old, AS.push_len, AS.set_st_len, AS.next_st', AS.set_push_at, AS.get_set_self, AS.get_set_other, cr, Try.f11, hlen, hcx, f6, f8, g5, h24, hRX.one, hRX.inb, hRX.row, hRX.cells, hWX.one, hWX.inb, hWX.row, hWX.cells] at hr
  subst hr
  refine ⟨_, rfl, by simp [hlen], by simp [Env.get_set, hlen, f6, f8, g5, h24, hRX.one, hRX.inb, hRX.row, hRX.cells, hWX.one, hWX.inb, hWX.row, hWX.cells], fun i hi => ?_⟩
  simp only [List.mem_cons, List.not_mem_nil, or_false, not_or] at hi
  simp only [get_set2, hi, false_and, if_false]

theorem rL2 (cx : Cx) (env : Env) (σ : AS) (c d : Nat) (x : RowD) (RX WX : AV) (hlen : env.length = 37) (hcx : cx.esc = []) (f2 : Env.get env 2 = .ptr (.st d) 0) (f8 : Env.get env 8 = .ptr (.st c) 0) (g5 : σ.get (.st c) = some (.cells [.int .i64 x.cl, .int .u64 x.sq, .int .i64 x.kind, .str x.key, .str x.val, RX, WX, .int .i64 x.ca, .int .i64 x.st, .int .i64 x.an, .int .i64 x.code, .int .i64 x.rcl, .int .u64 x.rsq, .int .i64 x.rn, .int .i64 x.rcode, .str x.rval, .int .u64 x.rnum])) (hRX : Plain RX) (hWX : Plain WX) (g2 : σ.get (.st d) = some (.cells [.int .i64 0, .int .u64 0])) (hw : wok cx.ro (.st d) = true) (hh : cx.h ≤ d) :
    Pc Try.prog how cx [] 37 [3, 33, 34] (cr [.r, .r, .r, .l, .r, .i, .i, .r, .r, .l, .i, .r, .r, .l]) env σ (.ret) (σ.set (.st d) (.cells [.int .i64 x.cl, .int .u64 x.sq])) (fun env' => Env.get env' 3 = .int .i64 3) := by
  refine pc_of fun res hr => ?_
  simp -implicitDefEqProofs [AS.get_push_at, AS.get_push_old, AS.push_len, AS.set_st_len, AS.next_st', AS.set_push_at, AS.get_set_self, AS.get_set_other, cr, Try.f11, hlen, hcx, f2, f8, g5, g2, hw, hh, hRX.one, hRX.inb, hRX.row, hRX.cells, hWX.one, hWX.inb, hWX.row, hWX.cells] at hr
  subst hr
  refine ⟨_, rfl, by simp [hlen], by simp [Env.get_set, hlen, f2, f8, g5, g2, hw, hh, hRX.one, hRX.inb, hRX.row, hRX.cells, hWX.one, hWX.inb, hWX.row, hWX.cells], fun i hi => ?_⟩
  simp only [List.mem_cons, List.not_mem_nil, or_false, not_or] at hi
  simp only [get_set2, hi, false_and, if_false]

theorem rZ (cx : Cx) (env : Env) (σ : AS) (d : Nat) (hlen : env.length = 37) (hcx : cx.esc = []) (f2 : Env.get env 2 = .ptr (.st d) 0) (g2 : σ.get (.st d) = some (.cells [.int .i64 0, .int .u64 0])) (hw : wok cx.ro (.st d) = true) (hh : cx.h ≤ d) :
    Pc Try.prog how cx [] 37 [3, 36] (cr [.r, .r, .r, .r, .l]) env σ (.normal) (σ.set (.st d) (.cells [.int .i64 0, .int .u64 0])) (fun env' => Env.get env' 3 = .int .i64 0) := by
  refine pc_of fun res hr => ?_
  simp -implicitDefEqProofs [-lenA, -indexAddrA, -loadA, AS.get_push_at, AS.get_push_old, AS.push_len, AS.set_st_len, AS.next_st', AS.set_push_at, AS.get_set_self, AS.get_set_other, cr, Try.f11, hlen, hcx, f2, g2, hw, hh] at hr
  subst hr
  refine ⟨_, rfl, by simp [hlen], by simp [Env.get_set, hlen, f2, g2, hw, hh], fun i hi => ?_⟩
  simp only [List.mem_cons, List.not_mem_nil, or_false, not_or] at hi
  simp only [get_set2, hi, false_and, if_false]

end
/-- What holds ahead of round k. -/
def J1 (h : Nat) (σ0 : AS) (d : Nat) (X : AV) (l : List RowD) (k : Nat) (env : Env) (σ : AS) : Prop :=
  Env.get env 0 = X ∧ Env.get env 2 = .ptr (.st d) 0 ∧ Env.get env 9 = X ∧ (σ.get (.st d) = some (.cells [.int .i64 0, .int .u64 0])) ∧ Outside h σ0 σ
def Ex1 (h : Nat) (σ0 : AS) (d : Nat) (X : AV) (l : List RowD) (e : AExit) (env : Env) (σ : AS) : Prop := False
theorem J1_stable {h : Nat} {σ0 : AS} {d : Nat} {X : AV} {l : List RowD} : ∀ k env env' σ, env.length = 37 → env'.length = 37 → (∀ i, i ≠ 12 → i ≠ 20 → i ≠ 11 → Env.get env' i = Env.get env i) → J1 h σ0 d X l k env σ → J1 h σ0 d X l k env' σ := by
  rintro k env env' σ _ _ hf ⟨j0, j2, j9, q0, ho⟩
  exact ⟨(hf 0 (by decide) (by decide) (by decide)).trans j0, (hf 2 (by decide) (by decide) (by decide)).trans j2, (hf 9 (by decide) (by decide) (by decide)).trans j9, q0, ho⟩
noncomputable def oT1 : Oper := (opsOf (cr [.r, .l, .r, .i, .i, .l])).headD default
noncomputable def oI1 : List Oper := opsOf (cr [.r, .l, .r, .i, .i, .r, .r, .r])
theorem loop_eq1 : (cr [.r, .l, .r]) = .block 0 (.loop (.seq (.region 2 #[oT1] false) (.seq (.cond (.tmp 12) .skip (.exit 0)) (.seq (.block 1 (.seq (cr [.r, .l, .r, .i, .i, .r, .r, .l, .i, .l]) (.seq (cr [.r, .l, .r, .i, .i, .r, .r, .l, .i, .r, .l]) (cr [.r, .l, .r, .i, .i, .r, .r, .l, .i, .r, .r])))) (.region 6 #[oI1.headD default, (oI1.drop 1).headD default] false))))) := by kernel_rfl
theorem step1 (cx : Cx) (hcx : cx.esc = []) (hro : ∀ k, cx.ro = some k → k ≤ cx.h) (σ0 : AS) (d : Nat) (X : AV) (l : List RowD) (hXk : ∀ σ, Outside cx.h σ0 σ → Rd Try.prog σ 28 59 X (l.map encRow)) (hor : ∀ x ∈ l, x.ca < x.st ∧ x.st < x.an ∧ x.st ≠ 0 ∧ x.an ≠ 0) :
    ∀ k env σ, k < l.length → env.length = 37 → Env.get env 11 = .int .i64 (k : Int) → Env.get env 10 = .int .i64 ((l.length : Nat) : Int) → J1 cx.h σ0 d X l k env σ → ∃ e env' σ', execW Try.prog cx [] (callW Try.prog how) (.block 1 (.seq (cr [.r, .l, .r, .i, .i, .r, .r, .l, .i, .l]) (.seq (cr [.r, .l, .r, .i, .i, .r, .r, .l, .i, .r, .l]) (cr [.r, .l, .r, .i, .i, .r, .r, .l, .i, .r, .r])))) (env, σ) = some (e, (env', σ')) ∧
      ((e = .normal ∧ env'.length = 37 ∧ Env.get env' 11 = .int .i64 (k : Int) ∧ Env.get env' 10 = .int .i64 ((l.length : Nat) : Int) ∧ J1 cx.h σ0 d X l (k + 1) env' σ') ∨ (e ≠ .normal ∧ Ex1 cx.h σ0 d X l e env' σ')) := by
  rintro k env σ hk hlen f11 f10 ⟨f0, f2, f9, q0, ho⟩
  obtain ⟨p, hia, hpa⟩ := (hXk σ ho).2 k (encRow l[k]) (get_el hk)
  obtain ⟨env1, x1a, x1b, x1c, x1d⟩ := rE1 cx env σ k X p (l[k]) ((slV 2 (l[k].rs.map encRd))) ((slV 3 (l[k].ws.map encWr))) hlen hcx f9 f11 slV_plain slV_plain hia hpa (wokst hro ho.2.2) ho.2.2
  have f0 := (x1d 0 (by decide)).trans f0
  have f2 := (x1d 2 (by decide)).trans f2
  have f9 := (x1d 9 (by decide)).trans f9
  have f10 := (x1d 10 (by decide)).trans f10
  have f11 := (x1d 11 (by decide)).trans f11
  have f5 := x1c
  have g1 : ((σ : AS).push false (.cells [.int .i64 l[k].cl, .int .u64 l[k].sq, .int .i64 l[k].kind, .str l[k].key, .str l[k].val, (slV 2 (l[k].rs.map encRd)), (slV 3 (l[k].ws.map encWr)), .int .i64 l[k].ca, .int .i64 l[k].st, .int .i64 l[k].an, .int .i64 l[k].code, .int .i64 l[k].rcl, .int .u64 l[k].rsq, .int .i64 l[k].rn, .int .i64 l[k].rcode, .str l[k].rval, .int .u64 l[k].rnum])).get (.st (σ : AS).st.length) = some (.cells [.int .i64 l[k].cl, .int .u64 l[k].sq, .int .i64 l[k].kind, .str l[k].key, .str l[k].val, (slV 2 (l[k].rs.map encRd)), (slV 3 (l[k].ws.map encWr)), .int .i64 l[k].ca, .int .i64 l[k].st, .int .i64 l[k].an, .int .i64 l[k].code, .int .i64 l[k].rcl, .int .u64 l[k].rsq, .int .i64 l[k].rn, .int .i64 l[k].rcode, .str l[k].rval, .int .u64 l[k].rnum]) := AS.get_push_at rfl
  have q0 := get_push' (ob' := .cells [.int .i64 l[k].cl, .int .u64 l[k].sq, .int .i64 l[k].kind, .str l[k].key, .str l[k].val, (slV 2 (l[k].rs.map encRd)), (slV 3 (l[k].ws.map encWr)), .int .i64 l[k].ca, .int .i64 l[k].st, .int .i64 l[k].an, .int .i64 l[k].code, .int .i64 l[k].rcl, .int .u64 l[k].rsq, .int .i64 l[k].rn, .int .i64 l[k].rcode, .str l[k].rval, .int .u64 l[k].rnum]) q0
  have ho := ho.push (ob := .cells [.int .i64 l[k].cl, .int .u64 l[k].sq, .int .i64 l[k].kind, .str l[k].key, .str l[k].val, (slV 2 (l[k].rs.map encRd)), (slV 3 (l[k].ws.map encWr)), .int .i64 l[k].ca, .int .i64 l[k].st, .int .i64 l[k].an, .int .i64 l[k].code, .int .i64 l[k].rcl, .int .u64 l[k].rsq, .int .i64 l[k].rn, .int .i64 l[k].rcode, .str l[k].rval, .int .u64 l[k].rnum])
  generalize hib1 : (σ : AS).st.length = ib1 at g1 f5
  generalize (σ : AS).push false (.cells [.int .i64 l[k].cl, .int .u64 l[k].sq, .int .i64 l[k].kind, .str l[k].key, .str l[k].val, (slV 2 (l[k].rs.map encRd)), (slV 3 (l[k].ws.map encWr)), .int .i64 l[k].ca, .int .i64 l[k].st, .int .i64 l[k].an, .int .i64 l[k].code, .int .i64 l[k].rcl, .int .u64 l[k].rsq, .int .i64 l[k].rn, .int .i64 l[k].rcode, .str l[k].rval, .int .u64 l[k].rnum]) = σ1 at x1a g1 q0 ho
  have hq := hor l[k] (List.getElem_mem hk)
  have h21 := f21_c σ1.hp σ1.st cx.ro l[k] _ _ (lt_of_out hro ho) (slV_plain (sz := 2) (l := l[k].rs.map encRd)) (slV_plain (sz := 3) (l := l[k].ws.map encWr)) hq.2.2.1 (by omega) hq.2.2.2 hq.2.1
  obtain ⟨env2, x2a, x2b, x2c, x2d⟩ := rT1 cx env1 σ1 _ (l[k]) ((slV 2 (l[k].rs.map encRd))) ((slV 3 (l[k].ws.map encWr))) x1b hcx f5 g1 slV_plain slV_plain h21 
  have f0 := (x2d 0 (by decide)).trans f0
  have f2 := (x2d 2 (by decide)).trans f2
  have f5 := (x2d 5 (by decide)).trans f5
  have f9 := (x2d 9 (by decide)).trans f9
  have f10 := (x2d 10 (by decide)).trans f10
  have f11 := (x2d 11 (by decide)).trans f11
  have f17 := x2c
  have ev1 := ev_tmp f17
  exact ⟨.normal, env2, _, (execW_block_of (execW_seq_of x1a (execW_seq_of x2a (execW_cond_f ev1 (by rfl))))), .inl ⟨rfl, x2b, f11, f10, f0, f2, f9, q0, ho⟩⟩
theorem loop1 (cx : Cx) (hcx : cx.esc = []) (hro : ∀ k, cx.ro = some k → k ≤ cx.h) (σ0 : AS) (d : Nat) (X : AV) (l : List RowD) (hXk : ∀ σ, Outside cx.h σ0 σ → Rd Try.prog σ 28 59 X (l.map encRow)) (hor : ∀ x ∈ l, x.ca < x.st ∧ x.st < x.an ∧ x.st ≠ 0 ∧ x.an ≠ 0) (hnn : l.length ≤ 9223372036854775807) {env : Env} {σ : AS} (hl : env.length = 37) (h1 : Env.get env 11 = .int .i64 0) (h2 : Env.get env 10 = .int .i64 ((l.length : Nat) : Int)) (h0 : J1 cx.h σ0 d X l 0 env σ) :
    ∃ e env' σ', execW Try.prog cx [] (callW Try.prog how) (cr [.r, .l, .r]) (env, σ) = some (e, (env', σ')) ∧ ((e = .normal ∧ ((env'.length = 37 ∧ J1 cx.h σ0 d X l (l.length) env' σ') ∨ Ex1 cx.h σ0 d X l (.exit 0) env' σ')) ∨ (e ≠ .normal ∧ e ≠ .exit 0 ∧ Ex1 cx.h σ0 d X l e env' σ')) := by
  rw [loop_eq1]
  exact range_std (Ex := Ex1 cx.h σ0 d X l) (N := 37) (tc := 12) (ti := 11) (tl := 10) (tx := 20) (ty1 := 3) (ty2 := 3) (ty3 := 3) (ty4 := 3) ⟨by kernel_rfl, by kernel_rfl, by kernel_rfl⟩ ⟨by kernel_rfl, by kernel_rfl, by kernel_rfl⟩ ⟨by kernel_rfl, by kernel_rfl, by kernel_rfl⟩ (by decide) hnn J1_stable (step1 cx hcx hro σ0 d X l hXk hor) hl h1 h2 h0
/-- What holds ahead of round k. -/
def J2 (h : Nat) (σ0 : AS) (d a : Nat) (Z : AV) (H : List RowD) (hpk : Nat → List AObj) (gk : Nat → Bool) (k : Nat) (env : Env) (σ : AS) : Prop :=
  Env.get env 2 = .ptr (.st d) 0 ∧ Env.get env 6 = .ptr (.hp a) 0 ∧ Env.get env 23 = Z ∧ (σ.get (.st d) = some (.cells [.int .i64 0, .int .u64 0])) ∧ (σ.hp = hpk k) ∧ (∀ j, j < k → gk j = true) ∧ Outside h (AS.mk σ.hp σ0.st) σ
def Ex2 (h : Nat) (σ0 : AS) (d a : Nat) (Z : AV) (H : List RowD) (hpk : Nat → List AObj) (gk : Nat → Bool) (e : AExit) (env : Env) (σ : AS) : Prop := ∃ (k : Nat) (hk : k < H.length), e = .ret ∧ gk k = false ∧ env.length = 37 ∧ Env.get env 2 = .ptr (.st d) 0 ∧ Env.get env 3 = .int .i64 3 ∧ σ.get (.st d) = some (.cells [.int .i64 H[k].cl, .int .u64 H[k].sq]) ∧ σ.hp = hpk (k + 1) ∧ Outside h (AS.mk σ.hp σ0.st) σ
theorem J2_stable {h : Nat} {σ0 : AS} {d a : Nat} {Z : AV} {H : List RowD} {hpk : Nat → List AObj} {gk : Nat → Bool} : ∀ k env env' σ, env.length = 37 → env'.length = 37 → (∀ i, i ≠ 26 → i ≠ 35 → i ≠ 25 → Env.get env' i = Env.get env i) → J2 h σ0 d a Z H hpk gk k env σ → J2 h σ0 d a Z H hpk gk k env' σ := by
  rintro k env env' σ _ _ hf ⟨j2, j6, j23, q0, q1, q2, ho⟩
  exact ⟨(hf 2 (by decide) (by decide) (by decide)).trans j2, (hf 6 (by decide) (by decide) (by decide)).trans j6, (hf 23 (by decide) (by decide) (by decide)).trans j23, q0, q1, q2, ho⟩
noncomputable def oT2 : Oper := (opsOf (cr [.r, .r, .r, .l, .r, .i, .i, .l])).headD default
noncomputable def oI2 : List Oper := opsOf (cr [.r, .r, .r, .l, .r, .i, .i, .r, .r, .r])
theorem loop_eq2 : (cr [.r, .r, .r, .l, .r]) = .block 2 (.loop (.seq (.region 9 #[oT2] false) (.seq (.cond (.tmp 26) .skip (.exit 2)) (.seq (.block 3 (.seq (cr [.r, .r, .r, .l, .r, .i, .i, .r, .r, .l, .i, .l]) (.seq (cr [.r, .r, .r, .l, .r, .i, .i, .r, .r, .l, .i, .r, .l]) (.cond (.tmp 32) (cr [.r, .r, .r, .l, .r, .i, .i, .r, .r, .l, .i, .r, .r, .l]) .skip)))) (.region 13 #[oI2.headD default, (oI2.drop 1).headD default] false))))) := by kernel_rfl
theorem step2 (cx : Cx) (hcx : cx.esc = []) (hro : ∀ k, cx.ro = some k → k ≤ cx.h) (σ0 : AS) (d a : Nat) (Z : AV) (H : List RowD) (hpk : Nat → List AObj) (gk : Nat → Bool) (hr0 : cx.ro = none) (hh : cx.h ≤ d) (hZ : SlOf 17 Z (H.map encRow)) (h24 : ∀ (k : Nat) (hk : k < H.length) (s : List AObj), callW Try.prog how 24 [.ptr (.hp a) 0, encRow H[k]] ⟨hpk k, s⟩ none = some (.bool (gk k), ⟨hpk (k + 1), s⟩)) :
    ∀ k env σ, k < H.length → env.length = 37 → Env.get env 25 = .int .i64 (k : Int) → Env.get env 24 = .int .i64 ((H.length : Nat) : Int) → J2 cx.h σ0 d a Z H hpk gk k env σ → ∃ e env' σ', execW Try.prog cx [] (callW Try.prog how) (.block 3 (.seq (cr [.r, .r, .r, .l, .r, .i, .i, .r, .r, .l, .i, .l]) (.seq (cr [.r, .r, .r, .l, .r, .i, .i, .r, .r, .l, .i, .r, .l]) (.cond (.tmp 32) (cr [.r, .r, .r, .l, .r, .i, .i, .r, .r, .l, .i, .r, .r, .l]) .skip)))) (env, σ) = some (e, (env', σ')) ∧
      ((e = .normal ∧ env'.length = 37 ∧ Env.get env' 25 = .int .i64 (k : Int) ∧ Env.get env' 24 = .int .i64 ((H.length : Nat) : Int) ∧ J2 cx.h σ0 d a Z H hpk gk (k + 1) env' σ') ∨ (e ≠ .normal ∧ Ex2 cx.h σ0 d a Z H hpk gk e env' σ')) := by
  rintro k env σ hk hlen f25 f24 ⟨f2, f6, f23, q0, q1, q2, ho⟩
  obtain ⟨p, hia, hpa⟩ := (rd28 (σ := σ) hZ).2 k (encRow H[k]) (get_el hk)
  obtain ⟨env1, x1a, x1b, x1c, x1d⟩ := rE2 cx env σ k Z p (H[k]) ((slV 2 (H[k].rs.map encRd))) ((slV 3 (H[k].ws.map encWr))) hlen hcx f23 f25 slV_plain slV_plain hia hpa (wokst hro ho.2.2) ho.2.2
  have f2 := (x1d 2 (by decide)).trans f2
  have f6 := (x1d 6 (by decide)).trans f6
  have f23 := (x1d 23 (by decide)).trans f23
  have f24 := (x1d 24 (by decide)).trans f24
  have f25 := (x1d 25 (by decide)).trans f25
  have f8 := x1c
  have g1 : ((σ : AS).push false (.cells [.int .i64 H[k].cl, .int .u64 H[k].sq, .int .i64 H[k].kind, .str H[k].key, .str H[k].val, (slV 2 (H[k].rs.map encRd)), (slV 3 (H[k].ws.map encWr)), .int .i64 H[k].ca, .int .i64 H[k].st, .int .i64 H[k].an, .int .i64 H[k].code, .int .i64 H[k].rcl, .int .u64 H[k].rsq, .int .i64 H[k].rn, .int .i64 H[k].rcode, .str H[k].rval, .int .u64 H[k].rnum])).get (.st (σ : AS).st.length) = some (.cells [.int .i64 H[k].cl, .int .u64 H[k].sq, .int .i64 H[k].kind, .str H[k].key, .str H[k].val, (slV 2 (H[k].rs.map encRd)), (slV 3 (H[k].ws.map encWr)), .int .i64 H[k].ca, .int .i64 H[k].st, .int .i64 H[k].an, .int .i64 H[k].code, .int .i64 H[k].rcl, .int .u64 H[k].rsq, .int .i64 H[k].rn, .int .i64 H[k].rcode, .str H[k].rval, .int .u64 H[k].rnum]) := AS.get_push_at rfl
  have q0 := get_push' (ob' := .cells [.int .i64 H[k].cl, .int .u64 H[k].sq, .int .i64 H[k].kind, .str H[k].key, .str H[k].val, (slV 2 (H[k].rs.map encRd)), (slV 3 (H[k].ws.map encWr)), .int .i64 H[k].ca, .int .i64 H[k].st, .int .i64 H[k].an, .int .i64 H[k].code, .int .i64 H[k].rcl, .int .u64 H[k].rsq, .int .i64 H[k].rn, .int .i64 H[k].rcode, .str H[k].rval, .int .u64 H[k].rnum]) q0
  have ho := ho.push (ob := .cells [.int .i64 H[k].cl, .int .u64 H[k].sq, .int .i64 H[k].kind, .str H[k].key, .str H[k].val, (slV 2 (H[k].rs.map encRd)), (slV 3 (H[k].ws.map encWr)), .int .i64 H[k].ca, .int .i64 H[k].st, .int .i64 H[k].an, .int .i64 H[k].code, .int .i64 H[k].rcl, .int .u64 H[k].rsq, .int .i64 H[k].rn, .int .i64 H[k].rcode, .str H[k].rval, .int .u64 H[k].rnum])
  generalize hib1 : (σ : AS).st.length = ib1 at g1 f8
  generalize (σ : AS).push false (.cells [.int .i64 H[k].cl, .int .u64 H[k].sq, .int .i64 H[k].kind, .str H[k].key, .str H[k].val, (slV 2 (H[k].rs.map encRd)), (slV 3 (H[k].ws.map encWr)), .int .i64 H[k].ca, .int .i64 H[k].st, .int .i64 H[k].an, .int .i64 H[k].code, .int .i64 H[k].rcl, .int .u64 H[k].rsq, .int .i64 H[k].rn, .int .i64 H[k].rcode, .str H[k].rval, .int .u64 H[k].rnum]) = σ1 at x1a g1 q0 ho
  have hhp : σ1.hp = hpk k := ho.1.trans q1
  have h24 := h24 k hk σ1.st
  have e24 : AS.mk (hpk k) σ1.st = σ1 := by rw [← hhp]
  rw [e24, ← hr0] at h24
  obtain ⟨env2, x2a, x2b, x2c, x2d⟩ := rT2 cx env1 σ1 a _ _ _ (H[k]) ((slV 2 (H[k].rs.map encRd))) ((slV 3 (H[k].ws.map encWr))) x1b hcx f6 f8 g1 slV_plain slV_plain h24 
  have f2 := (x2d 2 (by decide)).trans f2
  have f6 := (x2d 6 (by decide)).trans f6
  have f8 := (x2d 8 (by decide)).trans f8
  have f23 := (x2d 23 (by decide)).trans f23
  have f24 := (x2d 24 (by decide)).trans f24
  have f25 := (x2d 25 (by decide)).trans f25
  have f32 := x2c
  have ev1 := ev_tmp f32
  have q0 : (AS.mk (hpk (k + 1)) σ1.st).get (.st d) = some (.cells [.int .i64 0, .int .u64 0]) := q0
  cases q : gk k with
  | true =>
    rw [q] at ev1
    exact ⟨.normal, env2, _, (execW_block_of (execW_seq_of x1a (execW_seq_of x2a (execW_cond_f ev1 (by rfl))))), .inl ⟨rfl, x2b, f25, f24, f2, f6, f23, q0, rfl, (fun j hj => by rcases Nat.lt_succ_iff_lt_or_eq.1 hj with h | h; exact q2 j h; rw [h]; exact q), ⟨rfl, ho.2.1, ho.2.2⟩⟩⟩
  | false =>
    rw [q] at ev1
    have hro3 : wok cx.ro (.st d) = true := by rw [hr0]; rfl
    have q0 : (AS.mk (hpk (k + 1)) σ1.st).get (.st d) = some (.cells [.int .i64 0, .int .u64 0]) := q0
    have g9 := get_set_at (ob' := .cells [.int .i64 H[k].cl, .int .u64 H[k].sq]) q0
    obtain ⟨env3, x3a, x3b, x3c, x3d⟩ := rL2 cx env2 (AS.mk (hpk (k + 1)) σ1.st) _ d (H[k]) ((slV 2 (H[k].rs.map encRd))) ((slV 3 (H[k].ws.map encWr))) x2b hcx f2 f8 g1 slV_plain slV_plain q0 hro3 hh 
    have f2 := (x3d 2 (by decide)).trans f2
    have f6 := (x3d 6 (by decide)).trans f6
    have f8 := (x3d 8 (by decide)).trans f8
    have f23 := (x3d 23 (by decide)).trans f23
    have f24 := (x3d 24 (by decide)).trans f24
    have f25 := (x3d 25 (by decide)).trans f25
    have f32 := (x3d 32 (by decide)).trans f32
    have f3 := x3c
    have hoz : Outside cx.h (AS.mk (hpk (k + 1)) σ0.st) (AS.mk (hpk (k + 1)) σ1.st) := ⟨rfl, ho.2.1, ho.2.2⟩
    exact ⟨.ret, env3, _, (block_exit (execW_seq_of x1a (execW_seq_of x2a (execW_cond_t ev1 x3a))) (by simp)), .inr ⟨by simp, k, hk, rfl, q, x3b, f2, f3, g9, rfl, hoz.set (L := .st d) ⟨d, rfl, hh⟩⟩⟩
theorem loop2 (cx : Cx) (hcx : cx.esc = []) (hro : ∀ k, cx.ro = some k → k ≤ cx.h) (σ0 : AS) (d a : Nat) (Z : AV) (H : List RowD) (hpk : Nat → List AObj) (gk : Nat → Bool) (hr0 : cx.ro = none) (hh : cx.h ≤ d) (hZ : SlOf 17 Z (H.map encRow)) (h24 : ∀ (k : Nat) (hk : k < H.length) (s : List AObj), callW Try.prog how 24 [.ptr (.hp a) 0, encRow H[k]] ⟨hpk k, s⟩ none = some (.bool (gk k), ⟨hpk (k + 1), s⟩)) (hnn : H.length ≤ 9223372036854775807) {env : Env} {σ : AS} (hl : env.length = 37) (h1 : Env.get env 25 = .int .i64 0) (h2 : Env.get env 24 = .int .i64 ((H.length : Nat) : Int)) (h0 : J2 cx.h σ0 d a Z H hpk gk 0 env σ) :
    ∃ e env' σ', execW Try.prog cx [] (callW Try.prog how) (cr [.r, .r, .r, .l, .r]) (env, σ) = some (e, (env', σ')) ∧ ((e = .normal ∧ ((env'.length = 37 ∧ J2 cx.h σ0 d a Z H hpk gk (H.length) env' σ') ∨ Ex2 cx.h σ0 d a Z H hpk gk (.exit 2) env' σ')) ∨ (e ≠ .normal ∧ e ≠ .exit 2 ∧ Ex2 cx.h σ0 d a Z H hpk gk e env' σ')) := by
  rw [loop_eq2]
  exact range_std (Ex := Ex2 cx.h σ0 d a Z H hpk gk) (N := 37) (tc := 26) (ti := 25) (tl := 24) (tx := 35) (ty1 := 3) (ty2 := 3) (ty3 := 3) (ty4 := 3) ⟨by kernel_rfl, by kernel_rfl, by kernel_rfl⟩ ⟨by kernel_rfl, by kernel_rfl, by kernel_rfl⟩ ⟨by kernel_rfl, by kernel_rfl, by kernel_rfl⟩ (by decide) hnn J2_stable (step2 cx hcx hro σ0 d a Z H hpk gk hr0 hh hZ h24) hl h1 h2 h0
noncomputable def bodyC : Code := (.seq (cr [.l]) (.seq (.seq (cr [.r, .l, .l]) (cr [.r, .l, .r])) (.seq (cr [.r, .r, .l]) (.seq (.seq (cr [.r, .r, .r, .l, .l]) (cr [.r, .r, .r, .l, .r])) (.seq (cr [.r, .r, .r, .r, .l]) .ret)))))
theorem body : Try.f11.body = some bodyC := by kernel_rfl
end F11
