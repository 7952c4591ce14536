/- What a row's arguments are: from a reading to abstract values. -/
import Derived.Test.YtjhgheheopcolaaGreatAbs33
import Derived.ProofKit
set_option linter.unusedVariables false
set_option linter.unusedSimpArgs false
namespace Go.Abs

/-- No object has a place. -/
def rho0 : Rho := ⟨fun _ => none, fun _ => False⟩
theorem free0 (b : Nat) : Free rho0 b := ⟨fun _ _ h => by simp [rho0] at h, fun h => h⟩
theorem SR.start (w : World) : SR rho0 ⟨[], []⟩ w :=
  ⟨⟨fun L ob h _ => by cases L <;> simp [AS.get] at h⟩, fun _ _ h => by simp [rho0] at h, fun _ _ _ _ h => by simp [rho0] at h, fun _ _ h => by simp [rho0] at h, fun i cs h => by simp [AS.get] at h, fun _ _ h => by simp [rho0] at h, fun _ h => h.elim⟩

section
variable (P : Program)

def isAggT (t : TypeId) : Bool := match P.underlying t with
  | some (.struct _) | some (.array _ _) => true
  | _ => false

def tileB : List Field → Nat → Nat → Bool
  | [], o, n => o == n
  | f :: fs, o, n => f.offset == o && tileB fs (o + P.cellsOf f.type) n

/-- A type of bools, integers, strings, pointers, slices, structs, arrays. -/
def plainT : Nat → TypeId → Bool
  | 0, _ => false
  | n + 1, t => match P.underlying t with
    | some .bool | some (.int _) | some .string => P.cellsOf t == 1
    | some (.pointer e) => P.cellsOf t == 1 && decide (0 < P.cellsOf e) && plainT n e
    | some (.slice e) => P.cellsOf t == 1 && decide (0 < P.cellsOf e) && (isAggT P e || P.cellsOf e == 1) && plainT n e
    | some (.struct fs) => tileB P fs.toList 0 (P.cellsOf t) && fs.toList.all fun f => plainT n f.type
    | some (.array k e) => k * P.cellsOf e == P.cellsOf t && decide (0 < P.cellsOf e) && plainT n e
    | _ => false

def hasFs (H : TypeId → List AV → Prop) : List Field → List AV → Prop
  | [], cs => cs = []
  | f :: fs, cs => ∃ xs ys, cs = xs ++ ys ∧ H f.type xs ∧ hasFs H fs ys
def hasAs (H : List AV → Prop) : Nat → List AV → Prop
  | 0, cs => cs = []
  | k + 1, cs => ∃ xs ys, cs = xs ++ ys ∧ H xs ∧ hasAs H k ys

def elemOf (t : TypeId) (xs : List AV) (x : AV) : Prop := if isAggT P t = true then x = .agg xs else xs = [x]

/-- Are these the cells of a value of that type? -/
def hasCs : Nat → TypeId → List AV → Prop
  | 0, _, _ => False
  | n + 1, t, cs => match P.underlying t with
    | some .bool => ∃ b, cs = [.bool b]
    | some (.int k) => ∃ i, cs = [.int k i] ∧ (Lit.int k i).wf = true
    | some .string => ∃ s, cs = [.str s] ∧ s.size ≤ maxLen
    | some (.pointer e) => cs = [.nilp] ∨ ∃ xs, cs = [.rptr xs 0] ∧ hasCs n e xs
    | some (.slice e) => cs = [.nils] ∨ ∃ es, cs = [.sl false (P.cellsOf e) es] ∧ es.length ≤ maxLen ∧ ∀ x ∈ es, okE (P.cellsOf e) x = true ∧ ∃ xs, elemOf P e xs x ∧ hasCs n e xs
    | some (.struct fs) => hasFs (hasCs n) fs.toList cs
    | some (.array k e) => hasAs (hasCs n e) k cs
    | _ => False
/-- Is this a value of that type? -/
def hasT (n : Nat) (t : TypeId) (c : AV) : Prop := ∃ cs, elemOf P t cs c ∧ hasCs P n t cs
end

/-- What is shown of cells that were read. -/
def Reads (P : Program) (W : World) (n : Nat) (t : TypeId) (cs : List Value) : Prop :=
  ∃ as, VRs rho0 W as cs ∧ hasCs P n t as ∧ (∀ a ∈ as, a.one = true) ∧ AVs.inb 0 as = true ∧ as.length = P.cellsOf t

theorem VRs.take {ρ : Rho} {w : World} {as : List AV} {cs : List Value} (h : VRs ρ w as cs) (k : Nat) : VRs ρ w (as.take k) (cs.take k) := by
  refine ⟨by simp [h.1], fun i c v hc hv => ?_⟩
  rw [List.getElem?_take] at hc hv
  split at hc
  · rename_i hi; rw [if_pos hi] at hv; exact h.2 i c v hc hv
  · cases hc

theorem inb_append {h : Nat} {xs ys : List AV} (h1 : AVs.inb h xs = true) (h2 : AVs.inb h ys = true) : AVs.inb h (xs ++ ys) = true := by
  rw [AVs.inb_iff] at *
  intro c hc
  rcases List.mem_append.1 hc with h | h
  · exact h1 c h
  · exact h2 c h

theorem addr_add {b o k : Nat} : Addr.add ⟨b, o, none⟩ k = ⟨b, o + k, none⟩ := by
  unfold Addr.add; split
  · rename_i h; subst h; rfl
  · rfl
theorem cell_spot {w : World} {a : Addr} {v : Value} (h : w.cell? a = some v) : a.spot = none ∧ a.block < w.heap.size := by
  unfold World.cell? at h
  split at h
  · rename_i hb
    split at h
    · cases h
    · rename_i hs
      exact ⟨by simpa using hs, (Array.getElem?_eq_some_iff.1 hb).1⟩
  · cases h

section
variable {H : Type} {enc : TypeId × Value → H} {P : Program} {W : World} {base : Nat} {spare : Nat → Bool} {held : Bool}

theorem fields_read {n fuel : Nat} (ih : ∀ t cs x, plainT P n t = true → DataW.trod enc P W base spare held fuel t cs = some x → Reads P W n t cs) (cs : List Value) :
    ∀ (fs : List Field) (o : Nat) (xs : List (DataW H × List MemPlace)), tileB P fs o cs.length = true → (fs.all fun f => plainT P n f.type) = true →
      (fs.mapM fun f => DataW.trod enc P W base spare held fuel f.type ((cs.drop f.offset).take (P.cellsOf f.type))) = some xs →
      ∃ as, VRs rho0 W as (cs.drop o) ∧ hasFs (hasCs P n) fs as ∧ (∀ a ∈ as, a.one = true) ∧ AVs.inb 0 as = true ∧ as.length + o = cs.length
  | [], o, xs, ht, _, _ => by
    simp only [tileB, beq_iff_eq] at ht
    subst ht
    exact ⟨[], by simp [VRs.nil], rfl, by simp, rfl, by simp⟩
  | f :: fs, o, xs, ht, hp, h => by
    simp only [tileB, Bool.and_eq_true, beq_iff_eq] at ht
    simp only [List.all_cons, Bool.and_eq_true] at hp
    rw [List.mapM_cons] at h
    obtain ⟨x, hx, h⟩ := Option.bind_eq_some_iff.1 h
    obtain ⟨xs', hxs, h⟩ := Option.bind_eq_some_iff.1 h
    obtain ⟨as, v1, v2, v3, v4, v5⟩ := ih _ _ _ hp.1 hx
    obtain ⟨bs, b1, b2, b3, b4, b5⟩ := fields_read ih cs fs _ xs' ht.2 hp.2 hxs
    rw [ht.1] at v1
    refine ⟨as ++ bs, ?_, ⟨as, bs, rfl, v2, b2⟩, fun a ha => ?_, inb_append v4 b4, by simp; omega⟩
    · have : cs.drop o = (cs.drop o).take (P.cellsOf f.type) ++ cs.drop (o + P.cellsOf f.type) := by
        rw [← List.drop_drop, List.take_append_drop]
      rw [this]
      exact v1.append b1
    · rcases List.mem_append.1 ha with h | h
      · exact v3 a h
      · exact b3 a h

theorem array_read {n fuel : Nat} {e : TypeId} (ih : ∀ cs x, DataW.trod enc P W base spare held fuel e cs = some x → Reads P W n e cs) (cs : List Value) {xs : List (DataW H × List MemPlace)} {m : Nat}
    (h : ((List.range m).mapM fun i => DataW.trod enc P W base spare held fuel e ((cs.drop (i * P.cellsOf e)).take (P.cellsOf e))) = some xs) (hl : cs.length = m * P.cellsOf e) :
    ∀ (k o : Nat), o + k = m → ∃ as, VRs rho0 W as (cs.drop (o * P.cellsOf e)) ∧ hasAs (hasCs P n e) k as ∧ (∀ a ∈ as, a.one = true) ∧ AVs.inb 0 as = true ∧ as.length = k * P.cellsOf e
  | 0, o, ho => by
    have : cs.drop (o * P.cellsOf e) = [] := by rw [List.drop_eq_nil_iff, hl]; simp at ho; subst ho; exact Nat.le_refl _
    rw [this]
    exact ⟨[], VRs.nil, rfl, by simp, rfl, by simp⟩
  | k + 1, o, ho => by
    have hg := mapM_some_get h o o (List.getElem?_range (by omega))
    obtain ⟨x, hx⟩ : ∃ x, xs[o]? = some x := by
      have := mapM_some_length h
      simp at this
      exact ⟨_, List.getElem?_eq_getElem (by omega)⟩
    rw [hx] at hg
    obtain ⟨as, v1, v2, v3, v4, v5⟩ := ih _ _ hg
    obtain ⟨bs, b1, b2, b3, b4, b5⟩ := array_read ih cs h hl k (o + 1) (by omega)
    refine ⟨as ++ bs, ?_, ⟨as, bs, rfl, v2, b2⟩, fun a ha => ?_, inb_append v4 b4, by rw [List.length_append, v5, b5, Nat.succ_mul]; omega⟩
    · have : cs.drop (o * P.cellsOf e) = (cs.drop (o * P.cellsOf e)).take (P.cellsOf e) ++ cs.drop ((o + 1) * P.cellsOf e) := by
        rw [Nat.succ_mul, ← List.drop_drop, List.take_append_drop]
      rw [this]
      exact v1.append b1
    · rcases List.mem_append.1 ha with h | h
      · exact v3 a h
      · exact b3 a h

theorem elem_of_cells {t : TypeId} {as : List AV} (h3 : ∀ a ∈ as, a.one = true) (h4 : AVs.inb 0 as = true) (h5 : as.length = P.cellsOf t) (hk : isAggT P t = true ∨ P.cellsOf t = 1) :
    ∃ x, elemOf P t as x ∧ okE (P.cellsOf t) x = true ∧ x.cells = as := by
  by_cases ha : isAggT P t = true
  · exact ⟨.agg as, by simp [elemOf, ha], by simp [okE, AV.cells, h5, h4, List.all_eq_true]; exact h3, rfl⟩
  · have h1 := hk.resolve_left ha
    rw [h1] at h5
    obtain ⟨x, rfl⟩ := List.length_eq_one_iff.1 h5
    have hx := h3 x (by simp)
    have hc := one_cells hx
    exact ⟨x, by simp [elemOf, ha], by simp [okE, hc, h1, h4, hx], hc⟩

theorem trod_reads : ∀ (n : Nat) (fuel : Nat) (t : TypeId) (cs : List Value) (x : DataW H × List MemPlace), plainT P n t = true → DataW.trod enc P W base spare held fuel t cs = some x → Reads P W n t cs
  | 0, _, _, _, _, h, _ => by cases h
  | n + 1, 0, _, _, _, _, h => by simp [DataW.trod] at h
  | n + 1, fuel + 1, t, cs, x, hp, h => by
    have ih := fun t cs x => trod_reads n fuel t cs x
    unfold plainT at hp
    have one1 : ∀ {a : AV} {v : Value}, VR rho0 W a v → a.one = true → a.inb 0 = true → P.cellsOf t = 1 → hasCs P (n + 1) t [a] → Reads P W (n + 1) t [v] :=
      fun h1 h2 h3 h4 h5 => ⟨[_], VRs.cons h1 VRs.nil, h5, by simpa using h2, by simp [AVs.inb, h3], h4.symm⟩
    unfold hasCs at one1
    cases hu : P.underlying t with
    | none => rw [hu] at hp; cases hp
    | some D =>
      rw [hu] at hp one1
      cases D with
      | bool =>
        simp only [beq_iff_eq] at hp
        obtain ⟨b, rfl, _⟩ := DataW.trod_bool hu h
        exact one1 (.bool _) rfl rfl hp ⟨_, rfl⟩
      | int k =>
        simp only [beq_iff_eq] at hp
        obtain ⟨b, rfl, _, hw⟩ := DataW.trod_int hu h
        exact one1 (.int _ _) rfl rfl hp ⟨_, rfl, hw⟩
      | string =>
        simp only [beq_iff_eq] at hp
        obtain ⟨b, rfl, _, hw⟩ := DataW.trod_string hu h
        exact one1 (.str _) rfl rfl hp ⟨_, rfl, hw⟩
      | pointer e =>
        simp only [Bool.and_eq_true, beq_iff_eq, decide_eq_true_eq] at hp
        obtain ⟨⟨hp1, hp2⟩, hp3⟩ := hp
        rcases DataW.trod_pointer hu h with ⟨rfl, _⟩ | ⟨a, cs', y, m, hm, rfl, _, hc, hy⟩
        · exact one1 .nilp rfl rfl hp1 (.inl rfl)
        · cases hm
          obtain ⟨as, v1, v2, v3, v4, v5⟩ := ih _ _ _ hp3 hy
          obtain ⟨_, hl, hcell⟩ := World.cells?_some hc
          have h0 : ∃ v0, cs'[0]? = some v0 := ⟨_, List.getElem?_eq_getElem (by omega)⟩
          obtain ⟨v0, h0⟩ := h0
          have hsp := cell_spot ((hcell 0 hp2).trans h0)
          obtain ⟨b, o, sp⟩ := a
          have hsp' : sp = none ∧ b < W.heap.size := by simpa [Addr.add] using hsp
          obtain ⟨rfl, hb⟩ := hsp'
          have hat : ∀ (j : Nat) (c : AV), as[j]? = some c → ∃ v, cs'[j]? = some v ∧ W.cell? ⟨b, o + j, none⟩ = some v ∧ VR rho0 W c v := fun j c hj => by
            have hjl : j < as.length := (List.getElem?_eq_some_iff.1 hj).1
            have hv : cs'[j]? = some cs'[j] := List.getElem?_eq_getElem (by omega)
            refine ⟨_, hv, ?_, v1.2 j c _ hj hv⟩
            rw [← hv, ← hcell j (by omega), addr_add]
          refine one1 (.rptr as 0 b o (fun j => (cs'[j]?).getD undef) hb (free0 _) (fun j c hj => ?_) (fun j c hj => ?_) v4) rfl (by simp [AV.inb]) hp1 (.inr ⟨as, rfl, v2⟩)
          · obtain ⟨v, e1, e2, e3⟩ := hat j c hj; rw [e1]; exact e2
          · obtain ⟨v, e1, e2, e3⟩ := hat j c hj; rw [e1]; exact e3
      | slice e =>
        simp only [Bool.and_eq_true, beq_iff_eq, decide_eq_true_eq, Bool.or_eq_true] at hp
        obtain ⟨⟨⟨hp1, hp2⟩, hk⟩, hp3⟩ := hp
        rcases DataW.trod_slice hu h with ⟨rfl, _⟩ | ⟨a, len, cap, elems, rest, m, hm, rfl, _, _, hlc, hcm, hel, hget, _⟩
        · exact one1 .nils rfl rfl hp1 (.inl rfl)
        · cases hm
          have hall : ∀ i, i < len → ∃ (e' : AV) (f : Nat → Value), okE (P.cellsOf e) e' = true ∧ (∃ xs, elemOf P e xs e' ∧ hasCs P n e xs) ∧ (a.spot = none ∧ a.block < W.heap.size) ∧
              ∀ (j : Nat) (c : AV), e'.cells[j]? = some c → W.cell? ⟨a.block, a.off + i * P.cellsOf e + j, none⟩ = some (f j) ∧ VR rho0 W c (f j) := fun i hi => by
            have hg := hget i hi
            have hx : elems[i]? = some elems[i] := List.getElem?_eq_getElem (by omega)
            rw [hx] at hg
            obtain ⟨cs', hc, hy⟩ := Option.bind_eq_some_iff.1 hg
            obtain ⟨as, v1, v2, v3, v4, v5⟩ := ih _ _ _ hp3 hy
            obtain ⟨_, hl, hcell⟩ := World.cells?_some hc
            obtain ⟨e', e1, e2, e3⟩ := elem_of_cells (P := P) v3 v4 v5 hk
            have h0 : ∃ v0, cs'[0]? = some v0 := ⟨_, List.getElem?_eq_getElem (by omega)⟩
            obtain ⟨v0, h0⟩ := h0
            have hsp := cell_spot ((hcell 0 hp2).trans h0)
            obtain ⟨b, o, sp⟩ := a
            have hsp' : (i = 0 → sp = none) ∧ b < W.heap.size := by
              refine ⟨fun hi0 => ?_, ?_⟩
              · subst hi0; simpa [Addr.add] using hsp.1
              · have := hsp.2; simp only [Addr.add] at this; split at this <;> (try split at this) <;> exact this
            have h1 : ∀ i', i' < len → i' = 0 → sp = none := fun i' hi' h0' => by
              subst h0'
              have hg := hget 0 hi'
              have hx : elems[0]? = some elems[0] := List.getElem?_eq_getElem (by omega)
              rw [hx] at hg
              obtain ⟨cs', hc, _⟩ := Option.bind_eq_some_iff.1 hg
              obtain ⟨_, hl, hcell⟩ := World.cells?_some hc
              obtain ⟨v0, h0⟩ : ∃ v0, cs'[0]? = some v0 := ⟨_, List.getElem?_eq_getElem (by omega)⟩
              have := (cell_spot ((hcell 0 hp2).trans h0)).1
              simpa [Addr.add] using this
            have hspn : sp = none := h1 0 (by omega) rfl
            subst hspn
            refine ⟨e', fun j => (cs'[j]?).getD undef, e2, ⟨as, e1, v2⟩, ⟨rfl, hsp'.2⟩, fun j c hj => ?_⟩
            rw [e3] at hj
            have hjl : j < as.length := (List.getElem?_eq_some_iff.1 hj).1
            have hv : cs'[j]? = some cs'[j] := List.getElem?_eq_getElem (by omega)
            have hcj := hcell j (by omega)
            rw [addr_add, addr_add] at hcj
            have hF : (cs'[j]?).getD undef = cs'[j] := by rw [hv]; rfl
            show _ = some ((cs'[j]?).getD undef) ∧ VR rho0 W c ((cs'[j]?).getD undef)
            rw [hF]
            exact ⟨by rw [hcj, hv], v1.2 j c _ hj hv⟩
          have hch : ∃ (es : List AV) (F : Nat → Nat → Value), es.length = len ∧ ∀ (i : Nat) (e' : AV), es[i]? = some e' → okE (P.cellsOf e) e' = true ∧ (∃ xs, elemOf P e xs e' ∧ hasCs P n e xs) ∧ (a.spot = none ∧ a.block < W.heap.size) ∧
              ∀ (j : Nat) (c : AV), e'.cells[j]? = some c → W.cell? ⟨a.block, a.off + i * P.cellsOf e + j, none⟩ = some (F i j) ∧ VR rho0 W c (F i j) := by
            refine ⟨(List.range len).map fun i => if hi : i < len then (hall i hi).choose else .nils, fun i => if hi : i < len then (hall i hi).choose_spec.choose else fun _ => undef, by simp, fun i e' he => ?_⟩
            have hi : i < len := by have := (List.getElem?_eq_some_iff.1 he).1; simpa using this
            rw [List.getElem?_map, List.getElem?_range hi] at he
            simp only [Option.map_some, hi, dif_pos, Option.some.injEq] at he
            subst he
            simp only [hi, dif_pos]
            exact (hall i hi).choose_spec.choose_spec
          obtain ⟨es, F, hlen, hes⟩ := hch
          subst hlen
          refine one1 (.sl false (P.cellsOf e) es a cap F hlc (fun h => by cases h) (fun hne => ?_) (fun e' he => ?_) (fun i e' j c hi hj => ((hes i e' hi).2.2.2 j c hj).1) (fun i e' j c hi hj => ((hes i e' hi).2.2.2 j c hj).2)) rfl (by simp [AV.inb]) hp1
            (.inr ⟨es, rfl, Nat.le_trans hlc hcm, fun e' he => ?_⟩)
          · cases es with
            | nil => exact absurd rfl hne
            | cons e' es => have := (hes 0 e' rfl).2.2.1; exact ⟨this.1, this.2, free0 _⟩
          · obtain ⟨i, hi, rfl⟩ := List.getElem_of_mem he
            exact (hes i _ (List.getElem?_eq_getElem hi)).1
          · obtain ⟨i, hi, rfl⟩ := List.getElem_of_mem he
            have := hes i _ (List.getElem?_eq_getElem hi)
            exact ⟨this.1, this.2.1⟩
      | struct fs =>
        simp only [Bool.and_eq_true] at hp
        unfold DataW.trod at h
        rw [hu] at h
        simp only at h
        split at h
        · rename_i hl
          obtain ⟨xs, hxs, _⟩ := Option.map_eq_some_iff.1 h
          obtain ⟨as, b1, b2, b3, b4, b5⟩ := fields_read ih cs fs.toList 0 xs (by rw [hl]; exact hp.1) hp.2 hxs
          refine ⟨as, by simpa using b1, ?_, b3, b4, by omega⟩
          unfold hasCs
          rw [hu]
          exact b2
        · cases h
      | array k e =>
        simp only [Bool.and_eq_true, beq_iff_eq, decide_eq_true_eq] at hp
        obtain ⟨⟨hp1, hp2⟩, hp3⟩ := hp
        unfold DataW.trod at h
        rw [hu] at h
        simp only at h
        split at h
        · rename_i hl
          obtain ⟨xs, hxs, _⟩ := Option.map_eq_some_iff.1 h
          obtain ⟨as, b1, b2, b3, b4, b5⟩ := array_read (fun cs x hx => ih _ _ _ hp3 hx) cs hxs (by rw [hl, hp1]) k 0 (by omega)
          refine ⟨as, by simpa using b1, ?_, b3, b4, by omega⟩
          unfold hasCs
          rw [hu]
          exact b2
        · cases h
      | _ => cases hp

theorem cell_not_agg {w : World} {r : Reach} {t : TypeId} {cs : Array Value} (h : Cell.okWide P w r base t (.agg cs)) (hp : ∃ D, P.underlying t = some D ∧ (D = .bool ∨ (∃ k, D = .int k) ∨ D = .string ∨ (∃ e, D = .pointer e) ∨ ∃ e, D = .slice e)) : False := by
  obtain ⟨D, hu, hD⟩ := hp
  unfold Cell.okWide at h
  rw [hu] at h
  rcases hD with rfl | ⟨k, rfl⟩ | rfl | ⟨e, rfl⟩ | ⟨e, rfl⟩ <;> simp [Cell.ok, hu] at h

/-- An argument. -/
theorem arg_reads {n : Nat} {t : TypeId} {v : Value} {d : DataW H} {ps : List MemPlace} {r : Reach} {b : Nat} (hp : plainT P n t = true) (hok : Value.okWide P W r b t v) (h : DataW.Trod enc P W base spare held t v d ps) : ∃ c, VR rho0 W c v ∧ hasT P n t c := by
  obtain ⟨fuel, h⟩ := h
  obtain ⟨as, v1, v2, v3, v4, v5⟩ := trod_reads n fuel t _ _ hp h
  unfold Value.okWide at hok
  cases n with
  | zero => cases hp
  | succ n =>
    by_cases ha : isAggT P t = true
    · refine ⟨.agg as, ?_, as, by simp [elemOf, ha], v2⟩
      have : ∃ cs, v = .agg cs := by
        unfold isAggT at ha
        cases hu : P.underlying t with
        | none => rw [hu] at ha; cases ha
        | some D =>
          rw [hu] at ha hok
          cases D <;> first | (cases ha; done) | (obtain ⟨cs, h1, _⟩ := hok; exact ⟨cs, h1⟩)
      obtain ⟨cs, rfl⟩ := this
      exact .agg as cs (by simpa [Value.cells] using v1.1) (fun i c u hc hu => v1.2 i c u hc (by simpa [Value.cells] using hu))
    · have hna : ∃ D, P.underlying t = some D ∧ (D = .bool ∨ (∃ k, D = .int k) ∨ D = .string ∨ (∃ e, D = .pointer e) ∨ ∃ e, D = .slice e) := by
        unfold isAggT at ha
        unfold plainT at hp
        cases hu : P.underlying t with
        | none => rw [hu] at hp; cases hp
        | some D =>
          rw [hu] at ha hp
          cases D <;> first | (cases hp; done) | (exfalso; exact ha rfl) | exact ⟨_, rfl, by simp⟩
      have hcell : Cell.okWide P W r b t v := by
        obtain ⟨D, hu, hD⟩ := hna
        rw [hu] at hok
        rcases hD with rfl | ⟨k, rfl⟩ | rfl | ⟨e, rfl⟩ | ⟨e, rfl⟩ <;> exact hok
      have hv : v.cells.toList = [v] := by
        cases v with
        | agg cs => exact (cell_not_agg hcell hna).elim
        | _ => rfl
      rw [hv] at v1
      obtain ⟨a, rfl⟩ : ∃ a, as = [a] := List.length_eq_one_iff.1 (by have := v1.1; simpa using this)
      exact ⟨a, v1.2 0 a v rfl rfl, [a], by simp [elemOf, ha], v2⟩
end
end Go.Abs
