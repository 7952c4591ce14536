/- Operations that only make a value, held against the model's own. -/
import Derived.Test.YtjhgheheopcolaaGreatAbs5
import Derived.Laws.IdiomCopy
set_option linter.unusedVariables false
set_option linter.unusedSimpArgs false
namespace Go.Abs

/-- A frame's temporaries. -/
structure ER (ρ : Rho) (w : World) (env : Env) (tmps : Array Value) : Prop where
  len : env.length = tmps.size
  val : ∀ (t : Nat) (c : AV) (v : Value), env[t]? = some c → tmps[t]? = some v → VR ρ w c v

theorem ER.get {ρ : Rho} {w : World} {env : Env} {tmps : Array Value} (h : ER ρ w env tmps) (t : Nat) : VR ρ w (env.get t) (tmps.getD t undef) := by
  rcases Nat.lt_or_ge t env.length with hl | hl
  · have h1 : env[t]? = some env[t] := List.getElem?_eq_getElem hl
    have h2 : tmps[t]? = some (tmps[t]'(by rw [← h.len]; exact hl)) := Array.getElem?_eq_getElem _
    have := h.val t _ _ h1 h2
    simpa [Env.get, List.getD, h1, Array.getD_eq_getD_getElem?, h2] using this
  · have h1 : env[t]? = none := List.getElem?_eq_none hl
    have h2 : tmps[t]? = none := Array.getElem?_eq_none (by rw [← h.len]; exact hl)
    simp only [Env.get, List.getD, h1, Array.getD_eq_getD_getElem?, h2, Option.getD_none]
    exact .tup [] #[] rfl (fun i c v hc => by simp at hc)

theorem ER.mono {ρ : Rho} {w : World} {ρ' : Rho} {w' : World} (x : Ext ρ w ρ' w') {env : Env} {tmps : Array Value} (h : ER ρ w env tmps) : ER ρ' w' env tmps :=
  ⟨h.len, fun t c v hc hv => (h.val t c v hc hv).mono x⟩

theorem ER.put {ρ : Rho} {w : World} {env : Env} {a : Act} (h : ER ρ w env a.tmps) {dst : Option Tmp} {c : AV} {v : Value} (hv : VR ρ w c v) : ER ρ w (putE env dst c) (a.put dst v).tmps := by
  cases dst with
  | none => exact h
  | some d =>
    refine ⟨by simp [putE, Act.put, h.len], fun t c' v' hc hv' => ?_⟩
    simp only [putE, Act.put] at hc hv'
    by_cases e : d = t
    · subst e
      rw [List.getElem?_set] at hc
      rw [Array.getElem?_setIfInBounds] at hv'
      simp only [if_true] at hc hv'
      split at hc
      · split at hv'
        · cases hc; cases hv'; exact hv
        · cases hv'
      · cases hc
    · rw [List.getElem?_set_ne e] at hc
      rw [Array.getElem?_setIfInBounds_ne e] at hv'
      exact h.val t c' v' hc hv'

section
variable {P : Program} {ρ : Rho} {w : World} {σ : AS}

theorem ofCell_sound {v : Value} {c : AV} (h : ofCell v = some c) : VR ρ w c v := by
  unfold ofCell at h
  split at h <;> (first | (cases h; first | exact .bool _ | exact .int _ _ | exact .str _ | exact .nilp | exact .nils | exact .nilm | exact .nilf | exact .nili) | cases h)

theorem ofCells_sound : ∀ (vs : List Value) (cs : List AV), ofCells vs = some cs → VRs ρ w cs vs
  | [], cs, h => by
    simp only [ofCells, Option.some.injEq] at h
    subst h
    exact ⟨rfl, fun i c v hc => by simp at hc⟩
  | v :: vs, cs, h => by
    simp only [ofCells] at h
    split at h
    · rename_i a as h1 h2
      cases h
      obtain ⟨l, ih⟩ := ofCells_sound vs as h2
      refine ⟨by simp [l], fun i c u hc hu => ?_⟩
      cases i with
      | zero => simp at hc hu; subst hc; subst hu; exact ofCell_sound h1
      | succ i => simp at hc hu; exact ih i c u hc hu
    · cases h

theorem ofV_sound {v : Value} {c : AV} (h : ofV v = some c) : VR ρ w c v := by
  unfold ofV at h
  split at h
  · rename_i cs
    cases hc : ofCells cs.toList with
    | none => simp [hc] at h
    | some l =>
      simp only [hc, Option.map_some, Option.some.injEq] at h
      subst h
      obtain ⟨l1, l2⟩ := ofCells_sound (ρ := ρ) (w := w) _ _ hc
      exact .agg l cs (by simpa using l1) (fun i c v h1 h2 => l2 i c v h1 (by simpa using h2))
  · rename_i vs
    split at h
    · rename_i h0
      cases h
      have : vs = #[] := by simpa using h0
      subst this
      exact .tup [] #[] rfl (fun i c v hc => by simp at hc)
    · cases h
  · exact ofCell_sound h

theorem ev_sound {env : Env} {a : Act} (h : ER ρ w env a.tmps) {x : Operand} {c : AV} (hx : ev env x = some c) : VR ρ w c (a.eval x) := by
  cases x with
  | tmp t => simp only [ev, Option.some.injEq] at hx; subst hx; exact h.get t
  | const v => exact ofV_sound hx
  | func f =>
    simp only [ev, Option.some.injEq] at hx; subst hx
    exact .fn _ [] [] #[] #[] rfl rfl (fun i c v hc => by simp at hc) (fun i c v hc => by simp at hc)
  | global g => simp [ev] at hx

theorem evs_sound {env : Env} {a : Act} (h : ER ρ w env a.tmps) : ∀ {xs : List Operand} {cs : List AV}, evs env xs = some cs → VRs ρ w cs (xs.map a.eval)
  | [], cs, hx => by simp only [evs, Option.some.injEq] at hx; subst hx; exact ⟨rfl, fun i c v hc => by simp at hc⟩
  | x :: xs, cs, hx => by
    simp only [evs] at hx
    split at hx
    · rename_i v vs h1 h2
      cases hx
      obtain ⟨l, ih⟩ := evs_sound h h2
      refine ⟨by simpa using l, fun i c u hc hu => ?_⟩
      cases i with
      | zero => simp at hc hu; subst hc; subst hu; exact ev_sound h h1
      | succ i => simp only [List.getElem?_cons_succ, List.map_cons] at hc hu; exact ih i c u hc hu
    · cases hx

theorem evps_sound {env : Env} {a : Act} (h : ER ρ w env a.tmps) : ∀ {xs : List (Nat × Operand)} {cs : List (Nat × AV)}, evps env xs = some cs →
    cs.map (·.1) = xs.map (·.1) ∧ VRs ρ w (cs.map (·.2)) (xs.map fun p => a.eval p.2)
  | [], cs, hx => by simp only [evps, Option.some.injEq] at hx; subst hx; exact ⟨rfl, rfl, fun i c v hc => by simp at hc⟩
  | (i, x) :: xs, cs, hx => by
    simp only [evps] at hx
    split at hx
    · rename_i v vs h1 h2
      cases hx
      obtain ⟨l0, l, ih⟩ := evps_sound h h2
      refine ⟨by simp [l0], by simpa using l, fun i c u hc hu => ?_⟩
      cases i with
      | zero => simp at hc hu; subst hc; subst hu; exact ev_sound h h1
      | succ i => simp only [List.getElem?_cons_succ, List.map_cons] at hc hu; exact ih i c u hc hu
    · cases hx

/-! ### Types -/
theorem run_und {t : TypeId} {d : TypeDesc} (h : P.underlying t = some d) (w : World) : (underlying t).run P w = .ok d w := run_underlying h w
theorem run_sizeA {t : TypeId} {n : Nat} (h : sizeA P t = some n) (w : World) : (sizeOf t).run P w = .ok n w := by
  unfold sizeA at h
  cases hi : P.info? t with
  | none => simp [hi] at h
  | some i => simp only [hi, Option.map_some, Option.some.injEq] at h; subst h; simp [sizeOf, typeInfo, hi]
theorem run_bytesA {t : TypeId} {n : Nat} (h : bytesA P t = some n) (w : World) : ∃ i, (typeInfo t).run P w = .ok i w ∧ i.bytes = n := by
  unfold bytesA at h
  cases hi : P.info? t with
  | none => simp [hi] at h
  | some i => simp only [hi, Option.map_some, Option.some.injEq] at h; exact ⟨i, by simp [typeInfo, hi], h⟩
theorem run_zeroA {t : TypeId} {c : AV} (h : zeroA P t = some c) (w : World) : ∃ v, (zeroValue t).run P w = .ok v w ∧ ofV v = some c := by
  unfold zeroA at h
  cases hi : P.info? t with
  | none => simp [hi] at h
  | some i =>
    cases hz : i.zero with
    | none => simp [hi, hz] at h
    | some v => simp [hi, hz] at h; exact ⟨v, by simp [zeroValue, typeInfo, hi, hz], h⟩
theorem run_aggA {t : TypeId} {b : Bool} (h : aggA P t = some b) (w : World) : (isAgg t).run P w = .ok b w := by
  unfold aggA at h
  cases hd : P.underlying t with
  | none => simp [hd] at h
  | some d =>
    simp only [hd, Option.map_some, Option.some.injEq] at h
    subst h
    unfold isAgg
    rw [Sem.run_bind, run_underlying hd w]
    cases d <;> simp [isAggD]

/-! ### Cells in a row, and in memory -/
theorem part_sound {t : TypeId} {cs : List AV} {vs : Array Value} (hl : cs.length = vs.size)
    (hv : ∀ (i : Nat) (c : AV) (v : Value), cs[i]? = some c → vs[i]? = some v → VR ρ w c v) {o : Nat} {c : AV} (h : partA P t cs o = some c) (w' : World) :
    ∃ u, (part t vs o).run P w' = .ok u w' ∧ VR ρ w c u := by
  unfold partA at h
  split at h
  · rename_i ha
    split at h
    · rename_i n hn
      split at h
      · rename_i hle
        cases h
        refine ⟨.agg (vs.extract o (o + n)), by simp [part, run_aggA ha, run_sizeA hn], .agg _ _ (by simp; omega) fun i c v hc hv' => ?_⟩
        rw [List.getElem?_take] at hc
        split at hc
        · rename_i hi
          rw [List.getElem?_drop] at hc
          rw [Array.getElem?_extract] at hv'
          split at hv'
          · exact hv _ _ _ hc hv'
          · cases hv'
        · cases hc
      · cases h
    · cases h
  · rename_i ha
    have hlt : o < cs.length := (List.getElem?_eq_some_iff.1 h).1
    have h2 : vs[o]? = some (vs[o]'(by omega)) := Array.getElem?_eq_getElem _
    exact ⟨_, by simp [part, run_aggA ha, h2], hv o c _ h h2⟩
  · cases h

def CellsAt (ρ : Rho) (w : World) (b o : Nat) (cs : List AV) : Prop :=
  ∃ f : Nat → Value, ∀ (j : Nat) (c : AV), cs[j]? = some c → w.cell? ⟨b, o + j, none⟩ = some (f j) ∧ VR ρ w c (f j)

theorem add_mk (b o n : Nat) : (⟨b, o, none⟩ : Addr).add n = ⟨b, o + n, none⟩ := by unfold Addr.add; split <;> simp_all

theorem loadCells_sound {b o : Nat} {cs : List AV} (h : CellsAt ρ w b o cs) : ∃ vs : Array Value, (loadCells ⟨b, o, none⟩ cs.length).run P w = .ok vs w ∧ cs.length = vs.size ∧
    ∀ (i : Nat) (c : AV) (v : Value), cs[i]? = some c → vs[i]? = some v → VR ρ w c v := by
  obtain ⟨f, hf⟩ := h
  have hlen : ((List.range cs.length).map f).length = cs.length := by simp
  have := run_loadCells_list (P := P) w ⟨b, o, none⟩ ((List.range cs.length).map f) (fun j v hj => by
    rw [add_mk]
    simp only [List.getElem?_map] at hj
    rcases Nat.lt_or_ge j cs.length with hl | hl
    · rw [List.getElem?_range hl] at hj
      simp only [Option.map_some, Option.some.injEq] at hj
      rw [← hj]
      exact (hf j _ (List.getElem?_eq_getElem hl)).1
    · rw [List.getElem?_eq_none (by simpa using hl)] at hj; cases hj)
  rw [hlen] at this
  refine ⟨_, this, by simp, fun i c v hc hv => ?_⟩
  have hl : i < cs.length := (List.getElem?_eq_some_iff.1 hc).1
  simp only [List.getElem?_toArray, List.getElem?_map, List.getElem?_range hl, Option.map_some, Option.some.injEq] at hv
  rw [← hv]
  exact (hf i c hc).2

theorem CellsAt.sub {b o : Nat} {cs : List AV} (h : CellsAt ρ w b o cs) (k n : Nat) : CellsAt ρ w b (o + k) ((cs.drop k).take n) := by
  obtain ⟨f, hf⟩ := h
  refine ⟨fun j => f (k + j), fun j c hc => ?_⟩
  rw [List.getElem?_take] at hc
  split at hc
  · rw [List.getElem?_drop] at hc
    rw [Nat.add_assoc]
    exact hf _ _ hc
  · cases hc

theorem loadVar_sound {b o k : Nat} {t : TypeId} {cs : List AV} {c : AV} (h : CellsAt ρ w b o cs) (hp : partA P t cs k = some c) :
    ∃ u, (loadVar t ⟨b, o + k, none⟩).run P w = .ok u w ∧ VR ρ w c u := by
  unfold partA at hp
  split at hp
  · rename_i ha
    split at hp
    · rename_i n hn
      split at hp
      · rename_i hle
        cases hp
        obtain ⟨vs, h1, h2, h3⟩ := loadCells_sound (P := P) (h.sub k n)
        have e : ((cs.drop k).take n).length = n := by simp; omega
        rw [e] at h1
        exact ⟨.agg vs, by simp [loadVar, run_aggA ha, run_sizeA hn, h1], .agg _ _ h2 h3⟩
      · cases hp
    · cases hp
  · rename_i ha
    obtain ⟨f, hf⟩ := h
    obtain ⟨h1, h2⟩ := hf k c hp
    exact ⟨f k, by simp [loadVar, run_aggA ha, h1], h2⟩
  · cases hp

/-- The cells of an object of the interpreter. -/
theorem cellsAt_obj (s : SRo ρ σ w) {L : Loc} {cs : List AV} (h : σ.get L = some (.cells cs)) : ∃ p, ρ L = some p ∧ p.row = false ∧ CellsAt ρ w p.b 0 cs := by
  obtain ⟨p, hp, _, hr, vs, E, hw, hl, hv⟩ := s.obj L _ h
  refine ⟨p, hp, hr, fun j => vs.getD j undef, fun j c hc => ?_⟩
  have hj : j < vs.size := by rw [← hl]; exact (List.getElem?_eq_some_iff.1 hc).1
  have h2 : vs[j]? = some vs[j] := Array.getElem?_eq_getElem hj
  simp only [Nat.zero_add, World.cell?, hw, Option.isSome_none, Bool.false_eq_true, if_false, Array.getD_eq_getD_getElem?, h2, Option.getD_some]
  exact ⟨trivial, hv j c _ hc h2⟩

theorem rowEnd {es : List AV} {i j sz : Nat} {e c : AV} (he : es[i]? = some e) (hc : e.cells[j]? = some c) (hs : e.cells.length = sz) : i * sz + j < es.length * sz := by
  have h1 : i < es.length := (List.getElem?_eq_some_iff.1 he).1
  have h2 : j < sz := by rw [← hs]; exact (List.getElem?_eq_some_iff.1 hc).1
  have h3 : (i + 1) * sz ≤ es.length * sz := Nat.mul_le_mul_right _ h1
  rw [Nat.add_mul] at h3
  omega

theorem cellsAt_row (s : SRo ρ σ w) {L : Loc} {es : List AV} {sz v : Nat} {fro : Bool} (h : σ.get L = some (.row es sz v fro)) {i : Nat} {e : AV} (he : es[i]? = some e) :
    ∃ p, ρ L = some p ∧ p.row = true ∧ p.ver = v ∧ p.sz = sz ∧ CellsAt ρ w p.b (p.o + i * sz) e.cells := by
  obtain ⟨p, hp, hr, hv, hsz, hpos, hlive, hcap, hok, hfr, vs, E, fz, hw, hle, hfz, hval⟩ := s.obj L _ h
  refine ⟨p, hp, hr, hv, hsz, fun j => vs.getD (p.o + i * sz + j) undef, fun j c hc => ?_⟩
  have h1 := rowEnd he hc (okE_len (hok e (getElem?_mem' he)))
  have h2 : es.length * sz ≤ p.cap * sz := Nat.mul_le_mul_right _ hcap
  have hj : p.o + i * sz + j < vs.size := by omega
  have h3 : vs[p.o + i * sz + j]? = some vs[p.o + i * sz + j] := Array.getElem?_eq_getElem hj
  simp only [World.cell?, hw, Option.isSome_none, Bool.false_eq_true, if_false, Array.getD_eq_getD_getElem?, h3, Option.getD_some]
  exact ⟨trivial, hval i e j c _ he hc h3⟩

theorem loadA_sound (s : SRo ρ σ w) {t : TypeId} {x c : AV} {v : Value} (hx : VR ρ w x v) (h : loadA P σ t x = some c) :
    ∃ u, (Instr.loadAt t v).run P w = .ok u w ∧ VR ρ w c u := by
  unfold loadA at h
  split at h
  · rename_i L o
    split at h
    · rename_i cs hg
      obtain ⟨p, hp, hr, hc⟩ := cellsAt_obj s hg
      cases hx with
      | ptr L o p' h' hr' =>
        have : p' = p := Option.some.inj (h'.symm.trans hp)
        subst this
        obtain ⟨u, h1, h2⟩ := loadVar_sound (P := P) hc h
        rw [Nat.zero_add] at h1
        exact ⟨u, by simp [Instr.loadAt, Instr.sureAddr, h1], h2⟩
    · cases h
  · rename_i cs o
    cases hx with
    | rptr cs o b o0 f hb hf h1 h2 h3 =>
      obtain ⟨u, g1, g2⟩ := loadVar_sound (P := P) (ρ := ρ) (w := w) (b := b) (o := o0) ⟨f, fun j c hc => ⟨h1 j c hc, h2 j c hc⟩⟩ h
      exact ⟨u, by simp [Instr.loadAt, Instr.sureAddr, g1], g2⟩
  · rename_i L v i o
    split at h
    · rename_i es sz v' fro hg
      split at h
      · rename_i hvv
        subst hvv
        split at h
        · rename_i e he
          obtain ⟨p, hp, hr, hv, hsz, hc⟩ := cellsAt_row s hg he
          cases hx with
          | eptr L v i o p' a h' hr' hv' ha =>
            have : p' = p := Option.some.inj (h'.symm.trans hp)
            subst this
            have := ha hv
            subst this
            obtain ⟨u, g1, g2⟩ := loadVar_sound (P := P) hc h
            rw [hsz]
            exact ⟨u, by simp [Instr.loadAt, Instr.sureAddr, g1], g2⟩
        · cases h
      · cases h
    · cases h
  · cases h
end
end Go.Abs
