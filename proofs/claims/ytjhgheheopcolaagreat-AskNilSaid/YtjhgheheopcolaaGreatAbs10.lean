/- Operations that only make a value, held against the model's own: elements, slices, maps. -/
import Derived.Test.YtjhgheheopcolaaGreatAbs9
set_option linter.unusedVariables false
set_option linter.unusedSimpArgs false
namespace Go.Abs
section
variable {P : Program} {ρ : Rho} {w : World} {σ : AS}

/-- Elements in memory. -/
def ElemsAt (ρ : Rho) (w : World) (b o sz : Nat) (es : List AV) : Prop :=
  ∃ f : Nat → Value, ∀ (i : Nat) (e : AV) (j : Nat) (c : AV), es[i]? = some e → e.cells[j]? = some c → w.cell? ⟨b, o + (i * sz + j), none⟩ = some (f (i * sz + j)) ∧ VR ρ w c (f (i * sz + j))
/-- Elements in an array. -/
def RowAt (ρ : Rho) (w : World) (sz : Nat) (es : List AV) (vs : Array Value) : Prop :=
  vs.size = es.length * sz ∧ ∀ (i : Nat) (e : AV) (j : Nat) (c : AV) (u : Value), es[i]? = some e → e.cells[j]? = some c → vs[i * sz + j]? = some u → VR ρ w c u

theorem divmod {i j sz : Nat} (h : j < sz) : (i * sz + j) / sz = i ∧ (i * sz + j) % sz = j := by
  have h0 : 0 < sz := by omega
  constructor
  · rw [Nat.mul_comm, Nat.mul_add_div h0, Nat.div_eq_of_lt h]; omega
  · rw [Nat.mul_comm, Nat.mul_add_mod, Nat.mod_eq_of_lt h]

theorem elemsAt_of {b o sz : Nat} {es : List AV} {f : Nat → Nat → Value} (hok : ∀ e ∈ es, okE sz e = true)
    (h1 : ∀ (i : Nat) (e : AV) (j : Nat) (c : AV), es[i]? = some e → e.cells[j]? = some c → w.cell? ⟨b, o + i * sz + j, none⟩ = some (f i j))
    (h2 : ∀ (i : Nat) (e : AV) (j : Nat) (c : AV), es[i]? = some e → e.cells[j]? = some c → VR ρ w c (f i j)) : ElemsAt ρ w b o sz es := by
  refine ⟨fun m => f (m / sz) (m % sz), fun i e j c hi hj => ?_⟩
  have hl : j < sz := by rw [← okE_len (hok e (getElem?_mem' hi))]; exact (List.getElem?_eq_some_iff.1 hj).1
  obtain ⟨d1, d2⟩ := divmod (i := i) hl
  simp only [d1, d2, ← Nat.add_assoc]
  exact ⟨h1 i e j c hi hj, h2 i e j c hi hj⟩

theorem ElemsAt.load {b o sz : Nat} {es : List AV} (h : ElemsAt ρ w b o sz es) (hok : ∀ e ∈ es, okE sz e = true) (h0 : 0 < sz) (k : Nat) (hk : k ≤ es.length) :
    ∃ vs, (loadCells ⟨b, o, none⟩ (k * sz)).run P w = .ok vs w ∧ RowAt ρ w sz (es.take k) vs := by
  obtain ⟨f, hf⟩ := h
  have hlen : ((List.range (k * sz)).map f).length = k * sz := by simp
  have := run_loadCells_list (P := P) w ⟨b, o, none⟩ ((List.range (k * sz)).map f) (fun m v hm => by
    rw [add_mk]
    simp only [List.getElem?_map] at hm
    rcases Nat.lt_or_ge m (k * sz) with hl | hl
    · rw [List.getElem?_range hl] at hm
      simp only [Option.map_some, Option.some.injEq] at hm
      rw [← hm]
      have e1 : m / sz * sz + m % sz = m := by rw [Nat.mul_comm]; exact Nat.div_add_mod m sz
      have hi : m / sz < es.length := Nat.lt_of_lt_of_le ((Nat.div_lt_iff_lt_mul h0).2 hl) hk
      have hj : m % sz < (es[m / sz]).cells.length := by rw [okE_len (hok _ (List.getElem_mem hi))]; exact Nat.mod_lt _ h0
      have := (hf (m / sz) es[m / sz] (m % sz) _ (List.getElem?_eq_getElem hi) (List.getElem?_eq_getElem hj)).1
      rwa [e1] at this
    · rw [List.getElem?_eq_none (by simpa using hl)] at hm; cases hm)
  rw [hlen] at this
  refine ⟨_, this, by simp; rw [Nat.min_eq_left hk], fun i e j c u hi hj hu => ?_⟩
  rw [List.getElem?_take] at hi
  split at hi
  · rename_i hik
    have hl := rowEnd (sz := sz) hi hj (okE_len (hok e (getElem?_mem' hi)))
    have hjs : j < sz := by rw [← okE_len (hok e (getElem?_mem' hi))]; exact (List.getElem?_eq_some_iff.1 hj).1
    have hl : i * sz + j < k * sz := by
      have : (i + 1) * sz ≤ k * sz := Nat.mul_le_mul_right _ hik
      rw [Nat.add_mul] at this; omega
    simp only [List.getElem?_toArray, List.getElem?_map, List.getElem?_range hl, Option.map_some, Option.some.injEq] at hu
    rw [← hu]
    exact (hf i e j c hi hj).2
  · cases hi

theorem ElemsAt.sub {b o sz : Nat} {es : List AV} (h : ElemsAt ρ w b o sz es) (k n : Nat) : ElemsAt ρ w b (o + k * sz) sz ((es.drop k).take n) := by
  obtain ⟨f, hf⟩ := h
  refine ⟨fun m => f (k * sz + m), fun i e j c hi hj => ?_⟩
  rw [List.getElem?_take] at hi
  split at hi
  · rw [List.getElem?_drop] at hi
    have := hf (k + i) e j c hi hj
    have e1 : k * sz + (i * sz + j) = (k + i) * sz + j := by rw [Nat.add_mul]; omega
    simp only [Nat.add_assoc, e1]
    exact this
  · cases hi

/-- A row of the interpreter. -/
theorem elemsAt_row (s : SRo ρ σ w) {L : Loc} {es : List AV} {sz v : Nat} {fro : Bool} (h : σ.get L = some (.row es sz v fro)) :
    ∃ p, ρ L = some p ∧ p.row = true ∧ p.ver = v ∧ p.sz = sz ∧ 0 < sz ∧ es.length ≤ p.cap ∧ (∀ e ∈ es, okE sz e = true) ∧ ElemsAt ρ w p.b p.o sz es := by
  obtain ⟨p, hp, hr, hv, hsz, hpos, hlive, hcap, hok, hfr, vs, E, fz, hw, hle, hfz, hval⟩ := s.obj L _ h
  refine ⟨p, hp, hr, hv, hsz, hpos, hcap, hok, fun m => vs.getD (p.o + m) undef, fun i e j c he hc => ?_⟩
  have h1 := rowEnd he hc (okE_len (hok e (getElem?_mem' he)))
  have h2 : es.length * sz ≤ p.cap * sz := Nat.mul_le_mul_right _ hcap
  have hj : p.o + i * sz + j < vs.size := by omega
  have h3 : vs[p.o + i * sz + j]? = some vs[p.o + i * sz + j] := Array.getElem?_eq_getElem hj
  simp only [World.cell?, hw, Option.isSome_none, Bool.false_eq_true, if_false, Array.getD_eq_getD_getElem?, ← Nat.add_assoc, h3, Option.getD_some]
  exact ⟨trivial, hval i e j c _ he hc h3⟩

/-- What a slice, or a string, holds. -/
theorem elemsA_sound (s : SRo ρ σ w) {x : AV} {u : Value} {sz : Nat} {es : List AV} (hx : VR ρ w x u) (h : elemsA σ sz x = some es) (h0 : 0 < sz) :
    (Builtin.lenOf u).run P w = .ok es.length w ∧ (∀ e ∈ es, okE sz e = true) ∧ ∀ k, k ≤ es.length → ∃ vs, (Builtin.firstCells sz k u).run P w = .ok vs w ∧ RowAt ρ w sz (es.take k) vs := by
  unfold elemsA at h
  split at h
  · cases h
    cases hx
    refine ⟨rfl, by simp, fun k hk => ⟨#[], rfl, by simp, fun i e j c u hi => by simp at hi⟩⟩
  · split at h
    · rename_i full sz' es' e
      subst e
      cases h
      cases hx with
      | sl _ _ _ a cap f hc hfull hp hok h1 h2 =>
        refine ⟨rfl, hok, fun k hk => ?_⟩
        by_cases hne : es = []
        · subst hne
          have : k = 0 := by simpa using hk
          subst this
          exact ⟨#[], by simp [Builtin.firstCells, loadCells, loadCellsFrom], by simp, fun i e j c u hi => by simp at hi⟩
        · obtain ⟨p1, p2, p3⟩ := hp hne
          have he := elemsAt_of (ρ := ρ) hok h1 h2
          obtain ⟨b, o, sp⟩ := a
          simp only at p1 he
          subst p1
          exact he.load hok h0 k hk
    · cases h
  · rename_i L v off len
    split at h
    · rename_i es' sz' v' fro hg
      split at h
      · rename_i hc
        obtain ⟨rfl, rfl, hle⟩ := hc
        cases h
        obtain ⟨p, hp, hr, hv, hsz, hpos, hcap, hok, hE⟩ := elemsAt_row s hg
        cases hx with
        | row _ _ _ _ p' a cap h' hr' hv' hl ha =>
          have : p' = p := Option.some.inj (h'.symm.trans hp)
          subst this
          obtain ⟨c1, c2⟩ := ha hv
          have hlen : ((es'.drop off).take len).length = len := by simp; omega
          have hok' : ∀ e ∈ (es'.drop off).take len, okE sz' e = true := fun e he => hok e (List.mem_of_mem_drop (List.mem_of_mem_take he))
          refine ⟨by rw [hlen]; rfl, hok', fun k hk => ?_⟩
          rw [hlen] at hk
          by_cases hk0 : k = 0
          · subst hk0
            exact ⟨#[], by simp [Builtin.firstCells, loadCells, loadCellsFrom], by simp, fun i e j c u hi => by simp at hi⟩
          · have := c2 (by omega)
            subst this
            rw [hsz]
            exact (hE.sub off len).load hok' h0 k (by rw [hlen]; exact hk)
      · cases h
    · cases h
  · split at h
    · rename_i s' hsz
      cases h
      cases hx
      subst hsz
      have hlen : (s'.data.toList.map fun b => (.int .u8 b.toNat : AV)).length = s'.size := by simp
      refine ⟨by rw [hlen]; rfl, fun e he => ?_, fun k hk => ?_⟩
      · obtain ⟨b, _, rfl⟩ := List.mem_map.1 he
        simp [okE, AV.cells, AV.one, AVs.inb, AV.inb]
      · rw [hlen] at hk
        refine ⟨_, rfl, ?_, fun i e j c u hi hj hu => ?_⟩
        · simp
        · rw [List.getElem?_take] at hi
          split at hi
          · rename_i hik
            rw [List.getElem?_map] at hi
            cases hb : s'.data.toList[i]? with
            | none => simp [hb] at hi
            | some b =>
              simp only [hb, Option.map_some, Option.some.injEq] at hi
              subst hi
              cases j with
              | zero =>
                simp only [AV.cells, List.getElem?_cons_zero, Option.some.injEq] at hj
                subst hj
                simp only [Nat.mul_one, Nat.add_zero, Array.getElem?_map] at hu
                have hi2 : i < s'.size := by have := (List.getElem?_eq_some_iff.1 hb).1; simpa using this
                have : (s'.extract 0 k).data[i]? = some b := by
                  rw [ByteArray.data_extract, Array.getElem?_extract]
                  have hz : i < min k s'.data.size - 0 := by
                    have : s'.data.size = s'.size := rfl
                    omega
                  simp only [Nat.zero_add]
                  rw [if_pos hz]
                  simpa using hb
                rw [this] at hu
                simp only [Option.map_some, Option.some.injEq] at hu
                subst hu
                exact .int _ _
              | succ j => simp [AV.cells] at hj
          · cases hi
    · cases h
  · cases h
end
end Go.Abs
