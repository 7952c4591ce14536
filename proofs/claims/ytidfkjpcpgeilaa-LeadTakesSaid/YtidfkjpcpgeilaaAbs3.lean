/- Part 3 of the abstract interpreter: its operations and what they say of a world, for any program and any world. -/
import Derived.Test.YtidfkjpcpgeilaaAbs2
set_option linter.unusedVariables false
set_option linter.unusedSimpArgs false
section
namespace Go.Abs
section
variable {P : Program} {ρ : Rho} {w : World} {σ : AS}
theorem VR.cells {a : AV} {u : Value} (h : VR ρ w a u) : VRs ρ w a.cells u.cells.toList := by
  have one : ∀ (x : AV) (y : Value), VR ρ w x y → VRs ρ w [x] [y] := fun x y hxy => ⟨rfl, fun i c v hc hv => by
    cases i with
    | zero => simp at hc hv; subst hc; subst hv; exact hxy
    | succ i => simp at hc⟩
  have h' := h
  cases h with
  | agg cs vs l hv => exact ⟨by simpa [AV.cells, Value.cells] using l, fun i c v hc hv' => hv i c v (by simpa [AV.cells] using hc) (by simpa [Value.cells] using hv')⟩
  | _ => exact one _ _ h'
theorem lay_length {l : List AV} {o : Nat} {xs : List AV} (h : o + xs.length ≤ l.length) : (lay l o xs).length = l.length := by
  unfold lay; simp; omega
theorem lay_get {l : List AV} {o : Nat} {xs : List AV} (h : o + xs.length ≤ l.length) (i : Nat) : (lay l o xs)[i]? = if o ≤ i ∧ i < o + xs.length then xs[i - o]? else l[i]? := by
  unfold lay
  have hlen : (List.take o l ++ xs).length = o + xs.length := by simp; omega
  rcases Nat.lt_or_ge i (o + xs.length) with h1 | h1
  · rw [List.getElem?_append_left (by omega)]
    rcases Nat.lt_or_ge i o with h2 | h2
    · rw [List.getElem?_append_left (by simp; omega), if_neg (by omega), List.getElem?_take, if_pos h2]
    · rw [List.getElem?_append_right (by simp; omega), if_pos ⟨h2, h1⟩]
      congr 1
      simp; omega
  · rw [List.getElem?_append_right (by omega), if_neg (by omega), List.getElem?_drop]
    congr 1
    omega
theorem foldl_lay (off : Nat) : ∀ (xs : List Value) (k : Nat) (cs : Array Value), let r := (xs.zipIdx k).foldl (fun cs (p : Value × Nat) => cs.setIfInBounds (off + p.2) p.1) cs
    r.size = cs.size ∧ ∀ i, i < cs.size → r[i]? = if off + k ≤ i ∧ i < off + k + xs.length then xs[i - (off + k)]? else cs[i]?
  | [], k, cs => by simp; intro i h1 h2 h3; omega
  | x :: xs, k, cs => by
    have ih := foldl_lay off xs (k + 1) (cs.setIfInBounds (off + k) x)
    simp only [List.zipIdx_cons, List.foldl_cons] at ih ⊢
    refine ⟨ih.1.trans (by simp), fun i hi => ?_⟩
    rw [ih.2 i (by simpa using hi)]
    by_cases h1 : off + k ≤ i ∧ i < off + k + (x :: xs).length
    · rw [if_pos h1]
      by_cases h2 : i = off + k
      · subst h2
        rw [if_neg (by omega)]
        simp [hi]
      · rw [if_pos (by simp at h1; omega)]
        have : i - (off + k) = (i - (off + (k + 1))) + 1 := by omega
        rw [this]; simp
    · rw [if_neg h1, if_neg (by simp at h1; omega), Array.getElem?_setIfInBounds_ne (by simp at h1; omega)]
theorem fill_sound {place : Nat → Option (Nat × Nat)} {place' : Nat → Option (Nat × Nat)} (hp : ∀ i, place' i = place i) : ∀ (ps : List (Nat × AV)) (us : List (Nat × Value)) (cs : List AV) (vs : Array Value) (cs' : List AV),
    ps.map (·.1) = us.map (·.1) → VRs ρ w (ps.map (·.2)) (us.map (·.2)) → VRs ρ w cs vs.toList → fillA place ps cs = some cs' →
    ∃ vs', Instr.fill place' vs us = some vs' ∧ VRs ρ w cs' vs'.toList
  | [], us, cs, vs, cs', h1, h2, h3, h => by
    have : us = [] := by simpa using h1.symm
    subst this
    simp only [fillA, Option.some.injEq] at h
    subst h
    exact ⟨vs, rfl, h3⟩
  | (i, x) :: ps, [], cs, vs, cs', h1, h2, h3, h => by simp at h1
  | (i, x) :: ps, (j, u) :: us, cs, vs, cs', h1, h2, h3, h => by
    simp only [List.map_cons, List.cons.injEq] at h1
    obtain ⟨rfl, h1⟩ := h1
    have hxu : VR ρ w x u := h2.2 0 x u (by simp) (by simp)
    have h2' : VRs ρ w (ps.map (·.2)) (us.map (·.2)) := ⟨by simpa using h2.1, fun i c v hc hv => h2.2 (i + 1) c v (by simpa using hc) (by simpa using hv)⟩
    simp only [fillA] at h
    split at h
    · rename_i off n hpl
      split at h
      · rename_i hle
        have hc := hxu.cells
        have hl3 : cs.length = vs.size := by simpa using h3.1
        have hcl : x.cells.length = u.cells.size := by simpa using hc.1
        have hf := foldl_lay off u.cells.toList 0 vs
        simp only [Nat.add_zero] at hf
        have e : (u.cells.zipIdx.foldl (fun cs (x : Value × Nat) => cs.setIfInBounds (off + x.2) x.1) vs) = (u.cells.toList.zipIdx 0).foldl (fun cs (p : Value × Nat) => cs.setIfInBounds (off + p.2) p.1) vs := by
          rw [← Array.foldl_toList, Array.toList_zipIdx]
        obtain ⟨vs', g1, g2⟩ := fill_sound hp ps us (lay cs off x.cells) ((u.cells.toList.zipIdx 0).foldl (fun cs (p : Value × Nat) => cs.setIfInBounds (off + p.2) p.1) vs) cs' h1 h2'
          ⟨by rw [lay_length (by omega)]; simpa [hf.1] using h3.1, fun k c v hck hvk => by
            rw [lay_get (by omega)] at hck
            rw [Array.getElem?_toList] at hvk
            have hk : k < vs.size := by rw [← hf.1]; exact (Array.getElem?_eq_some_iff.1 hvk).1
            rw [hf.2 k hk] at hvk
            simp only [Array.length_toList] at hvk
            by_cases hin : off ≤ k ∧ k < off + u.cells.size
            · rw [if_pos (by omega)] at hck; rw [if_pos hin] at hvk; exact hc.2 _ _ _ hck hvk
            · rw [if_neg (by omega)] at hck; rw [if_neg hin] at hvk; exact h3.2 _ _ _ hck (by simpa using hvk)⟩ h
        refine ⟨vs', ?_, g2⟩
        rw [Instr.fill, hp, hpl]
        simp only
        rw [if_neg (by simp; omega)]
        rw [e]
        exact g1
      · cases h
    · cases h
theorem mapM_places : ∀ (fs : List Field) (pl : List (Nat × Nat)), placesA P fs = some pl → ∀ w, (fs.mapM (m := Sem) fun f => do pure (f.offset, ← sizeOf f.type)).run P w = .ok pl w
  | [], pl, h, w => by simp only [placesA, Option.some.injEq] at h; subst h; rfl
  | f :: fs, pl, h, w => by
    simp only [placesA] at h
    split at h
    · rename_i n ps h1 h2
      cases h
      simp only [List.mapM_cons, Sem.run_bind, run_sizeA h1, Result.andThen_ok, Sem.run_pure, mapM_places fs ps h2]
    · cases h
theorem buildA_sound {t : TypeId} {ps : List (Nat × AV)} {us : List (Nat × Value)} {c : AV} (h1 : ps.map (·.1) = us.map (·.1)) (h2 : VRs ρ w (ps.map (·.2)) (us.map (·.2)))
    (h : buildA P t ps = some c) : ∃ u, (Instr.build t us.toArray).run P w = .ok u w ∧ VR ρ w c u := by
  unfold buildA at h
  split at h
  · rename_i z fs hz ht
    obtain ⟨zv, z1, z2⟩ := run_zeroA hz w
    have hzc := (ofV_sound (ρ := ρ) (w := w) z2).cells
    split at h
    · rename_i pl hpl
      cases hf : fillA (fun i => pl[i]?) ps z.cells with
      | none => simp [hf] at h
      | some cs' =>
        simp only [hf, Option.map_some, Option.some.injEq] at h
        subst h
        obtain ⟨vs', g1, g2⟩ := fill_sound (place := fun i => pl[i]?) (place' := fun i => pl.toArray[i]?) (fun i => by simp) ps us z.cells zv.cells cs' h1 h2 hzc hf
        have hm := mapM_places fs.toList pl hpl w
        have hm' : (fs.mapM (m := Sem) fun f => do pure (f.offset, ← sizeOf f.type)).run P w = .ok pl.toArray w := by
          rw [Array.mapM_eq_mapM_toList, Sem.run_map, hm]; rfl
        refine ⟨.agg vs', ?_, .agg _ _ (by simpa using g2.1) (fun i c v hc hv => g2.2 i c v hc (by simpa using hv))⟩
        simp only [Instr.build, Sem.run_bind, z1, Result.andThen_ok, run_underlying ht, hm', g1, Sem.run_pure]
    · cases h
  · rename_i z e n hz ht
    obtain ⟨zv, z1, z2⟩ := run_zeroA hz w
    have hzc := (ofV_sound (ρ := ρ) (w := w) z2).cells
    split at h
    · rename_i sz hsz
      cases hf : fillA (fun i => some (i * sz, sz)) ps z.cells with
      | none => simp [hf] at h
      | some cs' =>
        simp only [hf, Option.map_some, Option.some.injEq] at h
        subst h
        obtain ⟨vs', g1, g2⟩ := fill_sound (place := fun i => some (i * sz, sz)) (place' := fun i => some (i * sz, sz)) (fun i => rfl) ps us z.cells zv.cells cs' h1 h2 hzc hf
        refine ⟨.agg vs', ?_, .agg _ _ (by simpa using g2.1) (fun i c v hc hv => g2.2 i c v hc (by simpa using hv))⟩
        simp only [Instr.build, Sem.run_bind, z1, Result.andThen_ok, run_underlying ht, run_sizeA hsz, g1, Sem.run_pure]
    · cases h
  · cases h
end
end Go.Abs
end
section
namespace Go.Abs
section
variable {P : Program} {ρ : Rho} {w : World} {σ : AS}
def ElemsAt (ρ : Rho) (w : World) (b o sz : Nat) (es : List AV) : Prop :=
  ∃ f : Nat → Value, ∀ (i : Nat) (e : AV) (j : Nat) (c : AV), es[i]? = some e → e.cells[j]? = some c → w.cell? ⟨b, o + (i * sz + j), none⟩ = some (f (i * sz + j)) ∧ VR ρ w c (f (i * sz + j))
def RowAt (ρ : Rho) (w : World) (sz : Nat) (es : List AV) (vs : Array Value) : Prop :=
  vs.size = es.length * sz ∧ ∀ (i : Nat) (e : AV) (j : Nat) (c : AV) (u : Value), es[i]? = some e → e.cells[j]? = some c → vs[i * sz + j]? = some u → VR ρ w c u
theorem divmod {i j sz : Nat} (h : j < sz) : (i * sz + j) / sz = i ∧ (i * sz + j) % sz = j := by
  have h0 : 0 < sz := by omega
  constructor
  · rw [Nat.mul_comm, Nat.mul_add_div h0, Nat.div_eq_of_lt h]; omega
  · rw [Nat.mul_comm, Nat.mul_add_mod, Nat.mod_eq_of_lt h]
theorem elemsAt_of {b o sz : Nat} {es : List AV} {f : Nat → Nat → Value} (hok : ∀ e ∈ es, okE sz e = true)
    (h1 : ∀ (i : Nat) (e : AV) (j : Nat) (c : AV), es[i]? = some e → e.cells[j]? = some c → w.cell? ⟨b, o + i * sz + j, none⟩ = some (f i j))
    (h2 : ∀ (i : Nat) (e : AV) (j : Nat) (c : AV), es[i]? = some e → e.cells[j]? = some c → VR ρ w c (f i j)) : ElemsAt ρ w b o sz es := by
  refine ⟨fun m => f (m / sz) (m % sz), fun i e j c hi hj => ?_⟩
  have hl : j < sz := by rw [← okE_len (hok e (getElem?_mem' hi))]; exact (List.getElem?_eq_some_iff.1 hj).1
  obtain ⟨d1, d2⟩ := divmod (i := i) hl
  simp only [d1, d2, ← Nat.add_assoc]
  exact ⟨h1 i e j c hi hj, h2 i e j c hi hj⟩
theorem ElemsAt.load {b o sz : Nat} {es : List AV} (h : ElemsAt ρ w b o sz es) (hok : ∀ e ∈ es, okE sz e = true) (h0 : 0 < sz) (k : Nat) (hk : k ≤ es.length) :
    ∃ vs, (loadCells ⟨b, o, none⟩ (k * sz)).run P w = .ok vs w ∧ RowAt ρ w sz (es.take k) vs := by
  obtain ⟨f, hf⟩ := h
  have hlen : ((List.range (k * sz)).map f).length = k * sz := by simp
  have := run_loadCells_list (P := P) w ⟨b, o, none⟩ ((List.range (k * sz)).map f) (fun m v hm => by
    rw [add_mk]
    simp only [List.getElem?_map] at hm
    rcases Nat.lt_or_ge m (k * sz) with hl | hl
    · rw [List.getElem?_range hl] at hm
      simp only [Option.map_some, Option.some.injEq] at hm
      rw [← hm]
      have e1 : m / sz * sz + m % sz = m := by rw [Nat.mul_comm]; exact Nat.div_add_mod m sz
      have hi : m / sz < es.length := Nat.lt_of_lt_of_le ((Nat.div_lt_iff_lt_mul h0).2 hl) hk
      have hj : m % sz < (es[m / sz]).cells.length := by rw [okE_len (hok _ (List.getElem_mem hi))]; exact Nat.mod_lt _ h0
      have := (hf (m / sz) es[m / sz] (m % sz) _ (List.getElem?_eq_getElem hi) (List.getElem?_eq_getElem hj)).1
      rwa [e1] at this
    · rw [List.getElem?_eq_none (by simpa using hl)] at hm; cases hm)
  rw [hlen] at this
  refine ⟨_, this, by simp; rw [Nat.min_eq_left hk], fun i e j c u hi hj hu => ?_⟩
  rw [List.getElem?_take] at hi
  split at hi
  · rename_i hik
    have hl := rowEnd (sz := sz) hi hj (okE_len (hok e (getElem?_mem' hi)))
    have hjs : j < sz := by rw [← okE_len (hok e (getElem?_mem' hi))]; exact (List.getElem?_eq_some_iff.1 hj).1
    have hl : i * sz + j < k * sz := by
      have : (i + 1) * sz ≤ k * sz := Nat.mul_le_mul_right _ hik
      rw [Nat.add_mul] at this; omega
    simp only [List.getElem?_toArray, List.getElem?_map, List.getElem?_range hl, Option.map_some, Option.some.injEq] at hu
    rw [← hu]
    exact (hf i e j c hi hj).2
  · cases hi
theorem ElemsAt.sub {b o sz : Nat} {es : List AV} (h : ElemsAt ρ w b o sz es) (k n : Nat) : ElemsAt ρ w b (o + k * sz) sz ((es.drop k).take n) := by
  obtain ⟨f, hf⟩ := h
  refine ⟨fun m => f (k * sz + m), fun i e j c hi hj => ?_⟩
  rw [List.getElem?_take] at hi
  split at hi
  · rw [List.getElem?_drop] at hi
    have := hf (k + i) e j c hi hj
    have e1 : k * sz + (i * sz + j) = (k + i) * sz + j := by rw [Nat.add_mul]; omega
    simp only [Nat.add_assoc, e1]
    exact this
  · cases hi
theorem elemsAt_row (s : SRo ρ σ w) {L : Loc} {es : List AV} {sz v : Nat} {fro : Bool} (h : σ.get L = some (.row es sz v fro)) :
    ∃ p, ρ L = some p ∧ p.row = true ∧ p.ver = v ∧ p.sz = sz ∧ 0 < sz ∧ es.length ≤ p.cap ∧ (∀ e ∈ es, okE sz e = true) ∧ ElemsAt ρ w p.b p.o sz es := by
  obtain ⟨p, hp, hr, hv, hsz, hpos, hlive, hcap, hok, hfr, vs, E, fz, hw, hle, hfz, hval⟩ := s.obj L _ h
  refine ⟨p, hp, hr, hv, hsz, hpos, hcap, hok, fun m => vs.getD (p.o + m) undef, fun i e j c he hc => ?_⟩
  have h1 := rowEnd he hc (okE_len (hok e (getElem?_mem' he)))
  have h2 : es.length * sz ≤ p.cap * sz := Nat.mul_le_mul_right _ hcap
  have hj : p.o + i * sz + j < vs.size := by omega
  have h3 : vs[p.o + i * sz + j]? = some vs[p.o + i * sz + j] := Array.getElem?_eq_getElem hj
  simp only [World.cell?, hw, Option.isSome_none, Bool.false_eq_true, if_false, Array.getD_eq_getD_getElem?, ← Nat.add_assoc, h3, Option.getD_some]
  exact ⟨trivial, hval i e j c _ he hc h3⟩
theorem elemsA_sound (s : SRo ρ σ w) {x : AV} {u : Value} {sz : Nat} {es : List AV} (hx : VR ρ w x u) (h : elemsA σ sz x = some es) (h0 : 0 < sz) :
    (Builtin.lenOf u).run P w = .ok es.length w ∧ (∀ e ∈ es, okE sz e = true) ∧ ∀ k, k ≤ es.length → ∃ vs, (Builtin.firstCells sz k u).run P w = .ok vs w ∧ RowAt ρ w sz (es.take k) vs := by
  unfold elemsA at h
  split at h
  · cases h
    cases hx
    refine ⟨rfl, by simp, fun k hk => ⟨#[], rfl, by simp, fun i e j c u hi => by simp at hi⟩⟩
  · split at h
    · rename_i full sz' es' e
      subst e
      cases h
      cases hx with
      | sl _ _ _ a cap f hc hfull hp hok h1 h2 =>
        refine ⟨rfl, hok, fun k hk => ?_⟩
        by_cases hne : es = []
        · subst hne
          have : k = 0 := by simpa using hk
          subst this
          exact ⟨#[], by simp [Builtin.firstCells, loadCells, loadCellsFrom], by simp, fun i e j c u hi => by simp at hi⟩
        · obtain ⟨p1, p2, p3⟩ := hp hne
          have he := elemsAt_of (ρ := ρ) hok h1 h2
          obtain ⟨b, o, sp⟩ := a
          simp only at p1 he
          subst p1
          exact he.load hok h0 k hk
    · cases h
  · rename_i L v off len
    split at h
    · rename_i es' sz' v' fro hg
      split at h
      · rename_i hc
        obtain ⟨rfl, rfl, hle⟩ := hc
        cases h
        obtain ⟨p, hp, hr, hv, hsz, hpos, hcap, hok, hE⟩ := elemsAt_row s hg
        cases hx with
        | row _ _ _ _ p' a cap h' hr' hv' hl ha =>
          have : p' = p := Option.some.inj (h'.symm.trans hp)
          subst this
          obtain ⟨c1, c2⟩ := ha hv
          have hlen : ((es'.drop off).take len).length = len := by simp; omega
          have hok' : ∀ e ∈ (es'.drop off).take len, okE sz' e = true := fun e he => hok e (List.mem_of_mem_drop (List.mem_of_mem_take he))
          refine ⟨by rw [hlen]; rfl, hok', fun k hk => ?_⟩
          rw [hlen] at hk
          by_cases hk0 : k = 0
          · subst hk0
            exact ⟨#[], by simp [Builtin.firstCells, loadCells, loadCellsFrom], by simp, fun i e j c u hi => by simp at hi⟩
          · have := c2 (by omega)
            subst this
            rw [hsz]
            exact (hE.sub off len).load hok' h0 k (by rw [hlen]; exact hk)
      · cases h
    · cases h
  · split at h
    · rename_i s' hsz
      cases h
      cases hx
      subst hsz
      have hlen : (s'.data.toList.map fun b => (.int .u8 b.toNat : AV)).length = s'.size := by simp
      refine ⟨by rw [hlen]; rfl, fun e he => ?_, fun k hk => ?_⟩
      · obtain ⟨b, _, rfl⟩ := List.mem_map.1 he
        simp [okE, AV.cells, AV.one, AVs.inb, AV.inb]
      · rw [hlen] at hk
        refine ⟨_, rfl, ?_, fun i e j c u hi hj hu => ?_⟩
        · simp
        · rw [List.getElem?_take] at hi
          split at hi
          · rename_i hik
            rw [List.getElem?_map] at hi
            cases hb : s'.data.toList[i]? with
            | none => simp [hb] at hi
            | some b =>
              simp only [hb, Option.map_some, Option.some.injEq] at hi
              subst hi
              cases j with
              | zero =>
                simp only [AV.cells, List.getElem?_cons_zero, Option.some.injEq] at hj
                subst hj
                simp only [Nat.mul_one, Nat.add_zero, Array.getElem?_map] at hu
                have hi2 : i < s'.size := by have := (List.getElem?_eq_some_iff.1 hb).1; simpa using this
                have : (s'.extract 0 k).data[i]? = some b := by
                  rw [ByteArray.data_extract, Array.getElem?_extract]
                  have hz : i < min k s'.data.size - 0 := by
                    have : s'.data.size = s'.size := rfl
                    omega
                  simp only [Nat.zero_add]
                  rw [if_pos hz]
                  simpa using hb
                rw [this] at hu
                simp only [Option.map_some, Option.some.injEq] at hu
                subst hu
                exact .int _ _
              | succ j => simp [AV.cells] at hj
          · cases hi
    · cases h
  · cases h
end
end Go.Abs
end
section
namespace Go.Abs
section
variable {P : Program} {ρ : Rho} {w : World} {σ : AS}
theorem indexAddrA_sound (s : SRo ρ σ w) {t : TypeId} {a ix c : AV} {u v : Value} (hu : VR ρ w a u) (hi : VR ρ w ix v) (h : indexAddrA P σ t a ix = some c) :
    ∃ r, (Instr.indexAt t u v).run P w = .ok r w ∧ VR ρ w c r := by
  unfold indexAddrA at h
  split at h
  · rename_i k i
    cases hi
    split at h
    · rename_i h0
      split at h
      · rename_i n e L o ht
        split at h
        · rename_i sz hsz
          split at h
          · rename_i hlt
            cases h
            cases hu with
            | ptr _ _ p h1 h2 =>
              exact ⟨_, by simp [Instr.indexAt, asIntOf, run_underlying ht, h0, hlt, Instr.sureAddr, run_sizeA hsz, add_mk], .ptr L _ p h1 h2⟩
          · cases h
        · cases h
      · rename_i n e cs o ht
        split at h
        · rename_i sz hsz
          split at h
          · rename_i hlt
            cases h
            cases hu with
            | rptr _ _ b o0 g hb hfr h1 h2 h3 =>
              refine ⟨_, by simp [Instr.indexAt, asIntOf, run_underlying ht, h0, hlt, Instr.sureAddr, run_sizeA hsz, add_mk]; exact rfl, ?_⟩
              rw [Nat.add_assoc]
              exact .rptr cs _ b o0 g hb hfr h1 h2 h3
          · cases h
        · cases h
      · rename_i e full sz' es ht
        split at h
        · rename_i sz c' hsz hc'
          split at h
          · rename_i hh
            obtain ⟨rfl, hpos⟩ := hh
            cases h
            have hil : i.toNat < es.length := (List.getElem?_eq_some_iff.1 hc').1
            have hlt : i < es.length := by omega
            cases hu with
            | sl _ _ _ a cap f hc hfull hp hok h1 h2 =>
              obtain ⟨p1, p2, p3⟩ := hp (by intro e; rw [e] at hil; simp at hil)
              obtain ⟨b, o, sp⟩ := a
              simp only at p1
              subst p1
              refine ⟨_, by simp [Instr.indexAt, asIntOf, run_underlying ht, h0, hlt, run_sizeA hsz, add_mk]; exact rfl, ?_⟩
              have := VR.rptr (ρ := ρ) (w := w) c'.cells 0 b (o + i.toNat * sz') (fun j => f i.toNat j) p2 p3 (fun j c hj => h1 _ _ _ _ hc' hj) (fun j c hj => h2 _ _ _ _ hc' hj) (okE_inb (hok _ (getElem?_mem' hc')))
              rwa [Nat.add_zero] at this
          · cases h
        · cases h
      · rename_i e L vv off len ht
        split at h
        · rename_i sz es sz' v' fro hsz hg
          split at h
          · rename_i hh
            obtain ⟨rfl, rfl, hlt, hle⟩ := hh
            cases h
            obtain ⟨p, hp, hr, hv, hs, hpos, hcap, hok, hE⟩ := elemsAt_row s hg
            cases hu with
            | row _ _ _ _ p' a cap h' hr' hv' hl ha =>
              have : p' = p := Option.some.inj (h'.symm.trans hp)
              subst this
              obtain ⟨c1, c2⟩ := ha hv
              have := c2 (by omega)
              subst this
              refine ⟨_, by simp [Instr.indexAt, asIntOf, run_underlying ht, h0, hlt, run_sizeA hsz, add_mk]; exact rfl, ?_⟩
              refine .eptr L v' _ 0 p' _ h' hr (by omega) (fun _ => ?_)
              rw [hs, Nat.add_mul]; simp; omega
          · cases h
        · cases h
      · cases h
    · cases h
  · cases h
def OV (ρ : Rho) (w : World) : Option AV → Option Value → Prop
  | none, none => True
  | some a, some v => VR ρ w a v
  | _, _ => False
theorem OV.int {a : Option AV} {v : Option Value} (h : OV ρ w a v) {i : Option Int} (hi : intOf? a = some i) : (i = none ∧ v = none) ∨ ∃ k n, i = some n ∧ v = some (.int k n) := by
  cases a with
  | none => cases v with
    | none => simp only [intOf?, Option.some.injEq] at hi; exact .inl ⟨hi.symm, rfl⟩
    | some v => exact h.elim
  | some a => cases v with
    | none => exact h.elim
    | some v =>
      cases a <;> simp only [intOf?] at hi <;> first
        | (cases hi; done)
        | (simp only [Option.some.injEq] at hi
           have := VR.int_inv h
           exact .inr ⟨_, _, hi.symm, by rw [this]⟩)
theorem run_sliceBound {k : IntKind} {n : Int} {y : Nat} {code : BoundsCode} (h0 : 0 ≤ n) (h1 : n ≤ y) (w : World) : (Instr.sliceBound (.int k n) y code).run P w = .ok n.toNat w := by
  simp [Instr.sliceBound, asIntOf, h0, h1]
theorem boundsA_sound {len cap cap' : Nat} {lo hi mx : Option AV} {vlo vhi vmx : Option Value} {ilo ihi imx : Option Int} (hl : OV ρ w lo vlo) (hh : OV ρ w hi vhi) (hm : OV ρ w mx vmx)
    (e1 : intOf? lo = some ilo) (e2 : intOf? hi = some ihi) (e3 : intOf? mx = some imx) {l h m : Nat} (hb : boundsA len cap ilo ihi imx = some (l, h, m)) (hcap : cap ≤ cap') (hlen : len ≤ cap) (b : Bool) :
    (Instr.sliceBounds b len cap' vlo vhi vmx).run P w = .ok (l, h, if imx.isSome then m else cap') w ∧ l ≤ h ∧ h ≤ m ∧ m ≤ cap ∧ (imx = none → m = cap) := by
  have hml := hm.int e3
  have hhl := hh.int e2
  have hll := hl.int e1
  unfold boundsA at hb
  rcases hml with ⟨rfl, rfl⟩ | ⟨km, nm, rfl, rfl⟩
  · simp only at hb
    rcases hhl with ⟨rfl, rfl⟩ | ⟨kh, nh, rfl, rfl⟩
    · simp only [Option.isSome_none, Bool.false_eq_true, if_false] at hb
      rcases hll with ⟨rfl, rfl⟩ | ⟨kl, nl, rfl, rfl⟩
      · simp only [Option.some.injEq, Prod.mk.injEq] at hb
        obtain ⟨rfl, rfl, rfl⟩ := hb
        exact ⟨by simp [Instr.sliceBounds], by omega, hlen, Nat.le_refl _, fun _ => rfl⟩
      · simp only at hb
        split at hb
        · rename_i hc
          simp only [Option.some.injEq, Prod.mk.injEq] at hb
          obtain ⟨rfl, rfl, rfl⟩ := hb
          exact ⟨by simp [Instr.sliceBounds, run_sliceBound hc.1 hc.2], by omega, hlen, Nat.le_refl _, fun _ => rfl⟩
        · cases hb
    · simp only at hb
      split at hb
      · rename_i hmx hq
        split at hq
        · rename_i hc
          simp only [Option.some.injEq] at hq
          subst hq
          have hc' : nh ≤ (cap' : Int) := by omega
          rcases hll with ⟨rfl, rfl⟩ | ⟨kl, nl, rfl, rfl⟩
          · simp only [Option.some.injEq, Prod.mk.injEq] at hb
            obtain ⟨rfl, rfl, rfl⟩ := hb
            exact ⟨by simp [Instr.sliceBounds, run_sliceBound hc.1 hc'], by omega, by omega, Nat.le_refl _, fun _ => rfl⟩
          · simp only at hb
            split at hb
            · rename_i hd
              simp only [Option.some.injEq, Prod.mk.injEq] at hb
              obtain ⟨rfl, rfl, rfl⟩ := hb
              exact ⟨by simp [Instr.sliceBounds, run_sliceBound hc.1 hc', run_sliceBound hd.1 hd.2], by omega, by omega, Nat.le_refl _, fun _ => rfl⟩
            · cases hb
        · cases hq
      · cases hb
  · simp only at hb
    split at hb
    · rename_i m' hq
      split at hq
      · rename_i hcm
        simp only [Option.some.injEq] at hq
        subst hq
        have hcm' : nm ≤ (cap' : Int) := by omega
        rcases hhl with ⟨rfl, rfl⟩ | ⟨kh, nh, rfl, rfl⟩
        · simp at hb
        · simp only at hb
          split at hb
          · rename_i hmx hq
            split at hq
            · rename_i hc
              simp only [Option.some.injEq] at hq
              subst hq
              rcases hll with ⟨rfl, rfl⟩ | ⟨kl, nl, rfl, rfl⟩
              · simp only [Option.some.injEq, Prod.mk.injEq] at hb
                obtain ⟨rfl, rfl, rfl⟩ := hb
                exact ⟨by simp [Instr.sliceBounds, run_sliceBound hcm.1 hcm', run_sliceBound hc.1 hc.2], by omega, by omega, by omega, fun h => by cases h⟩
              · simp only at hb
                split at hb
                · rename_i hd
                  simp only [Option.some.injEq, Prod.mk.injEq] at hb
                  obtain ⟨rfl, rfl, rfl⟩ := hb
                  exact ⟨by simp [Instr.sliceBounds, run_sliceBound hcm.1 hcm', run_sliceBound hc.1 hc.2, run_sliceBound hd.1 hd.2], by omega, by omega, by omega, fun h => by cases h⟩
                · cases hb
            · cases hq
          · cases hb
      · cases hq
    · cases hb
theorem sliceA_sound (s : SRo ρ σ w) {t : TypeId} {a c : AV} {u : Value} (hu : VR ρ w a u) {lo hi mx : Option AV} {vlo vhi vmx : Option Value} (hl : OV ρ w lo vlo) (hh : OV ρ w hi vhi) (hm : OV ρ w mx vmx)
    (h : sliceA P σ t a lo hi mx = some c) : ∃ r, (Instr.sliceAt t u vlo vhi vmx).run P w = .ok r w ∧ VR ρ w c r := by
  unfold sliceA at h
  split at h
  · rename_i ilo ihi imx e1 e2 e3
    split at h
    · rename_i s' ht
      split at h
      · cases h
      · rename_i hmx
        split at h
        · rename_i l hh' m hb
          cases h
          cases hu
          have hm0 := hm.int e3
          rcases hm0 with ⟨rfl, rfl⟩ | ⟨k, n, rfl, rfl⟩
          · obtain ⟨g1, g2, g3, g4, g5⟩ := boundsA_sound (P := P) (cap' := s'.size) hl hh (mx := none) (vmx := none) trivial e1 e2 rfl hb (Nat.le_refl _) (Nat.le_refl _) false
            exact ⟨_, by simp [Instr.sliceAt, run_underlying ht, Instr.slice, g1], .str _⟩
          · simp at hmx
        · cases h
    · rename_i e ht
      split at h
      · rename_i hsz
        split at h
        · rename_i r hb
          cases h
          cases hu
          obtain ⟨l, h', m⟩ := r
          obtain ⟨g1, g2, g3, g4, g5⟩ := boundsA_sound (P := P) (cap' := 0) hl hh hm e1 e2 e3 hb (Nat.le_refl _) (Nat.le_refl _) true
          obtain ⟨sz, hsz⟩ := Option.isSome_iff_exists.1 hsz
          refine ⟨.slice none 0 0, ?_, .nils⟩
          simp [Instr.sliceAt, run_underlying ht, Instr.slice, g1, run_sizeA hsz]
          have hmm : m = 0 := by omega
          have hh0 : h' = 0 := by omega
          subst hmm
          subst hh0
          simp
        · cases h
      · cases h
    · rename_i e full sz es ht
      split at h
      · rename_i hsz
        split at h
        · rename_i l h' m hb
          cases h
          cases hu with
          | sl _ _ _ a cap f hc hfull hp hok h1 h2 =>
            obtain ⟨g1, g2, g3, g4, g5⟩ := boundsA_sound (P := P) (cap' := cap) hl hh hm e1 e2 e3 hb hc (Nat.le_refl _) true
            have hlen : ((es.drop l).take (h' - l)).length = h' - l := by simp; omega
            have hmc : m ≤ (if imx.isSome = true then m else cap) := by split <;> omega
            refine ⟨.slice (if (if imx.isSome = true then m else cap) = l then some a else some (a.add (l * sz))) (h' - l) ((if imx.isSome = true then m else cap) - l), by
              simp [Instr.sliceAt, run_underlying ht, Instr.slice, g1, run_sizeA hsz], ?_⟩
            have hok' : ∀ e ∈ (es.drop l).take (h' - l), okE sz e = true := fun e he => hok e (List.mem_of_mem_drop (List.mem_of_mem_take he))
            have hf : ((decide (h' = m)) && (imx.isSome || full)) = true → (if imx.isSome = true then m else cap) - l = ((es.drop l).take (h' - l)).length := fun hh => by
              rw [hlen]
              simp only [Bool.and_eq_true, decide_eq_true_eq, Bool.or_eq_true] at hh
              obtain ⟨rfl, hh⟩ := hh
              cases hix : imx with
              | some x => simp
              | none =>
                rw [hix] at hh
                have := hfull (by simpa using hh)
                have := g5 hix
                simp; omega
            by_cases hz : (if imx.isSome = true then m else cap) = l
            · rw [if_pos hz]
              have hnil : (es.drop l).take (h' - l) = [] := by
                have : h' - l = 0 := by omega
                rw [this]; simp
              have := VR.sl (ρ := ρ) (w := w) ((decide (h' = m)) && (imx.isSome || full)) sz ((es.drop l).take (h' - l)) a ((if imx.isSome = true then m else cap) - l) f (by rw [hlen]; omega) hf
                (fun hne => absurd hnil hne) hok' (fun i e j c hi => by rw [hnil] at hi; simp at hi) (fun i e j c hi => by rw [hnil] at hi; simp at hi)
              rwa [hlen] at this
            · rw [if_neg hz]
              have := VR.sl (ρ := ρ) (w := w) ((decide (h' = m)) && (imx.isSome || full)) sz ((es.drop l).take (h' - l)) (a.add (l * sz)) ((if imx.isSome = true then m else cap) - l) (fun i j => f (l + i) j) (by rw [hlen]; omega) hf
                (fun hne => ?_) hok' (fun i e j c hi hj => ?_) (fun i e j c hi hj => ?_)
              · rwa [hlen] at this
              · have hne' : es ≠ [] := by intro e; rw [e] at hne; simp at hne
                obtain ⟨p1, p2, p3⟩ := hp hne'
                obtain ⟨b, o, sp⟩ := a
                simp only at p1
                subst p1
                rw [add_mk]
                exact ⟨rfl, p2, p3⟩
              · rw [List.getElem?_take] at hi
                split at hi
                · rw [List.getElem?_drop] at hi
                  have hne' : es ≠ [] := by intro e; rw [e] at hi; simp at hi
                  obtain ⟨p1, p2, p3⟩ := hp hne'
                  obtain ⟨b, o, sp⟩ := a
                  simp only at p1
                  subst p1
                  rw [add_mk]
                  have := h1 _ _ _ _ hi hj
                  simp only at this ⊢
                  rw [← this, Nat.add_mul]
                  congr 2; omega
                · cases hi
              · rw [List.getElem?_take] at hi
                split at hi
                · rw [List.getElem?_drop] at hi
                  exact h2 _ _ _ _ hi hj
                · cases hi
        · cases h
      · cases h
    · rename_i e L v off len ht
      split at h
      · rename_i es sz v' fro hg
        split at h
        · rename_i hcond
          obtain ⟨rfl, hle, hsz⟩ := hcond
          split at h
          · rename_i l h' m hb
            obtain ⟨p, hp, hr, hv, hs, hpos, hcap, hok, hE⟩ := elemsAt_row s hg
            cases hu with
            | row _ _ _ _ p' a cap hL hr' hv' hl0 ha =>
              have : p' = p := Option.some.inj (hL.symm.trans hp)
              subst this
              obtain ⟨c1, c2⟩ := ha hv
              obtain ⟨g1, g2, g3, g4, g5⟩ := boundsA_sound (P := P) (cap' := cap) hl hh hm e1 e2 e3 hb (by omega) (by omega) true
              have hrun : (Instr.sliceAt t (.slice (some a) len cap) vlo vhi vmx).run P w = .ok (.slice (if (if imx.isSome = true then m else cap) = l then some a else some (a.add (l * sz))) (h' - l) ((if imx.isSome = true then m else cap) - l)) w := by
                simp [Instr.sliceAt, run_underlying ht, Instr.slice, g1, run_sizeA hsz]
              split at h
              · rename_i hnone
                cases h
                have him : imx = none := by cases imx <;> simp_all
                subst him
                simp only [Option.isSome_none, Bool.false_eq_true, if_false] at hrun
                refine ⟨_, hrun, ?_⟩
                have hm' := g5 rfl
                by_cases hz : cap = l
                · rw [if_pos hz]
                  exact .row L v' _ _ p' _ _ hL hr' hv' (by omega) (fun _ => ⟨by omega, fun h => by omega⟩)
                · rw [if_neg hz]
                  refine .row L v' _ _ p' _ _ hL hr' hv' (by omega) (fun _ => ⟨by omega, fun h => ?_⟩)
                  rw [c2 (by omega), add_mk, hs, Nat.add_mul, Nat.add_assoc]
              · rename_i hnone
                split at h
                · rename_i hlh
                  obtain ⟨rfl, rfl⟩ := hlh
                  cases h
                  have him : imx.isSome = true := by cases imx <;> simp_all
                  simp only [him, if_true, Nat.sub_self] at hrun
                  exact ⟨_, hrun, .sl true sz [] a 0 (fun _ _ => undef) (Nat.le_refl _) (fun _ => rfl) (fun h => absurd rfl h) (by simp) (fun i e j c hi => by simp at hi) (fun i e j c hi => by simp at hi)⟩
                · cases h
                  exact ⟨_, hrun, .any _ _ _⟩
          · cases h
        · cases h
      · cases h
    · cases h
  · cases h
end
end Go.Abs
end
section
namespace Go.Abs
section
variable {P : Program} {ρ : Rho} {w : World} {σ : AS}
theorem beqB (a b : ByteArray) : (a == b) = beqS a b := by rw [beq_toListBytes, beqS_eq]
theorem keyEq_sameNow {kd : TypeDesc} {k a : AV} {u v : Value} (hf : keyFits kd k = true) (hu : VR ρ w k u) (hv : VR ρ w a v) {b : Bool} (h : keyEq k a = some b) : Instr.sameNow kd u v = some b := by
  unfold keyEq at h
  split at h
  · split at h
    · rename_i hk
      cases h; cases hu; cases hv
      subst hk
      cases kd <;> simp [keyFits] at hf
      simp [Instr.sameNow]
    · cases h
  · cases h; cases hu; cases hv
    cases kd <;> simp [keyFits] at hf
    simp [Instr.sameNow, beqB]
  · cases h; cases hu; cases hv
    cases kd <;> simp [keyFits] at hf
    simp [Instr.sameNow]
  · cases h
def EntriesR (ρ : Rho) (w : World) (es : List (AV × AV)) (ms : List MapEntry) : Prop :=
  es.length = ms.length ∧ ∀ (i : Nat) (e : AV × AV) (m : MapEntry), es[i]? = some e → ms[i]? = some m → e.1.inb 0 = true ∧ e.2.inb 0 = true ∧ VR ρ w e.1 m.key ∧ VR ρ w e.2 m.val
theorem EntriesR.tail {e : AV × AV} {es : List (AV × AV)} {m : MapEntry} {ms : List MapEntry} (h : EntriesR ρ w (e :: es) (m :: ms)) : EntriesR ρ w es ms :=
  ⟨by simpa using h.1, fun i e' m' he hm => h.2 (i + 1) e' m' (by simpa using he) (by simpa using hm)⟩
theorem findA_sound {kd : TypeDesc} {k : AV} {u : Value} (hf : keyFits kd k = true) (hu : VR ρ w k u) : ∀ (es : List (AV × AV)) (ms : List MapEntry) (n : Nat) (r : Option AV), EntriesR ρ w es ms → findA k es = some r →
    (r = none ∧ Instr.findNow kd u ms n = some none) ∨ ∃ a i v, r = some a ∧ Instr.findNow kd u ms n = some (some (i, v)) ∧ VR ρ w a v ∧ a.inb 0 = true
  | [], ms, n, r, hE, h => by
    simp only [findA, Option.some.injEq] at h
    subst h
    have : ms = [] := by simpa using hE.1.symm
    subst this
    exact .inl ⟨rfl, rfl⟩
  | e :: es, [], n, r, hE, h => by have := hE.1; simp at this
  | e :: es, m :: ms, n, r, hE, h => by
    obtain ⟨i1, i2, v1, v2⟩ := hE.2 0 e m (by simp) (by simp)
    simp only [findA] at h
    split at h
    · rename_i hk
      cases h
      exact .inr ⟨e.2, n, m.val, rfl, by simp [Instr.findNow, keyEq_sameNow hf hu v1 hk], v2, i2⟩
    · rename_i hk
      have := findA_sound hf hu es ms (n + 1) r hE.tail h
      simp only [Instr.findNow, keyEq_sameNow hf hu v1 hk]
      exact this
    · cases h
theorem checkKey_plain {kd : TypeDesc} {kt : TypeId} {k : AV} {u : Value} (hk : P.underlying kt = some kd) (hf : keyFits kd k = true) (hu : VR ρ w k u) (e : Bool) (n : Nat) (w' : World) : (Instr.checkKey e (n + 1) kt u).run P w' = .ok () w' := by
  cases kd <;> cases k <;> simp [keyFits] at hf <;> cases hu <;> simp [Instr.checkKey, run_underlying hk]
theorem map_obj (s : SRo ρ σ w) {L : Loc} {es : List (AV × AV)} (h : σ.get L = some (.map es)) : ∃ p arr clock, ρ L = some p ∧ p.row = false ∧ p.live = true ∧ w.heap[p.b]? = some (.map arr clock) ∧ MapKept.Stamped arr clock ∧ EntriesR ρ w es arr.toList := by
  obtain ⟨p, hp, hl, hr, arr, clock, hw, hlen, hst, hv⟩ := s.obj L _ h
  exact ⟨p, arr, clock, hp, hr, hl, hw, hst, by simpa using hlen, fun i e m he hm => hv i e m he (by simpa using hm)⟩
theorem VR.zero {t : TypeId} {z : AV} {w' : World} (h : zeroA P t = some z) : ∃ v, (zeroValue t).run P w' = .ok v w' ∧ VR ρ w z v := by
  obtain ⟨v, h1, h2⟩ := run_zeroA h w'
  exact ⟨v, h1, ofV_sound h2⟩
theorem VR.pair {a b : AV} {u v : Value} (h1 : VR ρ w a u) (h2 : VR ρ w b v) : VR ρ w (.tup [a, b]) (.tuple #[u, v]) :=
  .tup _ _ rfl fun i c x hc hx => by
    match i with
    | 0 => simp at hc hx; subst hc; subst hx; exact h1
    | 1 => simp at hc hx; subst hc; subst hx; exact h2
    | i + 2 => simp at hc
theorem lookupA_sound (s : SRo ρ σ w) {t : TypeId} {m k c : AV} {vm vk : Value} {ok : Bool} (hm : VR ρ w m vm) (hk : VR ρ w k vk) (h : lookupA P σ t m k ok = some c) :
    ∃ r, (Instr.lookup t vm vk ok).run P w = .ok r w ∧ VR ρ w c r := by
  unfold lookupA at h
  split at h
  · rename_i kt et ht
    split at h
    · rename_i kd z hkd hz
      obtain ⟨zv, z1, z2⟩ := VR.zero (ρ := ρ) (w := w) (w' := w) hz
      split at h
      · rename_i hf
        split at h
        · cases hm
          cases h
          have hfn : Instr.findNow kd vk [] 0 = some none := rfl
          refine ⟨if ok = true then .tuple #[zv, .bool false] else zv, by
            simp [Instr.lookup, run_underlying ht, checkKey_plain hkd hf hk, Instr.findKey, run_underlying hkd, hfn, z1], ?_⟩
          cases ok
          · simpa using z2
          · simpa using z2.pair (.bool false)
        · rename_i L
          split at h
          · rename_i es hg
            obtain ⟨p, arr, clock, hp, hr, hl, hw, _, hE⟩ := map_obj s hg
            cases hm with
            | map _ p' hp' hr' =>
              have : p' = p := Option.some.inj (hp'.symm.trans hp)
              subst this
              have hgo : (getObj p'.b).run P w = .ok (.map arr clock) w := by simp [getObj, Sem.run, hw]
              split at h
              · rename_i v hfind
                cases h
                rcases findA_sound hf hk es arr.toList 0 _ hE hfind with ⟨h0, _⟩ | ⟨a, i, v', e1, e2, e3, _⟩
                · cases h0
                · cases e1
                  refine ⟨if ok = true then .tuple #[v', .bool true] else v', by
                    simp [Instr.lookup, run_underlying ht, hgo, checkKey_plain hkd hf hk, Instr.findKey, run_underlying hkd, e2], ?_⟩
                  cases ok
                  · simpa using e3
                  · simpa using e3.pair (.bool true)
              · rename_i hfind
                cases h
                rcases findA_sound hf hk es arr.toList 0 _ hE hfind with ⟨_, e2⟩ | ⟨a, i, v', e1, _⟩
                · refine ⟨if ok = true then .tuple #[zv, .bool false] else zv, by
                    simp [Instr.lookup, run_underlying ht, hgo, checkKey_plain hkd hf hk, Instr.findKey, run_underlying hkd, e2, z1], ?_⟩
                  cases ok
                  · simpa using z2
                  · simpa using z2.pair (.bool false)
                · cases e1
              · cases h
          · cases h
        · cases h
      · cases h
    · cases h
  · cases h
theorem ckA_sound (e : Bool) : ∀ (n m : Nat) (t : TypeId) (v : AV) (u : Value) (w' : World), n ≤ m → ckA P n t v = true → VR ρ w v u → (Instr.checkKey e m t u).run P w' = .ok () w'
  | 0, _, _, _, _, _, _, h, _ => by cases h
  | n + 1, m, t, v, u, w', hm, h, hv => by
    obtain ⟨m, rfl⟩ : ∃ k, m = k + 1 := ⟨m - 1, by omega⟩
    unfold ckA at h
    split at h
    · rename_i fs ht
      split at h
      · rename_i cs
        cases hv with
        | agg _ vs hl hvs =>
          rw [List.all_eq_true] at h
          have hb : ∀ f ∈ fs.toList, ((if f.name ≠ "_" then do Instr.checkKey e m f.type (← part f.type vs f.offset) else pure ()) : Sem Unit).run P w' = .ok () w' := by
            intro f hf
            have := h f hf
            split at this
            · rename_i x hx
              obtain ⟨y, y1, y2⟩ := part_sound hl hvs hx w'
              have := ckA_sound e n m f.type x y w' (by omega) this y2
              split
              · simp [y1, this]
              · rfl
            · cases this
          have key : ∀ l : List Field, (∀ f ∈ l, ((if f.name ≠ "_" then do Instr.checkKey e m f.type (← part f.type vs f.offset) else pure ()) : Sem Unit).run P w' = .ok () w') →
              (forIn (m := Sem) l PUnit.unit (fun f _ =>
                if f.name = "_" then pure (ForInStep.yield PUnit.unit) else do
                  let x ← part f.type vs f.offset
                  Instr.checkKey e m f.type x
                  pure (ForInStep.yield PUnit.unit)) : Sem PUnit).run P w' = .ok PUnit.unit w' := by
            intro l
            induction l with
            | nil => intro _; simp
            | cons f l ih =>
              intro hl'
              have h0 := hl' f (by simp)
              rw [List.forIn_cons, Sem.run_bind]
              by_cases hf : f.name = "_"
              · rw [if_pos hf]
                simp only [Result.andThen_ok, Sem.run_pure]
                exact ih (fun g hg => hl' g (by simp [hg]))
              · rw [if_neg hf]
                rw [if_pos hf] at h0
                simp only [Sem.run_bind] at h0 ⊢
                cases hp : (part f.type vs f.offset).run P w' with
                | ok x w2 =>
                  rw [hp] at h0
                  simp only [Result.andThen_ok] at h0 ⊢
                  rw [h0]
                  simp only [Result.andThen_ok, Sem.run_pure]
                  exact ih (fun g hg => hl' g (by simp [hg]))
                | _ => rw [hp] at h0; simp [Result.andThen] at h0
          have := key fs.toList hb
          simp only [Instr.checkKey, Sem.run_bind, run_underlying ht, Result.andThen_ok, ← Array.forIn_toList]
          simp only [ne_eq, ite_not] at this ⊢
          rw [this]
          simp
      · cases h
    · cases h
    · cases h
    · cases h
    · rename_i d h1 h2 h3 ht
      cases d <;> first | (simp [Instr.checkKey, run_underlying ht]; done) | (cases u <;> simp [Instr.checkKey, run_underlying ht]; done) | skip
      all_goals (first | exact absurd rfl (h1 _) | exact absurd rfl (h2 _) | exact absurd rfl (h3 _ _))
theorem lookupEA_sound (s : SRo ρ σ w) {t : TypeId} {m k c : AV} {vm vk : Value} {ok : Bool} (hm : VR ρ w m vm) (hk : VR ρ w k vk) (h : lookupEA P σ t m k ok = some c) :
    ∃ r, (Instr.lookup t vm vk ok).run P w = .ok r w ∧ VR ρ w c r := by
  unfold lookupEA at h
  split at h
  · rename_i kt et ht
    split at h
    · rename_i z hz
      obtain ⟨zv, z1, z2⟩ := VR.zero (ρ := ρ) (w := w) (w' := w) hz
      split at h
      · rename_i hf
        have hck := ckA_sound (P := P) true 20 10000 kt k vk w (by decide) hf hk
        obtain ⟨kd, hkd⟩ : ∃ kd, P.underlying kt = some kd := by
          unfold ckA at hf
          split at hf
          · rename_i h1; exact ⟨_, h1⟩
          · cases hf
          · cases hf
          · cases hf
          · rename_i d _ _ _ h1; exact ⟨d, h1⟩
        have hfn : Instr.findNow kd vk [] 0 = some none := rfl
        split at h
        · cases hm
          cases h
          refine ⟨if ok = true then .tuple #[zv, .bool false] else zv, by
            simp [Instr.lookup, run_underlying ht, hck, Instr.findKey, run_underlying hkd, hfn, z1], ?_⟩
          cases ok
          · simpa using z2
          · simpa using z2.pair (.bool false)
        · rename_i L
          split at h
          · rename_i hg
            obtain ⟨p, arr, clock, hp, hr, hl, hw, _, hE⟩ := map_obj s hg
            cases hm with
            | map _ p' hp' hr' =>
              have : p' = p := Option.some.inj (hp'.symm.trans hp)
              subst this
              have hgo : (getObj p'.b).run P w = .ok (.map arr clock) w := by simp [getObj, Sem.run, hw]
              have harr : arr = #[] := by
                have := hE.1
                exact Array.eq_empty_of_size_eq_zero (by simpa using this.symm)
              subst harr
              cases h
              refine ⟨if ok = true then .tuple #[zv, .bool false] else zv, by
                simp [Instr.lookup, run_underlying ht, hgo, hck, Instr.findKey, run_underlying hkd, hfn, z1], ?_⟩
              cases ok
              · simpa using z2
              · simpa using z2.pair (.bool false)
          · cases h
        · cases h
      · cases h
    · cases h
  · cases h
theorem assertA_sound {x c : AV} {u : Value} {xt t : TypeId} {ok : Bool} (hx : VR ρ w x u) (h : assertA P x t ok = some c) : ∃ r, (Instr.typeAssert u xt t ok).run P w = .ok r w ∧ VR ρ w c r := by
  unfold assertA at h
  split at h
  · cases h
  · rename_i d hni ht
    split at h
    · rename_i t' v
      cases hx with
      | iface _ _ v' hv =>
        split at h
        · rename_i e
          subst e
          cases h
          refine ⟨if ok = true then .tuple #[v', .bool true] else v', ?_, ?_⟩
          · cases d <;> first | (exact absurd rfl (hni _)) | simp [Instr.typeAssert, run_underlying ht]
          · cases ok
            · simpa using hv
            · simpa using hv.pair (.bool true)
        · rename_i e
          split at h
          · rename_i hok
            subst hok
            split at h
            · rename_i z hz
              cases h
              obtain ⟨zv, z1, z2⟩ := VR.zero (ρ := ρ) (w := w) (w' := w) hz
              refine ⟨_, ?_, z2.pair (.bool false)⟩
              cases d <;> first | (exact absurd rfl (hni _)) | simp [Instr.typeAssert, run_underlying ht, e, z1]
            · cases h
          · cases h
    · cases hx
      split at h
      · rename_i hok
        subst hok
        split at h
        · rename_i z hz
          cases h
          obtain ⟨zv, z1, z2⟩ := VR.zero (ρ := ρ) (w := w) (w' := w) hz
          refine ⟨_, ?_, z2.pair (.bool false)⟩
          cases d <;> first | (exact absurd rfl (hni _)) | simp [Instr.typeAssert, run_underlying ht, z1]
        · cases h
      · cases h
    · cases h
  · cases h
theorem bytesOf_sound {es : List AV} {vs : Array Value} (hR : RowAt ρ w 1 es vs) {l : List UInt8} (h : bytesOf? es = some l) {g : Value → ByteArray → Sem (ForInStep ByteArray)}
    (hg : ∀ n r, (g (.int .u8 n) r).run P w = .ok (.yield (r.push (UInt8.ofNat n.toNat))) w) : ∀ s : ByteArray,
    (forIn (m := Sem) vs.toList s g : Sem ByteArray).run P w = .ok ⟨(s.data.toList ++ l).toArray⟩ w := by
  obtain ⟨hs, hv⟩ := hR
  have hs' : es.length = vs.toList.length := by simp [hs]
  have hv' : ∀ (i : Nat) (e : AV) (u : Value), es[i]? = some e → vs.toList[i]? = some u → e.cells = [e] → VR ρ w e u := fun i e u he hu hc => by
    refine hv i e 0 e u he (by rw [hc]; rfl) ?_
    rw [Nat.mul_one, Nat.add_zero]; simpa using hu
  generalize vs.toList = us at *
  clear hs hv
  induction es generalizing us l with
  | nil =>
    simp only [bytesOf?, Option.some.injEq] at h
    subst h
    have : us = [] := by simpa using hs'.symm
    subst this
    intro s
    simp
  | cons e es ih =>
    intro s
    cases us with
    | nil => simp at hs'
    | cons u us =>
      unfold bytesOf? at h
      split at h
      · cases ‹e :: es = []›
      · rename_i n xs heq
        cases heq
        cases hb : bytesOf? es with
        | none => simp [hb] at h
        | some l' =>
          simp only [hb, Option.map_some, Option.some.injEq] at h
          subst h
          have h0 := hv' 0 (.int .u8 n) u (by simp) (by simp) rfl
          have h0 := h0.int_inv
          subst h0
          simp only [List.forIn_cons, Sem.run_bind, hg, Result.andThen_ok]
          rw [ih hb us (by simpa using hs') (fun i e u he hu hc => hv' (i + 1) e u (by simpa using he) (by simpa using hu) hc)]
          congr 2
          simp [ByteArray.push]
      · cases h
theorem convA_sound (s : SRo ρ σ w) {src dst : TypeId} {x c : AV} {u : Value} (hx : VR ρ w x u) (h : convA P σ src dst x = some c) : ∃ r, (convert src dst u).run P w = .ok r w ∧ VR ρ w c r := by
  unfold convA at h
  split at h
  · rename_i d k kk n h1 h2
    cases h; cases hx
    refine ⟨.int k (k.wrap n), ?_, by rw [wr_eq]; exact .int _ _⟩
    cases d <;> simp [convert, run_underlying h1, run_underlying h2, Conv.intToInt]
  · rename_i d kk n h1 h2
    cases h; cases hx
    refine ⟨_, ?_, .str _⟩
    cases d <;> simp [convert, run_underlying h1, run_underlying h2, Conv.intToString]
  · rename_i d str h1 h2
    cases h; cases hx
    refine ⟨_, ?_, .str _⟩
    cases d <;> simp [convert, run_underlying h1, run_underlying h2]
  · rename_i e h1 h2 h3 h4
    split at h
    · rename_i he
      split at h
      · rename_i es hes
        cases hb : bytesOf? es with
        | none => simp [hb] at h
        | some l =>
          simp only [hb, Option.map_some, Option.some.injEq] at h
          subst h
          obtain ⟨g1, g2, g3⟩ := elemsA_sound (P := P) s hx hes (by omega)
          obtain ⟨vs, v1, v2⟩ := g3 es.length (Nat.le_refl _)
          rw [List.take_length] at v2
          have hu : u = .slice none 0 0 ∨ ∃ a cap, u = .slice (some a) es.length cap := by
            unfold elemsA at hes
            split at hes
            · cases hx; exact .inl rfl
            · split at hes
              · cases hes; cases hx; exact .inr ⟨_, _, rfl⟩
              · cases hes
            · rename_i L v off len
              split at hes
              · rename_i es' sz' v' fro hg
                split at hes
                · rename_i hc
                  cases hes
                  cases hx
                  have hl2 : ((es'.drop off).take len).length = len := by simp; omega
                  rw [hl2]
                  exact .inr ⟨_, _, rfl⟩
                · cases hes
              · cases hes
            · exact (h4 _ rfl).elim
            · cases hes
          refine ⟨.string ⟨l.toArray⟩, ?_, .str _⟩
          rcases hu with rfl | ⟨a, cap, rfl⟩
          · have hes0 : es = [] := by
              have := g1
              simp [Builtin.lenOf] at this
              exact List.length_eq_zero_iff.1 this.symm
            subst hes0
            simp only [bytesOf?, Option.some.injEq] at hb
            subst hb
            simp [convert, run_underlying h1, run_underlying h2, run_underlying he, Conv.bytesToString]
            rfl
          · simp only [Builtin.firstCells, Nat.mul_one] at v1
            simp only [convert, Sem.run_bind, run_underlying h1, run_underlying h2, Result.andThen_ok, run_underlying he, Conv.bytesToString, v1, ← Array.forIn_toList]
            rw [bytesOf_sound (P := P) v2 hb (fun n r => by simp)]
            simp
      · cases h
    · cases h
  · cases h
end
end Go.Abs
end
