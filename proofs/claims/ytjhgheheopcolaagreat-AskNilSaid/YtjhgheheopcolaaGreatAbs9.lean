/- Operations that only make a value, held against the model's own: rows, slices, maps, structs. -/
import Derived.Test.YtjhgheheopcolaaGreatAbs8
set_option linter.unusedVariables false
set_option linter.unusedSimpArgs false
namespace Go.Abs
section
variable {P : Program} {ρ : Rho} {w : World} {σ : AS}

theorem VR.cells {a : AV} {u : Value} (h : VR ρ w a u) : VRs ρ w a.cells u.cells.toList := by
  have one : ∀ (x : AV) (y : Value), VR ρ w x y → VRs ρ w [x] [y] := fun x y hxy => ⟨rfl, fun i c v hc hv => by
    cases i with
    | zero => simp at hc hv; subst hc; subst hv; exact hxy
    | succ i => simp at hc⟩
  have h' := h
  cases h with
  | agg cs vs l hv => exact ⟨by simpa [AV.cells, Value.cells] using l, fun i c v hc hv' => hv i c v (by simpa [AV.cells] using hc) (by simpa [Value.cells] using hv')⟩
  | _ => exact one _ _ h'

/-! ### Cells laid over cells -/
theorem lay_length {l : List AV} {o : Nat} {xs : List AV} (h : o + xs.length ≤ l.length) : (lay l o xs).length = l.length := by
  unfold lay; simp; omega
theorem lay_get {l : List AV} {o : Nat} {xs : List AV} (h : o + xs.length ≤ l.length) (i : Nat) : (lay l o xs)[i]? = if o ≤ i ∧ i < o + xs.length then xs[i - o]? else l[i]? := by
  unfold lay
  have hlen : (List.take o l ++ xs).length = o + xs.length := by simp; omega
  rcases Nat.lt_or_ge i (o + xs.length) with h1 | h1
  · rw [List.getElem?_append_left (by omega)]
    rcases Nat.lt_or_ge i o with h2 | h2
    · rw [List.getElem?_append_left (by simp; omega), if_neg (by omega), List.getElem?_take, if_pos h2]
    · rw [List.getElem?_append_right (by simp; omega), if_pos ⟨h2, h1⟩]
      congr 1
      simp; omega
  · rw [List.getElem?_append_right (by omega), if_neg (by omega), List.getElem?_drop]
    congr 1
    omega

/-- The same, of the model's arrays. -/
theorem foldl_lay (off : Nat) : ∀ (xs : List Value) (k : Nat) (cs : Array Value), let r := (xs.zipIdx k).foldl (fun cs (p : Value × Nat) => cs.setIfInBounds (off + p.2) p.1) cs
    r.size = cs.size ∧ ∀ i, i < cs.size → r[i]? = if off + k ≤ i ∧ i < off + k + xs.length then xs[i - (off + k)]? else cs[i]?
  | [], k, cs => by simp; intro i h1 h2 h3; omega
  | x :: xs, k, cs => by
    have ih := foldl_lay off xs (k + 1) (cs.setIfInBounds (off + k) x)
    simp only [List.zipIdx_cons, List.foldl_cons] at ih ⊢
    refine ⟨ih.1.trans (by simp), fun i hi => ?_⟩
    rw [ih.2 i (by simpa using hi)]
    by_cases h1 : off + k ≤ i ∧ i < off + k + (x :: xs).length
    · rw [if_pos h1]
      by_cases h2 : i = off + k
      · subst h2
        rw [if_neg (by omega)]
        simp [hi]
      · rw [if_pos (by simp at h1; omega)]
        have : i - (off + k) = (i - (off + (k + 1))) + 1 := by omega
        rw [this]; simp
    · rw [if_neg h1, if_neg (by simp at h1; omega), Array.getElem?_setIfInBounds_ne (by simp at h1; omega)]

theorem fill_sound {place : Nat → Option (Nat × Nat)} {place' : Nat → Option (Nat × Nat)} (hp : ∀ i, place' i = place i) : ∀ (ps : List (Nat × AV)) (us : List (Nat × Value)) (cs : List AV) (vs : Array Value) (cs' : List AV),
    ps.map (·.1) = us.map (·.1) → VRs ρ w (ps.map (·.2)) (us.map (·.2)) → VRs ρ w cs vs.toList → fillA place ps cs = some cs' →
    ∃ vs', Instr.fill place' vs us = some vs' ∧ VRs ρ w cs' vs'.toList
  | [], us, cs, vs, cs', h1, h2, h3, h => by
    have : us = [] := by simpa using h1.symm
    subst this
    simp only [fillA, Option.some.injEq] at h
    subst h
    exact ⟨vs, rfl, h3⟩
  | (i, x) :: ps, [], cs, vs, cs', h1, h2, h3, h => by simp at h1
  | (i, x) :: ps, (j, u) :: us, cs, vs, cs', h1, h2, h3, h => by
    simp only [List.map_cons, List.cons.injEq] at h1
    obtain ⟨rfl, h1⟩ := h1
    have hxu : VR ρ w x u := h2.2 0 x u (by simp) (by simp)
    have h2' : VRs ρ w (ps.map (·.2)) (us.map (·.2)) := ⟨by simpa using h2.1, fun i c v hc hv => h2.2 (i + 1) c v (by simpa using hc) (by simpa using hv)⟩
    simp only [fillA] at h
    split at h
    · rename_i off n hpl
      split at h
      · rename_i hle
        have hc := hxu.cells
        have hl3 : cs.length = vs.size := by simpa using h3.1
        have hcl : x.cells.length = u.cells.size := by simpa using hc.1
        have hf := foldl_lay off u.cells.toList 0 vs
        simp only [Nat.add_zero] at hf
        have e : (u.cells.zipIdx.foldl (fun cs (x : Value × Nat) => cs.setIfInBounds (off + x.2) x.1) vs) = (u.cells.toList.zipIdx 0).foldl (fun cs (p : Value × Nat) => cs.setIfInBounds (off + p.2) p.1) vs := by
          rw [← Array.foldl_toList, Array.toList_zipIdx]
        obtain ⟨vs', g1, g2⟩ := fill_sound hp ps us (lay cs off x.cells) ((u.cells.toList.zipIdx 0).foldl (fun cs (p : Value × Nat) => cs.setIfInBounds (off + p.2) p.1) vs) cs' h1 h2'
          ⟨by rw [lay_length (by omega)]; simpa [hf.1] using h3.1, fun k c v hck hvk => by
            rw [lay_get (by omega)] at hck
            rw [Array.getElem?_toList] at hvk
            have hk : k < vs.size := by rw [← hf.1]; exact (Array.getElem?_eq_some_iff.1 hvk).1
            rw [hf.2 k hk] at hvk
            simp only [Array.length_toList] at hvk
            by_cases hin : off ≤ k ∧ k < off + u.cells.size
            · rw [if_pos (by omega)] at hck; rw [if_pos hin] at hvk; exact hc.2 _ _ _ hck hvk
            · rw [if_neg (by omega)] at hck; rw [if_neg hin] at hvk; exact h3.2 _ _ _ hck (by simpa using hvk)⟩ h
        refine ⟨vs', ?_, g2⟩
        rw [Instr.fill, hp, hpl]
        simp only
        rw [if_neg (by simp; omega)]
        rw [e]
        exact g1
      · cases h
    · cases h

theorem mapM_places : ∀ (fs : List Field) (pl : List (Nat × Nat)), placesA P fs = some pl → ∀ w, (fs.mapM (m := Sem) fun f => do pure (f.offset, ← sizeOf f.type)).run P w = .ok pl w
  | [], pl, h, w => by simp only [placesA, Option.some.injEq] at h; subst h; rfl
  | f :: fs, pl, h, w => by
    simp only [placesA] at h
    split at h
    · rename_i n ps h1 h2
      cases h
      simp only [List.mapM_cons, Sem.run_bind, run_sizeA h1, Result.andThen_ok, Sem.run_pure, mapM_places fs ps h2]
    · cases h

theorem buildA_sound {t : TypeId} {ps : List (Nat × AV)} {us : List (Nat × Value)} {c : AV} (h1 : ps.map (·.1) = us.map (·.1)) (h2 : VRs ρ w (ps.map (·.2)) (us.map (·.2)))
    (h : buildA P t ps = some c) : ∃ u, (Instr.build t us.toArray).run P w = .ok u w ∧ VR ρ w c u := by
  unfold buildA at h
  split at h
  · rename_i z fs hz ht
    obtain ⟨zv, z1, z2⟩ := run_zeroA hz w
    have hzc := (ofV_sound (ρ := ρ) (w := w) z2).cells
    split at h
    · rename_i pl hpl
      cases hf : fillA (fun i => pl[i]?) ps z.cells with
      | none => simp [hf] at h
      | some cs' =>
        simp only [hf, Option.map_some, Option.some.injEq] at h
        subst h
        obtain ⟨vs', g1, g2⟩ := fill_sound (place := fun i => pl[i]?) (place' := fun i => pl.toArray[i]?) (fun i => by simp) ps us z.cells zv.cells cs' h1 h2 hzc hf
        have hm := mapM_places fs.toList pl hpl w
        have hm' : (fs.mapM (m := Sem) fun f => do pure (f.offset, ← sizeOf f.type)).run P w = .ok pl.toArray w := by
          rw [Array.mapM_eq_mapM_toList, Sem.run_map, hm]; rfl
        refine ⟨.agg vs', ?_, .agg _ _ (by simpa using g2.1) (fun i c v hc hv => g2.2 i c v hc (by simpa using hv))⟩
        simp only [Instr.build, Sem.run_bind, z1, Result.andThen_ok, run_underlying ht, hm', g1, Sem.run_pure]
    · cases h
  · rename_i z e n hz ht
    obtain ⟨zv, z1, z2⟩ := run_zeroA hz w
    have hzc := (ofV_sound (ρ := ρ) (w := w) z2).cells
    split at h
    · rename_i sz hsz
      cases hf : fillA (fun i => some (i * sz, sz)) ps z.cells with
      | none => simp [hf] at h
      | some cs' =>
        simp only [hf, Option.map_some, Option.some.injEq] at h
        subst h
        obtain ⟨vs', g1, g2⟩ := fill_sound (place := fun i => some (i * sz, sz)) (place' := fun i => some (i * sz, sz)) (fun i => rfl) ps us z.cells zv.cells cs' h1 h2 hzc hf
        refine ⟨.agg vs', ?_, .agg _ _ (by simpa using g2.1) (fun i c v hc hv => g2.2 i c v hc (by simpa using hv))⟩
        simp only [Instr.build, Sem.run_bind, z1, Result.andThen_ok, run_underlying ht, run_sizeA hsz, g1, Sem.run_pure]
    · cases h
  · cases h
end
end Go.Abs
