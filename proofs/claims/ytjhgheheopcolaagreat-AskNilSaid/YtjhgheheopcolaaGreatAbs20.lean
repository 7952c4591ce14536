/- copy, clear; maps; slices that are made. -/
import Derived.Test.YtjhgheheopcolaaGreatAbs19
set_option linter.unusedVariables false
set_option linter.unusedSimpArgs false
namespace Go.Abs
section
variable {P : Program} {cx : Cx}

theorem copyA_sound {ρ : Rho} {σ σ' : AS} {w : World} (s : SR ρ σ w) {t e : TypeId} {ats : Array TypeId} {d x c : AV} {ud ux : Value} {ty : TypeId} (hd : VR ρ w d ud) (hx : VR ρ w x ux) (ht : ats[0]? = some t) (he : elemA P t = some e)
    (hsz : ∀ L v off len, d = .row L v off len → ∀ es sz v' fro, σ.get L = some (.row es sz v' fro) → sizeA P e = some sz) (hs0 : (sizeA P e).isSome = true) (hxl : (elemsA σ ((sizeA P e).getD 0) x).isSome = true)
    (hpos : 0 < (sizeA P e).getD 0) (h : copyA cx σ d x = some (c, σ')) :
    Eff P ρ w σ' c (Builtin.copy_ ats ty #[ud, ux]) := by
  have hund : P.underlying t = some (.slice e) := by
    unfold elemA at he
    split at he
    · cases he; assumption
    · cases he
  obtain ⟨n, hn⟩ := Option.isSome_iff_exists.1 hs0
  rw [hn] at hxl hpos
  simp only [Option.getD_some] at hxl hpos
  obtain ⟨es0, hes0⟩ := Option.isSome_iff_exists.1 hxl
  obtain ⟨g1, g2, g3⟩ := elemsA_sound (P := P) s hx hes0 hpos
  unfold copyA at h
  split at h
  · simp only [Option.some.injEq, Prod.mk.injEq] at h
    obtain ⟨rfl, rfl⟩ := h
    cases hd
    obtain ⟨vs, v1, _⟩ := g3 0 (Nat.zero_le _)
    exact ⟨.int .i64 0, w, ρ, by simp [Builtin.copy_, ht, run_underlying hund, g1, run_sizeA hn, v1, goInt], Ext.refl _ _, s, .int _ _⟩
  · rename_i L v off len
    split at h
    · rename_i es sz v' hg
      split at h
      · rename_i xs hxs
        split at h
        · rename_i hcond
          obtain ⟨rfl, _, hle⟩ := hcond
          simp only [Option.some.injEq, Prod.mk.injEq] at h
          obtain ⟨rfl, rfl⟩ := h
          have hsz' := hsz L v' off len rfl es sz v' false hg
          have : n = sz := Option.some.inj (hn.symm.trans hsz')
          subst this
          have : es0 = xs := Option.some.inj (hes0.symm.trans hxs)
          subst this
          obtain ⟨vs, v1, v2⟩ := g3 (min es0.length len) (Nat.min_le_left _ _)
          have htake : es0.take (min es0.length len) = es0.take len := by
            rcases Nat.le_total es0.length len with h | h
            · rw [Nat.min_eq_left h, List.take_length, List.take_of_length_le h]
            · rw [Nat.min_eq_right h]
          rw [htake] at v2
          have hO := s.obj L _ hg
          obtain ⟨q, hq, hr, hv, hs, _, hlive, hcap, hok, hfr, bs, E, fz, hw, hlt, hfz, hval⟩ := hO
          cases hd with
          | row _ _ _ _ p ad cap hp hr' hv' hl hadr =>
            have : q = p := Option.some.inj (hq.symm.trans hp)
            subst this
            obtain ⟨a1, a2⟩ := hadr hv
            have hmin : (Nat.min es0.length len) = min es0.length len := rfl
            by_cases hm : (es0.take len).length = 0
            · have hnil : es0.take len = [] := List.length_eq_zero_iff.1 hm
              rw [hnil] at v2
              have hvs : vs = #[] := by have := v2.1; simpa using this
              subst hvs
              refine ⟨.int .i64 (min es0.length len : Nat), w, ρ, ?_, Ext.refl _ _, ?_, .int _ _⟩
              · simp [Builtin.copy_, ht, run_underlying hund, g1, run_sizeA hn, hmin, v1, goInt, storeCells]
              · rw [hnil, lay_nil, AS.set_self hg]; exact s
            · have hlen : (es0.take len).length = min len es0.length := by simp
              have := a2 (by omega)
              subst this
              obtain ⟨r1, x1, s1⟩ := store_row (P := P) s hg v2 (fun x hx => g2 x (List.mem_of_mem_take hx)) (k := off) (by omega) hp (by omega) (Nat.le_refl v')
              refine ⟨.int .i64 (min es0.length len : Nat), _, _, ?_, x1, s1, .int _ _⟩
              rw [hs]
              simp [Builtin.copy_, ht, run_underlying hund, g1, run_sizeA hn, hmin, v1, goInt, r1]
        · cases h
      · cases h
    · cases h
  · cases h

theorem zeroCells_spec {ρ : Rho} {w : World} {z : AV} {zv : Value} (h : VR ρ w z zv) {sz : Nat} (hz : okE sz z = true) (n : Nat) : RowAt ρ w sz (List.replicate n z) (Builtin.zeroCells zv.cells n) := by
  have hc := h.cells
  have hl : zv.cells.size = sz := by rw [← okE_len hz]; simpa using hc.1.symm
  refine ⟨by simp [Builtin.zeroCells, hl], fun i e j c u hi hj hu => ?_⟩
  have he : e = z := List.eq_of_mem_replicate (getElem?_mem' hi)
  subst he
  have hjs : j < sz := by rw [← okE_len hz]; exact (List.getElem?_eq_some_iff.1 hj).1
  simp only [Builtin.zeroCells, Array.getElem?_map, hl] at hu
  cases hr : (Array.range (n * sz))[i * sz + j]? with
  | none => rw [hr] at hu; simp at hu
  | some m =>
    have : m = i * sz + j := by
      rw [Array.getElem?_range] at hr
      split at hr
      · exact (Option.some.inj hr).symm
      · cases hr
    subst this
    rw [hr] at hu
    simp only [Option.map_some, Option.some.injEq] at hu
    rw [(divmod (i := i) hjs).2] at hu
    have hjz : j < zv.cells.size := by omega
    rw [getElem!_pos zv.cells j hjz] at hu
    exact hc.2 j c u hj (by rw [← hu]; simp [hjz])

theorem clearA_sound {ρ : Rho} {σ σ' : AS} {w : World} (s : SR ρ σ w) {t : TypeId} {x : AV} {ux : Value} {ty : TypeId} (hx : VR ρ w x ux) (h : clearA P cx σ t x = some σ') :
    Eff P ρ w σ' (.tup []) (Builtin.clear_ #[t] ty #[ux]) := by
  have hundef : ∀ (ρ : Rho) (w : World), VR ρ w (.tup []) (.tuple #[]) := fun ρ w => .tup [] #[] rfl (fun i c v hc => by simp at hc)
  unfold clearA at h
  split at h
  · rename_i e L v off len he
    have hund : P.underlying t = some (.slice e) := by
      unfold elemA at he
      split at he
      · cases he; assumption
      · cases he
    split at h
    · rename_i es sz v' z hg hz
      split at h
      · rename_i hcond
        obtain ⟨rfl, hsz, hzok, _, hle⟩ := hcond
        cases h
        obtain ⟨zv, z1, z2⟩ := VR.zero (ρ := ρ) (w := w) (w' := w) hz
        have hO := s.obj L _ hg
        obtain ⟨q, hq, hr, hv, hs, _, hlive, hcap, hok, hfr, bs, E, fz, hw, hlt, hfz, hval⟩ := hO
        cases hx with
        | row _ _ _ _ p ad cap hp hr' hv' hl hadr =>
          have : q = p := Option.some.inj (hq.symm.trans hp)
          subst this
          obtain ⟨a1, a2⟩ := hadr hv
          by_cases hm : len = 0
          · subst hm
            refine ⟨.tuple #[], w, ρ, by simp [Builtin.clear_, run_underlying hund], Ext.refl _ _, ?_, hundef _ _⟩
            rw [List.replicate_zero, lay_nil, AS.set_self hg]; exact s
          · have := a2 (by omega)
            subst this
            obtain ⟨r1, x1, s1⟩ := store_row (P := P) s hg (zeroCells_spec z2 hzok len) (fun x hx => by rw [List.eq_of_mem_replicate hx]; exact hzok) (k := off) (by omega) hp (by simp; omega) (Nat.le_refl v')
            refine ⟨.tuple #[], _, _, ?_, x1, s1, hundef _ _⟩
            rw [hs]
            cases len with
            | zero => exact absurd rfl hm
            | succ len => simp [Builtin.clear_, run_underlying hund, z1, r1]
      · cases h
    · cases h
  · rename_i e he
    have hund : P.underlying t = some (.slice e) := by
      unfold elemA at he
      split at he
      · cases he; assumption
      · cases he
    cases h
    cases hx
    exact ⟨.tuple #[], w, ρ, by simp [Builtin.clear_, run_underlying hund], Ext.refl _ _, s, hundef _ _⟩
  · cases h
end
end Go.Abs
