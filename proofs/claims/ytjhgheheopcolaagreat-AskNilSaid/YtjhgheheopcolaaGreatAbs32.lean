/- Results; back from a call. -/
import Derived.Test.YtjhgheheopcolaaGreatAbs31
set_option linter.unusedVariables false
set_option linter.unusedSimpArgs false
namespace Go.Abs
section
variable {P : Program} {ρ : Rho} {σ : AS} {w : World}

theorem resA_sound (s : SRo ρ σ w) {env : Env} {tmps : Array Value} (hE : ER ρ w env tmps) : ∀ (rs : List ResultVar) (vs : List AV), resA P σ env rs = some vs →
    ∃ us : List Value, ((rs.mapM fun | .tmp t => pure (tmps.getD t undef) | .cell a t => do loadVar t (← asAddr (tmps.getD a undef)) : Sem (List Value)).run P w = .ok us w) ∧ VRs ρ w vs us
  | [], vs, h => by
    simp only [resA, Option.some.injEq] at h
    subst h
    exact ⟨[], by simp, VRs.nil⟩
  | .tmp t :: rs, vs, h => by
    simp only [resA] at h
    split at h
    · rename_i vs' h'
      cases h
      obtain ⟨us, h1, h2⟩ := resA_sound s hE rs vs' h'
      exact ⟨_ :: us, by simp only [List.mapM_cons, Sem.run_bind, Sem.run_pure, Result.andThen_ok, h1], VRs.cons (hE.get t) h2⟩
    · cases h
  | .cell x t :: rs, vs, h => by
    simp only [resA] at h
    split at h
    · rename_i v vs' h0 h'
      cases h
      obtain ⟨us, h1, h2⟩ := resA_sound s hE rs vs' h'
      have hv := hE.get x
      obtain ⟨u, u1, u2⟩ := loadA_sound (P := P) s hv h0
      refine ⟨u :: us, ?_, VRs.cons u2 h2⟩
      have : (do loadVar t (← asAddr (tmps.getD x undef)) : Sem Value).run P w = .ok u w := by
        generalize env.get x = c at hv h0
        generalize tmps.getD x undef = y at hv u1 ⊢
        cases hv <;> first | exact u1 | (simp only [loadA] at h0; cases h0)
      simp only [List.mapM_cons, Sem.run_bind, Sem.run_pure, this, Result.andThen_ok, h1]
    · cases h

theorem results_sound (s : SRo ρ σ w) {env : Env} {tmps : Array Value} (hE : ER ρ w env tmps) {fn : Func} {vs : List AV} (h : resA P σ env fn.results.toList = some vs) :
    ∃ u, (results fn tmps).run P w = .ok u w ∧ VR ρ w (oneA vs) u := by
  obtain ⟨us, h1, h2⟩ := resA_sound s hE _ _ h
  unfold results
  rw [Sem.run_bind, Array.mapM_eq_mapM_toList, Sem.run_map]
  erw [h1]
  cases vs with
  | nil =>
    have : us = [] := by have := h2.1; simpa using this.symm
    subst this
    exact ⟨_, rfl, .tup [] #[] rfl (fun i c v hc => by simp at hc)⟩
  | cons v vs =>
    obtain ⟨u, us', rfl, hu, hus⟩ := h2.cons_inv
    cases vs with
    | nil =>
      have : us' = [] := by have := hus.1; simpa using this.symm
      subst this
      exact ⟨u, rfl, hu⟩
    | cons v' vs =>
      obtain ⟨u', us'', rfl, hu', hus'⟩ := hus.cons_inv
      refine ⟨.tuple (u :: u' :: us'').toArray, ?_, .tup _ _ (by have := h2.1; simpa using this) (fun i c x hc hx => h2.2 i c x hc (by simpa using hx))⟩
      simp
end

/-- Rows of h and above that are no longer written. -/
def Fz (h : Nat) (σ σ' : AS) : Prop :=
  σ'.hp = σ.hp ∧ σ'.st.length = σ.st.length ∧ σ'.st.take h = σ.st.take h ∧ ∀ i : Nat, σ'.st[i]? = σ.st[i]? ∨ ∃ es sz v fro, σ.st[i]? = some (.row es sz v fro) ∧ σ'.st[i]? = some (.row es sz v true)
theorem Fz.refl (h : Nat) (σ : AS) : Fz h σ σ := ⟨rfl, rfl, rfl, fun _ => .inl rfl⟩
theorem Fz.trans {h : Nat} {σ σ1 σ2 : AS} (a : Fz h σ σ1) (b : Fz h σ1 σ2) : Fz h σ σ2 := by
  refine ⟨b.1.trans a.1, b.2.1.trans a.2.1, b.2.2.1.trans a.2.2.1, fun i => ?_⟩
  rcases a.2.2.2 i with h1 | ⟨es, sz, v, fro, h1, h2⟩ <;> rcases b.2.2.2 i with k1 | ⟨es', sz', v', fro', k1, k2⟩
  · exact .inl (k1.trans h1)
  · exact .inr ⟨_, _, _, _, h1 ▸ k1, k2⟩
  · exact .inr ⟨_, _, _, _, h1, k1.trans h2⟩
  · rw [h2] at k1
    cases k1
    exact .inr ⟨_, _, _, _, h1, k2⟩

mutual
theorem back_fz {h : Nat} {σ σ' : AS} (z : Fz h σ σ') : ∀ (x y : AV), x.back h σ = some y → x.back h σ' = some y
  | .row (.st i) v off len, y, hb => by
    simp only [AV.back] at hb ⊢
    split at hb
    · rename_i hi; rw [if_pos hi]; exact hb
    · rename_i hi
      rw [if_neg hi]
      rcases z.2.2.2 i with h1 | ⟨es, sz, v', fro, h1, h2⟩
      · rw [h1]; exact hb
      · rw [h1] at hb
        rw [h2]
        exact hb
  | .row (.hp i) v off len, y, hb => by simpa [AV.back] using hb
  | .agg cs, y, hb => by
    simp only [AV.back] at hb ⊢
    split at hb
    · rename_i cs' hc
      rw [backs_fz z cs cs' hc]; exact hb
    · cases hb
  | .tup cs, y, hb => by
    simp only [AV.back] at hb ⊢
    split at hb
    · rename_i cs' hc
      rw [backs_fz z cs cs' hc]; exact hb
    · cases hb
  | .bool _, y, hb | .int _ _, y, hb | .str _, y, hb | .nilp, y, hb | .ptr _ _, y, hb | .rptr _ _, y, hb | .eptr _ _ _ _, y, hb | .nils, y, hb | .sl _ _ _, y, hb | .nilm, y, hb | .map _, y, hb | .fn _ _ _, y, hb | .nilf, y, hb | .iface _ _, y, hb | .nili, y, hb => by
    simpa [AV.back] using hb
theorem backs_fz {h : Nat} {σ σ' : AS} (z : Fz h σ σ') : ∀ (xs ys : List AV), AVs.back h σ xs = some ys → AVs.back h σ' xs = some ys
  | [], ys, hb => by simpa [AVs.back] using hb
  | x :: xs, ys, hb => by
    simp only [AVs.back] at hb ⊢
    split at hb
    · rename_i y ys' h1 h2
      rw [back_fz z x y h1, backs_fz z xs ys' h2]; exact hb
    · cases hb
end

theorem VRs.of_arr {ρ : Rho} {w : World} {cs : List AV} {vs : Array Value} (l : cs.length = vs.size) (h : ∀ (i : Nat) (c : AV) (v : Value), cs[i]? = some c → vs[i]? = some v → VR ρ w c v) : VRs ρ w cs vs.toList :=
  ⟨by simpa using l, fun i c v hc hv => h i c v hc (by simpa using hv)⟩

mutual
theorem back_sound {h : Nat} {w : World} : ∀ (x y : AV) (u : Value) (ρ : Rho) (σ : AS), SR ρ σ w → VR ρ w x u → x.back h σ = some y → ∃ ρ' σ', Fz h σ σ' ∧ Ext ρ w ρ' w ∧ SR ρ' σ' w ∧ VR ρ' w y u
  | .row (.st i) v off len, y, u, ρ, σ, s, hv, hb => by
    simp only [AV.back] at hb
    split at hb
    · cases hb
      exact ⟨ρ, σ, Fz.refl _ _, Ext.refl _ _, s, hv⟩
    · rename_i hi
      split at hb
      · rename_i es sz v' fro hg
        split at hb
        · rename_i hc
          obtain ⟨rfl, hle⟩ := hc
          cases hb
          have hg' : σ.get (.st i) = some (.row es sz v' fro) := hg
          obtain ⟨ρ', x', s'⟩ := s.freeze hg'
          refine ⟨ρ', σ.set (.st i) (.row es sz v' true), ⟨rfl, by simp [AS.set], ?_, fun j => ?_⟩, x', s', VR.row_sl s' ?_ hle (hv.mono x')⟩
          · simp only [AS.set]
            rw [List.take_set_of_le (by omega)]
          · simp only [AS.set]
            by_cases hj : i = j
            · subst hj
              refine .inr ⟨es, sz, v', fro, hg, ?_⟩
              rw [List.getElem?_set_self (List.getElem?_eq_some_iff.1 hg).1]
            · exact .inl (List.getElem?_set_ne hj)
          · rw [AS.get_set, if_pos rfl, hg']; rfl
        · cases hb
      · cases hb
  | .row (.hp i) v off len, y, u, ρ, σ, s, hv, hb => by
    simp only [AV.back, Option.some.injEq] at hb
    subst hb
    exact ⟨ρ, σ, Fz.refl _ _, Ext.refl _ _, s, hv⟩
  | .agg cs, y, u, ρ, σ, s, hv, hb => by
    simp only [AV.back] at hb
    split at hb
    · rename_i cs' hc
      cases hb
      cases hv with
      | agg _ vs l hh =>
        obtain ⟨ρ', σ', z, x', s', v'⟩ := backs_sound cs cs' vs.toList ρ σ s (VRs.of_arr l hh) hc
        exact ⟨ρ', σ', z, x', s', .agg _ _ (by simpa using v'.1) (fun i c v hc hv => v'.2 i c v hc (by simpa using hv))⟩
    · cases hb
  | .tup cs, y, u, ρ, σ, s, hv, hb => by
    simp only [AV.back] at hb
    split at hb
    · rename_i cs' hc
      cases hb
      cases hv with
      | tup _ vs l hh =>
        obtain ⟨ρ', σ', z, x', s', v'⟩ := backs_sound cs cs' vs.toList ρ σ s (VRs.of_arr l hh) hc
        exact ⟨ρ', σ', z, x', s', .tup _ _ (by simpa using v'.1) (fun i c v hc hv => v'.2 i c v hc (by simpa using hv))⟩
    · cases hb
  | .bool _, y, u, ρ, σ, s, hv, hb | .int _ _, y, u, ρ, σ, s, hv, hb | .str _, y, u, ρ, σ, s, hv, hb | .nilp, y, u, ρ, σ, s, hv, hb | .ptr _ _, y, u, ρ, σ, s, hv, hb | .rptr _ _, y, u, ρ, σ, s, hv, hb | .eptr _ _ _ _, y, u, ρ, σ, s, hv, hb
  | .nils, y, u, ρ, σ, s, hv, hb | .sl _ _ _, y, u, ρ, σ, s, hv, hb | .nilm, y, u, ρ, σ, s, hv, hb | .map _, y, u, ρ, σ, s, hv, hb | .fn _ _ _, y, u, ρ, σ, s, hv, hb | .nilf, y, u, ρ, σ, s, hv, hb | .iface _ _, y, u, ρ, σ, s, hv, hb | .nili, y, u, ρ, σ, s, hv, hb => by
    simp only [AV.back, Option.some.injEq] at hb
    subst hb
    exact ⟨ρ, σ, Fz.refl _ _, Ext.refl _ _, s, hv⟩
theorem backs_sound {h : Nat} {w : World} : ∀ (xs ys : List AV) (us : List Value) (ρ : Rho) (σ : AS), SR ρ σ w → VRs ρ w xs us → AVs.back h σ xs = some ys → ∃ ρ' σ', Fz h σ σ' ∧ Ext ρ w ρ' w ∧ SR ρ' σ' w ∧ VRs ρ' w ys us
  | [], ys, us, ρ, σ, s, hv, hb => by
    simp only [AVs.back, Option.some.injEq] at hb
    subst hb
    exact ⟨ρ, σ, Fz.refl _ _, Ext.refl _ _, s, hv⟩
  | x :: xs, ys, us, ρ, σ, s, hv, hb => by
    simp only [AVs.back] at hb
    split at hb
    · rename_i y ys' h1 h2
      cases hb
      obtain ⟨u, us', rfl, hu, hus⟩ := hv.cons_inv
      obtain ⟨ρ1, σ1, z1, x1, s1, v1⟩ := back_sound x y u ρ σ s hu h1
      obtain ⟨ρ2, σ2, z2, x2, s2, v2⟩ := backs_sound xs ys' us' ρ1 σ1 s1 (hus.mono x1) (backs_fz z1 xs ys' h2)
      exact ⟨ρ2, σ2, z1.trans z2, x1.trans x2, s2, VRs.cons (v1.mono x2) v2⟩
    · cases hb
end
end Go.Abs
