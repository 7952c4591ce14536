/- append, copy, clear. -/
import Derived.Test.YtjhgheheopcolaaGreatAbs18
set_option linter.unusedVariables false
set_option linter.unusedSimpArgs false
namespace Go.Abs
section
variable {P : Program} {cx : Cx}

theorem Ext.of_drew {ρ : Rho} {w : World} {ρ' : Rho} {w' : World} (x : Ext ρ w.drew ρ' w') : Ext ρ w ρ' w' := Ext.drew.trans x

theorem size3 {us vd rest : Array Value} {a b N sz : Nat} (h1 : us.size = a * sz) (h2 : vd.size = b * sz) (h3 : rest.size = (N - (a + b)) * sz) (h : a + b ≤ N) : N * sz = (us ++ vd ++ rest).size := by
  simp only [Array.size_append, h1, h2, h3, ← Nat.add_mul]
  congr 1
  omega

theorem rowAt_nil {ρ : Rho} {w : World} {sz : Nat} : RowAt ρ w sz [] #[] := ⟨by simp, fun i e j c u hi => by simp at hi⟩

theorem elems_drew {ρ : Rho} {σ : AS} {w : World} (s : SR ρ σ w) {x : AV} {u : Value} {sz : Nat} {es : List AV} (hx : VR ρ w x u) (h : elemsA σ sz x = some es) (h0 : 0 < sz) :
    ∃ vs, (Builtin.firstCells sz es.length u).run P w.drew = .ok vs w.drew ∧ RowAt ρ w sz es vs := by
  obtain ⟨_, _, g3⟩ := elemsA_sound (P := P) s.drew (VR.ext_heap (w := w) (w' := w.drew) rfl hx) h h0
  obtain ⟨vs, v1, v2⟩ := g3 es.length (Nat.le_refl _)
  rw [List.take_length] at v2
  exact ⟨vs, v1, v2.1, fun i e j c u hi hj hu => VR.ext_heap (w := w.drew) (w' := w) rfl (v2.2 i e j c u hi hj hu)⟩

theorem appendA_sound {ρ : Rho} {σ σ' : AS} {w : World} (s : SR ρ σ w) {ts : List TypeId} {a x c : AV} {ua ux : Value} {ty : TypeId} (ha : VR ρ w a ua) (hx : VR ρ w x ux) (h : appendA P cx σ ts a x = some (c, σ')) :
    Eff P ρ w σ' c (Builtin.append_ ts.toArray ty #[ua, ux]) := by
  unfold appendA at h
  split at h
  · rename_i st xt
    split at h
    · rename_i e xd he hxd
      split at h
      · rename_i sz b hsz hb
        split at h
        · rename_i hcond
          obtain ⟨hpos, hsrc, hzl⟩ := hcond
          obtain ⟨z, hz, hzl⟩ : ∃ z, zeroA P e = some z ∧ z.cells.length = sz := by
            cases hz : zeroA P e with
            | none => simp [hz] at hzl
            | some z => exact ⟨z, rfl, by simpa [hz] using hzl⟩
          split at h
          · cases h
          · rename_i xs hxs
            obtain ⟨g1, g2, g3⟩ := elemsA_sound (P := P) s hx hxs hpos
            obtain ⟨vs, v1, v2⟩ := g3 xs.length (Nat.le_refl _)
            rw [List.take_length] at v2
            obtain ⟨vd, vd1, vd2⟩ := elems_drew (P := P) s hx hxs hpos
            -- where a new row is laid
            have grow : ∀ (base : Option Addr) (n cap : Nat) (es : List AV) (us : Array Value), ua = .slice base n cap → es.length = n → (Builtin.firstCells sz n (.slice base n cap)).run P w.drew = .ok us w.drew → RowAt ρ w sz es us →
                (∀ e ∈ es, okE sz e = true) → ¬ n + xs.length ≤ cap → bytesOk (n + xs.length) b = true →
                Eff P ρ w (σ.push false (.row (es ++ xs) sz 0 false)) (.row (σ.next false) 0 0 (n + xs.length)) (Builtin.append_ #[st, xt] ty #[ua, ux]) := by
              intro base n cap es us hua hn hu hR hok hle hbo
              subst hua
              have hr := (run_append (P := P) (w := w) (ty := ty) he hxd hsrc hsz hb hz hzl (base := base) (n := n) (cap := cap) g1 (vs := vd)).2 hle hbo us hu vd1
              obtain ⟨newCap, rest, c1, c2, hr⟩ := hr
              have hsize : w.heap.size < (w.drew.alloc (.cells (us ++ vd ++ rest) e)).heap.size := by simp
              obtain ⟨ρ', x', s', v'⟩ := s.newRow (w' := w.drew.alloc (.cells (us ++ vd ++ rest) e)) (es := es ++ xs) (cap := newCap) (us := us ++ vd ++ rest) (E := e) (fz := (0, 0)) hpos
                (fun d hd => by rcases List.mem_append.1 hd with h | h; exact hok d h; exact g2 d h) (by simp; omega)
                (Nat.le_of_eq (size3 (by rw [hR.1, hn]) vd2.1 c2 c1)) (.inl (Nat.le_refl _))
                (fun b hb => heap_alloc_old w.drew _ b hb) hsize rfl rfl rfl (heap_alloc_new w.drew _) (hR.append vd2 hok g2) c1
              exact ⟨_, _, ρ', hr, x', s', v'⟩
            split at h
            · cases ha
              split at h
              · rename_i hemp
                have hnil : xs = [] := by simpa using hemp
                subst hnil
                simp only [Option.some.injEq, Prod.mk.injEq] at h
                obtain ⟨rfl, rfl⟩ := h
                have := ((run_append (P := P) (w := w) (ty := ty) he hxd hsrc hsz hb hz hzl (base := none) (n := 0) (cap := 0) g1 (vs := vs)).1 v1 (by simp)).2 rfl
                exact ⟨_, w, ρ, this, Ext.refl _ _, s, .nils⟩
              · split at h
                · rename_i hne hbo
                  simp only [Option.some.injEq, Prod.mk.injEq] at h
                  obtain ⟨rfl, rfl⟩ := h
                  have hne' : xs.length ≠ 0 := by simpa using hne
                  have := grow none 0 0 [] #[] rfl rfl rfl rowAt_nil (by simp) (by omega) (by simpa using hbo)
                  simpa using this
                · cases h
            · rename_i full sz' es
              split at h
              · rename_i hemp
                have hnil : xs = [] := by simpa using hemp
                subst hnil
                simp only [Option.some.injEq, Prod.mk.injEq] at h
                obtain ⟨rfl, rfl⟩ := h
                have ha' := ha
                cases ha with
                | sl _ _ _ ad cap f hc hfull hp hok h1 h2 =>
                  have hvs : vs = #[] := by have := v2.1; simpa using this
                  subst hvs
                  have := ((run_append (P := P) (w := w) (ty := ty) he hxd hsrc hsz hb hz hzl (base := some ad) (n := es.length) (cap := cap) g1 (vs := #[])).1 v1 (by simpa using hc)).1 ad w rfl rfl
                  exact ⟨_, w, ρ, this, Ext.refl _ _, s, by simpa using ha'⟩
              · split at h
                · rename_i hne hcond
                  obtain ⟨rfl, rfl, hbo⟩ := hcond
                  simp only [Option.some.injEq, Prod.mk.injEq] at h
                  obtain ⟨rfl, rfl⟩ := h
                  have hne' : xs.length ≠ 0 := by simpa using hne
                  have hes : elemsA σ sz' (.sl true sz' es) = some es := by simp [elemsA]
                  obtain ⟨us, u1, u2⟩ := elems_drew (P := P) s ha hes hpos
                  obtain ⟨_, hok, _⟩ := elemsA_sound (P := P) s ha hes hpos
                  cases ha with
                  | sl _ _ _ ad cap f hc hfull hp hok' h1 h2 =>
                    have hcap := hfull rfl
                    exact grow (some ad) es.length cap es us rfl rfl u1 u2 hok (by omega) hbo
                · cases h
            · rename_i L v off len
              split at h
              · rename_i es sz' v' hg
                split at h
                · rename_i hcond
                  obtain ⟨rfl, rfl, _, hle⟩ := hcond
                  have hO := s.obj L _ hg
                  obtain ⟨q, hq, hr, hv, hs, _, hlive, hcap, hok, hfr, bs, E, fz, hw, hlt, hfz, hval⟩ := hO
                  cases ha with
                  | row _ _ _ _ p ad cap hp hr' hv' hl hadr =>
                    have : q = p := Option.some.inj (hq.symm.trans hp)
                    subst this
                    obtain ⟨a1, a2⟩ := hadr hv
                    split at h
                    · rename_i hroom
                      simp only [Option.some.injEq, Prod.mk.injEq] at h
                      obtain ⟨rfl, rfl⟩ := h
                      have hra := ((run_append (P := P) (w := w) (ty := ty) he hxd hsrc hsz hb hz hzl (base := some ad) (n := len) (cap := cap) g1 (vs := vs)).1 v1 (by omega)).1 ad
                      by_cases hm : xs.length = 0
                      · have hnil : xs = [] := List.length_eq_zero_iff.1 hm
                        subst hnil
                        have hvs : vs = #[] := by have := v2.1; simpa using this
                        subst hvs
                        refine ⟨_, w, ρ, hra w rfl rfl, Ext.refl _ _, ?_, ?_⟩
                        · rw [lay_nil, AS.set_self hg]; exact s
                        · exact .row L v' off _ q ad cap hp hr' hv' (by simp; omega) (fun _ => ⟨a1, a2⟩)
                      · have := a2 (by omega)
                        subst this
                        obtain ⟨r1, x1, s1⟩ := store_row (P := P) s hg v2 g2 (k := off + len) (by omega) hp (by omega) (Nat.le_refl v')
                        have hadd : (⟨q.b, q.o + off * q.sz, none⟩ : Addr).add (len * sz') = ⟨q.b, q.o + (off + len) * sz', none⟩ := by
                          rw [add_mk, hs, Nat.add_mul, Nat.add_assoc]
                        refine ⟨_, _, _, hra _ rfl (by rw [hadd]; exact r1), x1, s1, ?_⟩
                        exact .row L v' off _ { q with ver := v' } _ cap (upd_same _ _ _) hr' (Nat.le_refl _) (by omega) (fun _ => ⟨a1, fun _ => rfl⟩)
                    · rename_i hroom
                      split at h
                      · rename_i hcond
                        obtain ⟨rfl, rfl, hbo⟩ := hcond
                        simp only [Option.some.injEq, Prod.mk.injEq] at h
                        obtain ⟨rfl, rfl⟩ := h
                        by_cases hin : es.length + xs.length ≤ cap
                        · have hra := ((run_append (P := P) (w := w) (ty := ty) he hxd hsrc hsz hb hz hzl (base := some ad) (n := es.length) (cap := cap) g1 (vs := vs)).1 v1 hin).1 ad
                          have := a2 (by omega)
                          subst this
                          obtain ⟨r1, x1, s1⟩ := store_row (P := P) s hg v2 g2 (k := es.length) (Nat.le_refl _) hp (by omega) (Nat.le_succ v')
                          have hadd : (⟨q.b, q.o + 0 * q.sz, none⟩ : Addr).add (es.length * sz') = ⟨q.b, q.o + es.length * sz', none⟩ := by
                            rw [add_mk]; simp
                          rw [lay_end] at s1
                          refine ⟨_, _, _, hra _ rfl (by rw [hadd]; exact r1), x1, s1, ?_⟩
                          exact .row L (v' + 1) 0 _ { q with ver := v' + 1 } _ cap (upd_same _ _ _) hr' (Nat.le_refl _) (by omega) (fun _ => ⟨a1, fun _ => rfl⟩)
                        · have hes : elemsA σ sz' (.row L v' 0 es.length) = some es := by simp [elemsA, hg]
                          obtain ⟨us, u1, u2⟩ := elems_drew (P := P) s (.row L v' 0 es.length q ad cap hp hr' hv' hl hadr) hes hpos
                          obtain ⟨newCap, rest, c1, c2, hra⟩ := (run_append (P := P) (w := w) (ty := ty) he hxd hsrc hsz hb hz hzl (base := some ad) (n := es.length) (cap := cap) g1 (vs := vd)).2 hin hbo us u1 vd1
                          have hl' : q.live = true := by simpa using hlive
                          have := s.write (w' := w.drew.alloc (.cells (us ++ vd ++ rest) e)) (ob' := .row (es ++ xs) sz' (v' + 1) false) (p' := { b := w.heap.size, o := 0, sz := sz', cap := newCap, ver := v' + 1, row := true, live := true }) hp hl'
                            hr.symm (by simp only; omega) (fun h => by simp only at h; omega) (fun h => by rw [hr] at h; cases h) (.inr ⟨rfl, by simp⟩) (fun b hb _ => heap_alloc_old w.drew _ b hb) (by simp) rfl rfl rfl (fun i cs _ h => by cases h)
                            (fun x => ⟨rfl, rfl, rfl, hpos, rfl, by simpa using c1, fun d hd => by rcases List.mem_append.1 hd with h | h; exact hok d h; exact g2 d h, (fun h => by cases h), us ++ vd ++ rest, e, (0, 0), heap_alloc_new w.drew _,
                              by simp only [Nat.zero_add]; exact Nat.le_of_eq (size3 u2.1 vd2.1 c2 c1), .inl (Nat.le_refl _),
                              fun i d j c u hi hj hu => (u2.append vd2 hok g2 i d j c u hi hj (by simpa using hu)).mono x⟩)
                          refine ⟨_, _, _, hra, this.2, this.1, ?_⟩
                          exact .row L (v' + 1) 0 _ _ _ newCap (upd_same _ _ _) rfl (Nat.le_refl _) c1 (fun _ => ⟨rfl, fun _ => by simp⟩)
                      · cases h
                · cases h
              · cases h
            · cases h
        · cases h
      · cases h
    · cases h
  · cases h
end
end Go.Abs
