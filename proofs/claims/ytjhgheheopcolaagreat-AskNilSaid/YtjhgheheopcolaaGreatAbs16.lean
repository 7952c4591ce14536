/- Stores. -/
import Derived.Test.YtjhgheheopcolaaGreatAbs15
set_option linter.unusedVariables false
set_option linter.unusedSimpArgs false
namespace Go.Abs

theorem setCells_spec (b : Nat) (E : TypeId) (fz : Nat × Nat) : ∀ (vs : List Value) (o : Nat) (w : World) (cur : Array Value), w.heap[b]? = some (.cells cur E fz) → o + vs.length ≤ cur.size →
    (w.setCells b o vs).os = w.os ∧ (w.setCells b o vs).tape = w.tape ∧ (w.setCells b o vs).output = w.output ∧ (w.setCells b o vs).heap.size = w.heap.size ∧
    (∀ k, k ≠ b → (w.setCells b o vs).heap[k]? = w.heap[k]?) ∧
    ∃ cur' : Array Value, (w.setCells b o vs).heap[b]? = some (.cells cur' E fz) ∧ cur'.size = cur.size ∧ ∀ i, i < cur.size → cur'[i]? = if o ≤ i ∧ i < o + vs.length then vs[i - o]? else cur[i]?
  | [], o, w, cur, h, _ => ⟨rfl, rfl, rfl, rfl, fun _ _ => rfl, cur, h, rfl, fun i hi => by simp; intro h1 h2; omega⟩
  | v :: vs, o, w, cur, h, hl => by
    have h1 : (w.setCell ⟨b, o, none⟩ v).heap[b]? = some (.cells (cur.setIfInBounds o v) E fz) := by
      simp [World.setCell, Array.getElem?_modify, h]
    have ih := setCells_spec b E fz vs (o + 1) (w.setCell ⟨b, o, none⟩ v) (cur.setIfInBounds o v) h1 (by simp at hl ⊢; omega)
    obtain ⟨i1, i2, i3, i4, i5, cur', c1, c2, c3⟩ := ih
    refine ⟨i1, i2, i3, i4.trans (by simp), fun k hk => (i5 k hk).trans (by simp only [World.setCell, Array.getElem?_modify]; rw [if_neg (fun e => hk e.symm)]), cur', c1, c2.trans (by simp), fun i hi => ?_⟩
    rw [c3 i (by simpa using hi)]
    by_cases g : o ≤ i ∧ i < o + (v :: vs).length
    · rw [if_pos g]
      by_cases g2 : i = o
      · subst g2
        rw [if_neg (by omega)]
        simp [hi]
      · rw [if_pos (by simp at g; omega)]
        have : i - o = (i - (o + 1)) + 1 := by omega
        rw [this]; simp
    · rw [if_neg g, if_neg (by simp at g; omega), Array.getElem?_setIfInBounds_ne (by simp at g; omega)]

theorem VR.oneCell {ρ : Rho} {w : World} {c : AV} {v : Value} (h : VR ρ w c v) (h1 : c.one = true) : v.oneCell' = true := by
  cases h <;> simp [AV.one, Value.oneCell'] at *

/-- Cells of a block are written. -/
theorem run_storeCells {P : Program} {ρ : Rho} {w : World} {b o : Nat} {cur : Array Value} {E : TypeId} {fz : Nat × Nat} (h : w.heap[b]? = some (.cells cur E fz)) {xs : List AV} {us : List Value} (hx : VRs ρ w xs us)
    (h1 : ∀ x ∈ xs, x.one = true) (hl : o + xs.length ≤ cur.size) (hfz : fz.2 ≤ fz.1 ∨ o + xs.length ≤ fz.1) : (storeCells ⟨b, o, none⟩ us).run P w = .ok () (w.setCells b o us) := by
  have hlen := hx.1
  have := run_storeCells_cells (P := P) b o us 0 w (fun j hj => by
    have : o + j < cur.size := by omega
    simp [World.cell?, h, this]) (fun j hj => by
    simp only [World.frozen?, h]
    simp only [Bool.and_eq_false_iff, decide_eq_false_iff_not]
    omega) (fun v hv => by
    obtain ⟨i, hi, rfl⟩ := List.getElem_of_mem hv
    have hi' : i < xs.length := by omega
    exact (hx.2 i xs[i] us[i] (by simp) (by simp)).oneCell (h1 _ (List.getElem_mem hi')))
  simpa using this

section
variable {P : Program} {cx : Cx}

theorem inb_zero {h : Nat} {l : List AV} (x : AVs.inb 0 l = true) : AVs.inb h l = true := AVs.inb_mono (Nat.zero_le _) _ x

theorem lay_inb {h o : Nat} {l xs : List AV} (h1 : AVs.inb h l = true) (h2 : AVs.inb h xs = true) : AVs.inb h (lay l o xs) = true := by
  rw [AVs.inb_iff] at *
  intro c hc
  unfold lay at hc
  simp only [List.mem_append] at hc
  rcases hc with (hc | hc) | hc
  · exact h1 c (List.mem_of_mem_take hc)
  · exact h2 c hc
  · exact h1 c (List.mem_of_mem_drop hc)

/-- The cells of a variable are written. -/
theorem store_cells {ρ : Rho} {σ : AS} {w : World} (s : SR ρ σ w) {L : Loc} {cs : List AV} (hg : σ.get L = some (.cells cs)) {o : Nat} {xs : List AV} {us : List Value} (hx : VRs ρ w xs us)
    (h1 : ∀ x ∈ xs, x.one = true) (hle : o + xs.length ≤ cs.length) (hin : ∀ i, L = .hp i → AVs.inb 0 xs = true) {p : Place} (hp : ρ L = some p) :
    (storeCells ⟨p.b, o, none⟩ us).run P w = .ok () (w.setCells p.b o us) ∧ ∃ ρ', Ext ρ w ρ' (w.setCells p.b o us) ∧ SR ρ' (σ.set L (.cells (lay cs o xs))) (w.setCells p.b o us) := by
  obtain ⟨q, hq, hlive, hrow, vs, E, hw, hl, hv⟩ := s.obj L _ hg
  have : q = p := Option.some.inj (hq.symm.trans hp)
  subst this
  have hlen := hx.1
  have hrun := run_storeCells (P := P) (o := o) (xs := xs) (us := us) hw hx h1 (by omega) (.inl (Nat.le_refl _))
  obtain ⟨g1, g2, g3, g4, g5, cur', c1, c2, c3⟩ := setCells_spec q.b E (0, 0) us o w vs hw (by omega)
  have := s.write (w' := w.setCells q.b o us) (ob' := .cells (lay cs o xs)) (p' := q) hp hlive rfl (Nat.le_refl _) (fun _ => ⟨rfl, rfl, rfl, rfl⟩) (fun _ => rfl) (.inl rfl) (fun b _ hb => g5 b hb) (Nat.le_of_eq g4.symm) g1 g2 g3
    (fun i cs' e1 e2 => by cases e2; exact lay_inb (s.hin i cs (e1 ▸ hg)) (hin i e1))
    (fun x => ⟨hlive, hrow, cur', E, c1, ((lay_length hle).trans hl).trans c2.symm, fun i c v hc hv' => ?_⟩)
  · exact ⟨hrun, _, this.2, this.1⟩
  · rw [lay_get hle] at hc
    have hi : i < vs.size := by rw [← c2]; exact (Array.getElem?_eq_some_iff.1 hv').1
    rw [c3 i hi] at hv'
    by_cases g : o ≤ i ∧ i < o + xs.length
    · rw [if_pos g] at hc; rw [if_pos (by omega)] at hv'; exact (hx.2 _ _ _ hc hv').mono x
    · rw [if_neg g] at hc; rw [if_neg (by omega)] at hv'; exact (hv i c v hc hv').mono x

theorem one_cells {c : AV} (h : c.one = true) : c.cells = [c] := by cases c <;> simp [AV.one, AV.cells] at *

theorem withCells_cells {e e' : AV} {cs : List AV} (h : e.withCells cs = some e') : e'.cells = cs := by
  unfold AV.withCells at h
  split at h
  · cases h; rfl
  · split at h
    · rename_i h1
      cases h
      exact one_cells h1
    · cases h
  · cases h

/-- One element of a row, turned, of the flat cells. -/
theorem lay_elem {es : List AV} {sz i o : Nat} {e e' : AV} {xs : List AV} (he : es[i]? = some e) (hs : e.cells.length = sz) (he' : e'.cells = lay e.cells o xs) (hle : o + xs.length ≤ e.cells.length)
    {k j : Nat} {d c : AV} (hd : (es.set i e')[k]? = some d) (hc : d.cells[j]? = some c) (hj : j < sz) :
    (i * sz + o ≤ k * sz + j ∧ k * sz + j < i * sz + o + xs.length ∧ xs[k * sz + j - (i * sz + o)]? = some c) ∨
    (¬ (i * sz + o ≤ k * sz + j ∧ k * sz + j < i * sz + o + xs.length) ∧ ∃ d0, es[k]? = some d0 ∧ d0.cells[j]? = some c) := by
  rw [List.getElem?_set] at hd
  by_cases hik : i = k
  · subst hik
    rw [if_pos rfl, if_pos (List.getElem?_eq_some_iff.1 he).1] at hd
    cases hd
    rw [he', lay_get hle] at hc
    by_cases g : o ≤ j ∧ j < o + xs.length
    · rw [if_pos g] at hc
      refine .inl ⟨by omega, by omega, ?_⟩
      have : i * sz + j - (i * sz + o) = j - o := by omega
      rw [this]; exact hc
    · rw [if_neg g] at hc
      exact .inr ⟨by omega, e, he, hc⟩
  · rw [if_neg hik] at hd
    refine .inr ⟨?_, d, hd, hc⟩
    rcases Nat.lt_or_gt_of_ne hik with h | h
    · have : (i + 1) * sz ≤ k * sz := Nat.mul_le_mul_right _ h
      rw [Nat.add_mul] at this
      omega
    · have : (k + 1) * sz ≤ i * sz := Nat.mul_le_mul_right _ h
      rw [Nat.add_mul] at this
      omega

/-- One element of a row is written. -/
theorem store_elem {ρ : Rho} {σ : AS} {w : World} (s : SR ρ σ w) {L : Loc} {es : List AV} {sz v : Nat} (hg : σ.get L = some (.row es sz v false)) {i o : Nat} {e e' : AV} (he : es[i]? = some e) {xs : List AV} {us : List Value} (hx : VRs ρ w xs us)
    (h1 : ∀ x ∈ xs, x.one = true) (hle : o + xs.length ≤ e.cells.length) (he' : e'.cells = lay e.cells o xs) (hok' : okE sz e' = true) {p : Place} (hp : ρ L = some p) :
    (storeCells ⟨p.b, p.o + i * sz + o, none⟩ us).run P w = .ok () (w.setCells p.b (p.o + i * sz + o) us) ∧ ∃ ρ', Ext ρ w ρ' (w.setCells p.b (p.o + i * sz + o) us) ∧ SR ρ' (σ.set L (.row (es.set i e') sz v false)) (w.setCells p.b (p.o + i * sz + o) us) := by
  obtain ⟨q, hq, hr, hv, hsz, hpos, hlive, hcap, hok, hfr, vs, E, fz, hw, hlt, hfz, hval⟩ := s.obj L _ hg
  have : q = p := Option.some.inj (hq.symm.trans hp)
  subst this
  have hl : q.live = true := by simpa using hlive
  have hlen := hx.1
  have hes : e.cells.length = sz := okE_len (hok e (getElem?_mem' he))
  have hil : i < es.length := (List.getElem?_eq_some_iff.1 he).1
  have hb1 : (i + 1) * sz ≤ q.cap * sz := Nat.mul_le_mul_right _ (by omega)
  rw [Nat.add_mul] at hb1
  have hend : q.o + i * sz + o + xs.length ≤ q.o + q.cap * sz := by omega
  have hrun := run_storeCells (P := P) (o := q.o + i * sz + o) (xs := xs) (us := us) hw hx h1 (by omega) (hfz.imp id (fun h => by omega))
  obtain ⟨g1, g2, g3, g4, g5, cur', c1, c2, c3⟩ := setCells_spec q.b E fz us (q.o + i * sz + o) w vs hw (by omega)
  have := s.write (w' := w.setCells q.b (q.o + i * sz + o) us) (ob' := .row (es.set i e') sz v false) (p' := q) hp hl rfl (Nat.le_refl _) (fun _ => ⟨rfl, rfl, rfl, rfl⟩) (fun _ => rfl) (.inl rfl) (fun b _ hb => g5 b hb) (Nat.le_of_eq g4.symm) g1 g2 g3
    (fun i cs e1 e2 => by cases e2)
    (fun x => ⟨hr, hv, hsz, hpos, hlive, by simpa using hcap, fun d hd => ?_, (fun h => by cases h), cur', E, fz, c1, by omega, hfz, fun k d j c u hd hc hu => ?_⟩)
  · exact ⟨hrun, _, this.2, this.1⟩
  · rcases List.mem_or_eq_of_mem_set hd with h | h
    · exact hok d h
    · rw [h]; exact hok'
  · have hds : d.cells.length = sz := by
      rcases List.mem_or_eq_of_mem_set (getElem?_mem' hd) with h | h
      · exact okE_len (hok d h)
      · rw [h]; exact okE_len hok'
    have hj : j < sz := by rw [← hds]; exact (List.getElem?_eq_some_iff.1 hc).1
    have hk : q.o + k * sz + j < vs.size := by rw [← c2]; exact (Array.getElem?_eq_some_iff.1 hu).1
    rw [c3 _ hk] at hu
    rcases lay_elem he hes he' hle hd hc hj with ⟨a1, a2, a3⟩ | ⟨a1, d0, a2, a3⟩
    · rw [if_pos (by omega)] at hu
      have : q.o + k * sz + j - (q.o + i * sz + o) = k * sz + j - (i * sz + o) := by omega
      rw [this] at hu
      exact (hx.2 _ _ _ a3 hu).mono x
    · rw [if_neg (by omega)] at hu
      exact (hval k d0 j c u a2 a3 hu).mono x

theorem promL_keeps {ro : Option Nat} : ∀ (xs ys : List AV) (σ σ' : AS), promL ro σ xs = some (ys, σ') →
    ys.length = xs.length ∧ ((∀ x ∈ xs, x.one = true) → ∀ y ∈ ys, y.one = true) ∧ ∀ L cs, σ.get L = some (.cells cs) → σ'.get L = some (.cells cs) := by
  intro xs
  induction xs with
  | nil =>
    intro ys σ σ' h
    simp only [promL, Option.some.injEq, Prod.mk.injEq] at h
    obtain ⟨rfl, rfl⟩ := h
    exact ⟨rfl, fun h => h, fun L cs h => h⟩
  | cons x xs ih =>
    intro ys σ σ' h
    unfold promL at h
    split at h
    · rename_i heq; cases heq
    · rename_i i v off len xs' heq
      cases heq
      split at h
      · rename_i es sz v' hg
        split at h
        · rename_i hc
          split at h
          · rename_i ys' σ'' hrec
            simp only [Option.some.injEq, Prod.mk.injEq] at h
            obtain ⟨rfl, rfl⟩ := h
            obtain ⟨i1, i2, i3⟩ := ih _ _ _ hrec
            refine ⟨by simp [i1], fun hx y hy => ?_, fun L cs hL => i3 L cs ?_⟩
            · rcases List.mem_cons.1 hy with rfl | hy
              · rfl
              · exact i2 (fun x hx' => hx x (List.mem_cons_of_mem _ hx')) y hy
            · cases L with
              | hp k =>
                simp only [AS.get] at hL ⊢
                rw [List.getElem?_append_left (List.getElem?_eq_some_iff.1 hL).1]; exact hL
              | st k =>
                simp only [AS.get] at hL ⊢
                rw [List.getElem?_set]
                split
                · rename_i e; subst e; rw [hg] at hL; cases hL
                · exact hL
          · cases h
        · cases h
      · cases h
    · rename_i x' xs' hne heq
      cases heq
      split at h
      · rename_i ys' σ'' hrec
        simp only [Option.some.injEq, Prod.mk.injEq] at h
        obtain ⟨rfl, rfl⟩ := h
        obtain ⟨i1, i2, i3⟩ := ih _ _ _ hrec
        refine ⟨by simp [i1], fun hx y hy => ?_, i3⟩
        rcases List.mem_cons.1 hy with rfl | hy
        · exact hx _ (by simp)
        · exact i2 (fun x hx' => hx x (List.mem_cons_of_mem _ hx')) y hy
      · cases h

theorem fzL_keeps {ro : Option Nat} : ∀ (xs ys : List AV) (σ σ' : AS), fzL ro σ xs = some (ys, σ') → ys.length = xs.length ∧ ((∀ x ∈ xs, x.one = true) → ∀ y ∈ ys, y.one = true) := by
  intro xs
  induction xs with
  | nil =>
    intro ys σ σ' h
    simp only [fzL, Option.some.injEq, Prod.mk.injEq] at h
    obtain ⟨rfl, rfl⟩ := h
    exact ⟨rfl, fun h => h⟩
  | cons x xs ih =>
    intro ys σ σ' h
    unfold fzL at h
    split at h
    · rename_i heq; cases heq
    · rename_i i v off len xs' heq
      cases heq
      split at h
      · rename_i es sz v' fro hg
        split at h
        · rename_i hc
          split at h
          · rename_i ys' σ'' hrec
            simp only [Option.some.injEq, Prod.mk.injEq] at h
            obtain ⟨rfl, rfl⟩ := h
            obtain ⟨i1, i2⟩ := ih _ _ _ hrec
            refine ⟨by simp [i1], fun hx y hy => ?_⟩
            rcases List.mem_cons.1 hy with rfl | hy
            · rfl
            · exact i2 (fun x hx' => hx x (List.mem_cons_of_mem _ hx')) y hy
          · cases h
        · cases h
      · cases h
    · rename_i x' xs' hne heq
      cases heq
      split at h
      · rename_i ys' σ'' hrec
        simp only [Option.some.injEq, Prod.mk.injEq] at h
        obtain ⟨rfl, rfl⟩ := h
        obtain ⟨i1, i2⟩ := ih _ _ _ hrec
        refine ⟨by simp [i1], fun hx y hy => ?_⟩
        rcases List.mem_cons.1 hy with rfl | hy
        · exact hx _ (by simp)
        · exact i2 (fun x hx' => hx x (List.mem_cons_of_mem _ hx')) y hy
      · cases h

theorem storeA_sound {ρ : Rho} {σ σ' : AS} {w : World} (s : SR ρ σ w) {t : TypeId} {pa x : AV} {up ux : Value} (hp : VR ρ w pa up) (hx : VR ρ w x ux) (h : storeA P cx σ t pa x = some σ') :
    ∃ ρ' w', (Instr.storeAt t up ux).run P w = .ok () w' ∧ Ext ρ w ρ' w' ∧ SR ρ' σ' w' := by
  have hc := hx.cells
  have hlen := hc.1
  simp only [Array.length_toList] at hlen
  unfold storeA at h
  split at h
  · rename_i hcond
    obtain ⟨hsz, hone⟩ := hcond
    have h1 : ∀ c ∈ x.cells, c.one = true := by simpa using hone
    have hstore : ∀ a : Addr, (storeVar t a ux).run P w = (storeCells a ux.cells.toList).run P w := fun a => by
      simp [storeVar, run_sizeA hsz, hlen]
    split at h
    · rename_i L o
      split at h
      · rename_i cs hg
        split at h
        · rename_i hcond
          obtain ⟨_, hle⟩ := hcond
          cases hp with
          | ptr _ _ p hp hr =>
            have hsa : (Instr.storeAt t (.pointer (some ⟨p.b, o, none⟩)) ux).run P w = (storeCells ⟨p.b, o, none⟩ ux.cells.toList).run P w := by
              simp [Instr.storeAt, Instr.sureAddr, hstore]
            split at h
            · rename_i i
              split at h
              · rename_i xs σ1 hpr
                split at h
                · rename_i hin
                  cases h
                  obtain ⟨ρ1, x1, s1, v1⟩ := promL_sound _ _ _ _ _ _ hpr s hc
                  obtain ⟨p1, hp1, hr1, _, _, hb1⟩ := x1.loc _ p hp
                  have hb1 := hb1 hr
                  obtain ⟨k1, k2, k3⟩ := promL_keeps _ _ _ _ hpr
                  obtain ⟨r1, ρ2, x2, s2⟩ := store_cells (P := P) (o := o) s1 (k3 _ _ hg) v1 (k2 h1) (by omega) (fun _ _ => hin) hp1
                  rw [hb1] at r1 x2 s2
                  exact ⟨ρ2, _, by rw [hsa]; exact r1, x1.trans x2, s2⟩
                · cases h
              · cases h
            · rename_i i
              split at h
              · cases h
                obtain ⟨r1, ρ2, x2, s2⟩ := store_cells (P := P) s hg hc h1 hle (fun _ h => by cases h) hp
                exact ⟨ρ2, _, by rw [hsa]; exact r1, x2, s2⟩
              · cases h
        · cases h
      · cases h
    · rename_i L v i o
      split at h
      · rename_i xs σ1 hfz
        obtain ⟨ρ1, x1, s1, v1⟩ := fzL_sound _ _ _ _ _ _ hfz s hc
        split at h
        · rename_i es sz v' hg
          split at h
          · rename_i hcond
            obtain ⟨rfl, _⟩ := hcond
            split at h
            · rename_i e he
              split at h
              · rename_i hle
                split at h
                · rename_i e' he'
                  split at h
                  · rename_i hok'
                    cases h
                    have hp1 := hp.mono x1
                    cases hp1 with
                    | eptr _ _ _ _ p a hpl hr hv ha =>
                      obtain ⟨q, hq, hqv, hqs⟩ : ∃ q, ρ1 L = some q ∧ q.ver = v' ∧ q.sz = sz := by
                        obtain ⟨q, hq, _, a1, a2, _⟩ := s1.obj L _ hg
                        exact ⟨q, hq, a1, a2⟩
                      have : q = p := Option.some.inj (hq.symm.trans hpl)
                      subst this
                      have := ha hqv
                      subst this
                      have hsa : (Instr.storeAt t (.pointer (some ⟨q.b, q.o + i * q.sz + o, none⟩)) ux).run P w = (storeCells ⟨q.b, q.o + i * q.sz + o, none⟩ ux.cells.toList).run P w := by
                        simp [Instr.storeAt, Instr.sureAddr, hstore]
                      obtain ⟨r1, ρ2, x2, s2⟩ := store_elem (P := P) s1 hg he v1 ((fzL_keeps _ _ _ _ hfz).2 h1) hle (withCells_cells he') hok' hq
                      rw [hsa, hqs]
                      exact ⟨ρ2, _, r1, x1.trans x2, s2⟩
                  · cases h
                · cases h
              · cases h
            · cases h
          · cases h
        · cases h
      · cases h
    · cases h
  · cases h
end
end Go.Abs
