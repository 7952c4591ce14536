/- Rows that are no longer written; rows that go to the heap. -/
import Derived.Test.YtjhgheheopcolaaGreatAbs14
set_option linter.unusedVariables false
set_option linter.unusedSimpArgs false
namespace Go.Abs

theorem AS.set_self {σ : AS} {L : Loc} {ob : AObj} (h : σ.get L = some ob) : σ.set L ob = σ := by
  obtain ⟨hp, st⟩ := σ
  cases L with
  | hp i =>
    simp only [AS.get] at h
    obtain ⟨hl, rfl⟩ := List.getElem?_eq_some_iff.1 h
    simp [AS.set]
  | st i =>
    simp only [AS.get] at h
    obtain ⟨hl, rfl⟩ := List.getElem?_eq_some_iff.1 h
    simp [AS.set]

theorem AS.next_of_hp {σ : AS} : σ.next true = .hp σ.hp.length := rfl
theorem AS.next_of_st {σ : AS} : σ.next false = .st σ.st.length := rfl

/-- A row that is no longer written, as a slice without memory. -/
theorem VR.row_sl {ρ : Rho} {σ : AS} {w : World} (s : SR ρ σ w) {L : Loc} {es : List AV} {sz v off len : Nat} {u : Value} (hg : σ.get L = some (.row es sz v true)) (hle : off + len ≤ es.length)
    (h : VR ρ w (.row L v off len) u) : VR ρ w (.sl false sz ((es.drop off).take len)) u := by
  obtain ⟨p, hp, hr, hv, hsz, hpos, hlive, hcap, hok, hfr, vs, E, fz, hw, hlt, hfz, hval⟩ := s.obj L _ hg
  cases h with
  | row _ _ _ _ p' a cap h' hr' hv' hl ha =>
    have : p' = p := Option.some.inj (h'.symm.trans hp)
    subst this
    obtain ⟨c1, c2⟩ := ha hv
    have hlen : ((es.drop off).take len).length = len := by simp; omega
    have hcell : ∀ (i : Nat) (e : AV) (j : Nat) (c : AV), ((es.drop off).take len)[i]? = some e → e.cells[j]? = some c → es[off + i]? = some e ∧ p'.o + (off + i) * sz + j < vs.size := by
      intro i e j c hi hj
      rw [List.getElem?_take] at hi
      split at hi
      · rw [List.getElem?_drop] at hi
        refine ⟨hi, ?_⟩
        have h1 := rowEnd hi hj (okE_len (hok e (getElem?_mem' hi)))
        have h2 : es.length * sz ≤ p'.cap * sz := Nat.mul_le_mul_right _ hcap
        omega
      · cases hi
    have := VR.sl (ρ := ρ) (w := w) false sz ((es.drop off).take len) a cap (fun i j => vs.getD (p'.o + (off + i) * sz + j) undef) (by rw [hlen]; exact hl) (fun h => by cases h)
      (fun hne => ?_) (fun e he => hok e (List.mem_of_mem_drop (List.mem_of_mem_take he))) (fun i e j c hi hj => ?_) (fun i e j c hi hj => ?_)
    · rwa [hlen] at this
    · have hl0 : 0 < len := by rw [← hlen]; exact List.length_pos_iff.2 hne
      have := c2 (by omega)
      subst this
      exact ⟨rfl, (hfr rfl).2, (hfr rfl).1⟩
    · obtain ⟨h1, h2⟩ := hcell i e j c hi hj
      have hl0 : 0 < cap := by
        have : i < len := by rw [← hlen]; exact (List.getElem?_eq_some_iff.1 hi).1
        omega
      have := c2 hl0
      subst this
      have h3 : vs[p'.o + (off + i) * sz + j]? = some vs[p'.o + (off + i) * sz + j] := Array.getElem?_eq_getElem h2
      have e1 : p'.o + off * p'.sz + i * sz + j = p'.o + (off + i) * sz + j := by rw [hsz, Nat.add_mul]; omega
      simp only [e1, World.cell?, hw, Option.isSome_none, Bool.false_eq_true, if_false, Array.getD_eq_getD_getElem?, h3, Option.getD_some]
    · obtain ⟨h1, h2⟩ := hcell i e j c hi hj
      have h3 : vs[p'.o + (off + i) * sz + j]? = some vs[p'.o + (off + i) * sz + j] := Array.getElem?_eq_getElem h2
      simp only [Array.getD_eq_getD_getElem?, h3, Option.getD_some]
      exact hval _ _ _ _ _ h1 hj h3

theorem SR.freeze {ρ : Rho} {σ : AS} {w : World} (s : SR ρ σ w) {L : Loc} {es : List AV} {sz v : Nat} {fro : Bool} (hg : σ.get L = some (.row es sz v fro)) :
    ∃ ρ', Ext ρ w ρ' w ∧ SR ρ' (σ.set L (.row es sz v true)) w := by
  cases fro with
  | true => exact ⟨ρ, Ext.refl _ _, by rw [AS.set_self hg]; exact s⟩
  | false =>
    obtain ⟨p, hp, hr, hv, hsz, hpos, hlive, hcap, hok, hfr, vs, E, fz, hw, hlt, hfz, hval⟩ := s.obj L _ hg
    have hl : p.live = true := by simpa using hlive
    have := s.write (w' := w) (ob' := .row es sz v true) (p' := { p with live := false }) hp hl rfl (Nat.le_refl _) (fun _ => ⟨rfl, rfl, rfl, rfl⟩) (fun _ => rfl) (.inl rfl) (fun _ _ _ => rfl) (Nat.le_refl _) rfl rfl rfl
      (fun i cs _ h => by cases h) (fun x => ⟨hr, hv, hsz, hpos, by simp, hcap, hok, fun _ => ⟨⟨fun L' q hq hql => ?_, s.nres L p hp hl⟩, s.lt L p hp hl⟩, vs, E, fz, hw, hlt, hfz, fun i e j c u he hc hu => (hval i e j c u he hc hu).mono x⟩)
    · exact ⟨_, this.2, this.1⟩
    · by_cases e : L' = L
      · subst e; rw [upd_same] at hq; cases hq; cases hql
      · rw [upd_ne e] at hq
        exact fun hb => e (s.inj L' L q p hq hp hql hl hb)

theorem VRs.cons_inv {ρ : Rho} {w : World} {x : AV} {xs : List AV} {us : List Value} (h : VRs ρ w (x :: xs) us) : ∃ u us', us = u :: us' ∧ VR ρ w x u ∧ VRs ρ w xs us' := by
  cases us with
  | nil => have := h.1; simp at this
  | cons u us => exact ⟨u, us, rfl, h.2 0 x u (by simp) (by simp), by simpa using h.1, fun i c v hc hv => h.2 (i + 1) c v (by simpa using hc) (by simpa using hv)⟩
theorem VRs.cons {ρ : Rho} {w : World} {x : AV} {xs : List AV} {u : Value} {us : List Value} (h : VR ρ w x u) (hs : VRs ρ w xs us) : VRs ρ w (x :: xs) (u :: us) :=
  ⟨by simpa using hs.1, fun i c v hc hv => by
    cases i with
    | zero => simp at hc hv; subst hc; subst hv; exact h
    | succ i => simp at hc hv; exact hs.2 i c v hc hv⟩
theorem VRs.nil {ρ : Rho} {w : World} : VRs ρ w [] [] := ⟨rfl, fun i c v hc => by simp at hc⟩

theorem fzL_sound {ro : Option Nat} {w : World} : ∀ (xs : List AV) (us : List Value) (ys : List AV) (ρ : Rho) (σ σ' : AS), fzL ro σ xs = some (ys, σ') → SR ρ σ w → VRs ρ w xs us →
    ∃ ρ', Ext ρ w ρ' w ∧ SR ρ' σ' w ∧ VRs ρ' w ys us := by
  intro xs
  induction xs with
  | nil =>
    intro us ys ρ σ σ' h s hx
    simp only [fzL, Option.some.injEq, Prod.mk.injEq] at h
    obtain ⟨rfl, rfl⟩ := h
    exact ⟨ρ, Ext.refl _ _, s, hx⟩
  | cons x xs ih =>
    intro us ys ρ σ σ' h s hx
    obtain ⟨u, us', rfl, hxu, hxs⟩ := hx.cons_inv
    unfold fzL at h
    split at h
    · rename_i heq; cases heq
    · rename_i L v off len xs' heq
      cases heq
      split at h
      · rename_i es sz v' fro hg
        split at h
        · rename_i hc
          obtain ⟨rfl, _, hle⟩ := hc
          split at h
          · rename_i ys' σ'' hrec
            simp only [Option.some.injEq, Prod.mk.injEq] at h
            obtain ⟨rfl, rfl⟩ := h
            obtain ⟨ρ1, x1, s1⟩ := s.freeze hg
            have hv1 := VR.row_sl (es := es) (sz := sz) (v := v') s1 (by rw [AS.get_set, if_pos rfl, hg]; simp) hle (hxu.mono x1)
            obtain ⟨ρ2, x2, s2, v2⟩ := ih us' ys' ρ1 _ _ hrec s1 (hxs.mono x1)
            exact ⟨ρ2, x1.trans x2, s2, .cons (hv1.mono x2) v2⟩
          · cases h
        · cases h
      · cases h
    · rename_i x' xs' hne heq
      cases heq
      split at h
      · rename_i ys' σ'' hrec
        simp only [Option.some.injEq, Prod.mk.injEq] at h
        obtain ⟨rfl, rfl⟩ := h
        obtain ⟨ρ2, x2, s2, v2⟩ := ih us' ys' ρ _ _ hrec s hxs
        exact ⟨ρ2, x2, s2, .cons (hxu.mono x2) v2⟩
      · cases h

theorem SR.promote {ρ : Rho} {σ : AS} {w : World} (s : SR ρ σ w) {i : Nat} {es : List AV} {sz v : Nat} (hg : σ.st[i]? = some (.row es sz v false)) {p : Place} (hp : ρ (.st i) = some p) :
    let ρ' := upd (upd ρ (.st i) { p with live := false }) (.hp σ.hp.length) p
    Ext ρ w ρ' w ∧ SR ρ' { hp := σ.hp ++ [.row es sz v false], st := σ.st.set i .dead } w := by
  intro ρ'
  obtain ⟨p', hp', hO⟩ := s.obj (.st i) _ hg
  have : p' = p := Option.some.inj (hp'.symm.trans hp)
  subst this
  have hl : p'.live = true := by obtain ⟨_, _, _, _, h, _⟩ := hO; simpa using h
  have hnew : ρ (.hp σ.hp.length) = none := by
    cases h : ρ (.hp σ.hp.length) with
    | none => rfl
    | some q => obtain ⟨ob, ho⟩ := s.dom _ _ h; simp [AS.get] at ho
  have e1 : ∀ L, ρ' L = if L = .hp σ.hp.length then some p' else if L = .st i then some { p' with live := false } else ρ L := fun L => rfl
  have hfree : ∀ b, Free ρ b → Free ρ' b := fun b hf => ⟨fun L q hq hql => by
    rw [e1] at hq
    split at hq
    · cases hq; exact hf.1 _ _ hp hl
    · split at hq
      · cases hq; cases hql
      · exact hf.1 L q hq hql, hf.2⟩
  have hext : Ext ρ w ρ' w := by
    refine ⟨fun L q hq => ?_, fun b _ hf => ⟨hfree b hf, rfl⟩, ⟨rfl, fun _ _ _ => rfl⟩, Nat.le_refl _, rfl, rfl, rfl⟩
    rw [e1]
    split
    · rename_i h; rw [h, hnew] at hq; cases hq
    · split
      · rename_i h
        rw [h, hp] at hq
        cases hq
        exact ⟨_, rfl, rfl, Nat.le_refl _, fun _ => ⟨rfl, rfl, rfl, rfl⟩, fun _ => rfl⟩
      · exact ⟨q, hq, rfl, Nat.le_refl _, fun _ => ⟨rfl, rfl, rfl, rfl⟩, fun _ => rfl⟩
  have hget : ∀ L, ({ hp := σ.hp ++ [.row es sz v false], st := σ.st.set i .dead } : AS).get L = if L = .hp σ.hp.length then some (.row es sz v false) else if L = .st i then some .dead else σ.get L := by
    intro L
    have h1 := AS.get_push (σ := σ.set (.st i) .dead) (e := true) (ob := .row es sz v false) (L := L)
    have h2 : (σ.set (.st i) .dead).push true (.row es sz v false) = ({ hp := σ.hp ++ [.row es sz v false], st := σ.st.set i .dead } : AS) := rfl
    rw [h2] at h1
    rw [h1]
    have h3 : (σ.set (.st i) .dead).next true = .hp σ.hp.length := rfl
    rw [h3]
    split
    · rfl
    · rw [AS.get_set]
      have : (σ.get (.st i)).isSome = true := by simp [AS.get, hg]
      rw [this]
      simp
  refine ⟨hext, ⟨⟨fun L ob ho hnd => ?_⟩, fun L q hq => ?_, fun L1 L2 p1 p2 h1 h2 l1 l2 e => ?_, fun L q hq hql => ?_, fun j cs hc => ?_, fun L q hq hql => ?_, s.resl⟩⟩
  · rw [hget] at ho
    rw [e1]
    split at ho
    · cases ho
      rename_i h
      exact ⟨p', by rw [if_pos h], hO.mono hext fun _ => rfl⟩
    · rename_i h
      rw [if_neg h]
      split at ho
      · cases ho
        rename_i h2
        exact ⟨{ p' with live := false }, by rw [if_pos h2], (rfl : ({ p' with live := false } : Place).live = false)⟩
      · rename_i h2
        rw [if_neg h2]
        obtain ⟨q, hq, hq2⟩ := s.objD L ob ho hnd
        exact ⟨q, hq, hq2.mono hext fun _ => rfl⟩
  · rw [e1] at hq
    rw [hget]
    split
    · exact ⟨_, rfl⟩
    · rename_i h
      rw [if_neg h] at hq
      split
      · exact ⟨_, rfl⟩
      · rename_i h2
        rw [if_neg h2] at hq
        exact s.dom L q hq
  · rw [e1] at h1 h2
    have hst : ∀ L q, L ≠ .st i → ρ L = some q → q.live = true → q.b ≠ p'.b := fun L q hne hq hql hb => hne (s.inj L (.st i) q p' hq hp hql hl hb)
    split at h1
    · rename_i g1
      cases h1
      split at h2
      · rename_i g2; rw [g1, g2]
      · split at h2
        · cases h2; cases l2
        · rename_i g2; exact absurd e.symm (hst L2 p2 g2 h2 l2)
    · split at h1
      · cases h1; cases l1
      · rename_i g1
        split at h2
        · cases h2; exact absurd e (hst L1 p1 g1 h1 l1)
        · split at h2
          · cases h2; cases l2
          · exact s.inj L1 L2 p1 p2 h1 h2 l1 l2 e
  · rw [e1] at hq
    split at hq
    · cases hq; exact s.lt _ _ hp hl
    · split at hq
      · cases hq; cases hql
      · exact s.lt L q hq hql
  · rw [hget] at hc
    split at hc
    · cases hc
    · split at hc
      · cases hc
      · exact s.hin j cs hc
  · rw [e1] at hq
    split at hq
    · cases hq; exact s.nres _ _ hp hl
    · split at hq
      · cases hq; cases hql
      · exact s.nres L q hq hql

theorem promL_sound {ro : Option Nat} {w : World} : ∀ (xs : List AV) (us : List Value) (ys : List AV) (ρ : Rho) (σ σ' : AS), promL ro σ xs = some (ys, σ') → SR ρ σ w → VRs ρ w xs us →
    ∃ ρ', Ext ρ w ρ' w ∧ SR ρ' σ' w ∧ VRs ρ' w ys us := by
  intro xs
  induction xs with
  | nil =>
    intro us ys ρ σ σ' h s hx
    simp only [promL, Option.some.injEq, Prod.mk.injEq] at h
    obtain ⟨rfl, rfl⟩ := h
    exact ⟨ρ, Ext.refl _ _, s, hx⟩
  | cons x xs ih =>
    intro us ys ρ σ σ' h s hx
    obtain ⟨u, us', rfl, hxu, hxs⟩ := hx.cons_inv
    unfold promL at h
    split at h
    · rename_i heq; cases heq
    · rename_i i v off len xs' heq
      cases heq
      split at h
      · rename_i es sz v' hg
        split at h
        · rename_i hc
          obtain ⟨rfl, _⟩ := hc
          split at h
          · rename_i ys' σ'' hrec
            simp only [Option.some.injEq, Prod.mk.injEq] at h
            obtain ⟨rfl, rfl⟩ := h
            cases hxu with
            | row _ _ _ _ p a cap h' hr' hv' hl ha =>
              obtain ⟨x1, s1⟩ := s.promote hg h'
              obtain ⟨ρ2, x2, s2, v2⟩ := ih us' ys' _ _ _ hrec s1 (hxs.mono x1)
              refine ⟨ρ2, x1.trans x2, s2, .cons (VR.mono x2 ?_) v2⟩
              exact .row _ _ _ _ p a cap (upd_same _ _ _) hr' hv' hl ha
          · cases h
        · cases h
      · cases h
    · rename_i x' xs' hne heq
      cases heq
      split at h
      · rename_i ys' σ'' hrec
        simp only [Option.some.injEq, Prod.mk.injEq] at h
        obtain ⟨rfl, rfl⟩ := h
        obtain ⟨ρ2, x2, s2, v2⟩ := ih us' ys' ρ _ _ hrec s hxs
        exact ⟨ρ2, x2, s2, .cons (hxu.mono x2) v2⟩
      · cases h
end Go.Abs
