/- What happens to objects: laid, written, no longer written, moved. -/
import Derived.Test.YtjhgheheopcolaaGreatAbs13
set_option linter.unusedVariables false
set_option linter.unusedSimpArgs false
namespace Go.Abs

def upd (ρ : Rho) (L : Loc) (p : Place) : Rho := ⟨fun L' => if L' = L then some p else ρ L', ρ.res⟩

theorem upd_same (ρ : Rho) (L : Loc) (p : Place) : upd ρ L p L = some p := by simp [upd]
theorem upd_ne {ρ : Rho} {L L' : Loc} {p : Place} (h : L' ≠ L) : upd ρ L p L' = ρ L' := by simp [upd, h]

theorem AS.get_set {σ : AS} {L L' : Loc} {ob : AObj} : (σ.set L ob).get L' = if L' = L then (if (σ.get L).isSome then some ob else none) else σ.get L' := by
  cases L with
  | hp i =>
    cases L' with
    | hp j =>
      simp only [AS.set, AS.get, Loc.hp.injEq, List.getElem?_set]
      by_cases h : i = j
      · subst h; simp
      · rw [if_neg h, if_neg (fun e => h e.symm)]
    | st j => simp [AS.set, AS.get]
  | st i =>
    cases L' with
    | hp j => simp [AS.set, AS.get]
    | st j =>
      simp only [AS.set, AS.get, Loc.st.injEq, List.getElem?_set]
      by_cases h : i = j
      · subst h; simp
      · rw [if_neg h, if_neg (fun e => h e.symm)]

theorem AS.get_push {σ : AS} {e : Bool} {ob : AObj} {L : Loc} : (σ.push e ob).get L = if L = σ.next e then some ob else σ.get L := by
  cases e with
  | true =>
    cases L with
    | hp j =>
      simp only [AS.push, AS.get, AS.next, if_true, Loc.hp.injEq]
      rcases Nat.lt_trichotomy j σ.hp.length with h | h | h
      · rw [List.getElem?_append_left h, if_neg (by omega)]
      · subst h; simp
      · rw [List.getElem?_eq_none (by simp; omega), if_neg (by omega), List.getElem?_eq_none (by omega)]
    | st j => simp [AS.push, AS.get, AS.next]
  | false =>
    cases L with
    | hp j => simp [AS.push, AS.get, AS.next]
    | st j =>
      simp only [AS.push, AS.get, AS.next, Bool.false_eq_true, if_false, Loc.st.injEq]
      rcases Nat.lt_trichotomy j σ.st.length with h | h | h
      · rw [List.getElem?_append_left h, if_neg (by omega)]
      · subst h; simp
      · rw [List.getElem?_eq_none (by simp; omega), if_neg (by omega), List.getElem?_eq_none (by omega)]

theorem AS.get_next {σ : AS} {e : Bool} : σ.get (σ.next e) = none := by
  cases e <;> simp [AS.get, AS.next]

theorem OR.mono {ρ : Rho} {w : World} {ρ' : Rho} {w' : World} (x : Ext ρ w ρ' w') {p : Place} {ob : AObj} (hb : p.live = true → w'.heap[p.b]? = w.heap[p.b]?) (h : OR ρ w p ob) : OR ρ' w' p ob := by
  cases ob with
  | cells cs =>
    obtain ⟨a, b, vs, E, hw, hl, hv⟩ := h
    exact ⟨a, b, vs, E, (hb a).trans hw, hl, fun i c v hc hv' => (hv i c v hc hv').mono x⟩
  | row es sz v fro =>
    obtain ⟨a1, a2, a3, a4, a5, a6, a7, a8, vs, E, fz, hw, hsz, hfz, hv⟩ := h
    refine ⟨a1, a2, a3, a4, a5, a6, a7, fun hf => ?_, vs, E, fz, ?_, hsz, hfz, fun i e j c u he hc hu => (hv i e j c u he hc hu).mono x⟩
    · obtain ⟨f1, f2⟩ := a8 hf
      exact ⟨(x.free _ f2 f1).1, Nat.lt_of_lt_of_le f2 x.size⟩
    · cases fro with
      | false => exact (hb a5).trans hw
      | true => obtain ⟨f1, f2⟩ := a8 rfl; exact (x.free _ f2 f1).2.trans hw
  | map es =>
    obtain ⟨a, b, arr, clock, hw, hl, hst, hv⟩ := h
    refine ⟨a, b, arr, clock, (hb a).trans hw, hl, hst, fun i e m he hm => ?_⟩
    obtain ⟨i1, i2, v1, v2⟩ := hv i e m he hm
    exact ⟨i1, i2, v1.mono x, v2.mono x⟩
  | iter m =>
    obtain ⟨a, b, i1, mb, since, last, hw, hv⟩ := h
    exact ⟨a, b, i1, mb, since, last, (hb a).trans hw, hv.mono x⟩
  | dead => exact h

/-- An object is written: what of the world has turned lies in its own block, or in new ones. -/
theorem SR.write {ρ : Rho} {σ : AS} {w w' : World} (s : SR ρ σ w) {L : Loc} {ob' : AObj} {p p' : Place} (hL : ρ L = some p) (hlive : p.live = true)
    (hrow : p'.row = p.row) (hver : p.ver ≤ p'.ver) (hsame : p'.ver = p.ver → p'.b = p.b ∧ p'.o = p.o ∧ p'.sz = p.sz ∧ p'.cap = p.cap) (hb : p.row = false → p'.b = p.b)
    (hblk : p'.b = p.b ∨ (p'.b = w.heap.size ∧ p'.b < w'.heap.size))
    (hheap : ∀ b, b < w.heap.size → b ≠ p.b → w'.heap[b]? = w.heap[b]?) (hsize : w.heap.size ≤ w'.heap.size) (hos : w'.os = w.os) (htape : w'.tape = w.tape) (hout : w'.output = w.output)
    (hin : ∀ i cs, L = .hp i → ob' = .cells cs → AVs.inb 0 cs = true)
    (hOR : Ext ρ w (upd ρ L p') w' → OR (upd ρ L p') w' p' ob') : SR (upd ρ L p') (σ.set L ob') w' ∧ Ext ρ w (upd ρ L p') w' := by
  have hlt := s.lt L p hL hlive
  have hext : Ext ρ w (upd ρ L p') w' := by
    refine ⟨fun L' q hq => ?_, fun b hb1 hf => ⟨⟨fun L' q hq hl => ?_, hf.2⟩, hheap b hb1 (Ne.symm (hf.1 L p hL hlive))⟩, ⟨rfl, fun b hb1 hr => hheap b hb1 (fun e => s.nres L p hL hlive (e ▸ hr))⟩, hsize, hos, htape, hout⟩
    · by_cases e : L' = L
      · subst e
        have : q = p := Option.some.inj (hq.symm.trans hL)
        subst this
        exact ⟨p', upd_same _ _ _, hrow, hver, hsame, hb⟩
      · exact ⟨q, by rw [upd_ne e]; exact hq, rfl, Nat.le_refl _, fun _ => ⟨rfl, rfl, rfl, rfl⟩, fun _ => rfl⟩
    · by_cases e : L' = L
      · subst e
        rw [upd_same] at hq
        cases hq
        rcases hblk with h | ⟨h, _⟩
        · rw [h]; exact hf.1 L' p hL hlive
        · omega
      · rw [upd_ne e] at hq; exact hf.1 L' q hq hl
  have hgot : (σ.get L).isSome = true := by obtain ⟨ob, ho⟩ := s.dom L p hL; simp [ho]
  refine ⟨⟨⟨fun L' ob ho hnd => ?_⟩, fun L' q hq => ?_, fun L1 L2 p1 p2 h1 h2 l1 l2 e => ?_, fun L' q hq hl => ?_, fun i cs hc => ?_, fun L' q hq hl => ?_, fun b hb => Nat.lt_of_lt_of_le (s.resl b hb) hsize⟩, hext⟩
  · rw [AS.get_set] at ho
    by_cases e : L' = L
    · subst e
      rw [if_pos rfl, hgot] at ho
      simp only [if_true, Option.some.injEq] at ho
      subst ho
      exact ⟨p', upd_same _ _ _, hOR hext⟩
    · rw [if_neg e] at ho
      obtain ⟨q, hq, hO⟩ := s.objD L' ob ho hnd
      exact ⟨q, by rw [upd_ne e]; exact hq, hO.mono hext fun hl => hheap _ (s.lt L' q hq hl) (fun hbb => e (s.inj L' L q p hq hL hl hlive hbb))⟩
  · by_cases e : L' = L
    · subst e
      refine ⟨ob', ?_⟩
      rw [AS.get_set, if_pos rfl, hgot]; simp
    · rw [upd_ne e] at hq
      obtain ⟨ob, ho⟩ := s.dom L' q hq
      exact ⟨ob, by rw [AS.get_set, if_neg e]; exact ho⟩
  · by_cases e1 : L1 = L
    · by_cases e2 : L2 = L
      · rw [e1, e2]
      · subst e1
        rw [upd_same] at h1
        cases h1
        rw [upd_ne e2] at h2
        rcases hblk with h | ⟨h, _⟩
        · exact s.inj _ _ p p2 hL h2 hlive l2 (by rw [← h]; exact e)
        · have := s.lt L2 p2 h2 l2; omega
    · rw [upd_ne e1] at h1
      by_cases e2 : L2 = L
      · subst e2
        rw [upd_same] at h2
        cases h2
        rcases hblk with h | ⟨h, _⟩
        · exact s.inj _ _ p1 p h1 hL l1 hlive (by rw [← h]; exact e)
        · have := s.lt L1 p1 h1 l1; omega
      · rw [upd_ne e2] at h2
        exact s.inj L1 L2 p1 p2 h1 h2 l1 l2 e
  · by_cases e : L' = L
    · subst e
      rw [upd_same] at hq
      cases hq
      rcases hblk with h | ⟨_, h⟩
      · rw [h]; omega
      · exact h
    · rw [upd_ne e] at hq
      exact Nat.lt_of_lt_of_le (s.lt L' q hq hl) hsize
  · rw [AS.get_set] at hc
    by_cases e : Loc.hp i = L
    · rw [if_pos e, hgot] at hc
      simp only [if_true, Option.some.injEq] at hc
      exact hin i cs e.symm hc
    · rw [if_neg e] at hc
      exact s.hin i cs hc
  · by_cases e : L' = L
    · subst e
      rw [upd_same] at hq
      cases hq
      rcases hblk with h | ⟨h, _⟩
      · rw [h]; exact s.nres L' p hL hlive
      · intro hr; have := s.resl _ hr; omega
    · rw [upd_ne e] at hq
      exact s.nres L' q hq hl

/-- A new object. -/
theorem SR.push {ρ : Rho} {σ : AS} {w w' : World} (s : SR ρ σ w) {e : Bool} {ob : AObj} {p : Place} (hlive : p.live = true) (hb : p.b = w.heap.size)
    (hheap : ∀ b, b < w.heap.size → w'.heap[b]? = w.heap[b]?) (hsize : w.heap.size < w'.heap.size) (hos : w'.os = w.os) (htape : w'.tape = w.tape) (hout : w'.output = w.output)
    (hin : ∀ cs, e = true → ob = .cells cs → AVs.inb 0 cs = true)
    (hOR : Ext ρ w (upd ρ (σ.next e) p) w' → OR (upd ρ (σ.next e) p) w' p ob) : SR (upd ρ (σ.next e) p) (σ.push e ob) w' ∧ Ext ρ w (upd ρ (σ.next e) p) w' := by
  have hno : ρ (σ.next e) = none := by
    cases h : ρ (σ.next e) with
    | none => rfl
    | some q => obtain ⟨ob, ho⟩ := s.dom _ _ h; rw [AS.get_next] at ho; cases ho
  have hext : Ext ρ w (upd ρ (σ.next e) p) w' := by
    refine ⟨fun L' q hq => ?_, fun b hb1 hf => ⟨⟨fun L' q hq hl => ?_, hf.2⟩, hheap b hb1⟩, ⟨rfl, fun b hb1 _ => hheap b hb1⟩, Nat.le_of_lt hsize, hos, htape, hout⟩
    · have e : L' ≠ σ.next e := by intro h; rw [h, hno] at hq; cases hq
      exact ⟨q, by rw [upd_ne e]; exact hq, rfl, Nat.le_refl _, fun _ => ⟨rfl, rfl, rfl, rfl⟩, fun _ => rfl⟩
    · by_cases e : L' = σ.next e
      · subst e
        rw [upd_same] at hq
        cases hq
        omega
      · rw [upd_ne e] at hq; exact hf.1 L' q hq hl
  refine ⟨⟨⟨fun L' ob' ho hnd => ?_⟩, fun L' q hq => ?_, fun L1 L2 p1 p2 h1 h2 l1 l2 eb => ?_, fun L' q hq hl => ?_, fun i cs hc => ?_, fun L' q hq hl => ?_, fun b hb => Nat.lt_trans (s.resl b hb) hsize⟩, hext⟩
  · rw [AS.get_push] at ho
    by_cases e : L' = σ.next e
    · rw [if_pos e] at ho
      cases ho
      exact ⟨p, by rw [e, upd_same], hOR hext⟩
    · rw [if_neg e] at ho
      obtain ⟨q, hq, hO⟩ := s.objD L' ob' ho hnd
      exact ⟨q, by rw [upd_ne e]; exact hq, hO.mono hext fun hl => hheap _ (s.lt L' q hq hl)⟩
  · by_cases e : L' = σ.next e
    · exact ⟨ob, by rw [AS.get_push, if_pos e]⟩
    · rw [upd_ne e] at hq
      obtain ⟨ob', ho⟩ := s.dom L' q hq
      exact ⟨ob', by rw [AS.get_push, if_neg e]; exact ho⟩
  · by_cases e1 : L1 = σ.next e
    · by_cases e2 : L2 = σ.next e
      · rw [e1, e2]
      · rw [e1, upd_same] at h1
        cases h1
        rw [upd_ne e2] at h2
        have := s.lt L2 p2 h2 l2; omega
    · rw [upd_ne e1] at h1
      by_cases e2 : L2 = σ.next e
      · rw [e2, upd_same] at h2
        cases h2
        have := s.lt L1 p1 h1 l1; omega
      · rw [upd_ne e2] at h2
        exact s.inj L1 L2 p1 p2 h1 h2 l1 l2 eb
  · by_cases e : L' = σ.next e
    · rw [e, upd_same] at hq
      cases hq
      omega
    · rw [upd_ne e] at hq
      exact Nat.lt_of_lt_of_le (s.lt L' q hq hl) (Nat.le_of_lt hsize)
  · rw [AS.get_push] at hc
    by_cases e1 : Loc.hp i = σ.next e
    · rw [if_pos e1] at hc
      cases e with
      | true => cases hc; exact hin cs rfl rfl
      | false => simp [AS.next] at e1
    · rw [if_neg e1] at hc
      exact s.hin i cs hc
  · by_cases e : L' = σ.next e
    · rw [e, upd_same] at hq
      cases hq
      intro hr
      have := s.resl _ hr
      omega
    · rw [upd_ne e] at hq
      exact s.nres L' q hq hl
end Go.Abs
