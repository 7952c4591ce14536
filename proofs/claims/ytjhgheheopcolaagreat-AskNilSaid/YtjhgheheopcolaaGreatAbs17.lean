/- New objects; rows that grow. -/
import Derived.Test.YtjhgheheopcolaaGreatAbs16
set_option linter.unusedVariables false
set_option linter.unusedSimpArgs false
namespace Go.Abs

/-- What an operation leaves: a value, a world, an abstract state of that world. -/
def Eff (P : Program) (ρ : Rho) (w : World) (σ' : AS) (c : AV) (m : Sem Value) : Prop :=
  ∃ u w' ρ', m.run P w = .ok u w' ∧ Ext ρ w ρ' w' ∧ SR ρ' σ' w' ∧ VR ρ' w' c u

theorem Ext.drew {ρ : Rho} {w : World} : Ext ρ w ρ w.drew := ⟨fun _ p h => ⟨p, h, rfl, Nat.le_refl _, fun _ => ⟨rfl, rfl, rfl, rfl⟩, fun _ => rfl⟩, fun _ _ h => ⟨h, rfl⟩, ⟨rfl, fun _ _ _ => rfl⟩, Nat.le_refl _, rfl, rfl, rfl⟩
theorem VR.ext_heap {ρ : Rho} {w w' : World} (h : w'.heap = w.heap) {c : AV} {v : Value} (x : VR ρ w c v) : VR ρ w' c v := by
  induction x with
  | bool b => exact .bool b
  | int k n => exact .int k n
  | str s => exact .str s
  | nilp => exact .nilp
  | ptr L o p hh hr => exact .ptr L o p hh hr
  | rptr cs o b o0 f hb hf h1 h2 h3 ih => exact .rptr cs o b o0 f (by rw [h]; exact hb) hf (fun j c hj => (cell_of_block (by rw [h])).trans (h1 j c hj)) ih h3
  | eptr L v i o p a hh hr hv ha => exact .eptr L v i o p a hh hr hv ha
  | nils => exact .nils
  | sl full sz es a cap f hc hfull hp hok h1 h2 ih =>
    exact .sl full sz es a cap f hc hfull (fun hne => by obtain ⟨a1, a2, a3⟩ := hp hne; exact ⟨a1, by rw [h]; exact a2, a3⟩) hok (fun i e j c hi hj => (cell_of_block (by rw [h])).trans (h1 i e j c hi hj)) ih
  | row L v off len p a cap hh hr hv hl ha => exact .row L v off len p a cap hh hr hv hl ha
  | nilm => exact .nilm
  | map L p hh hr => exact .map L p hh hr
  | fn f xs ys vs us l1 l2 h1 h2 ih1 ih2 => exact .fn f xs ys vs us l1 l2 ih1 ih2
  | nilf => exact .nilf
  | iface t a v hh ih => exact .iface t a v ih
  | nili => exact .nili
  | agg cs vs l hh ih => exact .agg cs vs l ih
  | tup cs vs l hh ih => exact .tup cs vs l ih

theorem SR.ext_heap {ρ : Rho} {σ : AS} {w w' : World} (h : w'.heap = w.heap) (s : SR ρ σ w) : SR ρ σ w' := by
  refine ⟨⟨fun L ob ho hnd => ?_⟩, s.dom, s.inj, fun L p hp hl => by rw [h]; exact s.lt L p hp hl, s.hin, s.nres, fun b hb => by rw [h]; exact s.resl b hb⟩
  obtain ⟨p, hp, hO⟩ := s.objD L ob ho hnd
  refine ⟨p, hp, ?_⟩
  cases ob with
  | cells cs =>
    obtain ⟨a, b, vs, E, hw, hl, hv⟩ := hO
    exact ⟨a, b, vs, E, by rw [h]; exact hw, hl, fun i c v hc hv' => (hv i c v hc hv').ext_heap h⟩
  | row es sz v fro =>
    obtain ⟨a1, a2, a3, a4, a5, a6, a7, a8, vs, E, fz, hw, hsz, hfz, hv⟩ := hO
    exact ⟨a1, a2, a3, a4, a5, a6, a7, fun x => by rw [h]; exact a8 x, vs, E, fz, by rw [h]; exact hw, hsz, hfz, fun i e j c u he hc hu => (hv i e j c u he hc hu).ext_heap h⟩
  | map es =>
    obtain ⟨a, b, arr, clock, hw, hl, hst, hv⟩ := hO
    refine ⟨a, b, arr, clock, by rw [h]; exact hw, hl, hst, fun i e m he hm => ?_⟩
    obtain ⟨i1, i2, v1, v2⟩ := hv i e m he hm
    exact ⟨i1, i2, v1.ext_heap h, v2.ext_heap h⟩
  | iter m =>
    obtain ⟨a, b, i1, mb, since, last, hw, hv⟩ := hO
    exact ⟨a, b, i1, mb, since, last, by rw [h]; exact hw, hv.ext_heap h⟩
  | dead => exact hO

theorem SR.drew {ρ : Rho} {σ : AS} {w : World} (s : SR ρ σ w) : SR ρ σ w.drew := SR.ext_heap (w := w) (w' := w.drew) rfl s

section
variable {P : Program} {cx : Cx}

/-- A variable. -/
theorem SR.newCells {ρ : Rho} {σ : AS} {w : World} (s : SR ρ σ w) (e : Bool) {cs : List AV} {us : Array Value} (hc : VRs ρ w cs us.toList) (hin : e = true → AVs.inb 0 cs = true) (E : TypeId) :
    ∃ ρ', Ext ρ w ρ' (w.alloc (.cells us E)) ∧ SR ρ' (σ.push e (.cells cs)) (w.alloc (.cells us E)) ∧ VR ρ' (w.alloc (.cells us E)) (.ptr (σ.next e) 0) (.pointer (some ⟨w.heap.size, 0, none⟩)) := by
  have := s.push (w' := w.alloc (.cells us E)) (e := e) (ob := .cells cs) (p := { b := w.heap.size, o := 0, sz := 1, cap := 0, ver := 0, row := false, live := true }) rfl rfl
    (fun b hb => heap_alloc_old w _ b hb) (by simp) rfl rfl rfl (fun cs' h1 h2 => by cases h2; exact hin h1)
    (fun x => ⟨rfl, rfl, us, E, heap_alloc_new w _, by simpa using hc.1, fun i c v hci hv => (hc.2 i c v hci (by simpa using hv)).mono x⟩)
  exact ⟨_, this.2, this.1, .ptr _ 0 _ (upd_same _ _ _) rfl⟩

theorem pushA_sound {ρ : Rho} {σ σ' : AS} {w : World} (s : SR ρ σ w) {e : Bool} {cs : List AV} {us : Array Value} {c : AV} (hc : VRs ρ w cs us.toList) (h : pushA cx σ e cs = some (c, σ')) (E : TypeId) :
    ∃ ρ', Ext ρ w ρ' (w.alloc (.cells us E)) ∧ SR ρ' σ' (w.alloc (.cells us E)) ∧ VR ρ' (w.alloc (.cells us E)) c (.pointer (some ⟨w.heap.size, 0, none⟩)) := by
  unfold pushA at h
  split at h
  · split at h
    · split at h
      · rename_i cs' σ1 hp
        split at h
        · rename_i hin
          simp only [Option.some.injEq, Prod.mk.injEq] at h
          obtain ⟨rfl, rfl⟩ := h
          obtain ⟨ρ1, x1, s1, v1⟩ := promL_sound _ _ _ _ _ _ hp s hc
          obtain ⟨ρ2, x2, s2, v2⟩ := s1.newCells true v1 (fun _ => hin) E
          exact ⟨ρ2, x1.trans x2, s2, v2⟩
        · cases h
      · cases h
    · cases h
  · simp only [Option.some.injEq, Prod.mk.injEq] at h
    obtain ⟨rfl, rfl⟩ := h
    exact s.newCells false hc (fun h => by cases h) E

theorem alloc_eff {ρ : Rho} {σ σ' : AS} {w : World} (s : SR ρ σ w) {e : Bool} {t : TypeId} {z c : AV} (hz : zeroA P t = some z) (h : pushA cx σ e z.cells = some (c, σ')) : Eff P ρ w σ' c (Instr.alloc t true (.tuple #[])) := by
  obtain ⟨v, h1, h2⟩ := VR.zero (ρ := ρ) (w := w) (w' := w) hz
  obtain ⟨ρ', x, s', v'⟩ := pushA_sound s h2.cells h t
  exact ⟨_, _, ρ', by simp [Instr.alloc, h1, newVar, newRow], x, s', v'⟩

theorem box_eff {ρ : Rho} {σ σ' : AS} {w : World} (s : SR ρ σ w) {e : Bool} {t : TypeId} {x c : AV} {u : Value} (hx : VR ρ w x u) (h : pushA cx σ e x.cells = some (c, σ')) : Eff P ρ w σ' c (Instr.box t u) := by
  obtain ⟨ρ', xx, s', v'⟩ := pushA_sound s hx.cells h t
  exact ⟨_, _, ρ', by simp [Instr.box, newVar, newRow], xx, s', v'⟩

/-- A new row. -/
theorem SR.newRow {ρ : Rho} {σ : AS} {w w' : World} (s : SR ρ σ w) {es : List AV} {sz cap : Nat} {us : Array Value} {E : TypeId} {fz : Nat × Nat} (hpos : 0 < sz) (hok : ∀ e ∈ es, okE sz e = true) (hcap : es.length ≤ cap) (hsz : cap * sz ≤ us.size)
    (hfz : fz.2 ≤ fz.1 ∨ cap * sz ≤ fz.1) (hold : ∀ b, b < w.heap.size → w'.heap[b]? = w.heap[b]?) (hsize : w.heap.size < w'.heap.size) (hos : w'.os = w.os) (htape : w'.tape = w.tape) (hout : w'.output = w.output)
    (hnew : w'.heap[w.heap.size]? = some (.cells us E fz)) (hval : ∀ (i : Nat) (e : AV) (j : Nat) (c : AV) (u : Value), es[i]? = some e → e.cells[j]? = some c → us[i * sz + j]? = some u → VR ρ w c u) {n : Nat} (hn : n ≤ cap) :
    ∃ ρ', Ext ρ w ρ' w' ∧ SR ρ' (σ.push false (.row es sz 0 false)) w' ∧ VR ρ' w' (.row (σ.next false) 0 0 n) (.slice (some ⟨w.heap.size, 0, none⟩) n cap) := by
  have := s.push (w' := w') (e := false) (ob := .row es sz 0 false) (p := { b := w.heap.size, o := 0, sz := sz, cap := cap, ver := 0, row := true, live := true }) rfl rfl
    hold hsize hos htape hout (fun cs' h1 h2 => by cases h1)
    (fun x => ⟨rfl, rfl, rfl, hpos, rfl, hcap, hok, (fun h => by cases h), us, E, fz, hnew, by simpa using hsz, by simpa using hfz, fun i e j c u he hc hu => (hval i e j c u he hc (by simpa using hu)).mono x⟩)
  exact ⟨_, this.2, this.1, .row _ 0 0 n _ _ cap (upd_same _ _ _) rfl (Nat.le_refl _) hn (fun _ => ⟨rfl, fun _ => by simp⟩)⟩
end
end Go.Abs
