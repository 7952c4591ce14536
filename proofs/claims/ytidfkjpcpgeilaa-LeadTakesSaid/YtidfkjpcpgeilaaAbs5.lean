/- Part 5 of the abstract interpreter: its operations and what they say of a world, for any program and any world. -/
import Derived.Test.YtidfkjpcpgeilaaAbs4
set_option linter.unusedVariables false
set_option linter.unusedSimpArgs false
section
namespace Go.Abs
def Eff (P : Program) (ρ : Rho) (w : World) (σ' : AS) (c : AV) (m : Sem Value) : Prop :=
  ∃ u w' ρ', m.run P w = .ok u w' ∧ Ext ρ w ρ' w' ∧ SR ρ' σ' w' ∧ VR ρ' w' c u
theorem Ext.drew {ρ : Rho} {w : World} : Ext ρ w ρ w.drew := ⟨fun _ p h => ⟨p, h, rfl, Nat.le_refl _, fun _ => ⟨rfl, rfl, rfl, rfl⟩, fun _ => rfl⟩, fun _ _ h => ⟨h, rfl⟩, ⟨rfl, fun _ _ _ => rfl⟩, Nat.le_refl _, rfl, rfl, rfl⟩
theorem VR.ext_heap {ρ : Rho} {w w' : World} (h : w'.heap = w.heap) {c : AV} {v : Value} (x : VR ρ w c v) : VR ρ w' c v := by
  induction x with
  | bool b => exact .bool b
  | int k n => exact .int k n
  | str s => exact .str s
  | nilp => exact .nilp
  | ptr L o p hh hr => exact .ptr L o p hh hr
  | rptr cs o b o0 f hb hf h1 h2 h3 ih => exact .rptr cs o b o0 f (by rw [h]; exact hb) hf (fun j c hj => (cell_of_block (by rw [h])).trans (h1 j c hj)) ih h3
  | eptr L v i o p a hh hr hv ha => exact .eptr L v i o p a hh hr hv ha
  | nils => exact .nils
  | sl full sz es a cap f hc hfull hp hok h1 h2 ih =>
    exact .sl full sz es a cap f hc hfull (fun hne => by obtain ⟨a1, a2, a3⟩ := hp hne; exact ⟨a1, by rw [h]; exact a2, a3⟩) hok (fun i e j c hi hj => (cell_of_block (by rw [h])).trans (h1 i e j c hi hj)) ih
  | row L v off len p a cap hh hr hv hl ha => exact .row L v off len p a cap hh hr hv hl ha
  | nilm => exact .nilm
  | map L p hh hr => exact .map L p hh hr
  | fn f xs ys vs us l1 l2 h1 h2 ih1 ih2 => exact .fn f xs ys vs us l1 l2 ih1 ih2
  | nilf => exact .nilf
  | iface t a v hh ih => exact .iface t a v ih
  | nili => exact .nili
  | agg cs vs l hh ih => exact .agg cs vs l ih
  | tup cs vs l hh ih => exact .tup cs vs l ih
  | any a l c => exact .any a l c
theorem SR.ext_heap {ρ : Rho} {σ : AS} {w w' : World} (h : w'.heap = w.heap) (s : SR ρ σ w) : SR ρ σ w' := by
  refine ⟨⟨fun L ob ho hnd => ?_⟩, s.dom, s.inj, fun L p hp hl => by rw [h]; exact s.lt L p hp hl, s.hin, s.nres, fun b hb => by rw [h]; exact s.resl b hb, fun x hx => ⟨by rw [h]; exact (s.glb x hx).1, (s.glb x hx).2.1, (cell_of_block (a := ⟨x.1, 0, none⟩) (by rw [h])).trans (s.glb x hx).2.2⟩⟩
  obtain ⟨p, hp, hO⟩ := s.objD L ob ho hnd
  refine ⟨p, hp, ?_⟩
  cases ob with
  | cells cs =>
    obtain ⟨a, b, vs, E, hw, hl, hv⟩ := hO
    exact ⟨a, b, vs, E, by rw [h]; exact hw, hl, fun i c v hc hv' => (hv i c v hc hv').ext_heap h⟩
  | row es sz v fro =>
    obtain ⟨a1, a2, a3, a4, a5, a6, a7, a8, vs, E, fz, hw, hsz, hfz, hv⟩ := hO
    exact ⟨a1, a2, a3, a4, a5, a6, a7, fun x => by rw [h]; exact a8 x, vs, E, fz, by rw [h]; exact hw, hsz, hfz, fun i e j c u he hc hu => (hv i e j c u he hc hu).ext_heap h⟩
  | map es =>
    obtain ⟨a, b, arr, clock, hw, hl, hst, hv⟩ := hO
    refine ⟨a, b, arr, clock, by rw [h]; exact hw, hl, hst, fun i e m he hm => ?_⟩
    obtain ⟨i1, i2, v1, v2⟩ := hv i e m he hm
    exact ⟨i1, i2, v1.ext_heap h, v2.ext_heap h⟩
  | iter m =>
    obtain ⟨a, b, i1, mb, since, seen, last, hw, hv⟩ := hO
    exact ⟨a, b, i1, mb, since, seen, last, by rw [h]; exact hw, hv.ext_heap h⟩
  | dead => exact hO
theorem SR.drew {ρ : Rho} {σ : AS} {w : World} (s : SR ρ σ w) : SR ρ σ w.drew := SR.ext_heap (w := w) (w' := w.drew) rfl s
section
variable {P : Program} {cx : Cx}
theorem SR.newCells {ρ : Rho} {σ : AS} {w : World} (s : SR ρ σ w) (e : Bool) {cs : List AV} {us : Array Value} (hc : VRs ρ w cs us.toList) (hin : e = true → AVs.inb 0 cs = true) (E : TypeId) :
    ∃ ρ', Ext ρ w ρ' (w.alloc (.cells us E)) ∧ SR ρ' (σ.push e (.cells cs)) (w.alloc (.cells us E)) ∧ VR ρ' (w.alloc (.cells us E)) (.ptr (σ.next e) 0) (.pointer (some ⟨w.heap.size, 0, none⟩)) := by
  have := s.push (w' := w.alloc (.cells us E)) (e := e) (ob := .cells cs) (p := { b := w.heap.size, o := 0, sz := 1, cap := 0, ver := 0, row := false, live := true }) rfl rfl
    (fun b hb => heap_alloc_old w _ b hb) (by simp) rfl rfl rfl (fun cs' h1 h2 => by cases h2; exact hin h1)
    (fun x => ⟨rfl, rfl, us, E, heap_alloc_new w _, by simpa using hc.1, fun i c v hci hv => (hc.2 i c v hci (by simpa using hv)).mono x⟩)
  exact ⟨_, this.2, this.1, .ptr _ 0 _ (upd_same _ _ _) rfl⟩
theorem pushA_sound {ρ : Rho} {σ σ' : AS} {w : World} (s : SR ρ σ w) {e : Bool} {cs : List AV} {us : Array Value} {c : AV} (hc : VRs ρ w cs us.toList) (h : pushA cx σ e cs = some (c, σ')) (E : TypeId) :
    ∃ ρ', Ext ρ w ρ' (w.alloc (.cells us E)) ∧ SR ρ' σ' (w.alloc (.cells us E)) ∧ VR ρ' (w.alloc (.cells us E)) c (.pointer (some ⟨w.heap.size, 0, none⟩)) := by
  unfold pushA at h
  split at h
  · split at h
    · split at h
      · rename_i cs' σ1 hp
        split at h
        · rename_i hin
          simp only [Option.some.injEq, Prod.mk.injEq] at h
          obtain ⟨rfl, rfl⟩ := h
          obtain ⟨ρ1, x1, s1, v1⟩ := promL_sound _ _ _ _ _ _ hp s hc
          obtain ⟨ρ2, x2, s2, v2⟩ := s1.newCells true v1 (fun _ => hin) E
          exact ⟨ρ2, x1.trans x2, s2, v2⟩
        · cases h
      · cases h
    · cases h
  · simp only [Option.some.injEq, Prod.mk.injEq] at h
    obtain ⟨rfl, rfl⟩ := h
    exact s.newCells false hc (fun h => by cases h) E
theorem alloc_eff {ρ : Rho} {σ σ' : AS} {w : World} (s : SR ρ σ w) {e : Bool} {t : TypeId} {z c : AV} (hz : zeroA P t = some z) (h : pushA cx σ e z.cells = some (c, σ')) : Eff P ρ w σ' c (Instr.alloc t true (.tuple #[])) := by
  obtain ⟨v, h1, h2⟩ := VR.zero (ρ := ρ) (w := w) (w' := w) hz
  obtain ⟨ρ', x, s', v'⟩ := pushA_sound s h2.cells h t
  exact ⟨_, _, ρ', by simp [Instr.alloc, h1, newVar, newRow], x, s', v'⟩
theorem box_eff {ρ : Rho} {σ σ' : AS} {w : World} (s : SR ρ σ w) {e : Bool} {t : TypeId} {x c : AV} {u : Value} (hx : VR ρ w x u) (h : pushA cx σ e x.cells = some (c, σ')) : Eff P ρ w σ' c (Instr.box t u) := by
  obtain ⟨ρ', xx, s', v'⟩ := pushA_sound s hx.cells h t
  exact ⟨_, _, ρ', by simp [Instr.box, newVar, newRow], xx, s', v'⟩
theorem SR.newRow {ρ : Rho} {σ : AS} {w w' : World} (s : SR ρ σ w) {es : List AV} {sz cap : Nat} {us : Array Value} {E : TypeId} {fz : Nat × Nat} (hpos : 0 < sz) (hok : ∀ e ∈ es, okE sz e = true) (hcap : es.length ≤ cap) (hsz : cap * sz ≤ us.size)
    (hfz : fz.2 ≤ fz.1 ∨ cap * sz ≤ fz.1) (hold : ∀ b, b < w.heap.size → w'.heap[b]? = w.heap[b]?) (hsize : w.heap.size < w'.heap.size) (hos : w'.os = w.os) (htape : w'.tape = w.tape) (hout : w'.output = w.output)
    (hnew : w'.heap[w.heap.size]? = some (.cells us E fz)) (hval : ∀ (i : Nat) (e : AV) (j : Nat) (c : AV) (u : Value), es[i]? = some e → e.cells[j]? = some c → us[i * sz + j]? = some u → VR ρ w c u) {n : Nat} (hn : n ≤ cap) :
    ∃ ρ', Ext ρ w ρ' w' ∧ SR ρ' (σ.push false (.row es sz 0 false)) w' ∧ VR ρ' w' (.row (σ.next false) 0 0 n) (.slice (some ⟨w.heap.size, 0, none⟩) n cap) := by
  have := s.push (w' := w') (e := false) (ob := .row es sz 0 false) (p := { b := w.heap.size, o := 0, sz := sz, cap := cap, ver := 0, row := true, live := true }) rfl rfl
    hold hsize hos htape hout (fun cs' h1 h2 => by cases h1)
    (fun x => ⟨rfl, rfl, rfl, hpos, rfl, hcap, hok, (fun h => by cases h), us, E, fz, hnew, by simpa using hsz, by simpa using hfz, fun i e j c u he hc hu => (hval i e j c u he hc (by simpa using hu)).mono x⟩)
  exact ⟨_, this.2, this.1, .row _ 0 0 n _ _ cap (upd_same _ _ _) rfl (Nat.le_refl _) hn (fun _ => ⟨rfl, fun _ => by simp⟩)⟩
end
end Go.Abs
end
section
namespace Go.Abs
theorem lay_get' {l : List AV} {o : Nat} {xs : List AV} (h : o ≤ l.length) (i : Nat) : (lay l o xs)[i]? = if o ≤ i ∧ i < o + xs.length then xs[i - o]? else l[i]? := by
  unfold lay
  have hlen : (List.take o l ++ xs).length = o + xs.length := by simp; omega
  rcases Nat.lt_or_ge i (o + xs.length) with h1 | h1
  · rw [List.getElem?_append_left (by omega)]
    rcases Nat.lt_or_ge i o with h2 | h2
    · rw [List.getElem?_append_left (by simp; omega), if_neg (by omega), List.getElem?_take, if_pos h2]
    · rw [List.getElem?_append_right (by simp; omega), if_pos ⟨h2, h1⟩]
      congr 1
      simp; omega
  · rw [List.getElem?_append_right (by omega), if_neg (by omega), List.getElem?_drop]
    congr 1
    omega
theorem lay_end (l xs : List AV) : lay l l.length xs = l ++ xs := by unfold lay; simp
theorem lay_nil {l : List AV} {o : Nat} : lay l o [] = l := by unfold lay; simp
theorem lay_mem {l : List AV} {o : Nat} {xs : List AV} {e : AV} (h : e ∈ lay l o xs) : e ∈ l ∨ e ∈ xs := by
  unfold lay at h
  simp only [List.mem_append] at h
  rcases h with (h | h) | h
  · exact .inl (List.mem_of_mem_take h)
  · exact .inr h
  · exact .inl (List.mem_of_mem_drop h)
theorem lay_len' {l : List AV} {o : Nat} {xs : List AV} (h : o ≤ l.length) : (lay l o xs).length = max l.length (o + xs.length) := by unfold lay; simp; omega
theorem divmod_eq {i j k sz : Nat} (h : j < sz) {i' j' : Nat} (h' : j' < sz) (e : i * sz + j = i' * sz + j') : i = i' ∧ j = j' := by
  have a := divmod (i := i) h
  have b := divmod (i := i') h'
  rw [e] at a
  exact ⟨a.1.symm.trans b.1, a.2.symm.trans b.2⟩
section
variable {P : Program} {cx : Cx}
theorem store_row {ρ : Rho} {σ : AS} {w : World} (s : SR ρ σ w) {L : Loc} {es : List AV} {sz v v' : Nat} (hg : σ.get L = some (.row es sz v false)) {k : Nat} {xs : List AV} {us : Array Value} (hx : RowAt ρ w sz xs us)
    (hoks : ∀ x ∈ xs, okE sz x = true) (hk : k ≤ es.length) {p : Place} (hp : ρ L = some p) (hcap' : k + xs.length ≤ p.cap) (hvv : v ≤ v') :
    (storeCells ⟨p.b, p.o + k * sz, none⟩ us.toList).run P w = .ok () (w.setCells p.b (p.o + k * sz) us.toList) ∧
    Ext ρ w (upd ρ L { p with ver := v' }) (w.setCells p.b (p.o + k * sz) us.toList) ∧ SR (upd ρ L { p with ver := v' }) (σ.set L (.row (lay es k xs) sz v' false)) (w.setCells p.b (p.o + k * sz) us.toList) := by
  obtain ⟨q, hq, hr, hv, hsz, hpos, hlive, hcap, hok, hfr, vs, E, fz, hw, hlt, hfz, hval⟩ := s.obj L _ hg
  have : q = p := Option.some.inj (hq.symm.trans hp)
  subst this
  have hl : q.live = true := by simpa using hlive
  obtain ⟨hxs, hxv⟩ := hx
  have hb1 : (k + xs.length) * sz ≤ q.cap * sz := Nat.mul_le_mul_right _ hcap'
  rw [Nat.add_mul] at hb1
  have hul : us.toList.length = xs.length * sz := by simpa using hxs
  have hone : ∀ u ∈ us.toList, u.oneCell' = true := fun u hu => by
    obtain ⟨m, hm, rfl⟩ := List.getElem_of_mem hu
    have e1 : m / sz * sz + m % sz = m := by rw [Nat.mul_comm]; exact Nat.div_add_mod m sz
    have hi : m / sz < xs.length := (Nat.div_lt_iff_lt_mul hpos).2 (by omega)
    have hj : m % sz < (xs[m / sz]).cells.length := by rw [okE_len (hoks _ (List.getElem_mem hi))]; exact Nat.mod_lt _ hpos
    have := hxv (m / sz) xs[m / sz] (m % sz) _ (us[m]'(by simpa using hm)) (List.getElem?_eq_getElem hi) (List.getElem?_eq_getElem hj) (by rw [e1]; simp)
    exact this.oneCell (okE_one (hoks _ (List.getElem_mem hi)) _ (List.getElem_mem hj))
  have hrun : (storeCells ⟨q.b, q.o + k * sz, none⟩ us.toList).run P w = .ok () (w.setCells q.b (q.o + k * sz) us.toList) := by
    have := run_storeCells_cells (P := P) q.b (q.o + k * sz) us.toList 0 w (fun j hj => by
      have : q.o + k * sz + j < vs.size := by omega
      simp [World.cell?, hw, this]) (fun j hj => by
      simp only [World.frozen?, hw]
      simp only [Bool.and_eq_false_iff, decide_eq_false_iff_not]
      omega) hone
    simpa using this
  obtain ⟨g1, g2, g3, g4, g5, cur', c1, c2, c3⟩ := setCells_spec q.b E fz us.toList (q.o + k * sz) w vs hw (by omega)
  have := s.write (w' := w.setCells q.b (q.o + k * sz) us.toList) (ob' := .row (lay es k xs) sz v' false) (p' := { q with ver := v' }) hp hl rfl (by simp only; omega) (fun _ => ⟨rfl, rfl, rfl, rfl⟩) (fun _ => rfl) (.inl rfl) (fun b _ hb => g5 b hb) (Nat.le_of_eq g4.symm) g1 g2 g3
    (fun i cs e1 e2 => by cases e2)
    (fun x => ⟨hr, rfl, hsz, hpos, hlive, ?_, fun d hd => ?_, (fun h => by cases h), cur', E, fz, c1, by simp only; omega, hfz, fun m d j c u hd hc hu => ?_⟩)
  · exact ⟨hrun, this.2, this.1⟩
  · rw [lay_len' hk]; simp only; omega
  · rcases lay_mem hd with h | h
    · exact hok d h
    · exact hoks d h
  · have hds : d.cells.length = sz := by
      rcases lay_mem (getElem?_mem' hd) with h | h
      · exact okE_len (hok d h)
      · exact okE_len (hoks d h)
    have hj : j < sz := by rw [← hds]; exact (List.getElem?_eq_some_iff.1 hc).1
    have hmm : q.o + m * sz + j < vs.size := by rw [← c2]; exact (Array.getElem?_eq_some_iff.1 hu).1
    simp only at hu
    rw [c3 _ hmm] at hu
    rw [lay_get' hk] at hd
    by_cases gm : k ≤ m ∧ m < k + xs.length
    · rw [if_pos gm] at hd
      have h1 : k * sz ≤ m * sz := Nat.mul_le_mul_right _ gm.1
      have h2 : (m + 1) * sz ≤ (k + xs.length) * sz := Nat.mul_le_mul_right _ gm.2
      rw [Nat.add_mul, Nat.add_mul] at h2
      rw [if_pos (by omega)] at hu
      have h3 : q.o + m * sz + j - (q.o + k * sz) = (m - k) * sz + j := by rw [Nat.sub_mul]; omega
      rw [h3] at hu
      exact (hxv _ _ _ _ _ hd hc (by simpa using hu)).mono x
    · rw [if_neg gm] at hd
      have hno : ¬ (q.o + k * sz ≤ q.o + m * sz + j ∧ q.o + m * sz + j < q.o + k * sz + us.toList.length) := by
        intro ⟨h1, h2⟩
        apply gm
        constructor
        · refine Nat.le_of_not_lt fun hlt => ?_
          have : (m + 1) * sz ≤ k * sz := Nat.mul_le_mul_right _ hlt
          rw [Nat.add_mul] at this
          omega
        · refine Nat.lt_of_not_le fun hle => ?_
          have : (k + xs.length) * sz ≤ m * sz := Nat.mul_le_mul_right _ hle
          rw [Nat.add_mul] at this
          omega
      rw [if_neg hno] at hu
      exact (hval m d j c u hd hc hu).mono x
theorem growBy_le (n : Nat) : ∀ (r c : Nat), c ≤ 2 * n + 192 → Builtin.growBy n r c ≤ 2 * n + 192
  | 0, c, h => h
  | r + 1, c, h => by
    unfold Builtin.growBy
    split
    · exact h
    · exact growBy_le n r _ (by omega)
theorem nextslicecap_le {n c : Nat} (h : c < n) : Builtin.nextslicecap n c ≤ 2 * n + 192 := by
  unfold Builtin.nextslicecap
  split
  · omega
  · split
    · omega
    · exact growBy_le n 4 c (by omega)
theorem bytesOk_spec {n b c : Nat} (h : bytesOk n b = true) (hc : c < n) : ¬ (Builtin.nextslicecap n c * b > 2 ^ 48) ∧ ¬ ((n : Int) > IntKind.i64.max) := by
  simp only [bytesOk, decide_eq_true_eq] at h
  obtain ⟨h1, h2, h3⟩ := h
  have h4 := nextslicecap_le hc
  have h5 : Builtin.nextslicecap n c * b ≤ (2 * n + 192) * b := Nat.mul_le_mul_right _ h4
  have h6 : (2 * n + 192) * b = 2 * (n * b) + 192 * b := by rw [Nat.add_mul, Nat.mul_assoc]
  refine ⟨by omega, ?_⟩
  simp [IntKind.max, IntKind.bits, IntKind.signed]
  omega
theorem RowAt.append {ρ : Rho} {w : World} {sz : Nat} {es xs : List AV} {us vs rest : Array Value} (h : RowAt ρ w sz es us) (h' : RowAt ρ w sz xs vs) (hok : ∀ e ∈ es, okE sz e = true) (hok' : ∀ e ∈ xs, okE sz e = true) :
    ∀ (i : Nat) (e : AV) (j : Nat) (c : AV) (u : Value), (es ++ xs)[i]? = some e → e.cells[j]? = some c → (us ++ vs ++ rest)[i * sz + j]? = some u → VR ρ w c u := by
  intro i e j c u hi hj hu
  have hes : e.cells.length = sz := by
    rcases List.mem_append.1 (getElem?_mem' hi) with h | h
    · exact okE_len (hok e h)
    · exact okE_len (hok' e h)
  have hjs : j < sz := by rw [← hes]; exact (List.getElem?_eq_some_iff.1 hj).1
  rcases Nat.lt_or_ge i es.length with hl | hl
  · rw [List.getElem?_append_left hl] at hi
    have : i * sz + j < us.size := by rw [h.1]; have : (i + 1) * sz ≤ es.length * sz := Nat.mul_le_mul_right _ hl; rw [Nat.add_mul] at this; omega
    rw [Array.append_assoc, Array.getElem?_append_left this] at hu
    exact h.2 i e j c u hi hj hu
  · rw [List.getElem?_append_right hl] at hi
    have hl2 : i - es.length < xs.length := (List.getElem?_eq_some_iff.1 hi).1
    have h1 : es.length * sz ≤ i * sz := Nat.mul_le_mul_right _ hl
    have h2 : (i - es.length + 1) * sz ≤ xs.length * sz := Nat.mul_le_mul_right _ hl2
    rw [Nat.add_mul, Nat.sub_mul] at h2
    have h3 : i * sz + j - us.size = (i - es.length) * sz + j := by rw [h.1, Nat.sub_mul]; omega
    have h0 := h.1
    have h0' := h'.1
    rw [Array.append_assoc, Array.getElem?_append_right (by omega), Array.getElem?_append_left (by omega), h3] at hu
    exact h'.2 _ e j c u hi hj hu
theorem run_append {w : World} {st xt e : TypeId} {xd : TypeDesc} {sz b : Nat} {ty : TypeId} {z : AV} (hst : elemA P st = some e) (hxt : P.underlying xt = some xd) (hxd : isSrc xd = true)
    (hsz : sizeA P e = some sz) (hb : bytesA P e = some b) (hz : zeroA P e = some z) (hzl : z.cells.length = sz) {base : Option Addr} {n cap m : Nat} {x : Value} (hx : (Builtin.lenOf x).run P w = .ok m w) {vs : Array Value} :
    (∀ (_ : (Builtin.firstCells sz m x).run P w = .ok vs w), n + m ≤ cap → (∀ (a : Addr) (w' : World), base = some a → (storeCells (a.add (n * sz)) vs.toList).run P w = .ok () w' → (Builtin.append_ #[st, xt] ty #[.slice base n cap, x]).run P w = .ok (.slice base (n + m) cap) w') ∧
      (base = none → (Builtin.append_ #[st, xt] ty #[.slice base n cap, x]).run P w = .ok (.slice base (n + m) cap) w)) ∧
    (¬ n + m ≤ cap → bytesOk (n + m) b = true → ∀ us, (Builtin.firstCells sz n (.slice base n cap)).run P w.drew = .ok us w.drew → (Builtin.firstCells sz m x).run P w.drew = .ok vs w.drew →
      ∃ newCap rest, n + m ≤ newCap ∧ rest.size = (newCap - (n + m)) * sz ∧ (Builtin.append_ #[st, xt] ty #[.slice base n cap, x]).run P w = .ok (.slice (some ⟨w.heap.size, 0, none⟩) (n + m) newCap) (w.drew.alloc (.cells (us ++ vs ++ rest) e))) := by
  have hund : P.underlying st = some (.slice e) := by
    unfold elemA at hst
    split at hst
    · cases hst; assumption
    · cases hst
  obtain ⟨ti, ht1, ht2⟩ := run_bytesA hb w
  obtain ⟨ti', ht1', ht2'⟩ := run_bytesA hb w.drew
  obtain ⟨zv, z1, z2⟩ := run_zeroA hz w.drew
  have hzc := (ofV_sound (ρ := ⟨fun _ => none, fun _ => False⟩) (w := w) z2).cells.1
  simp only [Array.length_toList] at hzc
  have grows : ¬ n + m ≤ cap → bytesOk (n + m) b = true → ∀ us, (Builtin.firstCells sz n (.slice base n cap)).run P w.drew = .ok us w.drew → (Builtin.firstCells sz m x).run P w.drew = .ok vs w.drew →
      (match xd with | .slice _ | .string => True | _ => False) →
      ∃ newCap rest, n + m ≤ newCap ∧ rest.size = (newCap - (n + m)) * sz ∧ (Builtin.append_ #[st, xt] ty #[.slice base n cap, x]).run P w = .ok (.slice (some ⟨w.heap.size, 0, none⟩) (n + m) newCap) (w.drew.alloc (.cells (us ++ vs ++ rest) e)) := by
    intro hle hbo us hu hv hxs
    obtain ⟨b1, _⟩ := bytesOk_spec hbo (c := cap) (by omega)
    have b2 : ¬ ((9223372036854775807 : Int) < (n : Int) + (m : Int)) := by
      simp only [bytesOk, decide_eq_true_eq] at hbo; omega
    refine ⟨(Question.appendCap (n + m) cap e).cut (w.tape w.drawn (.appendCap (n + m) cap e)), Builtin.zeroCells zv.cells ((Question.appendCap (n + m) cap e).cut (w.tape w.drawn (.appendCap (n + m) cap e)) - (n + m)), by simp [Question.cut], by
      simp [Builtin.zeroCells, ← hzc, hzl], ?_⟩
    cases xd with
    | slice xe => simp [Builtin.append_, run_underlying hund, run_sizeA hsz, run_underlying hxt, hx, hle, ht1, ht2, ht1', b1, b2, Question.forced, hu, hv, z1, newRow]
    | string => simp [Builtin.append_, run_underlying hund, run_sizeA hsz, run_underlying hxt, hx, hle, ht1, ht2, ht1', b1, b2, Question.forced, hu, hv, z1, newRow]
    | _ => exact hxs.elim
  cases xd with
  | slice xe =>
    refine ⟨fun hf hle => ⟨fun a w' ha hs => ?_, fun ha => ?_⟩, fun hle hbo us hu hv => grows hle hbo us hu hv trivial⟩
    · subst ha
      simp [Builtin.append_, run_underlying hund, run_sizeA hsz, run_underlying hxt, hx, hle, hf, hs]
    · subst ha
      simp [Builtin.append_, run_underlying hund, run_sizeA hsz, run_underlying hxt, hx, hle, hf]
  | string =>
    refine ⟨fun hf hle => ⟨fun a w' ha hs => ?_, fun ha => ?_⟩, fun hle hbo us hu hv => grows hle hbo us hu hv trivial⟩
    · subst ha
      simp [Builtin.append_, run_underlying hund, run_sizeA hsz, run_underlying hxt, hx, hle, hf, hs]
    · subst ha
      simp [Builtin.append_, run_underlying hund, run_sizeA hsz, run_underlying hxt, hx, hle, hf]
  | _ => simp [isSrc] at hxd
end
end Go.Abs
end
section
namespace Go.Abs
section
variable {P : Program} {cx : Cx}
theorem Ext.of_drew {ρ : Rho} {w : World} {ρ' : Rho} {w' : World} (x : Ext ρ w.drew ρ' w') : Ext ρ w ρ' w' := Ext.drew.trans x
theorem size3 {us vd rest : Array Value} {a b N sz : Nat} (h1 : us.size = a * sz) (h2 : vd.size = b * sz) (h3 : rest.size = (N - (a + b)) * sz) (h : a + b ≤ N) : N * sz = (us ++ vd ++ rest).size := by
  simp only [Array.size_append, h1, h2, h3, ← Nat.add_mul]
  congr 1
  omega
theorem rowAt_nil {ρ : Rho} {w : World} {sz : Nat} : RowAt ρ w sz [] #[] := ⟨by simp, fun i e j c u hi => by simp at hi⟩
theorem elems_drew {ρ : Rho} {σ : AS} {w : World} (s : SR ρ σ w) {x : AV} {u : Value} {sz : Nat} {es : List AV} (hx : VR ρ w x u) (h : elemsA σ sz x = some es) (h0 : 0 < sz) :
    ∃ vs, (Builtin.firstCells sz es.length u).run P w.drew = .ok vs w.drew ∧ RowAt ρ w sz es vs := by
  obtain ⟨_, _, g3⟩ := elemsA_sound (P := P) s.drew (VR.ext_heap (w := w) (w' := w.drew) rfl hx) h h0
  obtain ⟨vs, v1, v2⟩ := g3 es.length (Nat.le_refl _)
  rw [List.take_length] at v2
  exact ⟨vs, v1, v2.1, fun i e j c u hi hj hu => VR.ext_heap (w := w.drew) (w' := w) rfl (v2.2 i e j c u hi hj hu)⟩
theorem appendA_sound {ρ : Rho} {σ σ' : AS} {w : World} (s : SR ρ σ w) {ts : List TypeId} {a x c : AV} {ua ux : Value} {ty : TypeId} (ha : VR ρ w a ua) (hx : VR ρ w x ux) (h : appendA P cx σ ts a x = some (c, σ')) :
    Eff P ρ w σ' c (Builtin.append_ ts.toArray ty #[ua, ux]) := by
  unfold appendA at h
  split at h
  · rename_i st xt
    split at h
    · rename_i e xd he hxd
      split at h
      · rename_i sz b hsz hb
        split at h
        · rename_i hcond
          obtain ⟨hpos, hsrc, hzl⟩ := hcond
          obtain ⟨z, hz, hzl⟩ : ∃ z, zeroA P e = some z ∧ z.cells.length = sz := by
            cases hz : zeroA P e with
            | none => simp [hz] at hzl
            | some z => exact ⟨z, rfl, by simpa [hz] using hzl⟩
          split at h
          · cases h
          · rename_i xs hxs
            obtain ⟨g1, g2, g3⟩ := elemsA_sound (P := P) s hx hxs hpos
            obtain ⟨vs, v1, v2⟩ := g3 xs.length (Nat.le_refl _)
            rw [List.take_length] at v2
            obtain ⟨vd, vd1, vd2⟩ := elems_drew (P := P) s hx hxs hpos
            have grow : ∀ (base : Option Addr) (n cap : Nat) (es : List AV) (us : Array Value), ua = .slice base n cap → es.length = n → (Builtin.firstCells sz n (.slice base n cap)).run P w.drew = .ok us w.drew → RowAt ρ w sz es us →
                (∀ e ∈ es, okE sz e = true) → ¬ n + xs.length ≤ cap → bytesOk (n + xs.length) b = true →
                Eff P ρ w (σ.push false (.row (es ++ xs) sz 0 false)) (.row (σ.next false) 0 0 (n + xs.length)) (Builtin.append_ #[st, xt] ty #[ua, ux]) := by
              intro base n cap es us hua hn hu hR hok hle hbo
              subst hua
              have hr := (run_append (P := P) (w := w) (ty := ty) he hxd hsrc hsz hb hz hzl (base := base) (n := n) (cap := cap) g1 (vs := vd)).2 hle hbo us hu vd1
              obtain ⟨newCap, rest, c1, c2, hr⟩ := hr
              have hsize : w.heap.size < (w.drew.alloc (.cells (us ++ vd ++ rest) e)).heap.size := by simp
              obtain ⟨ρ', x', s', v'⟩ := s.newRow (w' := w.drew.alloc (.cells (us ++ vd ++ rest) e)) (es := es ++ xs) (cap := newCap) (us := us ++ vd ++ rest) (E := e) (fz := (0, 0)) hpos
                (fun d hd => by rcases List.mem_append.1 hd with h | h; exact hok d h; exact g2 d h) (by simp; omega)
                (Nat.le_of_eq (size3 (by rw [hR.1, hn]) vd2.1 c2 c1)) (.inl (Nat.le_refl _))
                (fun b hb => heap_alloc_old w.drew _ b hb) hsize rfl rfl rfl (heap_alloc_new w.drew _) (hR.append vd2 hok g2) c1
              exact ⟨_, _, ρ', hr, x', s', v'⟩
            split at h
            · cases ha
              split at h
              · rename_i hemp
                have hnil : xs = [] := by simpa using hemp
                subst hnil
                simp only [Option.some.injEq, Prod.mk.injEq] at h
                obtain ⟨rfl, rfl⟩ := h
                have := ((run_append (P := P) (w := w) (ty := ty) he hxd hsrc hsz hb hz hzl (base := none) (n := 0) (cap := 0) g1 (vs := vs)).1 v1 (by simp)).2 rfl
                exact ⟨_, w, ρ, this, Ext.refl _ _, s, .nils⟩
              · split at h
                · rename_i hne hbo
                  simp only [Option.some.injEq, Prod.mk.injEq] at h
                  obtain ⟨rfl, rfl⟩ := h
                  have hne' : xs.length ≠ 0 := by simpa using hne
                  have := grow none 0 0 [] #[] rfl rfl rfl rowAt_nil (by simp) (by omega) (by simpa using hbo)
                  simpa using this
                · cases h
            · rename_i full sz' es
              split at h
              · rename_i hemp
                have hnil : xs = [] := by simpa using hemp
                subst hnil
                simp only [Option.some.injEq, Prod.mk.injEq] at h
                obtain ⟨rfl, rfl⟩ := h
                have ha' := ha
                cases ha with
                | sl _ _ _ ad cap f hc hfull hp hok h1 h2 =>
                  have hvs : vs = #[] := by have := v2.1; simpa using this
                  subst hvs
                  have := ((run_append (P := P) (w := w) (ty := ty) he hxd hsrc hsz hb hz hzl (base := some ad) (n := es.length) (cap := cap) g1 (vs := #[])).1 v1 (by simpa using hc)).1 ad w rfl rfl
                  exact ⟨_, w, ρ, this, Ext.refl _ _, s, by simpa using ha'⟩
              · split at h
                · rename_i hne hcond
                  obtain ⟨rfl, rfl, hbo⟩ := hcond
                  simp only [Option.some.injEq, Prod.mk.injEq] at h
                  obtain ⟨rfl, rfl⟩ := h
                  have hne' : xs.length ≠ 0 := by simpa using hne
                  have hes : elemsA σ sz' (.sl true sz' es) = some es := by simp [elemsA]
                  obtain ⟨us, u1, u2⟩ := elems_drew (P := P) s ha hes hpos
                  obtain ⟨_, hok, _⟩ := elemsA_sound (P := P) s ha hes hpos
                  cases ha with
                  | sl _ _ _ ad cap f hc hfull hp hok' h1 h2 =>
                    have hcap := hfull rfl
                    exact grow (some ad) es.length cap es us rfl rfl u1 u2 hok (by omega) hbo
                · cases h
            · rename_i L v off len
              split at h
              · rename_i es sz' v' hg
                split at h
                · rename_i hcond
                  obtain ⟨rfl, rfl, _, hle⟩ := hcond
                  have hO := s.obj L _ hg
                  obtain ⟨q, hq, hr, hv, hs, _, hlive, hcap, hok, hfr, bs, E, fz, hw, hlt, hfz, hval⟩ := hO
                  cases ha with
                  | row _ _ _ _ p ad cap hp hr' hv' hl hadr =>
                    have : q = p := Option.some.inj (hq.symm.trans hp)
                    subst this
                    obtain ⟨a1, a2⟩ := hadr hv
                    split at h
                    · rename_i hroom
                      simp only [Option.some.injEq, Prod.mk.injEq] at h
                      obtain ⟨rfl, rfl⟩ := h
                      have hra := ((run_append (P := P) (w := w) (ty := ty) he hxd hsrc hsz hb hz hzl (base := some ad) (n := len) (cap := cap) g1 (vs := vs)).1 v1 (by omega)).1 ad
                      by_cases hm : xs.length = 0
                      · have hnil : xs = [] := List.length_eq_zero_iff.1 hm
                        subst hnil
                        have hvs : vs = #[] := by have := v2.1; simpa using this
                        subst hvs
                        refine ⟨_, w, ρ, hra w rfl rfl, Ext.refl _ _, ?_, ?_⟩
                        · rw [lay_nil, AS.set_self hg]; exact s
                        · exact .row L v' off _ q ad cap hp hr' hv' (by simp; omega) (fun _ => ⟨a1, a2⟩)
                      · have := a2 (by omega)
                        subst this
                        obtain ⟨r1, x1, s1⟩ := store_row (P := P) s hg v2 g2 (k := off + len) (by omega) hp (by omega) (Nat.le_refl v')
                        have hadd : (⟨q.b, q.o + off * q.sz, none⟩ : Addr).add (len * sz') = ⟨q.b, q.o + (off + len) * sz', none⟩ := by
                          rw [add_mk, hs, Nat.add_mul, Nat.add_assoc]
                        refine ⟨_, _, _, hra _ rfl (by rw [hadd]; exact r1), x1, s1, ?_⟩
                        exact .row L v' off _ { q with ver := v' } _ cap (upd_same _ _ _) hr' (Nat.le_refl _) (by omega) (fun _ => ⟨a1, fun _ => rfl⟩)
                    · rename_i hroom
                      split at h
                      · rename_i hcond
                        obtain ⟨rfl, rfl, hbo⟩ := hcond
                        simp only [Option.some.injEq, Prod.mk.injEq] at h
                        obtain ⟨rfl, rfl⟩ := h
                        by_cases hin : es.length + xs.length ≤ cap
                        · have hra := ((run_append (P := P) (w := w) (ty := ty) he hxd hsrc hsz hb hz hzl (base := some ad) (n := es.length) (cap := cap) g1 (vs := vs)).1 v1 hin).1 ad
                          have := a2 (by omega)
                          subst this
                          obtain ⟨r1, x1, s1⟩ := store_row (P := P) s hg v2 g2 (k := es.length) (Nat.le_refl _) hp (by omega) (Nat.le_succ v')
                          have hadd : (⟨q.b, q.o + 0 * q.sz, none⟩ : Addr).add (es.length * sz') = ⟨q.b, q.o + es.length * sz', none⟩ := by
                            rw [add_mk]; simp
                          rw [lay_end] at s1
                          refine ⟨_, _, _, hra _ rfl (by rw [hadd]; exact r1), x1, s1, ?_⟩
                          exact .row L (v' + 1) 0 _ { q with ver := v' + 1 } _ cap (upd_same _ _ _) hr' (Nat.le_refl _) (by omega) (fun _ => ⟨a1, fun _ => rfl⟩)
                        · have hes : elemsA σ sz' (.row L v' 0 es.length) = some es := by simp [elemsA, hg]
                          obtain ⟨us, u1, u2⟩ := elems_drew (P := P) s (.row L v' 0 es.length q ad cap hp hr' hv' hl hadr) hes hpos
                          obtain ⟨newCap, rest, c1, c2, hra⟩ := (run_append (P := P) (w := w) (ty := ty) he hxd hsrc hsz hb hz hzl (base := some ad) (n := es.length) (cap := cap) g1 (vs := vd)).2 hin hbo us u1 vd1
                          have hl' : q.live = true := by simpa using hlive
                          have := s.write (w' := w.drew.alloc (.cells (us ++ vd ++ rest) e)) (ob' := .row (es ++ xs) sz' (v' + 1) false) (p' := { b := w.heap.size, o := 0, sz := sz', cap := newCap, ver := v' + 1, row := true, live := true }) hp hl'
                            hr.symm (by simp only; omega) (fun h => by simp only at h; omega) (fun h => by rw [hr] at h; cases h) (.inr ⟨rfl, by simp⟩) (fun b hb _ => heap_alloc_old w.drew _ b hb) (by simp) rfl rfl rfl (fun i cs _ h => by cases h)
                            (fun x => ⟨rfl, rfl, rfl, hpos, rfl, by simpa using c1, fun d hd => by rcases List.mem_append.1 hd with h | h; exact hok d h; exact g2 d h, (fun h => by cases h), us ++ vd ++ rest, e, (0, 0), heap_alloc_new w.drew _,
                              by simp only [Nat.zero_add]; exact Nat.le_of_eq (size3 u2.1 vd2.1 c2 c1), .inl (Nat.le_refl _),
                              fun i d j c u hi hj hu => (u2.append vd2 hok g2 i d j c u hi hj (by simpa using hu)).mono x⟩)
                          refine ⟨_, _, _, hra, this.2, this.1, ?_⟩
                          exact .row L (v' + 1) 0 _ _ _ newCap (upd_same _ _ _) rfl (Nat.le_refl _) c1 (fun _ => ⟨rfl, fun _ => by simp⟩)
                      · cases h
                · cases h
              · cases h
            · cases h
        · cases h
      · cases h
    · cases h
  · cases h
end
end Go.Abs
end
section
namespace Go.Abs
section
variable {P : Program} {cx : Cx}
theorem copyA_sound {ρ : Rho} {σ σ' : AS} {w : World} (s : SR ρ σ w) {t e : TypeId} {ats : Array TypeId} {d x c : AV} {ud ux : Value} {ty : TypeId} (hd : VR ρ w d ud) (hx : VR ρ w x ux) (ht : ats[0]? = some t) (he : elemA P t = some e)
    (hsz : ∀ L v off len, d = .row L v off len → ∀ es sz v' fro, σ.get L = some (.row es sz v' fro) → sizeA P e = some sz) (hs0 : (sizeA P e).isSome = true) (hxl : (elemsA σ ((sizeA P e).getD 0) x).isSome = true)
    (hpos : 0 < (sizeA P e).getD 0) (h : copyA cx σ d x = some (c, σ')) :
    Eff P ρ w σ' c (Builtin.copy_ ats ty #[ud, ux]) := by
  have hund : P.underlying t = some (.slice e) := by
    unfold elemA at he
    split at he
    · cases he; assumption
    · cases he
  obtain ⟨n, hn⟩ := Option.isSome_iff_exists.1 hs0
  rw [hn] at hxl hpos
  simp only [Option.getD_some] at hxl hpos
  obtain ⟨es0, hes0⟩ := Option.isSome_iff_exists.1 hxl
  obtain ⟨g1, g2, g3⟩ := elemsA_sound (P := P) s hx hes0 hpos
  unfold copyA at h
  split at h
  · simp only [Option.some.injEq, Prod.mk.injEq] at h
    obtain ⟨rfl, rfl⟩ := h
    cases hd
    obtain ⟨vs, v1, _⟩ := g3 0 (Nat.zero_le _)
    exact ⟨.int .i64 0, w, ρ, by simp [Builtin.copy_, ht, run_underlying hund, g1, run_sizeA hn, v1, goInt], Ext.refl _ _, s, .int _ _⟩
  · rename_i L v off len
    split at h
    · rename_i es sz v' hg
      split at h
      · rename_i xs hxs
        split at h
        · rename_i hcond
          obtain ⟨rfl, _, hle⟩ := hcond
          simp only [Option.some.injEq, Prod.mk.injEq] at h
          obtain ⟨rfl, rfl⟩ := h
          have hsz' := hsz L v' off len rfl es sz v' false hg
          have : n = sz := Option.some.inj (hn.symm.trans hsz')
          subst this
          have : es0 = xs := Option.some.inj (hes0.symm.trans hxs)
          subst this
          obtain ⟨vs, v1, v2⟩ := g3 (min es0.length len) (Nat.min_le_left _ _)
          have htake : es0.take (min es0.length len) = es0.take len := by
            rcases Nat.le_total es0.length len with h | h
            · rw [Nat.min_eq_left h, List.take_length, List.take_of_length_le h]
            · rw [Nat.min_eq_right h]
          rw [htake] at v2
          have hO := s.obj L _ hg
          obtain ⟨q, hq, hr, hv, hs, _, hlive, hcap, hok, hfr, bs, E, fz, hw, hlt, hfz, hval⟩ := hO
          cases hd with
          | row _ _ _ _ p ad cap hp hr' hv' hl hadr =>
            have : q = p := Option.some.inj (hq.symm.trans hp)
            subst this
            obtain ⟨a1, a2⟩ := hadr hv
            have hmin : (Nat.min es0.length len) = min es0.length len := rfl
            by_cases hm : (es0.take len).length = 0
            · have hnil : es0.take len = [] := List.length_eq_zero_iff.1 hm
              rw [hnil] at v2
              have hvs : vs = #[] := by have := v2.1; simpa using this
              subst hvs
              refine ⟨.int .i64 (min es0.length len : Nat), w, ρ, ?_, Ext.refl _ _, ?_, .int _ _⟩
              · simp [Builtin.copy_, ht, run_underlying hund, g1, run_sizeA hn, hmin, v1, goInt, storeCells]
              · rw [hnil, lay_nil, AS.set_self hg]; exact s
            · have hlen : (es0.take len).length = min len es0.length := by simp
              have := a2 (by omega)
              subst this
              obtain ⟨r1, x1, s1⟩ := store_row (P := P) s hg v2 (fun x hx => g2 x (List.mem_of_mem_take hx)) (k := off) (by omega) hp (by omega) (Nat.le_refl v')
              refine ⟨.int .i64 (min es0.length len : Nat), _, _, ?_, x1, s1, .int _ _⟩
              rw [hs]
              simp [Builtin.copy_, ht, run_underlying hund, g1, run_sizeA hn, hmin, v1, goInt, r1]
        · cases h
      · cases h
    · cases h
  · cases h
theorem zeroCells_spec {ρ : Rho} {w : World} {z : AV} {zv : Value} (h : VR ρ w z zv) {sz : Nat} (hz : okE sz z = true) (n : Nat) : RowAt ρ w sz (List.replicate n z) (Builtin.zeroCells zv.cells n) := by
  have hc := h.cells
  have hl : zv.cells.size = sz := by rw [← okE_len hz]; simpa using hc.1.symm
  refine ⟨by simp [Builtin.zeroCells, hl], fun i e j c u hi hj hu => ?_⟩
  have he : e = z := List.eq_of_mem_replicate (getElem?_mem' hi)
  subst he
  have hjs : j < sz := by rw [← okE_len hz]; exact (List.getElem?_eq_some_iff.1 hj).1
  simp only [Builtin.zeroCells, Array.getElem?_map, hl] at hu
  cases hr : (Array.range (n * sz))[i * sz + j]? with
  | none => rw [hr] at hu; simp at hu
  | some m =>
    have : m = i * sz + j := by
      rw [Array.getElem?_range] at hr
      split at hr
      · exact (Option.some.inj hr).symm
      · cases hr
    subst this
    rw [hr] at hu
    simp only [Option.map_some, Option.some.injEq] at hu
    rw [(divmod (i := i) hjs).2] at hu
    have hjz : j < zv.cells.size := by omega
    rw [getElem!_pos zv.cells j hjz] at hu
    exact hc.2 j c u hj (by rw [← hu]; simp [hjz])
theorem clearA_sound {ρ : Rho} {σ σ' : AS} {w : World} (s : SR ρ σ w) {t : TypeId} {x : AV} {ux : Value} {ty : TypeId} (hx : VR ρ w x ux) (h : clearA P cx σ t x = some σ') :
    Eff P ρ w σ' (.tup []) (Builtin.clear_ #[t] ty #[ux]) := by
  have hundef : ∀ (ρ : Rho) (w : World), VR ρ w (.tup []) (.tuple #[]) := fun ρ w => .tup [] #[] rfl (fun i c v hc => by simp at hc)
  unfold clearA at h
  split at h
  · rename_i e L v off len he
    have hund : P.underlying t = some (.slice e) := by
      unfold elemA at he
      split at he
      · cases he; assumption
      · cases he
    split at h
    · rename_i es sz v' z hg hz
      split at h
      · rename_i hcond
        obtain ⟨rfl, hsz, hzok, _, hle⟩ := hcond
        cases h
        obtain ⟨zv, z1, z2⟩ := VR.zero (ρ := ρ) (w := w) (w' := w) hz
        have hO := s.obj L _ hg
        obtain ⟨q, hq, hr, hv, hs, _, hlive, hcap, hok, hfr, bs, E, fz, hw, hlt, hfz, hval⟩ := hO
        cases hx with
        | row _ _ _ _ p ad cap hp hr' hv' hl hadr =>
          have : q = p := Option.some.inj (hq.symm.trans hp)
          subst this
          obtain ⟨a1, a2⟩ := hadr hv
          by_cases hm : len = 0
          · subst hm
            refine ⟨.tuple #[], w, ρ, by simp [Builtin.clear_, run_underlying hund], Ext.refl _ _, ?_, hundef _ _⟩
            rw [List.replicate_zero, lay_nil, AS.set_self hg]; exact s
          · have := a2 (by omega)
            subst this
            obtain ⟨r1, x1, s1⟩ := store_row (P := P) s hg (zeroCells_spec z2 hzok len) (fun x hx => by rw [List.eq_of_mem_replicate hx]; exact hzok) (k := off) (by omega) hp (by simp; omega) (Nat.le_refl v')
            refine ⟨.tuple #[], _, _, ?_, x1, s1, hundef _ _⟩
            rw [hs]
            cases len with
            | zero => exact absurd rfl hm
            | succ len => simp [Builtin.clear_, run_underlying hund, z1, r1]
      · cases h
    · cases h
  · rename_i e he
    have hund : P.underlying t = some (.slice e) := by
      unfold elemA at he
      split at he
      · cases he; assumption
      · cases he
    cases h
    cases hx
    exact ⟨.tuple #[], w, ρ, by simp [Builtin.clear_, run_underlying hund], Ext.refl _ _, s, hundef _ _⟩
  · cases h
end
end Go.Abs
end
