/- append, copy, clear. -/
import Derived.Test.YtjhgheheopcolaaGreatAbs17
set_option linter.unusedVariables false
set_option linter.unusedSimpArgs false
namespace Go.Abs

theorem lay_get' {l : List AV} {o : Nat} {xs : List AV} (h : o ≤ l.length) (i : Nat) : (lay l o xs)[i]? = if o ≤ i ∧ i < o + xs.length then xs[i - o]? else l[i]? := by
  unfold lay
  have hlen : (List.take o l ++ xs).length = o + xs.length := by simp; omega
  rcases Nat.lt_or_ge i (o + xs.length) with h1 | h1
  · rw [List.getElem?_append_left (by omega)]
    rcases Nat.lt_or_ge i o with h2 | h2
    · rw [List.getElem?_append_left (by simp; omega), if_neg (by omega), List.getElem?_take, if_pos h2]
    · rw [List.getElem?_append_right (by simp; omega), if_pos ⟨h2, h1⟩]
      congr 1
      simp; omega
  · rw [List.getElem?_append_right (by omega), if_neg (by omega), List.getElem?_drop]
    congr 1
    omega
theorem lay_end (l xs : List AV) : lay l l.length xs = l ++ xs := by unfold lay; simp
theorem lay_nil {l : List AV} {o : Nat} : lay l o [] = l := by unfold lay; simp
theorem lay_mem {l : List AV} {o : Nat} {xs : List AV} {e : AV} (h : e ∈ lay l o xs) : e ∈ l ∨ e ∈ xs := by
  unfold lay at h
  simp only [List.mem_append] at h
  rcases h with (h | h) | h
  · exact .inl (List.mem_of_mem_take h)
  · exact .inr h
  · exact .inl (List.mem_of_mem_drop h)
theorem lay_len' {l : List AV} {o : Nat} {xs : List AV} (h : o ≤ l.length) : (lay l o xs).length = max l.length (o + xs.length) := by unfold lay; simp; omega

theorem divmod_eq {i j k sz : Nat} (h : j < sz) {i' j' : Nat} (h' : j' < sz) (e : i * sz + j = i' * sz + j') : i = i' ∧ j = j' := by
  have a := divmod (i := i) h
  have b := divmod (i := i') h'
  rw [e] at a
  exact ⟨a.1.symm.trans b.1, a.2.symm.trans b.2⟩

section
variable {P : Program} {cx : Cx}

/-- Elements of a row are written. -/
theorem store_row {ρ : Rho} {σ : AS} {w : World} (s : SR ρ σ w) {L : Loc} {es : List AV} {sz v v' : Nat} (hg : σ.get L = some (.row es sz v false)) {k : Nat} {xs : List AV} {us : Array Value} (hx : RowAt ρ w sz xs us)
    (hoks : ∀ x ∈ xs, okE sz x = true) (hk : k ≤ es.length) {p : Place} (hp : ρ L = some p) (hcap' : k + xs.length ≤ p.cap) (hvv : v ≤ v') :
    (storeCells ⟨p.b, p.o + k * sz, none⟩ us.toList).run P w = .ok () (w.setCells p.b (p.o + k * sz) us.toList) ∧
    Ext ρ w (upd ρ L { p with ver := v' }) (w.setCells p.b (p.o + k * sz) us.toList) ∧ SR (upd ρ L { p with ver := v' }) (σ.set L (.row (lay es k xs) sz v' false)) (w.setCells p.b (p.o + k * sz) us.toList) := by
  obtain ⟨q, hq, hr, hv, hsz, hpos, hlive, hcap, hok, hfr, vs, E, fz, hw, hlt, hfz, hval⟩ := s.obj L _ hg
  have : q = p := Option.some.inj (hq.symm.trans hp)
  subst this
  have hl : q.live = true := by simpa using hlive
  obtain ⟨hxs, hxv⟩ := hx
  have hb1 : (k + xs.length) * sz ≤ q.cap * sz := Nat.mul_le_mul_right _ hcap'
  rw [Nat.add_mul] at hb1
  have hul : us.toList.length = xs.length * sz := by simpa using hxs
  have hone : ∀ u ∈ us.toList, u.oneCell' = true := fun u hu => by
    obtain ⟨m, hm, rfl⟩ := List.getElem_of_mem hu
    have e1 : m / sz * sz + m % sz = m := by rw [Nat.mul_comm]; exact Nat.div_add_mod m sz
    have hi : m / sz < xs.length := (Nat.div_lt_iff_lt_mul hpos).2 (by omega)
    have hj : m % sz < (xs[m / sz]).cells.length := by rw [okE_len (hoks _ (List.getElem_mem hi))]; exact Nat.mod_lt _ hpos
    have := hxv (m / sz) xs[m / sz] (m % sz) _ (us[m]'(by simpa using hm)) (List.getElem?_eq_getElem hi) (List.getElem?_eq_getElem hj) (by rw [e1]; simp)
    exact this.oneCell (okE_one (hoks _ (List.getElem_mem hi)) _ (List.getElem_mem hj))
  have hrun : (storeCells ⟨q.b, q.o + k * sz, none⟩ us.toList).run P w = .ok () (w.setCells q.b (q.o + k * sz) us.toList) := by
    have := run_storeCells_cells (P := P) q.b (q.o + k * sz) us.toList 0 w (fun j hj => by
      have : q.o + k * sz + j < vs.size := by omega
      simp [World.cell?, hw, this]) (fun j hj => by
      simp only [World.frozen?, hw]
      simp only [Bool.and_eq_false_iff, decide_eq_false_iff_not]
      omega) hone
    simpa using this
  obtain ⟨g1, g2, g3, g4, g5, cur', c1, c2, c3⟩ := setCells_spec q.b E fz us.toList (q.o + k * sz) w vs hw (by omega)
  have := s.write (w' := w.setCells q.b (q.o + k * sz) us.toList) (ob' := .row (lay es k xs) sz v' false) (p' := { q with ver := v' }) hp hl rfl (by simp only; omega) (fun _ => ⟨rfl, rfl, rfl, rfl⟩) (fun _ => rfl) (.inl rfl) (fun b _ hb => g5 b hb) (Nat.le_of_eq g4.symm) g1 g2 g3
    (fun i cs e1 e2 => by cases e2)
    (fun x => ⟨hr, rfl, hsz, hpos, hlive, ?_, fun d hd => ?_, (fun h => by cases h), cur', E, fz, c1, by simp only; omega, hfz, fun m d j c u hd hc hu => ?_⟩)
  · exact ⟨hrun, this.2, this.1⟩
  · rw [lay_len' hk]; simp only; omega
  · rcases lay_mem hd with h | h
    · exact hok d h
    · exact hoks d h
  · have hds : d.cells.length = sz := by
      rcases lay_mem (getElem?_mem' hd) with h | h
      · exact okE_len (hok d h)
      · exact okE_len (hoks d h)
    have hj : j < sz := by rw [← hds]; exact (List.getElem?_eq_some_iff.1 hc).1
    have hmm : q.o + m * sz + j < vs.size := by rw [← c2]; exact (Array.getElem?_eq_some_iff.1 hu).1
    simp only at hu
    rw [c3 _ hmm] at hu
    rw [lay_get' hk] at hd
    by_cases gm : k ≤ m ∧ m < k + xs.length
    · rw [if_pos gm] at hd
      have h1 : k * sz ≤ m * sz := Nat.mul_le_mul_right _ gm.1
      have h2 : (m + 1) * sz ≤ (k + xs.length) * sz := Nat.mul_le_mul_right _ gm.2
      rw [Nat.add_mul, Nat.add_mul] at h2
      rw [if_pos (by omega)] at hu
      have h3 : q.o + m * sz + j - (q.o + k * sz) = (m - k) * sz + j := by rw [Nat.sub_mul]; omega
      rw [h3] at hu
      exact (hxv _ _ _ _ _ hd hc (by simpa using hu)).mono x
    · rw [if_neg gm] at hd
      have hno : ¬ (q.o + k * sz ≤ q.o + m * sz + j ∧ q.o + m * sz + j < q.o + k * sz + us.toList.length) := by
        intro ⟨h1, h2⟩
        apply gm
        constructor
        · refine Nat.le_of_not_lt fun hlt => ?_
          have : (m + 1) * sz ≤ k * sz := Nat.mul_le_mul_right _ hlt
          rw [Nat.add_mul] at this
          omega
        · refine Nat.lt_of_not_le fun hle => ?_
          have : (k + xs.length) * sz ≤ m * sz := Nat.mul_le_mul_right _ hle
          rw [Nat.add_mul] at this
          omega
      rw [if_neg hno] at hu
      exact (hval m d j c u hd hc hu).mono x

theorem growBy_le (n : Nat) : ∀ (r c : Nat), c ≤ 2 * n + 192 → Builtin.growBy n r c ≤ 2 * n + 192
  | 0, c, h => h
  | r + 1, c, h => by
    unfold Builtin.growBy
    split
    · exact h
    · exact growBy_le n r _ (by omega)

theorem nextslicecap_le {n c : Nat} (h : c < n) : Builtin.nextslicecap n c ≤ 2 * n + 192 := by
  unfold Builtin.nextslicecap
  split
  · omega
  · split
    · omega
    · exact growBy_le n 4 c (by omega)

theorem bytesOk_spec {n b c : Nat} (h : bytesOk n b = true) (hc : c < n) : ¬ (Builtin.nextslicecap n c * b > 2 ^ 48) ∧ ¬ ((n : Int) > IntKind.i64.max) := by
  simp only [bytesOk, decide_eq_true_eq] at h
  obtain ⟨h1, h2, h3⟩ := h
  have h4 := nextslicecap_le hc
  have h5 : Builtin.nextslicecap n c * b ≤ (2 * n + 192) * b := Nat.mul_le_mul_right _ h4
  have h6 : (2 * n + 192) * b = 2 * (n * b) + 192 * b := by rw [Nat.add_mul, Nat.mul_assoc]
  refine ⟨by omega, ?_⟩
  simp [IntKind.max, IntKind.bits, IntKind.signed]
  omega

theorem RowAt.append {ρ : Rho} {w : World} {sz : Nat} {es xs : List AV} {us vs rest : Array Value} (h : RowAt ρ w sz es us) (h' : RowAt ρ w sz xs vs) (hok : ∀ e ∈ es, okE sz e = true) (hok' : ∀ e ∈ xs, okE sz e = true) :
    ∀ (i : Nat) (e : AV) (j : Nat) (c : AV) (u : Value), (es ++ xs)[i]? = some e → e.cells[j]? = some c → (us ++ vs ++ rest)[i * sz + j]? = some u → VR ρ w c u := by
  intro i e j c u hi hj hu
  have hes : e.cells.length = sz := by
    rcases List.mem_append.1 (getElem?_mem' hi) with h | h
    · exact okE_len (hok e h)
    · exact okE_len (hok' e h)
  have hjs : j < sz := by rw [← hes]; exact (List.getElem?_eq_some_iff.1 hj).1
  rcases Nat.lt_or_ge i es.length with hl | hl
  · rw [List.getElem?_append_left hl] at hi
    have : i * sz + j < us.size := by rw [h.1]; have : (i + 1) * sz ≤ es.length * sz := Nat.mul_le_mul_right _ hl; rw [Nat.add_mul] at this; omega
    rw [Array.append_assoc, Array.getElem?_append_left this] at hu
    exact h.2 i e j c u hi hj hu
  · rw [List.getElem?_append_right hl] at hi
    have hl2 : i - es.length < xs.length := (List.getElem?_eq_some_iff.1 hi).1
    have h1 : es.length * sz ≤ i * sz := Nat.mul_le_mul_right _ hl
    have h2 : (i - es.length + 1) * sz ≤ xs.length * sz := Nat.mul_le_mul_right _ hl2
    rw [Nat.add_mul, Nat.sub_mul] at h2
    have h3 : i * sz + j - us.size = (i - es.length) * sz + j := by rw [h.1, Nat.sub_mul]; omega
    have h0 := h.1
    have h0' := h'.1
    rw [Array.append_assoc, Array.getElem?_append_right (by omega), Array.getElem?_append_left (by omega), h3] at hu
    exact h'.2 _ e j c u hi hj hu

/-- What append does where there is room, and where there is none. -/
theorem run_append {w : World} {st xt e : TypeId} {xd : TypeDesc} {sz b : Nat} {ty : TypeId} {z : AV} (hst : elemA P st = some e) (hxt : P.underlying xt = some xd) (hxd : isSrc xd = true)
    (hsz : sizeA P e = some sz) (hb : bytesA P e = some b) (hz : zeroA P e = some z) (hzl : z.cells.length = sz) {base : Option Addr} {n cap m : Nat} {x : Value} (hx : (Builtin.lenOf x).run P w = .ok m w) {vs : Array Value} :
    (∀ (_ : (Builtin.firstCells sz m x).run P w = .ok vs w), n + m ≤ cap → (∀ (a : Addr) (w' : World), base = some a → (storeCells (a.add (n * sz)) vs.toList).run P w = .ok () w' → (Builtin.append_ #[st, xt] ty #[.slice base n cap, x]).run P w = .ok (.slice base (n + m) cap) w') ∧
      (base = none → (Builtin.append_ #[st, xt] ty #[.slice base n cap, x]).run P w = .ok (.slice base (n + m) cap) w)) ∧
    (¬ n + m ≤ cap → bytesOk (n + m) b = true → ∀ us, (Builtin.firstCells sz n (.slice base n cap)).run P w.drew = .ok us w.drew → (Builtin.firstCells sz m x).run P w.drew = .ok vs w.drew →
      ∃ newCap rest, n + m ≤ newCap ∧ rest.size = (newCap - (n + m)) * sz ∧ (Builtin.append_ #[st, xt] ty #[.slice base n cap, x]).run P w = .ok (.slice (some ⟨w.heap.size, 0, none⟩) (n + m) newCap) (w.drew.alloc (.cells (us ++ vs ++ rest) e))) := by
  have hund : P.underlying st = some (.slice e) := by
    unfold elemA at hst
    split at hst
    · cases hst; assumption
    · cases hst
  obtain ⟨ti, ht1, ht2⟩ := run_bytesA hb w
  obtain ⟨ti', ht1', ht2'⟩ := run_bytesA hb w.drew
  obtain ⟨zv, z1, z2⟩ := run_zeroA hz w.drew
  have hzc := (ofV_sound (ρ := ⟨fun _ => none, fun _ => False⟩) (w := w) z2).cells.1
  simp only [Array.length_toList] at hzc
  have grows : ¬ n + m ≤ cap → bytesOk (n + m) b = true → ∀ us, (Builtin.firstCells sz n (.slice base n cap)).run P w.drew = .ok us w.drew → (Builtin.firstCells sz m x).run P w.drew = .ok vs w.drew →
      (match xd with | .slice _ | .string => True | _ => False) →
      ∃ newCap rest, n + m ≤ newCap ∧ rest.size = (newCap - (n + m)) * sz ∧ (Builtin.append_ #[st, xt] ty #[.slice base n cap, x]).run P w = .ok (.slice (some ⟨w.heap.size, 0, none⟩) (n + m) newCap) (w.drew.alloc (.cells (us ++ vs ++ rest) e)) := by
    intro hle hbo us hu hv hxs
    obtain ⟨b1, _⟩ := bytesOk_spec hbo (c := cap) (by omega)
    have b2 : ¬ ((9223372036854775807 : Int) < (n : Int) + (m : Int)) := by
      simp only [bytesOk, decide_eq_true_eq] at hbo; omega
    refine ⟨(Question.appendCap (n + m) cap e).cut (w.tape w.drawn (.appendCap (n + m) cap e)), Builtin.zeroCells zv.cells ((Question.appendCap (n + m) cap e).cut (w.tape w.drawn (.appendCap (n + m) cap e)) - (n + m)), by simp [Question.cut], by
      simp [Builtin.zeroCells, ← hzc, hzl], ?_⟩
    cases xd with
    | slice xe => simp [Builtin.append_, run_underlying hund, run_sizeA hsz, run_underlying hxt, hx, hle, ht1, ht2, ht1', b1, b2, Question.forced, hu, hv, z1, newRow]
    | string => simp [Builtin.append_, run_underlying hund, run_sizeA hsz, run_underlying hxt, hx, hle, ht1, ht2, ht1', b1, b2, Question.forced, hu, hv, z1, newRow]
    | _ => exact hxs.elim
  cases xd with
  | slice xe =>
    refine ⟨fun hf hle => ⟨fun a w' ha hs => ?_, fun ha => ?_⟩, fun hle hbo us hu hv => grows hle hbo us hu hv trivial⟩
    · subst ha
      simp [Builtin.append_, run_underlying hund, run_sizeA hsz, run_underlying hxt, hx, hle, hf, hs]
    · subst ha
      simp [Builtin.append_, run_underlying hund, run_sizeA hsz, run_underlying hxt, hx, hle, hf]
  | string =>
    refine ⟨fun hf hle => ⟨fun a w' ha hs => ?_, fun ha => ?_⟩, fun hle hbo us hu hv => grows hle hbo us hu hv trivial⟩
    · subst ha
      simp [Builtin.append_, run_underlying hund, run_sizeA hsz, run_underlying hxt, hx, hle, hf, hs]
    · subst ha
      simp [Builtin.append_, run_underlying hund, run_sizeA hsz, run_underlying hxt, hx, hle, hf]
  | _ => simp [isSrc] at hxd
end
end Go.Abs
