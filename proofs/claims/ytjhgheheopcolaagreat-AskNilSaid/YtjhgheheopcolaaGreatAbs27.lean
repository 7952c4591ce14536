/- Objects that are made in whatever order. -/
import Derived.Test.YtjhgheheopcolaaGreatAbs26
set_option linter.unusedVariables false
set_option linter.unusedSimpArgs false
namespace Go.Abs

/-- A place that was kept is filled. -/
theorem SR.fill {ρ : Rho} {σ : AS} {w w' : World} (s : SR ρ σ w) {L : Loc} {ob : AObj} {p : Place} (hg : σ.get L = some .dead) (hno : ρ L = none) (hlive : p.live = true) (hb : p.b = w.heap.size)
    (hheap : ∀ b, b < w.heap.size → w'.heap[b]? = w.heap[b]?) (hsize : w.heap.size < w'.heap.size) (hos : w'.os = w.os) (htape : w'.tape = w.tape) (hout : w'.output = w.output)
    (hin : ∀ i cs, L = .hp i → ob = .cells cs → AVs.inb 0 cs = true)
    (hOR : Ext ρ w (upd ρ L p) w' → OR (upd ρ L p) w' p ob) : SR (upd ρ L p) (σ.set L ob) w' ∧ Ext ρ w (upd ρ L p) w' := by
  have hext : Ext ρ w (upd ρ L p) w' := by
    refine ⟨fun L' q hq => ?_, fun b hb1 hf => ⟨⟨fun L' q hq hl => ?_, hf.2⟩, hheap b hb1⟩, ⟨rfl, fun b hb1 _ => hheap b hb1⟩, Nat.le_of_lt hsize, hos, htape, hout⟩
    · have e : L' ≠ L := by intro h; rw [h, hno] at hq; cases hq
      exact ⟨q, by rw [upd_ne e]; exact hq, rfl, Nat.le_refl _, fun _ => ⟨rfl, rfl, rfl, rfl⟩, fun _ => rfl⟩
    · by_cases e : L' = L
      · subst e
        rw [upd_same] at hq
        cases hq
        omega
      · rw [upd_ne e] at hq; exact hf.1 L' q hq hl
  have hgot : (σ.get L).isSome = true := by rw [hg]; rfl
  refine ⟨⟨⟨fun L' ob' ho hnd => ?_⟩, fun L' q hq => ?_, fun L1 L2 p1 p2 h1 h2 l1 l2 eb => ?_, fun L' q hq hl => ?_, fun i cs hc => ?_, fun L' q hq hl => ?_, fun b hb => Nat.lt_trans (s.resl b hb) hsize⟩, hext⟩
  · rw [AS.get_set] at ho
    by_cases e : L' = L
    · rw [if_pos e, hgot] at ho
      simp only [if_true, Option.some.injEq] at ho
      subst ho
      exact ⟨p, by rw [e, upd_same], hOR hext⟩
    · rw [if_neg e] at ho
      obtain ⟨q, hq, hO⟩ := s.objD L' ob' ho hnd
      exact ⟨q, by rw [upd_ne e]; exact hq, hO.mono hext fun hl => hheap _ (s.lt L' q hq hl)⟩
  · by_cases e : L' = L
    · exact ⟨ob, by rw [AS.get_set, if_pos e, hgot]; rfl⟩
    · rw [upd_ne e] at hq
      obtain ⟨ob', ho⟩ := s.dom L' q hq
      exact ⟨ob', by rw [AS.get_set, if_neg e]; exact ho⟩
  · by_cases e1 : L1 = L
    · by_cases e2 : L2 = L
      · rw [e1, e2]
      · rw [e1, upd_same] at h1
        cases h1
        rw [upd_ne e2] at h2
        have := s.lt L2 p2 h2 l2; omega
    · rw [upd_ne e1] at h1
      by_cases e2 : L2 = L
      · rw [e2, upd_same] at h2
        cases h2
        have := s.lt L1 p1 h1 l1; omega
      · rw [upd_ne e2] at h2
        exact s.inj L1 L2 p1 p2 h1 h2 l1 l2 eb
  · by_cases e : L' = L
    · rw [e, upd_same] at hq
      cases hq
      omega
    · rw [upd_ne e] at hq
      exact Nat.lt_of_lt_of_le (s.lt L' q hq hl) (Nat.le_of_lt hsize)
  · rw [AS.get_set] at hc
    by_cases e1 : Loc.hp i = L
    · rw [if_pos e1, hgot] at hc
      simp only [if_true, Option.some.injEq] at hc
      exact hin i cs e1.symm hc
    · rw [if_neg e1] at hc
      exact s.hin i cs hc
  · by_cases e : L' = L
    · rw [e, upd_same] at hq
      cases hq
      intro hr
      have := s.resl _ hr
      omega
    · rw [upd_ne e] at hq
      exact s.nres L' q hq hl

/-- What a new object is, wherever it is kept. -/
def Newly (P : Program) (ρ : Rho) (w : World) (ob : AObj) (v : AV) (L : Loc) (m : Sem Value) : Prop :=
  ∃ u w' p, m.run P w = .ok u w' ∧ p.live = true ∧ p.b = w.heap.size ∧ (∀ b, b < w.heap.size → w'.heap[b]? = w.heap[b]?) ∧ w.heap.size < w'.heap.size ∧ w'.os = w.os ∧ w'.tape = w.tape ∧ w'.output = w.output ∧
    ∀ ρ', Ext ρ w ρ' w' → ρ' L = some p → OR ρ' w' p ob ∧ VR ρ' w' v u

section
variable {P : Program} {cx : Cx}

theorem newly_cells {ρ : Rho} {w : World} {cs : List AV} {us : Array Value} {E : TypeId} {L : Loc} {m : Sem Value} (hc : VRs ρ w cs us.toList)
    (hm : m.run P w = .ok (.pointer (some ⟨w.heap.size, 0, none⟩)) (w.alloc (.cells us E))) : Newly P ρ w (.cells cs) (.ptr L 0) L m := by
  refine ⟨_, _, { b := w.heap.size, o := 0, sz := 1, cap := 0, ver := 0, row := false, live := true }, hm, rfl, rfl, fun b hb => heap_alloc_old w _ b hb, by simp, rfl, rfl, rfl, fun ρ' x hL => ⟨⟨rfl, rfl, us, E, heap_alloc_new w _, by simpa using hc.1, fun i c v hci hv => (hc.2 i c v hci (by simpa using hv)).mono x⟩, .ptr L 0 _ hL rfl⟩⟩

theorem newly_row {ρ : Rho} {w : World} {es : List AV} {sz cap n : Nat} {us : Array Value} {E : TypeId} {L : Loc} {m : Sem Value} (hpos : 0 < sz) (hok : ∀ e ∈ es, okE sz e = true) (hcap : es.length ≤ cap) (hsz : cap * sz ≤ us.size)
    (hval : ∀ (i : Nat) (e : AV) (j : Nat) (c : AV) (u : Value), es[i]? = some e → e.cells[j]? = some c → us[i * sz + j]? = some u → VR ρ w c u) (hn : n ≤ cap)
    (hm : m.run P w = .ok (.slice (some ⟨w.heap.size, 0, none⟩) n cap) (w.alloc (.cells us E))) : Newly P ρ w (.row es sz 0 false) (.row L 0 0 n) L m := by
  refine ⟨_, _, { b := w.heap.size, o := 0, sz := sz, cap := cap, ver := 0, row := true, live := true }, hm, rfl, rfl, fun b hb => heap_alloc_old w _ b hb, by simp, rfl, rfl, rfl, fun ρ' x hL => ⟨⟨rfl, rfl, rfl, hpos, rfl, hcap, hok, (fun h => by cases h), us, E, (0, 0), heap_alloc_new w _, by simpa using hsz, .inl (Nat.le_refl _), fun i e j c u he hc hu => (hval i e j c u he hc (by simpa using hu)).mono x⟩,
    .row L 0 0 n _ _ cap hL rfl (Nat.le_refl _) hn (fun _ => ⟨rfl, fun _ => by simp⟩)⟩⟩

theorem withCells_self {v : AV} (h : v.one = true ∨ ∃ cs, v = .agg cs) : v.withCells v.cells = some v := by
  rcases h with h | ⟨cs, rfl⟩
  · cases v <;> simp [AV.one] at h <;> simp [AV.withCells, AV.cells, AV.one]
  · rfl

theorem rowPartsQ_sound {ρ : Rho} {w : World} {sz : Nat} : ∀ (ps : List (Nat × AV)) (us : List (Nat × Value)) (es es' : List AV) (vs : Array Value), ps.map (·.1) = us.map (·.1) →
    VRs ρ w (ps.map (·.2)) (us.map (·.2)) → RowAt ρ w sz es vs → (∀ e ∈ es, okE sz e = true) → rowPartsQ sz ps es = some es' →
    ∃ vs', Instr.fill (fun i => some (i * sz, sz)) vs us = some vs' ∧ RowAt ρ w sz es' vs' ∧ (∀ e ∈ es', okE sz e = true) ∧ es'.length = es.length
  | [], us, es, es', vs, h1, h2, hR, hok, h => by
    have : us = [] := by simpa using h1.symm
    subst this
    simp only [rowPartsQ, Option.some.injEq] at h
    subst h
    exact ⟨vs, rfl, hR, hok, rfl⟩
  | (i, x) :: ps, [], es, es', vs, h1, h2, hR, hok, h => by simp at h1
  | (i, x) :: ps, (j, u) :: us, es, es', vs, h1, h2, hR, hok, h => by
    simp only [List.map_cons, List.cons.injEq] at h1
    obtain ⟨rfl, h1⟩ := h1
    obtain ⟨u', us', he, hxu, h2'⟩ := h2.cons_inv
    simp only [List.map_cons, List.cons.injEq] at he
    obtain ⟨rfl, rfl⟩ := he
    simp only [rowPartsQ] at h
    split at h
    · rename_i hcond
      obtain ⟨hi, _, hokx⟩ := hcond
      have hcl := hxu.cells
      have hul : u.cells.size = sz := by rw [← okE_len hokx]; simpa using hcl.1.symm
      have hlt : (i + 1) * sz ≤ es.length * sz := Nat.mul_le_mul_right _ hi
      rw [Nat.add_mul] at hlt
      have hvs := hR.1
      have hf := foldl_lay (i * sz) u.cells.toList 0 vs
      simp only [Nat.add_zero] at hf
      have e : (u.cells.zipIdx.foldl (fun cs (x : Value × Nat) => cs.setIfInBounds (i * sz + x.2) x.1) vs) = (u.cells.toList.zipIdx 0).foldl (fun cs (p : Value × Nat) => cs.setIfInBounds (i * sz + p.2) p.1) vs := by
        rw [← Array.foldl_toList, Array.toList_zipIdx]
      obtain ⟨vs', f2, R2, ok2, l2⟩ := rowPartsQ_sound ps us (es.set i x) es' ((u.cells.toList.zipIdx 0).foldl (fun cs (p : Value × Nat) => cs.setIfInBounds (i * sz + p.2) p.1) vs) h1 h2'
        ⟨by rw [hf.1, hvs]; simp, fun k d m c v hd hc hv => by
          have hds : d.cells.length = sz := by
            rcases List.mem_or_eq_of_mem_set (getElem?_mem' hd) with h | h
            · exact okE_len (hok d h)
            · rw [h]; exact okE_len hokx
          have hm : m < sz := by rw [← hds]; exact (List.getElem?_eq_some_iff.1 hc).1
          have hk : k * sz + m < vs.size := by rw [← hf.1]; exact (Array.getElem?_eq_some_iff.1 hv).1
          rw [hf.2 _ hk] at hv
          simp only [Array.length_toList, hul] at hv
          rw [List.getElem?_set] at hd
          by_cases hik : i = k
          · subst hik
            rw [if_pos rfl, if_pos hi] at hd
            cases hd
            rw [if_pos (by omega)] at hv
            have : i * sz + m - i * sz = m := by omega
            rw [this] at hv
            exact hcl.2 m c v hc hv
          · rw [if_neg hik] at hd
            rw [if_neg (by
              intro ⟨a1, a2⟩
              rcases Nat.lt_or_gt_of_ne hik with h | h
              · have : (i + 1) * sz ≤ k * sz := Nat.mul_le_mul_right _ h
                rw [Nat.add_mul] at this; omega
              · have : (k + 1) * sz ≤ i * sz := Nat.mul_le_mul_right _ h
                rw [Nat.add_mul] at this; omega)] at hv
            exact hR.2 k d m c v hd hc hv⟩
        (fun d hd => by rcases List.mem_or_eq_of_mem_set hd with h | h; exact hok d h; rw [h]; exact hokx) h
      refine ⟨vs', ?_, R2, ok2, by simpa using l2⟩
      rw [Instr.fill]
      simp only
      rw [if_neg (by simp; omega), e]
      exact f2
    · cases h

theorem newA_sound {ρ : Rho} {σ : AS} {w : World} {env : Env} {a : Act} (hE : ER ρ w env a.tmps) {k kh : Nat} {o : Oper} {v : AV} {ob : AObj} (h : newA P cx σ env k kh o = some (v, ob)) :
    ∃ m, execOp a.eval o = (do pure (.value (← m))) ∧ Newly P ρ w ob v (newLoc σ (escNew cx o) k kh) m ∧ (escNew cx o = true → ∀ cs, ob = .cells cs → AVs.inb 0 cs = true) ∧ ob ≠ .dead ∧ (escNew cx o = true → cx.ro.isNone = true) ∧ isNew o = true := by
  unfold newA at h
  split at h
  · cases h
  · rename_i d hd
    split at h
    · cases h
    · rename_i hesc
      have hro : ∀ o' : Oper, o'.dst = some d → escNew cx o' = true → cx.ro.isNone = true := fun o' h1 h2 => by
        unfold escNew at h2
        rw [h1] at h2
        simp only [Bool.and_eq_true] at h2
        simp only [Bool.and_eq_true, Bool.not_eq_true', not_and, Bool.not_eq_false] at hesc
        exact hesc h2.2
      have hen : isNew o = true → escNew cx o = cx.esc.contains d := fun h => by unfold escNew; rw [hd, h]; simp
      split at h
      · rename_i t hop
        have hnew : isNew o = true := by simp [isNew, hop]
        rw [hen hnew]
        split at h
        · rename_i z hz
          split at h
          · rename_i hin
            cases h
            obtain ⟨zv, z1, z2⟩ := VR.zero (ρ := ρ) (w := w) (w' := w) hz
            refine ⟨Instr.alloc t true (.tuple #[]), by simp [execOp, hop], newly_cells (E := t) z2.cells (by simp [Instr.alloc, z1, newVar, newRow]), (fun _ cs h => by cases h; exact hin), by (intro h; cases h), fun h => hro o hd (by rw [hen hnew]; exact h), hnew⟩
          · cases h
        · cases h
      · rename_i t x hop
        have hnew : isNew o = true := by simp [isNew, hop]
        rw [hen hnew]
        split at h
        · rename_i xv hx
          split at h
          · rename_i hcond
            cases h
            refine ⟨Instr.box t (a.eval x), by simp [execOp, hop], newly_cells (E := t) (ev_sound hE hx).cells (by simp [Instr.box, newVar, newRow]), (fun he cs h => by cases h; unfold boxOk at hcond; rw [he] at hcond; simp at hcond; exact hcond.2), by (intro h; cases h), fun h => hro o hd (by rw [hen hnew]; exact h), hnew⟩
          · cases h
        · cases h
      · rename_i t n parts hop
        have hnew : isNew o = true := by simp [isNew, hop]
        split at h
        · rename_i ps e hps he
          split at h
          · rename_i z sz hz hsz
            split at h
            · rename_i hcond
              obtain ⟨hpos, hle, hzok, hnesc⟩ := hcond
              have hef : escNew cx o = false := by rw [hen hnew]; exact hnesc
              split at h
              · rename_i es hrp
                cases h
                obtain ⟨e1, e2⟩ := evps_sound hE hps
                have e3 : (parts.map fun (i, x) => (i, a.eval x)) = (parts.toList.map fun p => (p.1, a.eval p.2)).toArray := by
                  apply Array.ext'; simp
                obtain ⟨zv, z1, z2⟩ := VR.zero (ρ := ρ) (w := w) (w' := w) hz
                obtain ⟨vs, f1, R1, ok1, l1⟩ := rowPartsQ_sound ps (parts.toList.map fun p => (p.1, a.eval p.2)) _ es _ (by rw [List.map_map]; exact e1) (by rw [List.map_map]; exact e2) (replicate_row z2 hzok n) (fun e he => by rw [List.eq_of_mem_replicate he]; exact hzok) hrp
                have hlen : es.length = n := by simpa using l1
                have hund := elemA_und he
                rw [hef]
                refine ⟨Instr.buildSlice t n (parts.toList.map fun p => (p.1, a.eval p.2)).toArray, by simp only [execOp, hop, e3], newly_row (us := vs) (E := e) (cap := n) hpos ok1 (by omega) (by rw [R1.1, hlen]; exact Nat.le_refl _) R1.2 (Nat.le_refl _) ?_, (fun h => by cases h), by (intro h; cases h), (fun h => by cases h), hnew⟩
                simp only [Instr.buildSlice, Sem.run_bind, run_underlying hund, Result.andThen_ok, run_sizeA hsz]
                rw [if_neg (by omega)]
                by_cases hn : n * sz = 0
                · have e0 : ∀ zero : Array Value, (Array.range (n * sz)).map (zero[· % zero.size]!) = #[] := fun zero => by rw [hn]; simp
                  rw [e0] at f1
                  rw [if_pos hn]
                  simp only [Sem.run_bind, Sem.run_pure, Result.andThen_ok, e0, f1]
                  simp [newRow]
                · rw [if_neg hn]
                  simp only [Sem.run_bind, z1, Sem.run_pure, Result.andThen_ok, f1]
                  simp [newRow]
              · cases h
            · cases h
          · cases h
        · cases h
      · rename_i t hop
        have hnew : isNew o = true := by simp [isNew, hop]
        rw [hen hnew]
        split at h
        · cases h
          refine ⟨Instr.makeMap t none, by simp [execOp, hop], ?_, (fun _ cs h => by cases h), by (intro h; cases h), fun h => hro o hd (by rw [hen hnew]; exact h), hnew⟩
          refine ⟨_, _, { b := w.heap.size, o := 0, sz := 1, cap := 0, ver := 0, row := false, live := true }, by simp [Instr.makeMap], rfl, rfl, fun b hb => heap_alloc_old w _ b hb, by simp, rfl, rfl, rfl, fun ρ' x hL => ⟨⟨rfl, rfl, #[], 0, heap_alloc_new w _, rfl, MapKept.stamped_empty 0, fun i e m he => by simp at he⟩, .map _ _ hL rfl⟩⟩
        · cases h
      · rename_i t l c hop
        have hnew : isNew o = true := by simp [isNew, hop]
        split at h
        · rename_i e n m he hl hm
          split at h
          · rename_i z sz b hz hsz hb
            split at h
            · rename_i hcond
              obtain ⟨hpos, hzok, h0, hnk, hkb, hk, hnesc⟩ := hcond
              have hef : escNew cx o = false := by rw [hen hnew]; exact hnesc
              cases h
              obtain ⟨zv, z1, z2⟩ := VR.zero (ρ := ρ) (w := w) (w' := w) hz
              obtain ⟨ti, t1, t2⟩ := run_bytesA hb w
              have hund := elemA_und he
              have hR := replicate_row z2 hzok m.toNat
              have hw1 : IntKind.i64.wrap n = n := wrap64_small (by omega) (by omega)
              have hw2 : IntKind.i64.wrap m = m := wrap64_small (by omega) (by omega)
              have hbk : (b : Int) * m = m * b := Int.mul_comm _ _
              have c1 : ¬ (281474976710656 < (b : Int) * m) := by rw [hbk]; omega
              have hlv := (ev_sound hE hl).int_inv
              have hmv := (ev_sound hE hm).int_inv
              rw [hef]
              refine ⟨Instr.makeSlice t (a.eval l) (a.eval c), by simp [execOp, hop], newly_row (us := (Array.range (m.toNat * sz)).map (zv.cells[· % zv.cells.size]!)) (E := e) (cap := m.toNat) hpos (fun d hd => by rw [List.eq_of_mem_replicate hd]; exact hzok) (by simp; omega) (by simp)
                (fun i d j c u hd hc hu => by
                  refine hR.2 i d j c u ?_ hc hu
                  rw [List.getElem?_replicate] at hd ⊢
                  split at hd
                  · rw [if_pos (by omega)]; exact hd
                  · cases hd) (by omega) ?_, (fun h => by cases h), by (intro h; cases h), (fun h => by cases h), hnew⟩
              rw [hlv, hmv]
              simp only [Instr.makeSlice, Sem.run_bind, run_underlying hund, Result.andThen_ok, asInt, asIntOf, Sem.run_pure, t1, t2, hw1, hw2]
              rw [if_neg (by simp; omega)]
              by_cases hn : m.toNat * sz = 0
              · have e0 : ∀ zero : Array Value, (Array.range (m.toNat * sz)).map (zero[· % zero.size]!) = #[] := fun zero => by rw [hn]; simp
                simp only [Sem.run_bind, Result.andThen_ok, run_askRoom, run_sizeA hsz]
                rw [if_pos hn]
                simp only [Sem.run_bind, Result.andThen_ok, Sem.run_pure, e0]
                simp [newRow]
              · simp only [Sem.run_bind, Result.andThen_ok, run_askRoom, run_sizeA hsz]
                rw [if_neg hn]
                simp [z1, newRow]
            · cases h
          · cases h
        · cases h
      · cases h
end
end Go.Abs
