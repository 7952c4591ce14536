/- Part 6 of the abstract interpreter: its operations and what they say of a world, for any program and any world. -/
import Derived.Test.YtidfkjpcpgeilaaAbs5
import Derived.Lib.AppendZeros
set_option linter.unusedVariables false
set_option linter.unusedSimpArgs false
section
namespace Go.Abs
section
variable {P : Program} {cx : Cx}
theorem copyB_sound {ρ : Rho} {σ σ' : AS} {w : World} (s : SR ρ σ w) {t : TypeId} {ats : Array TypeId} {d x c : AV} {ud ux : Value} {ty : TypeId} (hd : VR ρ w d ud) (hx : VR ρ w x ux) (ht : ats[0]? = some t)
    (h : copyB P cx σ t d x = some (c, σ')) : Eff P ρ w σ' c (Builtin.copy_ ats ty #[ud, ux]) := by
  unfold copyB at h
  split at h
  · rename_i e he
    split at h
    · rename_i n hn
      split at h
      · rename_i hc
        obtain ⟨h1, h2, h3⟩ := hc
        refine copyA_sound (P := P) (cx := cx) s hd hx ht he (fun L v off len hdr es sz v' fro hg => ?_) (by simp [hn]) (by simpa [hn] using h2) (by simpa [hn] using h1) h
        subst hdr
        simp only [rowSz, hg, decide_eq_true_eq] at h3
        rw [hn, h3]
      · cases h
    · cases h
  · cases h
theorem keyEq_same {k a : AV} {u v : Value} {ρ : Rho} {w : World} (hu : VR ρ w k u) (hv : VR ρ w a v) (h : keyEq k a = some true) : Instr.sameBits 10000 v u = true := by
  unfold keyEq at h
  split at h
  · split at h
    · rename_i hk
      simp only [Option.some.injEq, beq_iff_eq] at h
      subst h; subst hk
      cases hu; cases hv
      simp [Instr.sameBits]
    · cases h
  · simp only [Option.some.injEq] at h
    cases hu; cases hv
    simp only [Instr.sameBits, beqB]
    unfold beqS at h ⊢
    rw [beq_iff_eq] at h ⊢
    exact h.symm
  · simp only [Option.some.injEq, beq_iff_eq] at h
    subst h
    cases hu; cases hv
    simp [Instr.sameBits]
  · cases h
theorem keyEq_eq {k a : AV} {u v : Value} {ρ : Rho} {w : World} (hu : VR ρ w k u) (hv : VR ρ w a v) (h : keyEq k a = some true) : v = u := by
  unfold keyEq at h
  split at h
  · split at h
    · rename_i hk
      simp only [Option.some.injEq, beq_iff_eq] at h
      subst h; subst hk
      cases hu; cases hv
      rfl
    · cases h
  · simp only [Option.some.injEq] at h
    cases hu; cases hv
    unfold beqS at h
    rw [beq_iff_eq] at h
    congr 1
    apply ByteArray.ext
    exact (Array.toList_inj.1 h).symm
  · simp only [Option.some.injEq, beq_iff_eq] at h
    subst h
    cases hu; cases hv
    rfl
  · cases h
theorem keyEq_ne {k a : AV} {u v : Value} {ρ : Rho} {w : World} (hu : VR ρ w k u) (hv : VR ρ w a v) (h : keyEq k a = some false) : v ≠ u := by
  unfold keyEq at h
  split at h
  · split at h
    · rename_i hk
      cases hu; cases hv
      simp only [Option.some.injEq, beq_eq_false_iff_ne, ne_eq] at h
      intro he
      cases he
      exact h rfl
    · cases h
  · cases hu; cases hv
    simp only [Option.some.injEq, beqS, beq_eq_false_iff_ne, ne_eq] at h
    intro he
    cases he
    exact h rfl
  · cases hu; cases hv
    simp only [Option.some.injEq, beq_eq_false_iff_ne, ne_eq] at h
    intro he
    cases he
    exact h rfl
  · cases h
theorem find_put {ρ : Rho} {w : World} {kd : TypeDesc} {k v : AV} {u : Value} (hf : keyFits kd k = true) (hu : VR ρ w k u) : ∀ (es : List (AV × AV)) (ms : List MapEntry) (n : Nat) (es' : List (AV × AV)), EntriesR ρ w es ms → putA k v es = some es' →
    (Instr.findNow kd u ms n = some none ∧ es' = es ++ [(k, v)] ∧ ∀ m ∈ ms, m.key ≠ u) ∨ ∃ i x m, Instr.findNow kd u ms n = some (some (n + i, x)) ∧ ms[i]? = some m ∧ Instr.sameBits 10000 m.key u = true ∧ es' = es.set i (k, v) ∧ i < es.length ∧ m.key = u
  | [], ms, n, es', hE, h => by
    simp only [putA, Option.some.injEq] at h
    subst h
    have : ms = [] := by simpa using hE.1.symm
    subst this
    exact .inl ⟨rfl, rfl, by simp⟩
  | e :: es, [], n, es', hE, h => by have := hE.1; simp at this
  | e :: es, m :: ms, n, es', hE, h => by
    obtain ⟨i1, i2, v1, v2⟩ := hE.2 0 e m (by simp) (by simp)
    simp only [putA] at h
    split at h
    · rename_i hk
      cases h
      exact .inr ⟨0, m.val, m, by simp [Instr.findNow, keyEq_sameNow hf hu v1 hk], rfl, keyEq_same hu v1 hk, rfl, by simp, keyEq_eq hu v1 hk⟩
    · rename_i hk
      split at h
      · rename_i es1 hrec
        cases h
        rcases find_put hf hu es ms (n + 1) es1 hE.tail hrec with ⟨h1, h2, h6⟩ | ⟨i, x, m', h1, h2, h3, h4, h5, h6⟩
        · refine .inl ⟨by simp [Instr.findNow, keyEq_sameNow hf hu v1 hk, h1], by rw [h2]; rfl, fun m' hm' => ?_⟩
          rcases List.mem_cons.1 hm' with rfl | hm'
          · exact keyEq_ne hu v1 hk
          · exact h6 m' hm'
        · refine .inr ⟨i + 1, x, m', ?_, by simpa using h2, h3, by rw [h4]; rfl, by simpa using h5, h6⟩
          simp only [Instr.findNow, keyEq_sameNow hf hu v1 hk, h1]
          congr 3
          omega
      · cases h
    · cases h
theorem find_drop {ρ : Rho} {w : World} {kd : TypeDesc} {k : AV} {u : Value} (hf : keyFits kd k = true) (hu : VR ρ w k u) : ∀ (es : List (AV × AV)) (ms : List MapEntry) (n : Nat) (es' : List (AV × AV)), EntriesR ρ w es ms → dropA k es = some es' →
    (Instr.findNow kd u ms n = some none ∧ es' = es) ∨ ∃ i x, Instr.findNow kd u ms n = some (some (n + i, x)) ∧ es' = es.eraseIdx i ∧ i < es.length
  | [], ms, n, es', hE, h => by
    simp only [dropA, Option.some.injEq] at h
    subst h
    have : ms = [] := by simpa using hE.1.symm
    subst this
    exact .inl ⟨rfl, rfl⟩
  | e :: es, [], n, es', hE, h => by have := hE.1; simp at this
  | e :: es, m :: ms, n, es', hE, h => by
    obtain ⟨i1, i2, v1, v2⟩ := hE.2 0 e m (by simp) (by simp)
    simp only [dropA] at h
    split at h
    · rename_i hk
      cases h
      exact .inr ⟨0, m.val, by simp [Instr.findNow, keyEq_sameNow hf hu v1 hk], by simp, by simp⟩
    · rename_i hk
      split at h
      · rename_i es1 hrec
        cases h
        rcases find_drop hf hu es ms (n + 1) es1 hE.tail hrec with ⟨h1, h2⟩ | ⟨i, x, h1, h4, h5⟩
        · exact .inl ⟨by simp [Instr.findNow, keyEq_sameNow hf hu v1 hk, h1], by rw [h2]⟩
        · refine .inr ⟨i + 1, x, ?_, by rw [h4]; simp, by simpa using h5⟩
          simp only [Instr.findNow, keyEq_sameNow hf hu v1 hk, h1]
          congr 3
          omega
      · cases h
    · cases h
theorem SR.setMap {ρ : Rho} {σ : AS} {w : World} (s : SR ρ σ w) {L : Loc} {p : Place} (hp : ρ L = some p) (hl : p.live = true) (hr : p.row = false) {es' : List (AV × AV)} {arr' : Array MapEntry} {clock' : Nat} {o : Obj} (ho : w.heap[p.b]? = some o)
    (hst : MapKept.Stamped arr' clock') (hE : EntriesR ρ w es' arr'.toList) : ∃ ρ', Ext ρ w ρ' { w with heap := w.heap.setIfInBounds p.b (.map arr' clock') } ∧ SR ρ' (σ.set L (.map es')) { w with heap := w.heap.setIfInBounds p.b (.map arr' clock') } := by
  have hlt : p.b < w.heap.size := (Array.getElem?_eq_some_iff.1 ho).1
  have := s.write (w' := { w with heap := w.heap.setIfInBounds p.b (.map arr' clock') }) (ob' := .map es') (p' := p) hp hl rfl (Nat.le_refl _) (fun _ => ⟨rfl, rfl, rfl, rfl⟩) (fun _ => rfl) (.inl rfl)
    (fun b _ hb => by simp only [Array.getElem?_setIfInBounds]; rw [if_neg (fun e => hb e.symm)]) (by simp) rfl rfl rfl (fun i cs _ h => by cases h)
    (fun x => ⟨hl, hr, arr', clock', by simp [hlt], by simpa using hE.1, hst, fun i e m he hm => ?_⟩)
  · exact ⟨_, this.2, this.1⟩
  · obtain ⟨i1, i2, v1, v2⟩ := hE.2 i e m he (by simpa using hm)
    exact ⟨i1, i2, v1.mono x, v2.mono x⟩
theorem run_setObj {w : World} {b : Nat} {arr : Array MapEntry} {clock : Nat} (h : w.heap[b]? = some (.map arr clock)) (o : Obj) : (setObj b o).run P w = .ok () { w with heap := w.heap.setIfInBounds b o } := by
  simp [setObj, Sem.run, h]
theorem keyFits_inb {kd : TypeDesc} {k : AV} (h : keyFits kd k = true) : k.inb 0 = true := by
  cases kd <;> cases k <;> simp [keyFits, AV.inb] at *
theorem withCells_VR {ρ : Rho} {w : World} {x x' : AV} {cs : List AV} {u : Value} (hx : ∃ ρ0 w0, VR ρ0 w0 x u) (h : x.withCells cs = some x') (hc : VRs ρ w cs u.cells.toList) : VR ρ w x' u := by
  obtain ⟨ρ0, w0, hx⟩ := hx
  unfold AV.withCells at h
  split at h
  · cases h
    cases hx with
    | agg _ vs l hv => exact .agg _ vs (by simpa [Value.cells] using hc.1) (fun i c v hi hv => hc.2 i c v hi (by simpa [Value.cells] using hv))
  · rename_i y c hne
    split at h
    · cases h
      have hu : u.cells.toList = [u] := by
        cases hx with
        | agg cs vs l hv => exact absurd rfl (hne _)
        | _ => rfl
      rw [hu] at hc
      exact hc.2 0 _ _ (by simp) (by simp)
    · cases h
  · cases h
theorem mapUpdateA_sound {ρ : Rho} {σ σ' : AS} {w : World} (s : SR ρ σ w) {t : TypeId} {m k x : AV} {um uk ux : Value} (hm : VR ρ w m um) (hk : VR ρ w k uk) (hx : VR ρ w x ux) (h : mapUpdateA P cx σ t m k x = some σ') :
    ∃ ρ' w', (Instr.mapUpdate t um uk ux).run P w = .ok () w' ∧ Ext ρ w ρ' w' ∧ SR ρ' σ' w' := by
  unfold mapUpdateA at h
  split at h
  · rename_i kt et ht
    split at h
    · rename_i kd hkd
      split at h
      · rename_i hf
        split at h
        · rename_i cs σ1 hfz
          obtain ⟨ρ1, x1, s1, v1⟩ := fzL_sound _ _ _ _ _ _ hfz s hx.cells
          split at h
          · rename_i v' L hwc
            split at h
            · rename_i es hg
              split at h
              · rename_i hcond
                split at h
                · rename_i es' hput
                  cases h
                  obtain ⟨p, arr, clock, hp, hr, hl, hw, hst, hE⟩ := map_obj s1.toSRo hg
                  have hm1 := hm.mono x1
                  cases hm1 with
                  | map _ p' hp' hr' =>
                    have : p' = p := Option.some.inj (hp'.symm.trans hp)
                    subst this
                    have hk1 := hk.mono x1
                    have hv' := withCells_VR ⟨ρ, w, hx⟩ hwc v1
                    have hgo : (getObj p'.b).run P w = .ok (.map arr clock) w := by simp [getObj, Sem.run, hw]
                    rcases find_put (v := v') hf hk1 es arr.toList 0 es' hE hput with ⟨h1, rfl, h6⟩ | ⟨i, y, m, h1, h2, h3, rfl, h5, h6⟩
                    · obtain ⟨ρ2, x2, s2⟩ := s1.setMap (es' := es ++ [(k, v')]) (arr' := arr.push { key := uk, val := ux, born := clock }) (clock' := clock + 1) hp hl hr hw (MapKept.stamped_push hst h6) (by
                        refine ⟨by simp [hE.1], fun i e m he hm => ?_⟩
                        have hlen := hE.1
                        simp only [Array.toList_push] at hm
                        rcases Nat.lt_or_ge i es.length with hi | hi
                        · rw [List.getElem?_append_left hi] at he
                          rw [List.getElem?_append_left (by omega)] at hm
                          exact hE.2 i e m he hm
                        · rw [List.getElem?_append_right hi] at he
                          rw [List.getElem?_append_right (by omega)] at hm
                          have hi0 : i - es.length = 0 := by
                            have := (List.getElem?_eq_some_iff.1 he).1
                            simp at this; omega
                          rw [hi0] at he
                          rw [← hlen, hi0] at hm
                          simp at he hm
                          subst he; subst hm
                          exact ⟨keyFits_inb hf, hcond.2, hk1, hv'⟩)
                      refine ⟨ρ2, _, ?_, x1.trans x2, s2⟩
                      simp [Instr.mapUpdate, run_underlying ht, hgo, checkKey_plain hkd hf hk, Instr.findKey, run_underlying hkd, h1, run_setObj hw]
                    · rw [Nat.zero_add] at h1
                      have h2' : arr[i]? = some m := by simpa using h2
                      obtain ⟨ρ2, x2, s2⟩ := s1.setMap (es' := es.set i (k, v')) (arr' := arr.modify i fun e => { e with key := uk, val := ux }) (clock' := clock) hp hl hr hw (MapKept.stamped_modify hst i _ (fun _ _ => rfl) (fun e _ he => by rw [h2'] at he; cases he; exact h6.symm)) (by
                        refine ⟨by simpa using hE.1, fun j e m' he hm' => ?_⟩
                        rw [List.getElem?_set] at he
                        rw [Array.getElem?_toList, Array.getElem?_modify] at hm'
                        by_cases hij : i = j
                        · subst hij
                          rw [if_pos rfl, if_pos h5] at he
                          rw [if_pos rfl, h2'] at hm'
                          simp at he hm'
                          subst he; subst hm'
                          exact ⟨keyFits_inb hf, hcond.2, hk1, hv'⟩
                        · rw [if_neg hij] at he hm'
                          exact hE.2 j e m' he (by simpa using hm'))
                      refine ⟨ρ2, _, ?_, x1.trans x2, s2⟩
                      simp [Instr.mapUpdate, run_underlying ht, hgo, checkKey_plain hkd hf hk, Instr.findKey, run_underlying hkd, h1, h2', Instr.keyThatStays, h3, run_setObj hw]
                · cases h
              · cases h
            · cases h
          · cases h
        · cases h
      · cases h
    · cases h
  · cases h
theorem deleteA_sound {ρ : Rho} {σ σ' : AS} {w : World} (s : SR ρ σ w) {t t2 : TypeId} {m k : AV} {um uk : Value} {ty : TypeId} (hm : VR ρ w m um) (hk : VR ρ w k uk) (h : deleteA P cx σ t m k = some σ') :
    Eff P ρ w σ' (.tup []) (Builtin.delete_ #[t, t2] ty #[um, uk]) := by
  have hundef : ∀ (ρ : Rho) (w : World), VR ρ w (.tup []) (.tuple #[]) := fun ρ w => .tup [] #[] rfl (fun i c v hc => by simp at hc)
  unfold deleteA at h
  split at h
  · rename_i kt et ht
    split at h
    · rename_i kd hkd
      split at h
      · rename_i hf
        split at h
        · cases h
          cases hm
          exact ⟨.tuple #[], w, ρ, by simp [Builtin.delete_, run_underlying ht, checkKey_plain hkd hf hk], Ext.refl _ _, s, hundef _ _⟩
        · rename_i L
          split at h
          · rename_i es hg
            split at h
            · split at h
              · rename_i es' hdrop
                cases h
                obtain ⟨p, arr, clock, hp, hr, hl, hw, hst, hE⟩ := map_obj s.toSRo hg
                cases hm with
                | map _ p' hp' hr' =>
                  have : p' = p := Option.some.inj (hp'.symm.trans hp)
                  subst this
                  have hgo : (getObj p'.b).run P w = .ok (.map arr clock) w := by simp [getObj, Sem.run, hw]
                  rcases find_drop hf hk es arr.toList 0 es' hE hdrop with ⟨h1, rfl⟩ | ⟨i, y, h1, rfl, h5⟩
                  · obtain ⟨ρ2, x2, s2⟩ := s.setMap (arr' := arr) (clock' := clock) hp hl hr hw hst hE
                    refine ⟨.tuple #[], _, ρ2, ?_, x2, s2, hundef _ _⟩
                    simp [Builtin.delete_, run_underlying ht, hgo, checkKey_plain hkd hf hk, Instr.findKey, run_underlying hkd, h1, run_setObj hw]
                  · rw [Nat.zero_add] at h1
                    obtain ⟨ρ2, x2, s2⟩ := s.setMap (es' := es.eraseIdx i) (arr' := arr.eraseIdxIfInBounds i) (clock' := clock) hp hl hr hw (MapKept.stamped_erase hst i) (by
                      have hlen := hE.1
                      have hia : i < arr.size := by simp at hlen; omega
                      have hto : (arr.eraseIdxIfInBounds i).toList = arr.toList.eraseIdx i := by
                        rw [Array.eraseIdxIfInBounds, dif_pos hia]; simp
                      rw [hto]
                      refine ⟨by simp [List.length_eraseIdx, hlen], fun j e m' he hm' => ?_⟩
                      rw [List.getElem?_eraseIdx] at he hm'
                      split at he
                      · rw [if_pos (by assumption)] at hm'; exact hE.2 j e m' he hm'
                      · rw [if_neg (by assumption)] at hm'; exact hE.2 (j + 1) e m' he hm')
                    refine ⟨.tuple #[], _, ρ2, ?_, x2, s2, hundef _ _⟩
                    simp [Builtin.delete_, run_underlying ht, hgo, checkKey_plain hkd hf hk, Instr.findKey, run_underlying hkd, h1, run_setObj hw]
              · cases h
            · cases h
          · cases h
        · cases h
      · cases h
    · cases h
  · cases h
end
end Go.Abs
end
section
namespace Go.Abs
section
variable {P : Program} {cx : Cx}
theorem rowParts_sound {ro : Option Nat} {w : World} {sz : Nat} (hpos : 0 < sz) : ∀ (ps : List (Nat × AV)) (us : List (Nat × Value)) (es es' : List AV) (vs : Array Value) (ρ : Rho) (σ σ' : AS), ps.map (·.1) = us.map (·.1) →
    VRs ρ w (ps.map (·.2)) (us.map (·.2)) → SR ρ σ w → RowAt ρ w sz es vs → (∀ e ∈ es, okE sz e = true) → rowParts ro sz ps es σ = some (es', σ') →
    ∃ ρ' vs', Ext ρ w ρ' w ∧ SR ρ' σ' w ∧ Instr.fill (fun i => some (i * sz, sz)) vs us = some vs' ∧ RowAt ρ' w sz es' vs' ∧ (∀ e ∈ es', okE sz e = true) ∧ es'.length = es.length
  | [], us, es, es', vs, ρ, σ, σ', h1, h2, s, hR, hok, h => by
    have : us = [] := by simpa using h1.symm
    subst this
    simp only [rowParts, Option.some.injEq, Prod.mk.injEq] at h
    obtain ⟨rfl, rfl⟩ := h
    exact ⟨ρ, vs, Ext.refl _ _, s, rfl, hR, hok, rfl⟩
  | (i, x) :: ps, [], es, es', vs, ρ, σ, σ', h1, h2, s, hR, hok, h => by simp at h1
  | (i, x) :: ps, (j, u) :: us, es, es', vs, ρ, σ, σ', h1, h2, s, hR, hok, h => by
    simp only [List.map_cons, List.cons.injEq] at h1
    obtain ⟨rfl, h1⟩ := h1
    obtain ⟨u', us', he, hxu, h2'⟩ := h2.cons_inv
    simp only [List.map_cons, List.cons.injEq] at he
    obtain ⟨rfl, rfl⟩ := he
    simp only [rowParts] at h
    split at h
    · rename_i hi
      split at h
      · rename_i cs σ1 hfz
        obtain ⟨ρ1, x1, s1, v1⟩ := fzL_sound _ _ _ _ _ _ hfz s hxu.cells
        split at h
        · rename_i x' hwc
          split at h
          · rename_i hokx
            have hx' := withCells_VR ⟨ρ, w, hxu⟩ hwc v1
            have hcl := hx'.cells
            have hul : u.cells.size = sz := by rw [← okE_len hokx]; simpa using hcl.1.symm
            have hlt : (i + 1) * sz ≤ es.length * sz := Nat.mul_le_mul_right _ hi
            rw [Nat.add_mul] at hlt
            have hvs := hR.1
            have hf := foldl_lay (i * sz) u.cells.toList 0 vs
            simp only [Nat.add_zero] at hf
            have e : (u.cells.zipIdx.foldl (fun cs (x : Value × Nat) => cs.setIfInBounds (i * sz + x.2) x.1) vs) = (u.cells.toList.zipIdx 0).foldl (fun cs (p : Value × Nat) => cs.setIfInBounds (i * sz + p.2) p.1) vs := by
              rw [← Array.foldl_toList, Array.toList_zipIdx]
            obtain ⟨ρ2, vs', x2, s2, f2, R2, ok2, l2⟩ := rowParts_sound hpos ps us (es.set i x') es' ((u.cells.toList.zipIdx 0).foldl (fun cs (p : Value × Nat) => cs.setIfInBounds (i * sz + p.2) p.1) vs) ρ1 σ1 σ' h1 (h2'.mono x1) s1
              ⟨by rw [hf.1, hvs]; simp, fun k d m c v hd hc hv => by
                have hds : d.cells.length = sz := by
                  rcases List.mem_or_eq_of_mem_set (getElem?_mem' hd) with h | h
                  · exact okE_len (hok d h)
                  · rw [h]; exact okE_len hokx
                have hm : m < sz := by rw [← hds]; exact (List.getElem?_eq_some_iff.1 hc).1
                have hk : k * sz + m < vs.size := by rw [← hf.1]; exact (Array.getElem?_eq_some_iff.1 hv).1
                rw [hf.2 _ hk] at hv
                simp only [Array.length_toList, hul] at hv
                rw [List.getElem?_set] at hd
                by_cases hik : i = k
                · subst hik
                  rw [if_pos rfl, if_pos hi] at hd
                  cases hd
                  rw [if_pos (by omega)] at hv
                  have : i * sz + m - i * sz = m := by omega
                  rw [this] at hv
                  exact hcl.2 m c v hc hv
                · rw [if_neg hik] at hd
                  rw [if_neg (by
                    intro ⟨a1, a2⟩
                    rcases Nat.lt_or_gt_of_ne hik with h | h
                    · have : (i + 1) * sz ≤ k * sz := Nat.mul_le_mul_right _ h
                      rw [Nat.add_mul] at this; omega
                    · have : (k + 1) * sz ≤ i * sz := Nat.mul_le_mul_right _ h
                      rw [Nat.add_mul] at this; omega)] at hv
                  exact (hR.2 k d m c v hd hc hv).mono x1⟩
              (fun d hd => by rcases List.mem_or_eq_of_mem_set hd with h | h; exact hok d h; rw [h]; exact hokx) h
            refine ⟨ρ2, vs', x1.trans x2, s2, ?_, R2, ok2, by simpa using l2⟩
            rw [Instr.fill]
            simp only
            rw [if_neg (by simp; omega), e]
            exact f2
          · cases h
        · cases h
      · cases h
    · cases h
theorem replicate_row {ρ : Rho} {w : World} {z : AV} {zv : Value} (h : VR ρ w z zv) {sz : Nat} (hz : okE sz z = true) (n : Nat) : RowAt ρ w sz (List.replicate n z) ((Array.range (n * sz)).map (zv.cells[· % zv.cells.size]!)) := by
  have := zeroCells_spec h hz n
  have hl : zv.cells.size = sz := by rw [← okE_len hz]; simpa using h.cells.1.symm
  unfold Builtin.zeroCells at this
  rwa [hl] at this ⊢
theorem elemA_und {t e : TypeId} (he : elemA P t = some e) : P.underlying t = some (.slice e) := by
  unfold elemA at he
  split at he
  · cases he; assumption
  · cases he
theorem buildSliceA_sound {ρ : Rho} {σ σ' : AS} {w : World} (s : SR ρ σ w) {t : TypeId} {n : Nat} {ps : List (Nat × AV)} {us : List (Nat × Value)} {c : AV} (h1 : ps.map (·.1) = us.map (·.1)) (h2 : VRs ρ w (ps.map (·.2)) (us.map (·.2)))
    (h : buildSliceA P cx σ t n ps = some (c, σ')) : Eff P ρ w σ' c (Instr.buildSlice t n us.toArray) := by
  unfold buildSliceA at h
  split at h
  · rename_i e he
    split at h
    · rename_i z sz hz hsz
      split at h
      · rename_i hcond
        obtain ⟨hpos, hle, hzok⟩ := hcond
        split at h
        · rename_i es σ1 hrp
          simp only [Option.some.injEq, Prod.mk.injEq] at h
          obtain ⟨rfl, rfl⟩ := h
          obtain ⟨zv, z1, z2⟩ := VR.zero (ρ := ρ) (w := w) (w' := w) hz
          have hund := elemA_und he
          obtain ⟨ρ1, vs, x1, s1, f1, R1, ok1, l1⟩ := rowParts_sound hpos ps us _ es _ ρ σ σ1 h1 h2 s (replicate_row z2 hzok n) (fun e he => by rw [List.eq_of_mem_replicate he]; exact hzok) hrp
          have hlen : es.length = n := by simpa using l1
          obtain ⟨ρ2, x2, s2, v2⟩ := s1.newRow (w' := w.alloc (.cells vs e)) (cap := n) (E := e) (fz := (0, 0)) hpos ok1 (by omega) (by rw [R1.1, hlen]; exact Nat.le_refl _) (.inl (Nat.le_refl _)) (fun b hb => heap_alloc_old w _ b hb) (by simp) rfl rfl rfl (heap_alloc_new w _) R1.2 (Nat.le_refl n)
          refine ⟨_, _, ρ2, ?_, x1.trans x2, s2, v2⟩
          simp only [Instr.buildSlice, Sem.run_bind, run_underlying hund, Result.andThen_ok, run_sizeA hsz]
          rw [if_neg (by omega)]
          by_cases hn : n * sz = 0
          · have e0 : ∀ zero : Array Value, (Array.range (n * sz)).map (zero[· % zero.size]!) = #[] := fun zero => by rw [hn]; simp
            rw [e0] at f1
            rw [if_pos hn]
            simp only [Sem.run_bind, Sem.run_pure, Result.andThen_ok, e0, f1]
            simp [newRow]
          · rw [if_neg hn]
            simp only [Sem.run_bind, z1, Sem.run_pure, Result.andThen_ok, f1]
            simp [newRow]
        · cases h
      · cases h
    · cases h
  · cases h
theorem wrap64_small {n : Int} (h0 : 0 ≤ n) (h1 : n ≤ 2 ^ 44) : IntKind.i64.wrap n = n := by
  rw [← wr_eq]
  have h : (decide (loK .i64 ≤ n) && decide (n ≤ hiK .i64)) = true := by
    have e1 : loK .i64 = -9223372036854775808 := rfl
    have e2 : hiK .i64 = 9223372036854775807 := rfl
    rw [e1, e2, Bool.and_eq_true]
    exact ⟨decide_eq_true (by omega), decide_eq_true (by omega)⟩
  unfold wr
  rw [if_pos h]
theorem makeSliceA_sound {ρ : Rho} {σ σ' : AS} {w : World} (s : SR ρ σ w) {t : TypeId} {l m c : AV} {ul um : Value} (hl : VR ρ w l ul) (hm : VR ρ w m um) (h : makeSliceA P σ t l m = some (c, σ')) :
    Eff P ρ w σ' c (Instr.makeSlice t ul um) := by
  unfold makeSliceA at h
  split at h
  · rename_i e n k he
    split at h
    · rename_i z sz b hz hsz hb
      split at h
      · rename_i hcond
        obtain ⟨hpos, hzok, h0, hnk, hkb, hk⟩ := hcond
        simp only [Option.some.injEq, Prod.mk.injEq] at h
        obtain ⟨rfl, rfl⟩ := h
        cases hl
        cases hm
        obtain ⟨zv, z1, z2⟩ := VR.zero (ρ := ρ) (w := w) (w' := w) hz
        obtain ⟨ti, t1, t2⟩ := run_bytesA hb w
        have hund := elemA_und he
        have hR := replicate_row z2 hzok k.toNat
        have hRn : RowAt ρ w sz (List.replicate n.toNat z) ((Array.range (k.toNat * sz)).map (zv.cells[· % zv.cells.size]!)) → True := fun _ => trivial
        have hw1 : IntKind.i64.wrap n = n := wrap64_small (by omega) (by omega)
        have hw2 : IntKind.i64.wrap k = k := wrap64_small (by omega) (by omega)
        have hbk : (b : Int) * k = k * b := Int.mul_comm _ _
        have c1 : ¬ (281474976710656 < (b : Int) * k) := by rw [hbk]; omega
        obtain ⟨ρ2, x2, s2, v2⟩ := s.newRow (w' := w.alloc (.cells ((Array.range (k.toNat * sz)).map (zv.cells[· % zv.cells.size]!)) e)) (es := List.replicate n.toNat z) (cap := k.toNat) (E := e) (fz := (0, 0)) hpos
          (fun d hd => by rw [List.eq_of_mem_replicate hd]; exact hzok) (by simp; omega) (by simp) (.inl (Nat.le_refl _)) (fun b hb => heap_alloc_old w _ b hb) (by simp) rfl rfl rfl (heap_alloc_new w _)
          (fun i d j c u hd hc hu => by
            refine hR.2 i d j c u ?_ hc hu
            rw [List.getElem?_replicate] at hd ⊢
            split at hd
            · rw [if_pos (by omega)]; exact hd
            · cases hd) (n := n.toNat) (by omega)
        refine ⟨_, _, ρ2, ?_, x2, s2, v2⟩
        simp only [Instr.makeSlice, Sem.run_bind, run_underlying hund, Result.andThen_ok, asInt, asIntOf, Sem.run_pure, t1, t2, hw1, hw2]
        rw [if_neg (by simp; omega)]
        by_cases hn : k.toNat * sz = 0
        · have e0 : ∀ zero : Array Value, (Array.range (k.toNat * sz)).map (zero[· % zero.size]!) = #[] := fun zero => by rw [hn]; simp
          simp only [Sem.run_bind, Result.andThen_ok, Sem.run_pure, run_askRoom, run_sizeA hsz]
          rw [if_pos hn]
          simp only [Sem.run_bind, Result.andThen_ok, Sem.run_pure, e0]
          simp [newRow]
        · simp only [Sem.run_bind, Result.andThen_ok, Sem.run_pure, run_askRoom, run_sizeA hsz]
          rw [if_neg hn]
          simp [z1, newRow]
      · cases h
    · cases h
  · cases h
theorem makeMapA_sound {ρ : Rho} {σ : AS} {w : World} (s : SR ρ σ w) (e : Bool) (t : TypeId) : Eff P ρ w (σ.push e (.map [])) (.map (σ.next e)) (Instr.makeMap t none) := by
  have := s.push (w' := w.alloc (.map #[] 0)) (e := e) (ob := .map []) (p := { b := w.heap.size, o := 0, sz := 1, cap := 0, ver := 0, row := false, live := true }) rfl rfl
    (fun b hb => heap_alloc_old w _ b hb) (by simp) rfl rfl rfl (fun cs' h1 h2 => by cases h2)
    (fun x => ⟨rfl, rfl, #[], 0, heap_alloc_new w _, rfl, MapKept.stamped_empty 0, fun i e m he => by simp at he⟩)
  exact ⟨_, _, _, by simp [Instr.makeMap], this.2, this.1, .map _ _ (upd_same _ _ _) rfl⟩
theorem strBytes_sound {ρ : Rho} {σ : AS} {w : World} (s : SR ρ σ w) {src dst e : TypeId} (h1 : P.underlying src = some .string) (h2 : P.underlying dst = some (.slice e)) (h3 : P.underlying e = some (.int .u8)) (str : ByteArray) :
    Eff P ρ w (σ.push false (.row (str.data.toList.map fun b => .int .u8 b.toNat) 1 0 false)) (.row (σ.next false) 0 0 str.size) (convert src dst (.string str)) := by
  have hcap : str.size ≤ (Question.appendCap str.size 0 e).cut (w.tape w.drawn (.appendCap str.size 0 e)) := by simp [Question.cut]
  generalize hc : (Question.appendCap str.size 0 e).cut (w.tape w.drawn (.appendCap str.size 0 e)) = cap at hcap
  have hsd : str.data.size = str.size := rfl
  let us : Array Value := (str.data.map fun b => (.int .u8 b.toNat : Value)) ++ Array.replicate (cap - str.size) (.int .u8 0)
  have hus : us.size = cap := by simp [us, hsd]; omega
  have hrun : (convert src dst (.string str)).run P w = .ok (.slice (some ⟨w.heap.size, 0, none⟩) str.size cap) ((w.drew.alloc (.cells us e)).freeze ⟨w.heap.size, us.size, none⟩ 1) := by
    have hsh : (w.drew.alloc (.cells us e)).shape? w.heap.size = some (e, us.size) := by
      have := heap_alloc_new w.drew (.cells us e)
      have h0 : w.drew.heap.size = w.heap.size := rfl
      rw [h0] at this
      simp only [World.shape?, this]
    simp [convert, run_underlying h1, run_underlying h2, run_underlying h3, Conv.stringToBytes, Question.forced, hc, newRow, markStringish]
    have e1 : (str.data.map fun b => (.int .u8 b.toNat : Value)) ++ Array.replicate (cap - str.size) (.int .u8 0) = us := rfl
    rw [e1, hsh]
    simp
  have hheap : ((w.drew.alloc (.cells us e)).freeze ⟨w.heap.size, us.size, none⟩ 1).heap[w.heap.size]? = some (.cells us e (us.size, us.size + 1)) := by
    have := heap_alloc_new w.drew (.cells us e)
    have h0 : w.drew.heap.size = w.heap.size := rfl
    rw [h0] at this
    simp only [World.freeze]
    rw [if_neg (by omega)]
    simp only [Array.getElem?_modify, if_true, this, Option.map_some]
    simp
  have hold : ∀ b, b < w.heap.size → ((w.drew.alloc (.cells us e)).freeze ⟨w.heap.size, us.size, none⟩ 1).heap[b]? = w.heap[b]? := fun b hb => by
    have := heap_alloc_old w.drew (.cells us e) b hb
    simp only [World.freeze]
    rw [if_neg (by omega)]
    simp only [Array.getElem?_modify]
    rw [if_neg (by omega)]
    exact this
  have hsize : w.heap.size < ((w.drew.alloc (.cells us e)).freeze ⟨w.heap.size, us.size, none⟩ 1).heap.size := by simp [World.freeze]
  obtain ⟨ρ2, x2, s2, v2⟩ := s.newRow (w' := (w.drew.alloc (.cells us e)).freeze ⟨w.heap.size, us.size, none⟩ 1) (es := str.data.toList.map fun b => .int .u8 b.toNat) (sz := 1) (cap := cap) (us := us) (E := e) (fz := (us.size, us.size + 1)) (by omega)
    (fun d hd => by obtain ⟨b, _, rfl⟩ := List.mem_map.1 hd; simp [okE, AV.cells, AV.one, AVs.inb, AV.inb]) (by simpa using hcap) (by rw [hus]; omega) (.inr (by rw [hus]; omega)) hold hsize
    (by first | (simp [World.freeze]; done) | (simp [World.freeze]; rfl)) (by first | (simp [World.freeze]; done) | (simp [World.freeze]; rfl)) (by first | (simp [World.freeze]; done) | (simp [World.freeze]; rfl)) hheap
    (fun i d j c u hd hc hu => by
      rw [List.getElem?_map] at hd
      cases hb : str.data.toList[i]? with
      | none => simp [hb] at hd
      | some b =>
        simp only [hb, Option.map_some, Option.some.injEq] at hd
        subst hd
        cases j with
        | zero =>
          simp only [AV.cells, List.getElem?_cons_zero, Option.some.injEq] at hc
          subst hc
          have hi : i < str.size := by have := (List.getElem?_eq_some_iff.1 hb).1; simpa using this
          simp only [Nat.mul_one, Nat.add_zero, us] at hu
          rw [Array.getElem?_append_left (by simp; omega), Array.getElem?_map] at hu
          have hb' : str.data[i]? = some b := by simpa using hb
          rw [hb'] at hu
          simp only [Option.map_some, Option.some.injEq] at hu
          subst hu
          exact .int _ _
        | succ j => simp [AV.cells] at hc) (n := str.size) (by omega)
  exact ⟨_, _, ρ2, hrun, x2, s2, v2⟩
theorem appendZA_sound {ρ : Rho} {σ σ' : AS} {w : World} (s : SR ρ σ w) {ts : List TypeId} {a x c : AV} {ua ux : Value} {ty : TypeId} (ha : VR ρ w a ua) (hx : VR ρ w x ux) (h : appendZA P σ ts a x = some (c, σ')) :
    Eff P ρ w σ' c (Builtin.append_ ts.toArray ty #[ua, ux]) := by
  unfold appendZA at h
  split at h
  · rename_i st xt
    split at h
    · rename_i n
      split at h
      · rename_i e kn he hxt
        split at h
        · rename_i sz b z hsz hb hz
          split at h
          · rename_i hc
            obtain ⟨h0, hok, hn, hbo⟩ := hc
            cases h
            cases ha
            cases hx
            obtain ⟨m, rfl⟩ : ∃ m : Nat, n = m := ⟨n.toNat, by omega⟩
            simp only [Int.toNat_natCast] at hbo ⊢
            unfold sizeA at hsz
            unfold bytesA at hb
            unfold zeroA at hz
            cases hi : P.info? e with
            | none => rw [hi] at hsz; cases hsz
            | some i =>
              rw [hi] at hsz hb hz
              simp only [Option.map_some, Option.some.injEq, Option.bind_some] at hsz hb hz
              cases hzv : i.zero with
              | none => rw [hzv] at hz; cases hz
              | some zv =>
                rw [hzv] at hz
                simp only [Option.bind_some] at hz
                have hbo' : m * b ≤ 2 ^ 44 ∧ m ≤ 2 ^ 44 ∧ b ≤ 2 ^ 30 := by simpa [bytesOk] using hbo
                have hrun := Go.Lib.run_append_nil_zeros (P := P) w st xt ty e i zv .i64 kn (elemA_und he) hxt hi hzv m (by omega) (by omega) (by omega) (by rw [hb]; omega)
                have hz' : VR ρ w z zv := ofV_sound hz
                have hcap : m ≤ grownCap w m 0 e := grownCap_ge w m 0 e
                have hR := zeroCells_spec hz' hok m
                have hR2 := zeroCells_spec hz' hok (grownCap w m 0 e - m)
                have hsize : w.heap.size < (w.drew.alloc (.cells (Builtin.zeroCells zv.cells m ++ Builtin.zeroCells zv.cells (grownCap w m 0 e - m)) e)).heap.size := by simp
                obtain ⟨ρ', x', s', v'⟩ := s.newRow (w' := w.drew.alloc (.cells (Builtin.zeroCells zv.cells m ++ Builtin.zeroCells zv.cells (grownCap w m 0 e - m)) e)) (es := List.replicate m z) (sz := sz) (cap := grownCap w m 0 e) (us := Builtin.zeroCells zv.cells m ++ Builtin.zeroCells zv.cells (grownCap w m 0 e - m)) (E := e) (fz := (0, 0)) h0
                  (fun d hd => by rw [List.eq_of_mem_replicate hd]; exact hok) (by simpa using hcap)
                  (by rw [Array.size_append, hR.1, hR2.1, List.length_replicate, List.length_replicate, ← Nat.add_mul]; exact Nat.mul_le_mul_right _ (by omega)) (.inl (Nat.le_refl _))
                  (fun b hb => heap_alloc_old w.drew _ b hb) hsize rfl rfl rfl (heap_alloc_new w.drew _) (fun i d j c u hd hc hu => hR.2 i d j c u hd hc (by
                    have hlt : i * sz + j < (Builtin.zeroCells zv.cells m).size := by
                      rw [hR.1, List.length_replicate]
                      have hi' : i < m := by simpa using (List.getElem?_eq_some_iff.1 hd).1
                      have hj : j < sz := by
                        have := (List.getElem?_eq_some_iff.1 hc).1
                        rw [List.eq_of_mem_replicate (getElem?_mem' hd), okE_len hok] at this
                        exact this
                      have : (i + 1) * sz ≤ m * sz := Nat.mul_le_mul_right _ hi'
                      rw [Nat.add_mul] at this
                      omega
                    rw [Array.getElem?_append_left hlt] at hu
                    exact hu)) hcap
                exact ⟨_, _, ρ', hrun, x', s', v'⟩
          · cases h
        · cases h
      · cases h
    · cases h
  · cases h
theorem rangeA_sound {ρ : Rho} {σ : AS} {w : World} (s : SR ρ σ w) {t k e : TypeId} (ht : P.underlying t = some (.map k e)) {m : AV} {um : Value} (hm : VR ρ w m um) (hin : m.inb 0 = true)
    (hmap : m = .nilm ∨ ∃ L es, m = .map L ∧ σ.get L = some (.map es)) : Eff P ρ w (σ.push false (.iter m)) (.ptr (σ.next false) 0) (Instr.range t um) := by
  have lay : ∀ (mb : Option Nat) (since last : Nat), um = .map mb → (Instr.range t um).run P w = .ok (.pointer (some ⟨w.heap.size, 0, none⟩)) (w.alloc (.mapIter mb since #[] last)) →
      Eff P ρ w (σ.push false (.iter m)) (.ptr (σ.next false) 0) (Instr.range t um) := by
    intro mb since last hu hrun
    have := s.push (w' := w.alloc (.mapIter mb since #[] last)) (e := false) (ob := .iter m) (p := { b := w.heap.size, o := 0, sz := 1, cap := 0, ver := 0, row := false, live := true }) rfl rfl
      (fun b hb => heap_alloc_old w _ b hb) (by simp) rfl rfl rfl (fun cs' h1 h2 => by cases h2)
      (fun x => ⟨rfl, rfl, hin, mb, since, #[], last, heap_alloc_new w _, by rw [← hu]; exact hm.mono x⟩)
    exact ⟨_, _, _, hrun, this.2, this.1, .ptr _ _ _ (upd_same _ _ _) rfl⟩
  rcases hmap with rfl | ⟨L, es, rfl, hg⟩
  · cases hm
    exact lay none 0 0 rfl (by simp [Instr.range, run_underlying ht])
  · obtain ⟨p, arr, clock, hp, hr, hl, hw, _, _⟩ := map_obj s.toSRo hg
    cases hm with
    | map _ p' hp' hr' =>
      have : p' = p := Option.some.inj (hp'.symm.trans hp)
      subst this
      have hgo : (getObj p'.b).run P w = .ok (.map arr clock) w := by simp [getObj, Sem.run, hw]
      exact lay (some p'.b) clock clock rfl (by simp [Instr.range, run_underlying ht, hgo])
theorem nextA_sound {ρ : Rho} {σ : AS} {w : World} (s : SR ρ σ w) {L : Loc} {m : AV} (hg : σ.get L = some (.iter m)) (hm : m = .nilm ∨ ∃ M, m = .map M ∧ σ.get M = some (.map [])) {u : Value} (hu : VR ρ w (.ptr L 0) u) (ty : TypeId) :
    Eff P ρ w σ (.tup [.bool false]) (Instr.next u false ty) := by
  obtain ⟨p, hp, o⟩ := s.obj L _ hg
  obtain ⟨hl, hr, _, mb, since, seen, last, hw, hv⟩ := o
  cases hu with
  | ptr _ _ p' hp' hr' =>
    have : p' = p := Option.some.inj (hp'.symm.trans hp)
    subst this
    have hgo : (getObj p'.b).run P w = .ok (.mapIter mb since seen last) w := by simp [getObj, Sem.run, hw]
    have hres : VR ρ w (.tup [.bool false]) (.tuple #[.bool false]) := .tup _ _ rfl fun i c x hc hx => by
      match i with
      | 0 =>
        simp at hc hx
        subst hc; subst hx
        exact .bool _
      | n + 1 => simp at hc
    refine ⟨_, w, ρ, ?_, Ext.refl _ _, s, hres⟩
    rcases hm with rfl | ⟨M, rfl, hgM⟩
    · cases hv
      simp [Instr.next, hgo]
    · obtain ⟨q, arr, clock, hq, hqr, hql, hqw, _, hE⟩ := map_obj s.toSRo hgM
      cases hv with
      | map _ q' hq' hqr' =>
        have : q' = q := Option.some.inj (hq'.symm.trans hq)
        subst this
        have harr : arr = #[] := by
          have := hE.1
          exact Array.eq_empty_of_size_eq_zero (by simpa using this.symm)
        subst harr
        have hgo2 : (getObj q'.b).run P w = .ok (.map #[] clock) w := by simp [getObj, Sem.run, hqw]
        simp [Instr.next, hgo, hgo2, choose, Sem.run, Question.forced]
end
end Go.Abs
end
section
namespace Go.Abs
structure Beh (h : Nat) (ro : Option Nat) (σ σ' : AS) : Prop where
  inv : ∀ k, k ≤ h → Inv k σ → Inv k σ'
  ro : ∀ k, ro = some k → k ≤ σ.st.length → σ'.hp = σ.hp ∧ σ'.st.take k = σ.st.take k
  len : σ.st.length ≤ σ'.st.length
theorem Beh.refl (h : Nat) (ro : Option Nat) (σ : AS) : Beh h ro σ σ := ⟨fun _ _ h => h, fun _ _ _ => ⟨rfl, rfl⟩, Nat.le_refl _⟩
theorem Beh.trans {h : Nat} {ro : Option Nat} {σ σ1 σ2 : AS} (a : Beh h ro σ σ1) (b : Beh h ro σ1 σ2) : Beh h ro σ σ2 :=
  ⟨fun k hk i => b.inv k hk (a.inv k hk i), fun k hr hk => by
    obtain ⟨a1, a2⟩ := a.ro k hr hk
    obtain ⟨b1, b2⟩ := b.ro k hr (Nat.le_trans hk a.len)
    exact ⟨b1.trans a1, b2.trans a2⟩, Nat.le_trans a.len b.len⟩
theorem Beh.le {h h' : Nat} {ro : Option Nat} {σ σ' : AS} (a : Beh h ro σ σ') (hh : h' ≤ h) : Beh h' ro σ σ' := ⟨fun k hk i => a.inv k (Nat.le_trans hk hh) i, a.ro, a.len⟩
theorem wok_take {ro : Option Nat} {i k : Nat} (hw : wok ro (.st i) = true) (hr : ro = some k) {σ : AS} {ob : AObj} : (σ.set (.st i) ob).st.take k = σ.st.take k := by
  subst hr
  simp only [wok, decide_eq_true_eq] at hw
  simp only [AS.set]
  rw [List.take_set_of_le hw]
theorem Beh.set {h : Nat} {ro : Option Nat} {σ : AS} {L : Loc} {ob : AObj} (hw : wok ro L = true) (hc : ∀ i cs k, L = .st i → ob = .cells cs → i < k → k ≤ h → Inv k σ → AVs.inb k cs = true) : Beh h ro σ (σ.set L ob) := by
  refine ⟨fun k hk hi i cs hik hg => ?_, fun k hr _ => ?_, by cases L <;> simp [AS.set]⟩
  · cases L with
    | hp j => exact hi i cs hik hg
    | st j =>
      simp only [AS.set] at hg
      rw [List.getElem?_set] at hg
      split at hg
      · rename_i e
        subst e
        split at hg
        · cases hg; exact hc j cs k rfl rfl hik hk hi
        · cases hg
      · exact hi i cs hik hg
  · cases L with
    | hp j => subst hr; simp [wok] at hw
    | st j => exact ⟨rfl, wok_take hw hr⟩
theorem Beh.push {h : Nat} {ro : Option Nat} {σ : AS} {e : Bool} {ob : AObj} (hr : e = true → ro.isNone = true) (hh : h ≤ σ.st.length) : Beh h ro σ (σ.push e ob) := by
  refine ⟨fun k hk hi i cs hik hg => ?_, fun k hrk hk => ?_, by cases e <;> simp [AS.push]⟩
  · cases e with
    | true => exact hi i cs hik hg
    | false =>
      simp only [AS.push, Bool.false_eq_true, if_false] at hg
      rw [List.getElem?_append_left (by omega)] at hg
      exact hi i cs hik hg
  · cases e with
    | true => have := hr rfl; rw [hrk] at this; cases this
    | false => simp [AS.push, List.take_append_of_le_length hk]
theorem promL_beh {h : Nat} {ro : Option Nat} : ∀ (xs ys : List AV) (σ σ' : AS), promL ro σ xs = some (ys, σ') → ro.isNone = true → Beh h ro σ σ' := by
  intro xs
  induction xs with
  | nil =>
    intro ys σ σ' h0 _
    simp only [promL, Option.some.injEq, Prod.mk.injEq] at h0
    obtain ⟨rfl, rfl⟩ := h0
    exact Beh.refl _ _ _
  | cons x xs ih =>
    intro ys σ σ' h0 hr
    unfold promL at h0
    split at h0
    · rename_i heq; cases heq
    · rename_i i v off len xs' heq
      cases heq
      split at h0
      · rename_i es sz v' hg
        split at h0
        · rename_i hc
          split at h0
          · rename_i ys' σ'' hrec
            simp only [Option.some.injEq, Prod.mk.injEq] at h0
            obtain ⟨rfl, rfl⟩ := h0
            refine Beh.trans (σ1 := _) ?_ (ih _ _ _ hrec hr)
            refine ⟨fun k hk hi j cs hik hg' => ?_, fun k hrk _ => (by rw [hrk] at hr; cases hr), by simp⟩
            simp only at hg'
            rw [List.getElem?_set] at hg'
            split at hg'
            · split at hg' <;> cases hg'
            · exact hi j cs hik hg'
          · cases h0
        · cases h0
      · cases h0
    · rename_i x' xs' hne heq
      cases heq
      split at h0
      · rename_i ys' σ'' hrec
        simp only [Option.some.injEq, Prod.mk.injEq] at h0
        obtain ⟨rfl, rfl⟩ := h0
        exact ih _ _ _ hrec hr
      · cases h0
theorem fzL_beh {h : Nat} {ro : Option Nat} : ∀ (xs ys : List AV) (σ σ' : AS), fzL ro σ xs = some (ys, σ') → Beh h ro σ σ' := by
  intro xs
  induction xs with
  | nil =>
    intro ys σ σ' h0
    simp only [fzL, Option.some.injEq, Prod.mk.injEq] at h0
    obtain ⟨rfl, rfl⟩ := h0
    exact Beh.refl _ _ _
  | cons x xs ih =>
    intro ys σ σ' h0
    unfold fzL at h0
    split at h0
    · rename_i heq; cases heq
    · rename_i i v off len xs' heq
      cases heq
      split at h0
      · rename_i es sz v' fro hg
        split at h0
        · rename_i hc
          split at h0
          · rename_i ys' σ'' hrec
            simp only [Option.some.injEq, Prod.mk.injEq] at h0
            obtain ⟨rfl, rfl⟩ := h0
            exact Beh.trans (Beh.set hc.2.1 (fun i cs k _ h => by cases h)) (ih _ _ _ hrec)
          · cases h0
        · cases h0
      · cases h0
    · rename_i x' xs' hne heq
      cases heq
      split at h0
      · rename_i ys' σ'' hrec
        simp only [Option.some.injEq, Prod.mk.injEq] at h0
        obtain ⟨rfl, rfl⟩ := h0
        exact ih _ _ _ hrec
      · cases h0
section
variable {P : Program} {cx : Cx}
theorem pushA_beh {σ σ' : AS} {e : Bool} {cs : List AV} {c : AV} (h : pushA cx σ e cs = some (c, σ')) (hh : cx.h ≤ σ.st.length) : Beh cx.h cx.ro σ σ' := by
  unfold pushA at h
  split at h
  · split at h
    · rename_i hro
      split at h
      · rename_i cs' σ1 hp
        split at h
        · simp only [Option.some.injEq, Prod.mk.injEq] at h
          obtain ⟨rfl, rfl⟩ := h
          have b1 := promL_beh (h := cx.h) _ _ _ _ hp hro
          exact b1.trans (Beh.push (fun _ => hro) (Nat.le_trans hh b1.len))
        · cases h
      · cases h
    · cases h
  · simp only [Option.some.injEq, Prod.mk.injEq] at h
    obtain ⟨rfl, rfl⟩ := h
    exact Beh.push (fun h => by cases h) hh
theorem storeA_beh {σ σ' : AS} {t : TypeId} {p x : AV} (h : storeA P cx σ t p x = some σ') : Beh cx.h cx.ro σ σ' := by
  unfold storeA at h
  split at h
  · split at h
    · rename_i L o
      split at h
      · rename_i cs hg
        split at h
        · rename_i hcond
          split at h
          · rename_i i
            have hro : cx.ro.isNone = true := by simpa [wok] using hcond.1
            split at h
            · rename_i xs σ1 hpr
              split at h
              · cases h
                exact (promL_beh _ _ _ _ hpr hro).trans (Beh.set (by simpa [wok] using hro) (fun i cs k h => by cases h))
              · cases h
            · cases h
          · rename_i i
            split at h
            · rename_i hin
              cases h
              refine Beh.set hcond.1 (fun j cs' k e1 e2 hjk hkh hi => ?_)
              cases e1; cases e2
              have hi' : AVs.inb i x.cells = true := by
                simp only [Bool.or_eq_true, decide_eq_true_eq] at hin
                rcases hin with h | h
                · omega
                · exact h
              exact lay_inb (hi i cs hjk hg) (AVs.inb_mono (Nat.le_of_lt hjk) _ hi')
            · cases h
        · cases h
      · cases h
    · rename_i L v i o
      split at h
      · rename_i xs σ1 hfz
        split at h
        · split at h
          · rename_i hcond
            split at h
            · split at h
              · split at h
                · split at h
                  · cases h
                    exact (fzL_beh _ _ _ _ hfz).trans (Beh.set hcond.2 (fun i cs k _ h => by cases h))
                  · cases h
                · cases h
              · cases h
            · cases h
          · cases h
        · cases h
      · cases h
    · cases h
  · cases h
theorem rowParts_beh {h : Nat} {ro : Option Nat} {sz : Nat} : ∀ (ps : List (Nat × AV)) (es es' : List AV) (σ σ' : AS), rowParts ro sz ps es σ = some (es', σ') → Beh h ro σ σ'
  | [], es, es', σ, σ', h0 => by
    simp only [rowParts, Option.some.injEq, Prod.mk.injEq] at h0
    obtain ⟨rfl, rfl⟩ := h0
    exact Beh.refl _ _ _
  | (i, v) :: ps, es, es', σ, σ', h0 => by
    simp only [rowParts] at h0
    split at h0
    · split at h0
      · rename_i cs σ1 hfz
        split at h0
        · split at h0
          · exact (fzL_beh _ _ _ _ hfz).trans (rowParts_beh ps _ _ _ _ h0)
          · cases h0
        · cases h0
      · cases h0
    · cases h0
theorem buildSliceA_beh {σ σ' : AS} {t : TypeId} {n : Nat} {ps : List (Nat × AV)} {c : AV} (h : buildSliceA P cx σ t n ps = some (c, σ')) (hh : cx.h ≤ σ.st.length) : Beh cx.h cx.ro σ σ' := by
  unfold buildSliceA at h
  split at h
  · split at h
    · split at h
      · split at h
        · rename_i es σ1 hrp
          simp only [Option.some.injEq, Prod.mk.injEq] at h
          obtain ⟨rfl, rfl⟩ := h
          have b1 := rowParts_beh (h := cx.h) _ _ _ _ _ hrp
          exact b1.trans (Beh.push (fun h => by cases h) (Nat.le_trans hh b1.len))
        · cases h
      · cases h
    · cases h
  · cases h
theorem appendA_beh {σ σ' : AS} {ts : List TypeId} {a x c : AV} (h : appendA P cx σ ts a x = some (c, σ')) (hh : cx.h ≤ σ.st.length) : Beh cx.h cx.ro σ σ' := by
  have pu : ∀ ob, Beh cx.h cx.ro σ (σ.push false ob) := fun ob => Beh.push (fun h => by cases h) hh
  unfold appendA at h
  split at h
  · split at h
    · split at h
      · split at h
        · split at h
          · cases h
          · split at h
            · split at h
              · simp only [Option.some.injEq, Prod.mk.injEq] at h; rw [← h.2]; exact Beh.refl _ _ _
              · split at h
                · simp only [Option.some.injEq, Prod.mk.injEq] at h; rw [← h.2]; exact pu _
                · cases h
            · split at h
              · simp only [Option.some.injEq, Prod.mk.injEq] at h; rw [← h.2]; exact Beh.refl _ _ _
              · split at h
                · simp only [Option.some.injEq, Prod.mk.injEq] at h; rw [← h.2]; exact pu _
                · cases h
            · split at h
              · split at h
                · rename_i hcond
                  have st : ∀ es sz v, Beh cx.h cx.ro σ (σ.set _ (.row es sz v false)) := fun es sz v => Beh.set hcond.2.2.1 (fun i cs k _ h => by cases h)
                  split at h
                  · simp only [Option.some.injEq, Prod.mk.injEq] at h; rw [← h.2]; exact st _ _ _
                  · split at h
                    · simp only [Option.some.injEq, Prod.mk.injEq] at h; rw [← h.2]; exact st _ _ _
                    · cases h
                · cases h
              · cases h
            · cases h
        · cases h
      · cases h
    · cases h
  · cases h
theorem copyB_beh {σ σ' : AS} {t : TypeId} {d x c : AV} (h : copyB P cx σ t d x = some (c, σ')) : Beh cx.h cx.ro σ σ' := by
  unfold copyB at h
  split at h
  · split at h
    · split at h
      · unfold copyA at h
        split at h
        · simp only [Option.some.injEq, Prod.mk.injEq] at h; rw [← h.2]; exact Beh.refl _ _ _
        · split at h
          · split at h
            · split at h
              · rename_i hcond
                simp only [Option.some.injEq, Prod.mk.injEq] at h
                rw [← h.2]
                exact Beh.set hcond.2.1 (fun i cs k _ h => by cases h)
              · cases h
            · cases h
          · cases h
        · cases h
      · cases h
    · cases h
  · cases h
theorem clearA_beh {σ σ' : AS} {t : TypeId} {x : AV} (h : clearA P cx σ t x = some σ') : Beh cx.h cx.ro σ σ' := by
  unfold clearA at h
  split at h
  · split at h
    · split at h
      · rename_i hcond
        cases h
        exact Beh.set hcond.2.2.2.1 (fun i cs k _ h => by cases h)
      · cases h
    · cases h
  · cases h; exact Beh.refl _ _ _
  · cases h
theorem mapUpdateA_beh {σ σ' : AS} {t : TypeId} {m k x : AV} (h : mapUpdateA P cx σ t m k x = some σ') : Beh cx.h cx.ro σ σ' := by
  unfold mapUpdateA at h
  split at h
  · split at h
    · split at h
      · split at h
        · rename_i cs σ1 hfz
          split at h
          · split at h
            · split at h
              · rename_i hcond
                split at h
                · cases h
                  exact (fzL_beh _ _ _ _ hfz).trans (Beh.set hcond.1 (fun i cs k _ h => by cases h))
                · cases h
              · cases h
            · cases h
          · cases h
        · cases h
      · cases h
    · cases h
  · cases h
theorem deleteA_beh {σ σ' : AS} {t : TypeId} {m k : AV} (h : deleteA P cx σ t m k = some σ') : Beh cx.h cx.ro σ σ' := by
  unfold deleteA at h
  split at h
  · split at h
    · split at h
      · split at h
        · cases h; exact Beh.refl _ _ _
        · split at h
          · split at h
            · rename_i hw
              split at h
              · cases h
                exact Beh.set hw (fun i cs k _ h => by cases h)
              · cases h
            · cases h
          · cases h
        · cases h
      · cases h
    · cases h
  · cases h
theorem makeSliceA_beh {σ σ' : AS} {t : TypeId} {l m c : AV} (h : makeSliceA P σ t l m = some (c, σ')) (hh : cx.h ≤ σ.st.length) : Beh cx.h cx.ro σ σ' := by
  unfold makeSliceA at h
  split at h
  · split at h
    · split at h
      · simp only [Option.some.injEq, Prod.mk.injEq] at h; rw [← h.2]; exact Beh.push (fun h => by cases h) hh
      · cases h
    · cases h
  · cases h
end
end Go.Abs
end
section
namespace Go.Abs
structure CallOk (P : Program) (call : Caller) : Prop where
  ent : ∀ f args σ ro r, call f args σ ro = some r → ∃ fn, P.funcs[f]? = some fn ∧ fn.body.isSome = true ∧ (fn.name == "runtime.NumGoroutine") = false
  snd : ∀ f args σ ro v σ', call f args σ ro = some (v, σ') → ∀ ρ w us, SR ρ σ w → VRs ρ w args us →
    Calls P f us.toArray w fun e w' => ∃ ρ' u, e = .returned u ∧ Ext ρ w ρ' w' ∧ SR ρ' σ' w' ∧ VR ρ' w' v u
  beh : ∀ f args σ ro v σ', call f args σ ro = some (v, σ') → Beh σ.st.length ro σ σ'
theorem VR.undef {ρ : Rho} {w : World} : VR ρ w (.tup []) undef := .tup [] #[] rfl (fun i c v hc => by simp at hc)
theorem VRs.append {ρ : Rho} {w : World} {xs ys : List AV} {us vs : List Value} (h : VRs ρ w xs us) (h' : VRs ρ w ys vs) : VRs ρ w (xs ++ ys) (us ++ vs) := by
  refine ⟨by simp [h.1, h'.1], fun i c v hc hv => ?_⟩
  have hl := h.1
  rcases Nat.lt_or_ge i xs.length with hi | hi
  · rw [List.getElem?_append_left hi] at hc
    rw [List.getElem?_append_left (by omega)] at hv
    exact h.2 i c v hc hv
  · rw [List.getElem?_append_right hi] at hc
    rw [List.getElem?_append_right (by omega), ← hl] at hv
    exact h'.2 _ c v hc hv
section
variable {P : Program} {cx : Cx} {call : Caller}
theorem callee_run {f : AV} {args : List AV} {g : FuncId} {gs : List AV} {ρ : Rho} {w : World} {uf : Value} {us : List Value} (hc : calleeA f args = some (g, gs)) (hf : VR ρ w f uf) (ha : VRs ρ w args us)
    {fn : Func} (h1 : P.funcs[g]? = some fn) (h2 : fn.body.isSome = true) (h3 : (fn.name == "runtime.NumGoroutine") = false) :
    ∃ vs : List Value, VRs ρ w gs vs ∧ (do let d ← Deferred.ofValue uf us.toArray; invoke d.target d.args : Sem Next).run P w = .ok (.enter g vs.toArray) w := by
  unfold calleeA at hc
  split at hc
  · rename_i g' first captured
    cases hc
    cases hf with
    | fn _ _ _ vs us' l1 l2 v1 v2 =>
      have hv1 : VRs ρ w first vs.toList := ⟨by simpa using l1, fun i c v hc hv => v1 i c v hc (by simpa using hv)⟩
      have hv2 : VRs ρ w captured us'.toList := ⟨by simpa using l2, fun i c v hc hv => v2 i c v hc (by simpa using hv)⟩
      refine ⟨vs.toList ++ us ++ us'.toList, (hv1.append ha).append hv2, ?_⟩
      have hb : ¬ fn.body = none := by intro h; rw [h] at h2; cases h2
      have h3' : ¬ fn.name = "runtime.NumGoroutine" := by simpa using h3
      have harr : vs ++ us.toArray ++ us' = (vs.toList ++ us ++ us'.toList).toArray := by apply Array.ext'; simp
      simp [Deferred.ofValue, invoke, callFunc, h1, h3', hb]
  · cases hc
set_option maxHeartbeats 1000000 in
theorem effA_sound (hC : CallOk P call) {ρ : Rho} {σ σ' : AS} {w : World} (s : SR ρ σ w) {env : Env} {a : Act} (hE : ER ρ w env a.tmps) {o : Oper} {c : AV} (h : effA P cx call σ env o = some (c, σ'))
    {K : Act → World → Prop} {Q : Exit → Act → World → Prop} (hK : ∀ u w' ρ', Ext ρ w ρ' w' → SR ρ' σ' w' → VR ρ' w' c u → K (a.put o.dst u) w') : o.wp P a w K Q := by
  have ofEff : ∀ m : Sem Value, Eff P ρ w σ' c m → execOp a.eval o = (do pure (.value (← m))) → o.wp P a w K Q := by
    intro m ⟨u, w', ρ', h1, h2, h3, h4⟩ he
    unfold Oper.wp
    rw [he, Sem.run_bind, h1]
    exact hK u w' ρ' h2 h3 h4
  have ofUnit : ∀ m : Sem Unit, (∃ ρ' w', m.run P w = .ok () w' ∧ Ext ρ w ρ' w' ∧ SR ρ' σ' w') → c = .tup [] → execOp a.eval o = (do m; pure .skip) → o.wp P a w K Q := by
    intro m ⟨ρ', w', h1, h2, h3⟩ hcc he
    subst hcc
    unfold Oper.wp
    rw [he, Sem.run_bind, h1]
    exact hK undef w' ρ' h2 h3 VR.undef
  unfold effA at h
  split at h
  · rename_i t hop
    split at h
    · rename_i z d hz hd
      exact ofEff _ (alloc_eff s hz h) (by simp [execOp, hop])
    · cases h
  · rename_i t x hop
    split at h
    · rename_i v d hv hd
      exact ofEff _ (box_eff (t := t) s (ev_sound hE hv) h) (by simp [execOp, hop])
    · cases h
  · rename_i t n parts hop
    split at h
    · rename_i ps hps
      obtain ⟨e1, e2⟩ := evps_sound hE hps
      have e3 : (parts.map fun (i, x) => (i, a.eval x)) = (parts.toList.map fun p => (p.1, a.eval p.2)).toArray := by
        apply Array.ext'; simp
      exact ofEff _ (buildSliceA_sound s (us := parts.toList.map fun p => (p.1, a.eval p.2)) (by rw [List.map_map]; exact e1) (by rw [List.map_map]; exact e2) h) (by simp only [execOp, hop, e3])
    · cases h
  · rename_i t p x hop
    split at h
    · rename_i pv xv hp hx
      split at h
      · rename_i σ1 hst
        simp only [Option.some.injEq, Prod.mk.injEq] at h
        obtain ⟨rfl, rfl⟩ := h
        exact ofUnit _ (storeA_sound s (ev_sound hE hp) (ev_sound hE hx) hst) rfl (by simp [execOp, hop])
      · cases h
    · cases h
  · rename_i t hop
    split at h
    · rename_i k e d ht hd
      split at h
      · cases h
      · simp only [Option.some.injEq, Prod.mk.injEq] at h
        obtain ⟨rfl, rfl⟩ := h
        exact ofEff _ (makeMapA_sound s _ t) (by simp [execOp, hop])
    · cases h
  · rename_i t l m hop
    split at h
    · rename_i lv mv hl hm
      exact ofEff _ (makeSliceA_sound s (ev_sound hE hl) (ev_sound hE hm) h) (by simp [execOp, hop])
    · cases h
  · rename_i t m k x hop
    split at h
    · rename_i mv kv xv hm hk hx
      split at h
      · rename_i σ1 hmu
        simp only [Option.some.injEq, Prod.mk.injEq] at h
        obtain ⟨rfl, rfl⟩ := h
        exact ofUnit _ (mapUpdateA_sound s (ev_sound hE hm) (ev_sound hE hk) (ev_sound hE hx) hmu) rfl (by simp [execOp, hop])
      · cases h
    · cases h
  · rename_i t m k x hop
    split at h
    · rename_i mv kv xv hm hk hx
      split at h
      · rename_i σ1 hmu
        simp only [Option.some.injEq, Prod.mk.injEq] at h
        obtain ⟨rfl, rfl⟩ := h
        exact ofUnit _ (mapUpdateA_sound s (ev_sound hE hm) (ev_sound hE hk) (ev_sound hE hx) hmu) rfl (by simp [execOp, hop])
      · cases h
    · cases h
  · rename_i src dst x hop
    split at h
    · rename_i e str h1 h2 hx
      split at h
      · rename_i he hsz
        simp only [Option.some.injEq, Prod.mk.injEq] at h
        obtain ⟨rfl, rfl⟩ := h
        have hxv := (ev_sound hE hx).str_inv
        exact ofEff _ (strBytes_sound s h1 h2 he str) (by simp [execOp, hop, hxv])
      · cases h
    · cases h
  · rename_i t x hop
    split at h
    · rename_i kt et ht hx
      cases h
      exact ofEff _ (rangeA_sound s ht (ev_sound hE hx) rfl (.inl rfl)) (by simp [execOp, hop])
    · rename_i kt et i ht hx
      split at h
      · rename_i es hg
        cases h
        exact ofEff _ (rangeA_sound s ht (ev_sound hE hx) rfl (.inr ⟨_, _, rfl, hg⟩)) (by simp [execOp, hop])
      · cases h
    · cases h
  · rename_i x hop
    split at h
    · rename_i L hx
      split at h
      · rename_i hg
        cases h
        exact ofEff _ (nextA_sound s hg (.inl rfl) (ev_sound hE hx) o.type) (by simp [execOp, hop])
      · rename_i M hg
        split at h
        · rename_i hgM
          cases h
          exact ofEff _ (nextA_sound s hg (.inr ⟨_, rfl, hgM⟩) (ev_sound hE hx) o.type) (by simp [execOp, hop])
        · cases h
      · cases h
    · cases h
  · rename_i b args ats hop
    split at h
    · rename_i xs hx
      have hvs := evs_sound hE hx
      have hargs : (args.map a.eval) = (args.toList.map a.eval).toArray := by apply Array.ext'; simp
      split at h
      · rename_i sa xa hb1
        obtain ⟨u1, l1, e1, v1, hvs1⟩ := hvs.cons_inv
        obtain ⟨u2, l2, e2, v2, hvs2⟩ := hvs1.cons_inv
        have hl2 : l2 = [] := by simpa using hvs2.1.symm
        rw [e1, e2, hl2] at hargs
        split at h
        · rename_i r hap
          cases h
          refine ofEff _ (appendA_sound (ty := o.type) s v1 v2 hap) ?_
          simp [execOp, hop, resolve, hargs, invoke, builtin]
        · refine ofEff _ (appendZA_sound (ty := o.type) s v1 v2 h) ?_
          simp [execOp, hop, resolve, hargs, invoke, builtin]
      · rename_i da xa t ts hb1
        obtain ⟨u1, l1, e1, v1, hvs1⟩ := hvs.cons_inv
        obtain ⟨u2, l2, e2, v2, hvs2⟩ := hvs1.cons_inv
        have hl2 : l2 = [] := by simpa using hvs2.1.symm
        rw [e1, e2, hl2] at hargs
        have hat : ats[0]? = some t := by rw [← Array.getElem?_toList, hb1]; rfl
        refine ofEff _ (copyB_sound (ty := o.type) s v1 v2 hat h) ?_
        simp [execOp, hop, resolve, hargs, invoke, builtin]
      · rename_i xa t hb1
        obtain ⟨u1, l1, e1, v1, hvs1⟩ := hvs.cons_inv
        have hl1 : l1 = [] := by simpa using hvs1.1.symm
        rw [e1, hl1] at hargs
        have hat : ats = #[t] := by apply Array.ext'; rw [hb1]
        subst hat
        split at h
        · rename_i σ1 hcl
          simp only [Option.some.injEq, Prod.mk.injEq] at h
          obtain ⟨rfl, rfl⟩ := h
          refine ofEff _ (clearA_sound (ty := o.type) s v1 hcl) ?_
          simp [execOp, hop, resolve, hargs, invoke, builtin]
        · cases h
      · rename_i ma ka t t2 hb1
        obtain ⟨u1, l1, e1, v1, hvs1⟩ := hvs.cons_inv
        obtain ⟨u2, l2, e2, v2, hvs2⟩ := hvs1.cons_inv
        have hl2 : l2 = [] := by simpa using hvs2.1.symm
        rw [e1, e2, hl2] at hargs
        have hat : ats = #[t, t2] := by apply Array.ext'; rw [hb1]
        subst hat
        split at h
        · rename_i σ1 hde
          simp only [Option.some.injEq, Prod.mk.injEq] at h
          obtain ⟨rfl, rfl⟩ := h
          refine ofEff _ (deleteA_sound (ty := o.type) (t2 := t2) s v1 v2 hde) ?_
          simp [execOp, hop, resolve, hargs, invoke, builtin]
        · cases h
      · cases h
    · cases h
  · rename_i f args ats hop
    split at h
    · rename_i fv xs hf hx
      split at h
      · rename_i g gs hcal
        obtain ⟨fn, f1, f2, f3⟩ := hC.ent _ _ _ _ _ h
        have hargs : (args.map a.eval) = (args.toList.map a.eval).toArray := by apply Array.ext'; simp
        obtain ⟨vs, hvs, hrun⟩ := callee_run (P := P) hcal (ev_sound hE hf) (evs_sound hE hx) f1 f2 f3
        unfold Oper.wp
        have : (execOp a.eval o) = (do let d ← Deferred.ofValue (a.eval f) (args.toList.map a.eval).toArray; invoke d.target d.args : Sem Next) := by
          simp only [execOp, hop, resolve, hargs]
        rw [this, hrun]
        refine (hC.snd _ _ _ _ _ _ h ρ w vs s hvs).mono fun e w' ⟨ρ', u, he, x, s', v'⟩ => ?_
        subst he
        exact hK u w' ρ' x s' v'
      · cases h
    · cases h
  · cases h
theorem appendZA_beh {σ σ' : AS} {ts : List TypeId} {a x c : AV} (h : appendZA P σ ts a x = some (c, σ')) (hh : cx.h ≤ σ.st.length) : Beh cx.h cx.ro σ σ' := by
  unfold appendZA at h
  repeat' split at h
  all_goals first | (cases h; done) | (simp only [Option.some.injEq, Prod.mk.injEq] at h; rw [← h.2]; exact Beh.push (fun h => by cases h) hh)
theorem effA_beh (hC : CallOk P call) {σ σ' : AS} {env : Env} {o : Oper} {c : AV} (h : effA P cx call σ env o = some (c, σ')) (hh : cx.h ≤ σ.st.length) : Beh cx.h cx.ro σ σ' := by
  unfold effA at h
  split at h
  · split at h
    · exact pushA_beh h hh
    · cases h
  · split at h
    · exact pushA_beh h hh
    · cases h
  · split at h
    · exact buildSliceA_beh h hh
    · cases h
  · split at h
    · split at h
      · rename_i σ1 hst
        simp only [Option.some.injEq, Prod.mk.injEq] at h
        rw [← h.2]; exact storeA_beh hst
      · cases h
    · cases h
  · split at h
    · rename_i k e d ht hd
      split at h
      · cases h
      · rename_i hne
        simp only [Option.some.injEq, Prod.mk.injEq] at h
        rw [← h.2]
        exact Beh.push (fun he => by
          cases hr : cx.ro.isNone with
          | true => rfl
          | false => exact absurd ⟨he, hr⟩ hne) hh
    · cases h
  · split at h
    · exact makeSliceA_beh h hh
    · cases h
  · split at h
    · split at h
      · rename_i σ1 hst
        simp only [Option.some.injEq, Prod.mk.injEq] at h
        rw [← h.2]; exact mapUpdateA_beh hst
      · cases h
    · cases h
  · split at h
    · split at h
      · rename_i σ1 hst
        simp only [Option.some.injEq, Prod.mk.injEq] at h
        rw [← h.2]; exact mapUpdateA_beh hst
      · cases h
    · cases h
  · split at h
    · split at h
      · simp only [Option.some.injEq, Prod.mk.injEq] at h
        rw [← h.2]; exact Beh.push (fun h => by cases h) hh
      · cases h
    · cases h
  · split at h
    · simp only [Option.some.injEq, Prod.mk.injEq] at h
      rw [← h.2]; exact Beh.push (fun h => by cases h) hh
    · split at h
      · simp only [Option.some.injEq, Prod.mk.injEq] at h
        rw [← h.2]; exact Beh.push (fun h => by cases h) hh
      · cases h
    · cases h
  · split at h
    · split at h
      · cases h; exact Beh.refl _ _ _
      · split at h
        · cases h; exact Beh.refl _ _ _
        · cases h
      · cases h
    · cases h
  · split at h
    · split at h
      · split at h
        · rename_i hap
          cases h
          exact appendA_beh hap hh
        · exact appendZA_beh h hh
      · exact copyB_beh h
      · split at h
        · rename_i σ1 hst
          simp only [Option.some.injEq, Prod.mk.injEq] at h
          rw [← h.2]; exact clearA_beh hst
        · cases h
      · split at h
        · rename_i σ1 hst
          simp only [Option.some.injEq, Prod.mk.injEq] at h
          rw [← h.2]; exact deleteA_beh hst
        · cases h
      · cases h
    · cases h
  · split at h
    · split at h
      · exact (hC.beh _ _ _ _ _ _ h).le hh
      · cases h
    · cases h
  · cases h
theorem yieldedA_eq {ρ : Rho} {w : World} {env : Env} {tmps : Array Value} (hE : ER ρ w env tmps) (ops : Array Oper) (j : Nat) : yieldedA ops.toList env j = yielded ops tmps j := by
  unfold yieldedA yielded
  rw [Array.getElem?_toList]
  cases hd : (ops[j]?).bind (·.dst) with
  | none => simp
  | some d =>
    have hg := hE.get d
    simp only [Option.bind_some]
    cases ht : tmps[d]? with
    | none =>
      have : tmps.getD d undef = undef := by simp [Array.getD_eq_getD_getElem?, ht]
      rw [this] at hg
      cases hv : env.get d <;> simp
      rw [hv] at hg
      cases hg
    | some u =>
      have : tmps.getD d undef = u := by simp [Array.getD_eq_getD_getElem?, ht]
      rw [this] at hg
      generalize env.get d = c at hg
      cases hg <;> rfl
theorem wantedA_eq {ρ : Rho} {w : World} {env : Env} {tmps : Array Value} (hE : ER ρ w env tmps) (ops : Array Oper) (o : Oper) : wantedA ops.toList env o = Region.wanted o (yielded ops tmps) := by
  unfold wantedA Region.wanted
  split
  · simp [*]
  · rename_i j want hg
    simp [hg, yieldedA_eq hE]
theorem wp_value {o : Oper} {a : Act} {w : World} {u : Value} (h : (execOp a.eval o).run P w = .ok (.value u) w) {K : Act → World → Prop} {Q : Exit → Act → World → Prop} (hK : K (a.put o.dst u) w) : o.wp P a w K Q := by
  unfold Oper.wp
  rw [h]
  exact hK
theorem seqA_sound (hC : CallOk P call) {ops : Array Oper} {Q : Exit → Act → World → Prop} : ∀ (os : List Oper) (env : Env) (σ : AS) (a : Act) (w : World) (ρ : Rho) (env' : Env) (σ' : AS), SR ρ σ w → ER ρ w env a.tmps → a.defers = [] →
    seqA P cx call ops.toList os env σ = some (env', σ') →
    (∀ a' w' ρ', Ext ρ w ρ' w' → SR ρ' σ' w' → ER ρ' w' env' a'.tmps → a'.defers = [] → Q .normal a' w') → wpList P ops Q os a w
  | [], env, σ, a, w, ρ, env', σ', s, hE, hd, h, hQ => by
    simp only [seqA, Option.some.injEq, Prod.mk.injEq] at h
    obtain ⟨rfl, rfl⟩ := h
    exact hQ a w ρ (Ext.refl _ _) s hE hd
  | o :: os, env, σ, a, w, ρ, env', σ', s, hE, hd, h, hQ => by
    have ih := seqA_sound hC (ops := ops) (Q := Q) os
    have hdp : ∀ u, (a.put o.dst u).defers = [] := fun u => by cases hh : o.dst <;> simp [Act.put, hd]
    simp only [seqA] at h
    unfold wpList
    rw [← wantedA_eq hE ops o]
    split at h
    · rename_i hw
      rw [if_pos hw]
      refine .inl ?_
      split at h
      · split at h
        · rename_i hv hopt
          split at h
          · rename_i v hva
            obtain ⟨u, h1, h2⟩ := valA_sound (P := P) s hE hopt hva
            exact wp_value h1 (ih _ _ _ _ ρ _ _ s (hE.put h2) (hdp u) h hQ)
          · cases h
        · cases h
      · split at h
        · rename_i v σ1 he
          refine effA_sound hC s hE he fun u w' ρ' x s' v' => ?_
          exact ih _ _ _ _ ρ' _ _ s' ((hE.mono x).put v') (hdp u) h (fun a' w2 ρ2 x2 => hQ a' w2 ρ2 (x.trans x2))
        · cases h
    · rename_i hw
      rw [if_neg hw]
      exact ih _ _ _ _ ρ _ _ s (hE.put VR.undef) (hdp undef) h hQ
theorem seqA_beh (hC : CallOk P call) {all : List Oper} : ∀ (os : List Oper) (env : Env) (σ : AS) (env' : Env) (σ' : AS), seqA P cx call all os env σ = some (env', σ') → cx.h ≤ σ.st.length → Beh cx.h cx.ro σ σ'
  | [], env, σ, env', σ', h, _ => by
    simp only [seqA, Option.some.injEq, Prod.mk.injEq] at h
    obtain ⟨rfl, rfl⟩ := h
    exact Beh.refl _ _ _
  | o :: os, env, σ, env', σ', h, hh => by
    have ih := seqA_beh hC (all := all) os
    simp only [seqA] at h
    split at h
    · split at h
      · split at h
        · split at h
          · exact ih _ _ _ _ h hh
          · cases h
        · cases h
      · split at h
        · rename_i v σ1 he
          have b1 := effA_beh hC he hh
          exact b1.trans (ih _ _ _ _ h (Nat.le_trans hh b1.len))
        · cases h
    · exact ih _ _ _ _ h hh
end
end Go.Abs
end
