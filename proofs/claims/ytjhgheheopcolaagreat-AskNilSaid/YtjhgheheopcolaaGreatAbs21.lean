/- Maps; slices that are made. -/
import Derived.Test.YtjhgheheopcolaaGreatAbs20
set_option linter.unusedVariables false
set_option linter.unusedSimpArgs false
namespace Go.Abs
section
variable {P : Program} {cx : Cx}

theorem copyB_sound {ρ : Rho} {σ σ' : AS} {w : World} (s : SR ρ σ w) {t : TypeId} {ats : Array TypeId} {d x c : AV} {ud ux : Value} {ty : TypeId} (hd : VR ρ w d ud) (hx : VR ρ w x ux) (ht : ats[0]? = some t)
    (h : copyB P cx σ t d x = some (c, σ')) : Eff P ρ w σ' c (Builtin.copy_ ats ty #[ud, ux]) := by
  unfold copyB at h
  split at h
  · rename_i e he
    split at h
    · rename_i n hn
      split at h
      · rename_i hc
        obtain ⟨h1, h2, h3⟩ := hc
        refine copyA_sound (P := P) (cx := cx) s hd hx ht he (fun L v off len hdr es sz v' fro hg => ?_) (by simp [hn]) (by simpa [hn] using h2) (by simpa [hn] using h1) h
        subst hdr
        simp only [rowSz, hg, decide_eq_true_eq] at h3
        rw [hn, h3]
      · cases h
    · cases h
  · cases h

theorem keyEq_same {k a : AV} {u v : Value} {ρ : Rho} {w : World} (hu : VR ρ w k u) (hv : VR ρ w a v) (h : keyEq k a = some true) : Instr.sameBits 10000 v u = true := by
  unfold keyEq at h
  split at h
  · split at h
    · rename_i hk
      simp only [Option.some.injEq, beq_iff_eq] at h
      subst h; subst hk
      cases hu; cases hv
      simp [Instr.sameBits]
    · cases h
  · simp only [Option.some.injEq] at h
    cases hu; cases hv
    simp only [Instr.sameBits, beqB]
    unfold beqS at h ⊢
    rw [beq_iff_eq] at h ⊢
    exact h.symm
  · simp only [Option.some.injEq, beq_iff_eq] at h
    subst h
    cases hu; cases hv
    simp [Instr.sameBits]
  · cases h

theorem keyEq_eq {k a : AV} {u v : Value} {ρ : Rho} {w : World} (hu : VR ρ w k u) (hv : VR ρ w a v) (h : keyEq k a = some true) : v = u := by
  unfold keyEq at h
  split at h
  · split at h
    · rename_i hk
      simp only [Option.some.injEq, beq_iff_eq] at h
      subst h; subst hk
      cases hu; cases hv
      rfl
    · cases h
  · simp only [Option.some.injEq] at h
    cases hu; cases hv
    unfold beqS at h
    rw [beq_iff_eq] at h
    congr 1
    apply ByteArray.ext
    exact (Array.toList_inj.1 h).symm
  · simp only [Option.some.injEq, beq_iff_eq] at h
    subst h
    cases hu; cases hv
    rfl
  · cases h
theorem keyEq_ne {k a : AV} {u v : Value} {ρ : Rho} {w : World} (hu : VR ρ w k u) (hv : VR ρ w a v) (h : keyEq k a = some false) : v ≠ u := by
  unfold keyEq at h
  split at h
  · split at h
    · rename_i hk
      cases hu; cases hv
      simp only [Option.some.injEq, beq_eq_false_iff_ne, ne_eq] at h
      intro he
      cases he
      exact h rfl
    · cases h
  · cases hu; cases hv
    simp only [Option.some.injEq, beqS, beq_eq_false_iff_ne, ne_eq] at h
    intro he
    cases he
    exact h rfl
  · cases hu; cases hv
    simp only [Option.some.injEq, beq_eq_false_iff_ne, ne_eq] at h
    intro he
    cases he
    exact h rfl
  · cases h

theorem find_put {ρ : Rho} {w : World} {kd : TypeDesc} {k v : AV} {u : Value} (hf : keyFits kd k = true) (hu : VR ρ w k u) : ∀ (es : List (AV × AV)) (ms : List MapEntry) (n : Nat) (es' : List (AV × AV)), EntriesR ρ w es ms → putA k v es = some es' →
    (Instr.findNow kd u ms n = some none ∧ es' = es ++ [(k, v)] ∧ ∀ m ∈ ms, m.key ≠ u) ∨ ∃ i x m, Instr.findNow kd u ms n = some (some (n + i, x)) ∧ ms[i]? = some m ∧ Instr.sameBits 10000 m.key u = true ∧ es' = es.set i (k, v) ∧ i < es.length ∧ m.key = u
  | [], ms, n, es', hE, h => by
    simp only [putA, Option.some.injEq] at h
    subst h
    have : ms = [] := by simpa using hE.1.symm
    subst this
    exact .inl ⟨rfl, rfl, by simp⟩
  | e :: es, [], n, es', hE, h => by have := hE.1; simp at this
  | e :: es, m :: ms, n, es', hE, h => by
    obtain ⟨i1, i2, v1, v2⟩ := hE.2 0 e m (by simp) (by simp)
    simp only [putA] at h
    split at h
    · rename_i hk
      cases h
      exact .inr ⟨0, m.val, m, by simp [Instr.findNow, keyEq_sameNow hf hu v1 hk], rfl, keyEq_same hu v1 hk, rfl, by simp, keyEq_eq hu v1 hk⟩
    · rename_i hk
      split at h
      · rename_i es1 hrec
        cases h
        rcases find_put hf hu es ms (n + 1) es1 hE.tail hrec with ⟨h1, h2, h6⟩ | ⟨i, x, m', h1, h2, h3, h4, h5, h6⟩
        · refine .inl ⟨by simp [Instr.findNow, keyEq_sameNow hf hu v1 hk, h1], by rw [h2]; rfl, fun m' hm' => ?_⟩
          rcases List.mem_cons.1 hm' with rfl | hm'
          · exact keyEq_ne hu v1 hk
          · exact h6 m' hm'
        · refine .inr ⟨i + 1, x, m', ?_, by simpa using h2, h3, by rw [h4]; rfl, by simpa using h5, h6⟩
          simp only [Instr.findNow, keyEq_sameNow hf hu v1 hk, h1]
          congr 3
          omega
      · cases h
    · cases h

theorem find_drop {ρ : Rho} {w : World} {kd : TypeDesc} {k : AV} {u : Value} (hf : keyFits kd k = true) (hu : VR ρ w k u) : ∀ (es : List (AV × AV)) (ms : List MapEntry) (n : Nat) (es' : List (AV × AV)), EntriesR ρ w es ms → dropA k es = some es' →
    (Instr.findNow kd u ms n = some none ∧ es' = es) ∨ ∃ i x, Instr.findNow kd u ms n = some (some (n + i, x)) ∧ es' = es.eraseIdx i ∧ i < es.length
  | [], ms, n, es', hE, h => by
    simp only [dropA, Option.some.injEq] at h
    subst h
    have : ms = [] := by simpa using hE.1.symm
    subst this
    exact .inl ⟨rfl, rfl⟩
  | e :: es, [], n, es', hE, h => by have := hE.1; simp at this
  | e :: es, m :: ms, n, es', hE, h => by
    obtain ⟨i1, i2, v1, v2⟩ := hE.2 0 e m (by simp) (by simp)
    simp only [dropA] at h
    split at h
    · rename_i hk
      cases h
      exact .inr ⟨0, m.val, by simp [Instr.findNow, keyEq_sameNow hf hu v1 hk], by simp, by simp⟩
    · rename_i hk
      split at h
      · rename_i es1 hrec
        cases h
        rcases find_drop hf hu es ms (n + 1) es1 hE.tail hrec with ⟨h1, h2⟩ | ⟨i, x, h1, h4, h5⟩
        · exact .inl ⟨by simp [Instr.findNow, keyEq_sameNow hf hu v1 hk, h1], by rw [h2]⟩
        · refine .inr ⟨i + 1, x, ?_, by rw [h4]; simp, by simpa using h5⟩
          simp only [Instr.findNow, keyEq_sameNow hf hu v1 hk, h1]
          congr 3
          omega
      · cases h
    · cases h

/-- A map is written. -/
theorem SR.setMap {ρ : Rho} {σ : AS} {w : World} (s : SR ρ σ w) {L : Loc} {p : Place} (hp : ρ L = some p) (hl : p.live = true) (hr : p.row = false) {es' : List (AV × AV)} {arr' : Array MapEntry} {clock' : Nat} {o : Obj} (ho : w.heap[p.b]? = some o)
    (hst : MapKept.Stamped arr' clock') (hE : EntriesR ρ w es' arr'.toList) : ∃ ρ', Ext ρ w ρ' { w with heap := w.heap.setIfInBounds p.b (.map arr' clock') } ∧ SR ρ' (σ.set L (.map es')) { w with heap := w.heap.setIfInBounds p.b (.map arr' clock') } := by
  have hlt : p.b < w.heap.size := (Array.getElem?_eq_some_iff.1 ho).1
  have := s.write (w' := { w with heap := w.heap.setIfInBounds p.b (.map arr' clock') }) (ob' := .map es') (p' := p) hp hl rfl (Nat.le_refl _) (fun _ => ⟨rfl, rfl, rfl, rfl⟩) (fun _ => rfl) (.inl rfl)
    (fun b _ hb => by simp only [Array.getElem?_setIfInBounds]; rw [if_neg (fun e => hb e.symm)]) (by simp) rfl rfl rfl (fun i cs _ h => by cases h)
    (fun x => ⟨hl, hr, arr', clock', by simp [hlt], by simpa using hE.1, hst, fun i e m he hm => ?_⟩)
  · exact ⟨_, this.2, this.1⟩
  · obtain ⟨i1, i2, v1, v2⟩ := hE.2 i e m he (by simpa using hm)
    exact ⟨i1, i2, v1.mono x, v2.mono x⟩

theorem run_setObj {w : World} {b : Nat} {arr : Array MapEntry} {clock : Nat} (h : w.heap[b]? = some (.map arr clock)) (o : Obj) : (setObj b o).run P w = .ok () { w with heap := w.heap.setIfInBounds b o } := by
  simp [setObj, Sem.run, h]

theorem keyFits_inb {kd : TypeDesc} {k : AV} (h : keyFits kd k = true) : k.inb 0 = true := by
  cases kd <;> cases k <;> simp [keyFits, AV.inb] at *

theorem withCells_VR {ρ : Rho} {w : World} {x x' : AV} {cs : List AV} {u : Value} (hx : ∃ ρ0 w0, VR ρ0 w0 x u) (h : x.withCells cs = some x') (hc : VRs ρ w cs u.cells.toList) : VR ρ w x' u := by
  obtain ⟨ρ0, w0, hx⟩ := hx
  unfold AV.withCells at h
  split at h
  · cases h
    cases hx with
    | agg _ vs l hv => exact .agg _ vs (by simpa [Value.cells] using hc.1) (fun i c v hi hv => hc.2 i c v hi (by simpa [Value.cells] using hv))
  · rename_i y c hne
    split at h
    · cases h
      have hu : u.cells.toList = [u] := by
        cases hx with
        | agg cs vs l hv => exact absurd rfl (hne _)
        | _ => rfl
      rw [hu] at hc
      exact hc.2 0 _ _ (by simp) (by simp)
    · cases h
  · cases h

theorem mapUpdateA_sound {ρ : Rho} {σ σ' : AS} {w : World} (s : SR ρ σ w) {t : TypeId} {m k x : AV} {um uk ux : Value} (hm : VR ρ w m um) (hk : VR ρ w k uk) (hx : VR ρ w x ux) (h : mapUpdateA P cx σ t m k x = some σ') :
    ∃ ρ' w', (Instr.mapUpdate t um uk ux).run P w = .ok () w' ∧ Ext ρ w ρ' w' ∧ SR ρ' σ' w' := by
  unfold mapUpdateA at h
  split at h
  · rename_i kt et ht
    split at h
    · rename_i kd hkd
      split at h
      · rename_i hf
        split at h
        · rename_i cs σ1 hfz
          obtain ⟨ρ1, x1, s1, v1⟩ := fzL_sound _ _ _ _ _ _ hfz s hx.cells
          split at h
          · rename_i v' L hwc
            split at h
            · rename_i es hg
              split at h
              · rename_i hcond
                split at h
                · rename_i es' hput
                  cases h
                  obtain ⟨p, arr, clock, hp, hr, hl, hw, hst, hE⟩ := map_obj s1.toSRo hg
                  have hm1 := hm.mono x1
                  cases hm1 with
                  | map _ p' hp' hr' =>
                    have : p' = p := Option.some.inj (hp'.symm.trans hp)
                    subst this
                    have hk1 := hk.mono x1
                    have hv' := withCells_VR ⟨ρ, w, hx⟩ hwc v1
                    have hgo : (getObj p'.b).run P w = .ok (.map arr clock) w := by simp [getObj, Sem.run, hw]
                    rcases find_put (v := v') hf hk1 es arr.toList 0 es' hE hput with ⟨h1, rfl, h6⟩ | ⟨i, y, m, h1, h2, h3, rfl, h5, h6⟩
                    · obtain ⟨ρ2, x2, s2⟩ := s1.setMap (es' := es ++ [(k, v')]) (arr' := arr.push { key := uk, val := ux, born := clock }) (clock' := clock + 1) hp hl hr hw (MapKept.stamped_push hst h6) (by
                        refine ⟨by simp [hE.1], fun i e m he hm => ?_⟩
                        have hlen := hE.1
                        simp only [Array.toList_push] at hm
                        rcases Nat.lt_or_ge i es.length with hi | hi
                        · rw [List.getElem?_append_left hi] at he
                          rw [List.getElem?_append_left (by omega)] at hm
                          exact hE.2 i e m he hm
                        · rw [List.getElem?_append_right hi] at he
                          rw [List.getElem?_append_right (by omega)] at hm
                          have hi0 : i - es.length = 0 := by
                            have := (List.getElem?_eq_some_iff.1 he).1
                            simp at this; omega
                          rw [hi0] at he
                          rw [← hlen, hi0] at hm
                          simp at he hm
                          subst he; subst hm
                          exact ⟨keyFits_inb hf, hcond.2, hk1, hv'⟩)
                      refine ⟨ρ2, _, ?_, x1.trans x2, s2⟩
                      simp [Instr.mapUpdate, run_underlying ht, hgo, checkKey_plain hkd hf hk, Instr.findKey, run_underlying hkd, h1, run_setObj hw]
                    · rw [Nat.zero_add] at h1
                      have h2' : arr[i]? = some m := by simpa using h2
                      obtain ⟨ρ2, x2, s2⟩ := s1.setMap (es' := es.set i (k, v')) (arr' := arr.modify i fun e => { e with key := uk, val := ux }) (clock' := clock) hp hl hr hw (MapKept.stamped_modify hst i _ (fun _ _ => rfl) (fun e _ he => by rw [h2'] at he; cases he; exact h6.symm)) (by
                        refine ⟨by simpa using hE.1, fun j e m' he hm' => ?_⟩
                        rw [List.getElem?_set] at he
                        rw [Array.getElem?_toList, Array.getElem?_modify] at hm'
                        by_cases hij : i = j
                        · subst hij
                          rw [if_pos rfl, if_pos h5] at he
                          rw [if_pos rfl, h2'] at hm'
                          simp at he hm'
                          subst he; subst hm'
                          exact ⟨keyFits_inb hf, hcond.2, hk1, hv'⟩
                        · rw [if_neg hij] at he hm'
                          exact hE.2 j e m' he (by simpa using hm'))
                      refine ⟨ρ2, _, ?_, x1.trans x2, s2⟩
                      simp [Instr.mapUpdate, run_underlying ht, hgo, checkKey_plain hkd hf hk, Instr.findKey, run_underlying hkd, h1, h2', Instr.keyThatStays, h3, run_setObj hw]
                · cases h
              · cases h
            · cases h
          · cases h
        · cases h
      · cases h
    · cases h
  · cases h

theorem deleteA_sound {ρ : Rho} {σ σ' : AS} {w : World} (s : SR ρ σ w) {t t2 : TypeId} {m k : AV} {um uk : Value} {ty : TypeId} (hm : VR ρ w m um) (hk : VR ρ w k uk) (h : deleteA P cx σ t m k = some σ') :
    Eff P ρ w σ' (.tup []) (Builtin.delete_ #[t, t2] ty #[um, uk]) := by
  have hundef : ∀ (ρ : Rho) (w : World), VR ρ w (.tup []) (.tuple #[]) := fun ρ w => .tup [] #[] rfl (fun i c v hc => by simp at hc)
  unfold deleteA at h
  split at h
  · rename_i kt et ht
    split at h
    · rename_i kd hkd
      split at h
      · rename_i hf
        split at h
        · cases h
          cases hm
          exact ⟨.tuple #[], w, ρ, by simp [Builtin.delete_, run_underlying ht, checkKey_plain hkd hf hk], Ext.refl _ _, s, hundef _ _⟩
        · rename_i L
          split at h
          · rename_i es hg
            split at h
            · split at h
              · rename_i es' hdrop
                cases h
                obtain ⟨p, arr, clock, hp, hr, hl, hw, hst, hE⟩ := map_obj s.toSRo hg
                cases hm with
                | map _ p' hp' hr' =>
                  have : p' = p := Option.some.inj (hp'.symm.trans hp)
                  subst this
                  have hgo : (getObj p'.b).run P w = .ok (.map arr clock) w := by simp [getObj, Sem.run, hw]
                  rcases find_drop hf hk es arr.toList 0 es' hE hdrop with ⟨h1, rfl⟩ | ⟨i, y, h1, rfl, h5⟩
                  · obtain ⟨ρ2, x2, s2⟩ := s.setMap (arr' := arr) (clock' := clock) hp hl hr hw hst hE
                    refine ⟨.tuple #[], _, ρ2, ?_, x2, s2, hundef _ _⟩
                    simp [Builtin.delete_, run_underlying ht, hgo, checkKey_plain hkd hf hk, Instr.findKey, run_underlying hkd, h1, run_setObj hw]
                  · rw [Nat.zero_add] at h1
                    obtain ⟨ρ2, x2, s2⟩ := s.setMap (es' := es.eraseIdx i) (arr' := arr.eraseIdxIfInBounds i) (clock' := clock) hp hl hr hw (MapKept.stamped_erase hst i) (by
                      have hlen := hE.1
                      have hia : i < arr.size := by simp at hlen; omega
                      have hto : (arr.eraseIdxIfInBounds i).toList = arr.toList.eraseIdx i := by
                        rw [Array.eraseIdxIfInBounds, dif_pos hia]; simp
                      rw [hto]
                      refine ⟨by simp [List.length_eraseIdx, hlen], fun j e m' he hm' => ?_⟩
                      rw [List.getElem?_eraseIdx] at he hm'
                      split at he
                      · rw [if_pos (by assumption)] at hm'; exact hE.2 j e m' he hm'
                      · rw [if_neg (by assumption)] at hm'; exact hE.2 (j + 1) e m' he hm')
                    refine ⟨.tuple #[], _, ρ2, ?_, x2, s2, hundef _ _⟩
                    simp [Builtin.delete_, run_underlying ht, hgo, checkKey_plain hkd hf hk, Instr.findKey, run_underlying hkd, h1, run_setObj hw]
              · cases h
            · cases h
          · cases h
        · cases h
      · cases h
    · cases h
  · cases h
end
end Go.Abs
