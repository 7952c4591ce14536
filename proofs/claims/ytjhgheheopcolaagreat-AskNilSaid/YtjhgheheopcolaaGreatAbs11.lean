/- Operations that only make a value, held against the model's own: all of them. -/
import Derived.Test.YtjhgheheopcolaaGreatAbs10
set_option linter.unusedVariables false
set_option linter.unusedSimpArgs false
namespace Go.Abs
section
variable {P : Program} {ρ : Rho} {w : World} {σ : AS}

theorem indexAddrA_sound (s : SRo ρ σ w) {t : TypeId} {a ix c : AV} {u v : Value} (hu : VR ρ w a u) (hi : VR ρ w ix v) (h : indexAddrA P σ t a ix = some c) :
    ∃ r, (Instr.indexAt t u v).run P w = .ok r w ∧ VR ρ w c r := by
  unfold indexAddrA at h
  split at h
  · rename_i k i
    cases hi
    split at h
    · rename_i h0
      split at h
      · rename_i n e L o ht
        split at h
        · rename_i sz hsz
          split at h
          · rename_i hlt
            cases h
            cases hu with
            | ptr _ _ p h1 h2 =>
              exact ⟨_, by simp [Instr.indexAt, asIntOf, run_underlying ht, h0, hlt, Instr.sureAddr, run_sizeA hsz, add_mk], .ptr L _ p h1 h2⟩
          · cases h
        · cases h
      · rename_i n e cs o ht
        split at h
        · rename_i sz hsz
          split at h
          · rename_i hlt
            cases h
            cases hu with
            | rptr _ _ b o0 g hb hfr h1 h2 h3 =>
              refine ⟨_, by simp [Instr.indexAt, asIntOf, run_underlying ht, h0, hlt, Instr.sureAddr, run_sizeA hsz, add_mk]; exact rfl, ?_⟩
              rw [Nat.add_assoc]
              exact .rptr cs _ b o0 g hb hfr h1 h2 h3
          · cases h
        · cases h
      · rename_i e full sz' es ht
        split at h
        · rename_i sz c' hsz hc'
          split at h
          · rename_i hh
            obtain ⟨rfl, hpos⟩ := hh
            cases h
            have hil : i.toNat < es.length := (List.getElem?_eq_some_iff.1 hc').1
            have hlt : i < es.length := by omega
            cases hu with
            | sl _ _ _ a cap f hc hfull hp hok h1 h2 =>
              obtain ⟨p1, p2, p3⟩ := hp (by intro e; rw [e] at hil; simp at hil)
              obtain ⟨b, o, sp⟩ := a
              simp only at p1
              subst p1
              refine ⟨_, by simp [Instr.indexAt, asIntOf, run_underlying ht, h0, hlt, run_sizeA hsz, add_mk]; exact rfl, ?_⟩
              have := VR.rptr (ρ := ρ) (w := w) c'.cells 0 b (o + i.toNat * sz') (fun j => f i.toNat j) p2 p3 (fun j c hj => h1 _ _ _ _ hc' hj) (fun j c hj => h2 _ _ _ _ hc' hj) (okE_inb (hok _ (getElem?_mem' hc')))
              rwa [Nat.add_zero] at this
          · cases h
        · cases h
      · rename_i e L vv off len ht
        split at h
        · rename_i sz es sz' v' fro hsz hg
          split at h
          · rename_i hh
            obtain ⟨rfl, rfl, hlt, hle⟩ := hh
            cases h
            obtain ⟨p, hp, hr, hv, hs, hpos, hcap, hok, hE⟩ := elemsAt_row s hg
            cases hu with
            | row _ _ _ _ p' a cap h' hr' hv' hl ha =>
              have : p' = p := Option.some.inj (h'.symm.trans hp)
              subst this
              obtain ⟨c1, c2⟩ := ha hv
              have := c2 (by omega)
              subst this
              refine ⟨_, by simp [Instr.indexAt, asIntOf, run_underlying ht, h0, hlt, run_sizeA hsz, add_mk]; exact rfl, ?_⟩
              refine .eptr L v' _ 0 p' _ h' hr (by omega) (fun _ => ?_)
              rw [hs, Nat.add_mul]; simp; omega
          · cases h
        · cases h
      · cases h
    · cases h
  · cases h

/-! ### Slices -/
/-- An operand that may be left out. -/
def OV (ρ : Rho) (w : World) : Option AV → Option Value → Prop
  | none, none => True
  | some a, some v => VR ρ w a v
  | _, _ => False

theorem OV.int {a : Option AV} {v : Option Value} (h : OV ρ w a v) {i : Option Int} (hi : intOf? a = some i) : (i = none ∧ v = none) ∨ ∃ k n, i = some n ∧ v = some (.int k n) := by
  cases a with
  | none => cases v with
    | none => simp only [intOf?, Option.some.injEq] at hi; exact .inl ⟨hi.symm, rfl⟩
    | some v => exact h.elim
  | some a => cases v with
    | none => exact h.elim
    | some v =>
      cases a <;> simp only [intOf?] at hi <;> first
        | (cases hi; done)
        | (simp only [Option.some.injEq] at hi
           have := VR.int_inv h
           exact .inr ⟨_, _, hi.symm, by rw [this]⟩)

theorem run_sliceBound {k : IntKind} {n : Int} {y : Nat} {code : BoundsCode} (h0 : 0 ≤ n) (h1 : n ≤ y) (w : World) : (Instr.sliceBound (.int k n) y code).run P w = .ok n.toNat w := by
  simp [Instr.sliceBound, asIntOf, h0, h1]

theorem boundsA_sound {len cap cap' : Nat} {lo hi mx : Option AV} {vlo vhi vmx : Option Value} {ilo ihi imx : Option Int} (hl : OV ρ w lo vlo) (hh : OV ρ w hi vhi) (hm : OV ρ w mx vmx)
    (e1 : intOf? lo = some ilo) (e2 : intOf? hi = some ihi) (e3 : intOf? mx = some imx) {l h m : Nat} (hb : boundsA len cap ilo ihi imx = some (l, h, m)) (hcap : cap ≤ cap') (hlen : len ≤ cap) (b : Bool) :
    (Instr.sliceBounds b len cap' vlo vhi vmx).run P w = .ok (l, h, if imx.isSome then m else cap') w ∧ l ≤ h ∧ h ≤ m ∧ m ≤ cap ∧ (imx = none → m = cap) := by
  have hml := hm.int e3
  have hhl := hh.int e2
  have hll := hl.int e1
  unfold boundsA at hb
  rcases hml with ⟨rfl, rfl⟩ | ⟨km, nm, rfl, rfl⟩
  · simp only at hb
    rcases hhl with ⟨rfl, rfl⟩ | ⟨kh, nh, rfl, rfl⟩
    · simp only [Option.isSome_none, Bool.false_eq_true, if_false] at hb
      rcases hll with ⟨rfl, rfl⟩ | ⟨kl, nl, rfl, rfl⟩
      · simp only [Option.some.injEq, Prod.mk.injEq] at hb
        obtain ⟨rfl, rfl, rfl⟩ := hb
        exact ⟨by simp [Instr.sliceBounds], by omega, hlen, Nat.le_refl _, fun _ => rfl⟩
      · simp only at hb
        split at hb
        · rename_i hc
          simp only [Option.some.injEq, Prod.mk.injEq] at hb
          obtain ⟨rfl, rfl, rfl⟩ := hb
          exact ⟨by simp [Instr.sliceBounds, run_sliceBound hc.1 hc.2], by omega, hlen, Nat.le_refl _, fun _ => rfl⟩
        · cases hb
    · simp only at hb
      split at hb
      · rename_i hmx hq
        split at hq
        · rename_i hc
          simp only [Option.some.injEq] at hq
          subst hq
          have hc' : nh ≤ (cap' : Int) := by omega
          rcases hll with ⟨rfl, rfl⟩ | ⟨kl, nl, rfl, rfl⟩
          · simp only [Option.some.injEq, Prod.mk.injEq] at hb
            obtain ⟨rfl, rfl, rfl⟩ := hb
            exact ⟨by simp [Instr.sliceBounds, run_sliceBound hc.1 hc'], by omega, by omega, Nat.le_refl _, fun _ => rfl⟩
          · simp only at hb
            split at hb
            · rename_i hd
              simp only [Option.some.injEq, Prod.mk.injEq] at hb
              obtain ⟨rfl, rfl, rfl⟩ := hb
              exact ⟨by simp [Instr.sliceBounds, run_sliceBound hc.1 hc', run_sliceBound hd.1 hd.2], by omega, by omega, Nat.le_refl _, fun _ => rfl⟩
            · cases hb
        · cases hq
      · cases hb
  · simp only at hb
    split at hb
    · rename_i m' hq
      split at hq
      · rename_i hcm
        simp only [Option.some.injEq] at hq
        subst hq
        have hcm' : nm ≤ (cap' : Int) := by omega
        rcases hhl with ⟨rfl, rfl⟩ | ⟨kh, nh, rfl, rfl⟩
        · simp at hb
        · simp only at hb
          split at hb
          · rename_i hmx hq
            split at hq
            · rename_i hc
              simp only [Option.some.injEq] at hq
              subst hq
              rcases hll with ⟨rfl, rfl⟩ | ⟨kl, nl, rfl, rfl⟩
              · simp only [Option.some.injEq, Prod.mk.injEq] at hb
                obtain ⟨rfl, rfl, rfl⟩ := hb
                exact ⟨by simp [Instr.sliceBounds, run_sliceBound hcm.1 hcm', run_sliceBound hc.1 hc.2], by omega, by omega, by omega, fun h => by cases h⟩
              · simp only at hb
                split at hb
                · rename_i hd
                  simp only [Option.some.injEq, Prod.mk.injEq] at hb
                  obtain ⟨rfl, rfl, rfl⟩ := hb
                  exact ⟨by simp [Instr.sliceBounds, run_sliceBound hcm.1 hcm', run_sliceBound hc.1 hc.2, run_sliceBound hd.1 hd.2], by omega, by omega, by omega, fun h => by cases h⟩
                · cases hb
            · cases hq
          · cases hb
      · cases hq
    · cases hb

theorem sliceA_sound (s : SRo ρ σ w) {t : TypeId} {a c : AV} {u : Value} (hu : VR ρ w a u) {lo hi mx : Option AV} {vlo vhi vmx : Option Value} (hl : OV ρ w lo vlo) (hh : OV ρ w hi vhi) (hm : OV ρ w mx vmx)
    (h : sliceA P σ t a lo hi mx = some c) : ∃ r, (Instr.sliceAt t u vlo vhi vmx).run P w = .ok r w ∧ VR ρ w c r := by
  unfold sliceA at h
  split at h
  · rename_i ilo ihi imx e1 e2 e3
    split at h
    · rename_i s' ht
      split at h
      · cases h
      · rename_i hmx
        split at h
        · rename_i l hh' m hb
          cases h
          cases hu
          have hm0 := hm.int e3
          rcases hm0 with ⟨rfl, rfl⟩ | ⟨k, n, rfl, rfl⟩
          · obtain ⟨g1, g2, g3, g4, g5⟩ := boundsA_sound (P := P) (cap' := s'.size) hl hh (mx := none) (vmx := none) trivial e1 e2 rfl hb (Nat.le_refl _) (Nat.le_refl _) false
            exact ⟨_, by simp [Instr.sliceAt, run_underlying ht, Instr.slice, g1], .str _⟩
          · simp at hmx
        · cases h
    · rename_i e ht
      split at h
      · rename_i hsz
        split at h
        · rename_i r hb
          cases h
          cases hu
          obtain ⟨l, h', m⟩ := r
          obtain ⟨g1, g2, g3, g4, g5⟩ := boundsA_sound (P := P) (cap' := 0) hl hh hm e1 e2 e3 hb (Nat.le_refl _) (Nat.le_refl _) true
          obtain ⟨sz, hsz⟩ := Option.isSome_iff_exists.1 hsz
          refine ⟨.slice none 0 0, ?_, .nils⟩
          simp [Instr.sliceAt, run_underlying ht, Instr.slice, g1, run_sizeA hsz]
          have hmm : m = 0 := by omega
          have hh0 : h' = 0 := by omega
          subst hmm
          subst hh0
          simp
        · cases h
      · cases h
    · rename_i e full sz es ht
      split at h
      · rename_i hsz
        split at h
        · rename_i l h' m hb
          cases h
          cases hu with
          | sl _ _ _ a cap f hc hfull hp hok h1 h2 =>
            obtain ⟨g1, g2, g3, g4, g5⟩ := boundsA_sound (P := P) (cap' := cap) hl hh hm e1 e2 e3 hb hc (Nat.le_refl _) true
            have hlen : ((es.drop l).take (h' - l)).length = h' - l := by simp; omega
            have hmc : m ≤ (if imx.isSome = true then m else cap) := by split <;> omega
            refine ⟨.slice (if (if imx.isSome = true then m else cap) = l then some a else some (a.add (l * sz))) (h' - l) ((if imx.isSome = true then m else cap) - l), by
              simp [Instr.sliceAt, run_underlying ht, Instr.slice, g1, run_sizeA hsz], ?_⟩
            have hok' : ∀ e ∈ (es.drop l).take (h' - l), okE sz e = true := fun e he => hok e (List.mem_of_mem_drop (List.mem_of_mem_take he))
            have hf : ((decide (h' = m)) && (imx.isSome || full)) = true → (if imx.isSome = true then m else cap) - l = ((es.drop l).take (h' - l)).length := fun hh => by
              rw [hlen]
              simp only [Bool.and_eq_true, decide_eq_true_eq, Bool.or_eq_true] at hh
              obtain ⟨rfl, hh⟩ := hh
              cases hix : imx with
              | some x => simp
              | none =>
                rw [hix] at hh
                have := hfull (by simpa using hh)
                have := g5 hix
                simp; omega
            by_cases hz : (if imx.isSome = true then m else cap) = l
            · rw [if_pos hz]
              have hnil : (es.drop l).take (h' - l) = [] := by
                have : h' - l = 0 := by omega
                rw [this]; simp
              have := VR.sl (ρ := ρ) (w := w) ((decide (h' = m)) && (imx.isSome || full)) sz ((es.drop l).take (h' - l)) a ((if imx.isSome = true then m else cap) - l) f (by rw [hlen]; omega) hf
                (fun hne => absurd hnil hne) hok' (fun i e j c hi => by rw [hnil] at hi; simp at hi) (fun i e j c hi => by rw [hnil] at hi; simp at hi)
              rwa [hlen] at this
            · rw [if_neg hz]
              have := VR.sl (ρ := ρ) (w := w) ((decide (h' = m)) && (imx.isSome || full)) sz ((es.drop l).take (h' - l)) (a.add (l * sz)) ((if imx.isSome = true then m else cap) - l) (fun i j => f (l + i) j) (by rw [hlen]; omega) hf
                (fun hne => ?_) hok' (fun i e j c hi hj => ?_) (fun i e j c hi hj => ?_)
              · rwa [hlen] at this
              · have hne' : es ≠ [] := by intro e; rw [e] at hne; simp at hne
                obtain ⟨p1, p2, p3⟩ := hp hne'
                obtain ⟨b, o, sp⟩ := a
                simp only at p1
                subst p1
                rw [add_mk]
                exact ⟨rfl, p2, p3⟩
              · rw [List.getElem?_take] at hi
                split at hi
                · rw [List.getElem?_drop] at hi
                  have hne' : es ≠ [] := by intro e; rw [e] at hi; simp at hi
                  obtain ⟨p1, p2, p3⟩ := hp hne'
                  obtain ⟨b, o, sp⟩ := a
                  simp only at p1
                  subst p1
                  rw [add_mk]
                  have := h1 _ _ _ _ hi hj
                  simp only at this ⊢
                  rw [← this, Nat.add_mul]
                  congr 2; omega
                · cases hi
              · rw [List.getElem?_take] at hi
                split at hi
                · rw [List.getElem?_drop] at hi
                  exact h2 _ _ _ _ hi hj
                · cases hi
        · cases h
      · cases h
    · rename_i e L v off len ht
      split at h
      · rename_i es sz v' fro hg
        split at h
        · rename_i hcond
          obtain ⟨rfl, hle, hsz⟩ := hcond
          split at h
          · rename_i l h' m hb
            obtain ⟨p, hp, hr, hv, hs, hpos, hcap, hok, hE⟩ := elemsAt_row s hg
            cases hu with
            | row _ _ _ _ p' a cap hL hr' hv' hl0 ha =>
              have : p' = p := Option.some.inj (hL.symm.trans hp)
              subst this
              obtain ⟨c1, c2⟩ := ha hv
              obtain ⟨g1, g2, g3, g4, g5⟩ := boundsA_sound (P := P) (cap' := cap) hl hh hm e1 e2 e3 hb (by omega) (by omega) true
              have hrun : (Instr.sliceAt t (.slice (some a) len cap) vlo vhi vmx).run P w = .ok (.slice (if (if imx.isSome = true then m else cap) = l then some a else some (a.add (l * sz))) (h' - l) ((if imx.isSome = true then m else cap) - l)) w := by
                simp [Instr.sliceAt, run_underlying ht, Instr.slice, g1, run_sizeA hsz]
              split at h
              · rename_i hnone
                cases h
                have him : imx = none := by cases imx <;> simp_all
                subst him
                simp only [Option.isSome_none, Bool.false_eq_true, if_false] at hrun
                refine ⟨_, hrun, ?_⟩
                have hm' := g5 rfl
                by_cases hz : cap = l
                · rw [if_pos hz]
                  exact .row L v' _ _ p' _ _ hL hr' hv' (by omega) (fun _ => ⟨by omega, fun h => by omega⟩)
                · rw [if_neg hz]
                  refine .row L v' _ _ p' _ _ hL hr' hv' (by omega) (fun _ => ⟨by omega, fun h => ?_⟩)
                  rw [c2 (by omega), add_mk, hs, Nat.add_mul, Nat.add_assoc]
              · rename_i hnone
                split at h
                · rename_i hlh
                  obtain ⟨rfl, rfl⟩ := hlh
                  cases h
                  have him : imx.isSome = true := by cases imx <;> simp_all
                  simp only [him, if_true, Nat.sub_self] at hrun
                  exact ⟨_, hrun, .sl true sz [] a 0 (fun _ _ => undef) (Nat.le_refl _) (fun _ => rfl) (fun h => absurd rfl h) (by simp) (fun i e j c hi => by simp at hi) (fun i e j c hi => by simp at hi)⟩
                · cases h
          · cases h
        · cases h
      · cases h
    · cases h
  · cases h
end
end Go.Abs
