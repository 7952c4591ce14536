/- Calls. -/
import Derived.Test.YtjhgheheopcolaaGreatAbs32
set_option linter.unusedVariables false
set_option linter.unusedSimpArgs false
namespace Go.Abs
section
variable {P : Program}

theorem Act.init_ER {ρ : Rho} {w : World} {fn : Func} {args : List AV} {us : List Value} (h : VRs ρ w args us) :
    ER ρ w (frameA fn args) (us.toArray ++ Array.replicate (fn.ntmps - us.toArray.size) undef) := by
  have hl := h.1
  refine ⟨by simp [frameA, hl], fun t c v hc hv => ?_⟩
  unfold frameA at hc
  rcases Nat.lt_or_ge t args.length with ht | ht
  · rw [List.getElem?_append_left ht] at hc
    rw [Array.getElem?_append_left (by simp; omega)] at hv
    exact h.2 t c v hc (by simpa using hv)
  · rw [List.getElem?_append_right ht] at hc
    rw [Array.getElem?_append_right (by simp; omega)] at hv
    have h1 := List.mem_replicate.1 (getElem?_mem' hc)
    have h2 : v = undef := by
      rw [Array.getElem?_replicate] at hv
      split at hv
      · simpa using hv.symm
      · cases hv
    rw [h1.2, h2]
    exact VR.undef

/-- What stands for a function whose text is not run. -/
structure PrimOk (P : Program) (f : FuncId) (p : List AV → AS → Option Nat → Option (AV × AS)) : Prop where
  ent : ∃ fn, P.funcs[f]? = some fn ∧ fn.body.isSome = true ∧ (fn.name == "runtime.NumGoroutine") = false
  snd : ∀ args σ ro v σ', p args σ ro = some (v, σ') → ∀ ρ w us, SR ρ σ w → VRs ρ w args us →
    Calls P f us.toArray w fun e w' => ∃ ρ' u, e = .returned u ∧ Ext ρ w ρ' w' ∧ SR ρ' σ' w' ∧ VR ρ' w' v u
  beh : ∀ args σ ro v σ', p args σ ro = some (v, σ') → Beh σ.st.length ro σ σ'

structure HowOk (P : Program) (how : FuncId → Option How) : Prop where
  body : ∀ f fl fn c, how f = some (.body fl) → P.funcs[f]? = some fn → fn.body = some c → codeOk P fl.tails c = true ∧ (fn.name == "runtime.NumGoroutine") = false
  prim : ∀ f p, how f = some (.prim p) → PrimOk P f p

theorem finishA_inv {fl : Flags} {fn : Func} {h : Nat} {r : Option (AExit × St)} {v : AV} {σ' : AS} (x : finishA P fl fn h r = some (v, σ')) :
    ∃ e env σ vs, r = some (e, env, σ) ∧ (e = .normal ∨ e = .ret) ∧ resA P σ env fn.results.toList = some vs ∧
      ((fl.keep = true ∧ v = oneA vs ∧ σ' = σ) ∨ ((oneA vs).back h σ = some v ∧ v.inb h = true ∧ σ' = σ.cut h)) := by
  unfold finishA at x
  split at x
  · cases x
  · rename_i e env σ hne
    split at x
    · rename_i vs hr
      refine ⟨e, env, σ, vs, rfl, ?_, hr, ?_⟩
      · cases e with
        | normal => exact .inl rfl
        | ret => exact .inr rfl
        | exit i => exact absurd rfl (hne i)
      · split at x
        · rename_i hk
          cases x
          exact .inl ⟨hk, rfl, rfl⟩
        · split at x
          · rename_i v' hb
            split at x
            · rename_i hi
              cases x
              exact .inr ⟨hb, hi, rfl⟩
            · cases x
          · cases x
    · cases x
  · cases x

theorem callN_inv {how : FuncId → Option How} {n : Nat} {f : FuncId} {args : List AV} {σ : AS} {ro : Option Nat} {r : AV × AS} (h : callN P how (n + 1) f args σ ro = some r) :
    (∃ p, how f = some (.prim p) ∧ p args σ ro = some r) ∨
    ∃ fl fn c, how f = some (.body fl) ∧ P.funcs[f]? = some fn ∧ fn.body = some c ∧ finishA P fl fn σ.st.length (execA P (cxOf fl σ ro) fl.tails (callN P how n) n c (frameA fn args, σ)) = some r := by
  simp only [callN] at h
  split at h
  · cases h
  · rename_i p hp
    exact .inl ⟨p, hp, h⟩
  · rename_i fl hfl
    split at h
    · cases h
    · rename_i fn hfn
      split at h
      · cases h
      · rename_i c hc
        exact .inr ⟨fl, fn, c, hfl, hfn, hc, h⟩

theorem callN_ok (hm : P.follows .mixedOrders = true) {how : FuncId → Option How} (hw : HowOk P how) : ∀ n, CallOk P (callN P how n)
  | 0 => ⟨fun f args σ ro r h => by simp [callN] at h, fun f args σ ro v σ' h => by simp [callN] at h, fun f args σ ro v σ' h => by simp [callN] at h⟩
  | n + 1 => by
    have ih := callN_ok hm hw n
    refine ⟨fun f args σ ro r h => ?_, fun f args σ ro v σ' h ρ w us s hv => ?_, fun f args σ ro v σ' h => ?_⟩
    · rcases callN_inv h with ⟨p, hp, _⟩ | ⟨fl, fn, c, hfl, hfn, hc, _⟩
      · exact (hw.prim f p hp).ent
      · exact ⟨fn, hfn, by rw [hc]; rfl, (hw.body f fl fn c hfl hfn hc).2⟩
    · rcases callN_inv h with ⟨p, hp, hr⟩ | ⟨fl, fn, c, hfl, hfn, hc, hr⟩
      · exact (hw.prim f p hp).snd args σ ro v σ' hr ρ w us s hv
      · obtain ⟨e, env, σ1, vs, hx, he, hres, hout⟩ := finishA_inv hr
        have hb := execA_beh (cx := cxOf fl σ ro) ih c _ _ e (Nat.le_refl _) hx
        refine calls_of_wp hfn hc (execA_sound hm ih c _ _ e _ w ρ (hw.body f fl fn c hfl hfn hc).1 s (Act.init_ER hv) rfl hx _ fun a' w' ρ' x' s' hE' hd' => ?_)
        obtain ⟨u, hu, vu⟩ := results_sound s'.toSRo hE' hres
        have key : ∃ ρ' u', Ending.returned u = .returned u' ∧ Ext ρ w ρ' w' ∧ SR ρ' σ' w' ∧ VR ρ' w' v u' := by
          rcases hout with ⟨_, rfl, rfl⟩ | ⟨hbk, hinb, rfl⟩
          · exact ⟨ρ', u, rfl, x', s', vu⟩
          · obtain ⟨ρ2, σ2, z, x2, s2, v2⟩ := back_sound _ _ _ _ _ s' vu hbk
            have hcut : σ2.cut σ.st.length = σ1.cut σ.st.length := by
              show AS.mk σ2.hp (σ2.st.take _) = AS.mk σ1.hp (σ1.st.take _)
              rw [z.1, z.2.2.1]
            have hinv1 : Inv σ.st.length σ1 := hb.inv _ (Nat.le_refl _) s.inv
            have hinv : Inv σ.st.length σ2 := fun i cs hi hg => by
              refine hinv1 i cs hi ?_
              have := congrArg (fun l : List AObj => l[i]?) z.2.2.1
              simp only [List.getElem?_take, if_pos hi] at this
              rw [← this]; exact hg
            exact ⟨ρ2.cut σ.st.length, u, rfl, (x'.trans x2).cut s.doml, hcut ▸ s2.cut hinv, v2.cut hinb⟩
        rcases he with rfl | rfl
        · exact ⟨hd', u, hu, key⟩
        · exact ⟨hd', u, hu, key⟩
    · rcases callN_inv h with ⟨p, hp, hr⟩ | ⟨fl, fn, c, hfl, hfn, hc, hr⟩
      · exact (hw.prim f p hp).beh args σ ro v σ' hr
      · obtain ⟨e, env, σ1, vs, hx, he, hres, hout⟩ := finishA_inv hr
        have hb := execA_beh (cx := cxOf fl σ ro) ih c _ _ e (Nat.le_refl _) hx
        rcases hout with ⟨_, rfl, rfl⟩ | ⟨hbk, hinb, rfl⟩
        · exact hb
        · refine ⟨fun k hk hi i cs hik hg => ?_, fun k hr hk => ?_, ?_⟩
          · refine hb.inv k hk hi i cs hik ?_
            have hk' : k ≤ σ.st.length := hk
            simp only [AS.cut, List.getElem?_take] at hg
            split at hg
            · exact hg
            · cases hg
          · obtain ⟨b1, b2⟩ := hb.ro k hr hk
            refine ⟨b1, ?_⟩
            simp only [AS.cut, List.take_take, Nat.min_eq_left hk]
            exact b2
          · have := hb.len
            simp only [AS.cut, List.length_take]
            have h2 : σ.st.length ≤ σ1.st.length := this
            omega
end
end Go.Abs
