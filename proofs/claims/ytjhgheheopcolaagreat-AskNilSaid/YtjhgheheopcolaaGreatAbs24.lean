/- Operations that make objects, write them, or call; lists of operations. -/
import Derived.Test.YtjhgheheopcolaaGreatAbs23
set_option linter.unusedVariables false
set_option linter.unusedSimpArgs false
namespace Go.Abs

/-- What is asked of what stands for calls. -/
structure CallOk (P : Program) (call : Caller) : Prop where
  ent : ∀ f args σ ro r, call f args σ ro = some r → ∃ fn, P.funcs[f]? = some fn ∧ fn.body.isSome = true ∧ (fn.name == "runtime.NumGoroutine") = false
  snd : ∀ f args σ ro v σ', call f args σ ro = some (v, σ') → ∀ ρ w us, SR ρ σ w → VRs ρ w args us →
    Calls P f us.toArray w fun e w' => ∃ ρ' u, e = .returned u ∧ Ext ρ w ρ' w' ∧ SR ρ' σ' w' ∧ VR ρ' w' v u
  beh : ∀ f args σ ro v σ', call f args σ ro = some (v, σ') → Beh σ.st.length ro σ σ'

theorem VR.undef {ρ : Rho} {w : World} : VR ρ w (.tup []) undef := .tup [] #[] rfl (fun i c v hc => by simp at hc)

theorem VRs.append {ρ : Rho} {w : World} {xs ys : List AV} {us vs : List Value} (h : VRs ρ w xs us) (h' : VRs ρ w ys vs) : VRs ρ w (xs ++ ys) (us ++ vs) := by
  refine ⟨by simp [h.1, h'.1], fun i c v hc hv => ?_⟩
  have hl := h.1
  rcases Nat.lt_or_ge i xs.length with hi | hi
  · rw [List.getElem?_append_left hi] at hc
    rw [List.getElem?_append_left (by omega)] at hv
    exact h.2 i c v hc hv
  · rw [List.getElem?_append_right hi] at hc
    rw [List.getElem?_append_right (by omega), ← hl] at hv
    exact h'.2 _ c v hc hv

section
variable {P : Program} {cx : Cx} {call : Caller}

theorem callee_run {f : AV} {args : List AV} {g : FuncId} {gs : List AV} {ρ : Rho} {w : World} {uf : Value} {us : List Value} (hc : calleeA f args = some (g, gs)) (hf : VR ρ w f uf) (ha : VRs ρ w args us)
    {fn : Func} (h1 : P.funcs[g]? = some fn) (h2 : fn.body.isSome = true) (h3 : (fn.name == "runtime.NumGoroutine") = false) :
    ∃ vs : List Value, VRs ρ w gs vs ∧ (do let d ← Deferred.ofValue uf us.toArray; invoke d.target d.args : Sem Next).run P w = .ok (.enter g vs.toArray) w := by
  unfold calleeA at hc
  split at hc
  · rename_i g' first captured
    cases hc
    cases hf with
    | fn _ _ _ vs us' l1 l2 v1 v2 =>
      have hv1 : VRs ρ w first vs.toList := ⟨by simpa using l1, fun i c v hc hv => v1 i c v hc (by simpa using hv)⟩
      have hv2 : VRs ρ w captured us'.toList := ⟨by simpa using l2, fun i c v hc hv => v2 i c v hc (by simpa using hv)⟩
      refine ⟨vs.toList ++ us ++ us'.toList, (hv1.append ha).append hv2, ?_⟩
      have hb : ¬ fn.body = none := by intro h; rw [h] at h2; cases h2
      have h3' : ¬ fn.name = "runtime.NumGoroutine" := by simpa using h3
      have harr : vs ++ us.toArray ++ us' = (vs.toList ++ us ++ us'.toList).toArray := by apply Array.ext'; simp
      simp [Deferred.ofValue, invoke, callFunc, h1, h3', hb]
  · cases hc

set_option maxHeartbeats 1000000 in
theorem effA_sound (hC : CallOk P call) {ρ : Rho} {σ σ' : AS} {w : World} (s : SR ρ σ w) {env : Env} {a : Act} (hE : ER ρ w env a.tmps) {o : Oper} {c : AV} (h : effA P cx call σ env o = some (c, σ'))
    {K : Act → World → Prop} {Q : Exit → Act → World → Prop} (hK : ∀ u w' ρ', Ext ρ w ρ' w' → SR ρ' σ' w' → VR ρ' w' c u → K (a.put o.dst u) w') : o.wp P a w K Q := by
  have ofEff : ∀ m : Sem Value, Eff P ρ w σ' c m → execOp a.eval o = (do pure (.value (← m))) → o.wp P a w K Q := by
    intro m ⟨u, w', ρ', h1, h2, h3, h4⟩ he
    unfold Oper.wp
    rw [he, Sem.run_bind, h1]
    exact hK u w' ρ' h2 h3 h4
  have ofUnit : ∀ m : Sem Unit, (∃ ρ' w', m.run P w = .ok () w' ∧ Ext ρ w ρ' w' ∧ SR ρ' σ' w') → c = .tup [] → execOp a.eval o = (do m; pure .skip) → o.wp P a w K Q := by
    intro m ⟨ρ', w', h1, h2, h3⟩ hcc he
    subst hcc
    unfold Oper.wp
    rw [he, Sem.run_bind, h1]
    exact hK undef w' ρ' h2 h3 VR.undef
  unfold effA at h
  split at h
  · rename_i t hop
    split at h
    · rename_i z d hz hd
      exact ofEff _ (alloc_eff s hz h) (by simp [execOp, hop])
    · cases h
  · rename_i t x hop
    split at h
    · rename_i v d hv hd
      exact ofEff _ (box_eff (t := t) s (ev_sound hE hv) h) (by simp [execOp, hop])
    · cases h
  · rename_i t n parts hop
    split at h
    · rename_i ps hps
      obtain ⟨e1, e2⟩ := evps_sound hE hps
      have e3 : (parts.map fun (i, x) => (i, a.eval x)) = (parts.toList.map fun p => (p.1, a.eval p.2)).toArray := by
        apply Array.ext'; simp
      exact ofEff _ (buildSliceA_sound s (us := parts.toList.map fun p => (p.1, a.eval p.2)) (by rw [List.map_map]; exact e1) (by rw [List.map_map]; exact e2) h) (by simp only [execOp, hop, e3])
    · cases h
  · rename_i t p x hop
    split at h
    · rename_i pv xv hp hx
      split at h
      · rename_i σ1 hst
        simp only [Option.some.injEq, Prod.mk.injEq] at h
        obtain ⟨rfl, rfl⟩ := h
        exact ofUnit _ (storeA_sound s (ev_sound hE hp) (ev_sound hE hx) hst) rfl (by simp [execOp, hop])
      · cases h
    · cases h
  · rename_i t hop
    split at h
    · rename_i k e d ht hd
      split at h
      · cases h
      · simp only [Option.some.injEq, Prod.mk.injEq] at h
        obtain ⟨rfl, rfl⟩ := h
        exact ofEff _ (makeMapA_sound s _ t) (by simp [execOp, hop])
    · cases h
  · rename_i t l m hop
    split at h
    · rename_i lv mv hl hm
      exact ofEff _ (makeSliceA_sound s (ev_sound hE hl) (ev_sound hE hm) h) (by simp [execOp, hop])
    · cases h
  · rename_i t m k x hop
    split at h
    · rename_i mv kv xv hm hk hx
      split at h
      · rename_i σ1 hmu
        simp only [Option.some.injEq, Prod.mk.injEq] at h
        obtain ⟨rfl, rfl⟩ := h
        exact ofUnit _ (mapUpdateA_sound s (ev_sound hE hm) (ev_sound hE hk) (ev_sound hE hx) hmu) rfl (by simp [execOp, hop])
      · cases h
    · cases h
  · rename_i t m k x hop
    split at h
    · rename_i mv kv xv hm hk hx
      split at h
      · rename_i σ1 hmu
        simp only [Option.some.injEq, Prod.mk.injEq] at h
        obtain ⟨rfl, rfl⟩ := h
        exact ofUnit _ (mapUpdateA_sound s (ev_sound hE hm) (ev_sound hE hk) (ev_sound hE hx) hmu) rfl (by simp [execOp, hop])
      · cases h
    · cases h
  · rename_i src dst x hop
    split at h
    · rename_i e str h1 h2 hx
      split at h
      · rename_i he hsz
        simp only [Option.some.injEq, Prod.mk.injEq] at h
        obtain ⟨rfl, rfl⟩ := h
        have hxv := (ev_sound hE hx).str_inv
        exact ofEff _ (strBytes_sound s h1 h2 he str) (by simp [execOp, hop, hxv])
      · cases h
    · cases h
  · rename_i t x hop
    split at h
    · rename_i kt et ht hx
      cases h
      exact ofEff _ (rangeA_sound s ht (ev_sound hE hx) rfl (.inl rfl)) (by simp [execOp, hop])
    · rename_i kt et i ht hx
      split at h
      · rename_i es hg
        cases h
        exact ofEff _ (rangeA_sound s ht (ev_sound hE hx) rfl (.inr ⟨_, _, rfl, hg⟩)) (by simp [execOp, hop])
      · cases h
    · cases h
  · rename_i x hop
    split at h
    · rename_i L hx
      split at h
      · rename_i hg
        cases h
        exact ofEff _ (nextA_sound s hg (.inl rfl) (ev_sound hE hx) o.type) (by simp [execOp, hop])
      · rename_i M hg
        split at h
        · rename_i hgM
          cases h
          exact ofEff _ (nextA_sound s hg (.inr ⟨_, rfl, hgM⟩) (ev_sound hE hx) o.type) (by simp [execOp, hop])
        · cases h
      · cases h
    · cases h
  · rename_i b args ats hop
    split at h
    · rename_i xs hx
      have hvs := evs_sound hE hx
      have hargs : (args.map a.eval) = (args.toList.map a.eval).toArray := by apply Array.ext'; simp
      split at h
      · rename_i sa xa hb1
        obtain ⟨u1, l1, e1, v1, hvs1⟩ := hvs.cons_inv
        obtain ⟨u2, l2, e2, v2, hvs2⟩ := hvs1.cons_inv
        have hl2 : l2 = [] := by simpa using hvs2.1.symm
        rw [e1, e2, hl2] at hargs
        split at h
        · rename_i r hap
          cases h
          refine ofEff _ (appendA_sound (ty := o.type) s v1 v2 hap) ?_
          simp [execOp, hop, resolve, hargs, invoke, builtin]
        · refine ofEff _ (appendZA_sound (ty := o.type) s v1 v2 h) ?_
          simp [execOp, hop, resolve, hargs, invoke, builtin]
      · rename_i da xa t ts hb1
        obtain ⟨u1, l1, e1, v1, hvs1⟩ := hvs.cons_inv
        obtain ⟨u2, l2, e2, v2, hvs2⟩ := hvs1.cons_inv
        have hl2 : l2 = [] := by simpa using hvs2.1.symm
        rw [e1, e2, hl2] at hargs
        have hat : ats[0]? = some t := by rw [← Array.getElem?_toList, hb1]; rfl
        refine ofEff _ (copyB_sound (ty := o.type) s v1 v2 hat h) ?_
        simp [execOp, hop, resolve, hargs, invoke, builtin]
      · rename_i xa t hb1
        obtain ⟨u1, l1, e1, v1, hvs1⟩ := hvs.cons_inv
        have hl1 : l1 = [] := by simpa using hvs1.1.symm
        rw [e1, hl1] at hargs
        have hat : ats = #[t] := by apply Array.ext'; rw [hb1]
        subst hat
        split at h
        · rename_i σ1 hcl
          simp only [Option.some.injEq, Prod.mk.injEq] at h
          obtain ⟨rfl, rfl⟩ := h
          refine ofEff _ (clearA_sound (ty := o.type) s v1 hcl) ?_
          simp [execOp, hop, resolve, hargs, invoke, builtin]
        · cases h
      · rename_i ma ka t t2 hb1
        obtain ⟨u1, l1, e1, v1, hvs1⟩ := hvs.cons_inv
        obtain ⟨u2, l2, e2, v2, hvs2⟩ := hvs1.cons_inv
        have hl2 : l2 = [] := by simpa using hvs2.1.symm
        rw [e1, e2, hl2] at hargs
        have hat : ats = #[t, t2] := by apply Array.ext'; rw [hb1]
        subst hat
        split at h
        · rename_i σ1 hde
          simp only [Option.some.injEq, Prod.mk.injEq] at h
          obtain ⟨rfl, rfl⟩ := h
          refine ofEff _ (deleteA_sound (ty := o.type) (t2 := t2) s v1 v2 hde) ?_
          simp [execOp, hop, resolve, hargs, invoke, builtin]
        · cases h
      · cases h
    · cases h
  · rename_i f args ats hop
    split at h
    · rename_i fv xs hf hx
      split at h
      · rename_i g gs hcal
        obtain ⟨fn, f1, f2, f3⟩ := hC.ent _ _ _ _ _ h
        have hargs : (args.map a.eval) = (args.toList.map a.eval).toArray := by apply Array.ext'; simp
        obtain ⟨vs, hvs, hrun⟩ := callee_run (P := P) hcal (ev_sound hE hf) (evs_sound hE hx) f1 f2 f3
        unfold Oper.wp
        have : (execOp a.eval o) = (do let d ← Deferred.ofValue (a.eval f) (args.toList.map a.eval).toArray; invoke d.target d.args : Sem Next) := by
          simp only [execOp, hop, resolve, hargs]
        rw [this, hrun]
        refine (hC.snd _ _ _ _ _ _ h ρ w vs s hvs).mono fun e w' ⟨ρ', u, he, x, s', v'⟩ => ?_
        subst he
        exact hK u w' ρ' x s' v'
      · cases h
    · cases h
  · cases h

theorem appendZA_beh {σ σ' : AS} {ts : List TypeId} {a x c : AV} (h : appendZA P σ ts a x = some (c, σ')) (hh : cx.h ≤ σ.st.length) : Beh cx.h cx.ro σ σ' := by
  unfold appendZA at h
  repeat' split at h
  all_goals first | (cases h; done) | (simp only [Option.some.injEq, Prod.mk.injEq] at h; rw [← h.2]; exact Beh.push (fun h => by cases h) hh)
theorem effA_beh (hC : CallOk P call) {σ σ' : AS} {env : Env} {o : Oper} {c : AV} (h : effA P cx call σ env o = some (c, σ')) (hh : cx.h ≤ σ.st.length) : Beh cx.h cx.ro σ σ' := by
  unfold effA at h
  split at h
  · split at h
    · exact pushA_beh h hh
    · cases h
  · split at h
    · exact pushA_beh h hh
    · cases h
  · split at h
    · exact buildSliceA_beh h hh
    · cases h
  · split at h
    · split at h
      · rename_i σ1 hst
        simp only [Option.some.injEq, Prod.mk.injEq] at h
        rw [← h.2]; exact storeA_beh hst
      · cases h
    · cases h
  · split at h
    · rename_i k e d ht hd
      split at h
      · cases h
      · rename_i hne
        simp only [Option.some.injEq, Prod.mk.injEq] at h
        rw [← h.2]
        exact Beh.push (fun he => by
          cases hr : cx.ro.isNone with
          | true => rfl
          | false => exact absurd ⟨he, hr⟩ hne) hh
    · cases h
  · split at h
    · exact makeSliceA_beh h hh
    · cases h
  · split at h
    · split at h
      · rename_i σ1 hst
        simp only [Option.some.injEq, Prod.mk.injEq] at h
        rw [← h.2]; exact mapUpdateA_beh hst
      · cases h
    · cases h
  · split at h
    · split at h
      · rename_i σ1 hst
        simp only [Option.some.injEq, Prod.mk.injEq] at h
        rw [← h.2]; exact mapUpdateA_beh hst
      · cases h
    · cases h
  · split at h
    · split at h
      · simp only [Option.some.injEq, Prod.mk.injEq] at h
        rw [← h.2]; exact Beh.push (fun h => by cases h) hh
      · cases h
    · cases h
  · split at h
    · simp only [Option.some.injEq, Prod.mk.injEq] at h
      rw [← h.2]; exact Beh.push (fun h => by cases h) hh
    · split at h
      · simp only [Option.some.injEq, Prod.mk.injEq] at h
        rw [← h.2]; exact Beh.push (fun h => by cases h) hh
      · cases h
    · cases h
  · split at h
    · split at h
      · cases h; exact Beh.refl _ _ _
      · split at h
        · cases h; exact Beh.refl _ _ _
        · cases h
      · cases h
    · cases h
  · split at h
    · split at h
      · split at h
        · rename_i hap
          cases h
          exact appendA_beh hap hh
        · exact appendZA_beh h hh
      · exact copyB_beh h
      · split at h
        · rename_i σ1 hst
          simp only [Option.some.injEq, Prod.mk.injEq] at h
          rw [← h.2]; exact clearA_beh hst
        · cases h
      · split at h
        · rename_i σ1 hst
          simp only [Option.some.injEq, Prod.mk.injEq] at h
          rw [← h.2]; exact deleteA_beh hst
        · cases h
      · cases h
    · cases h
  · split at h
    · split at h
      · exact (hC.beh _ _ _ _ _ _ h).le hh
      · cases h
    · cases h
  · cases h

theorem yieldedA_eq {ρ : Rho} {w : World} {env : Env} {tmps : Array Value} (hE : ER ρ w env tmps) (ops : Array Oper) (j : Nat) : yieldedA ops.toList env j = yielded ops tmps j := by
  unfold yieldedA yielded
  rw [Array.getElem?_toList]
  cases hd : (ops[j]?).bind (·.dst) with
  | none => simp
  | some d =>
    have hg := hE.get d
    simp only [Option.bind_some]
    cases ht : tmps[d]? with
    | none =>
      have : tmps.getD d undef = undef := by simp [Array.getD_eq_getD_getElem?, ht]
      rw [this] at hg
      cases hv : env.get d <;> simp
      rw [hv] at hg
      cases hg
    | some u =>
      have : tmps.getD d undef = u := by simp [Array.getD_eq_getD_getElem?, ht]
      rw [this] at hg
      generalize env.get d = c at hg
      cases hg <;> rfl

theorem wantedA_eq {ρ : Rho} {w : World} {env : Env} {tmps : Array Value} (hE : ER ρ w env tmps) (ops : Array Oper) (o : Oper) : wantedA ops.toList env o = Region.wanted o (yielded ops tmps) := by
  unfold wantedA Region.wanted
  split
  · simp [*]
  · rename_i j want hg
    simp [hg, yieldedA_eq hE]

theorem wp_value {o : Oper} {a : Act} {w : World} {u : Value} (h : (execOp a.eval o).run P w = .ok (.value u) w) {K : Act → World → Prop} {Q : Exit → Act → World → Prop} (hK : K (a.put o.dst u) w) : o.wp P a w K Q := by
  unfold Oper.wp
  rw [h]
  exact hK

/-- One operation behind the other. -/
theorem seqA_sound (hC : CallOk P call) {ops : Array Oper} {Q : Exit → Act → World → Prop} : ∀ (os : List Oper) (env : Env) (σ : AS) (a : Act) (w : World) (ρ : Rho) (env' : Env) (σ' : AS), SR ρ σ w → ER ρ w env a.tmps → a.defers = [] →
    seqA P cx call ops.toList os env σ = some (env', σ') →
    (∀ a' w' ρ', Ext ρ w ρ' w' → SR ρ' σ' w' → ER ρ' w' env' a'.tmps → a'.defers = [] → Q .normal a' w') → wpList P ops Q os a w
  | [], env, σ, a, w, ρ, env', σ', s, hE, hd, h, hQ => by
    simp only [seqA, Option.some.injEq, Prod.mk.injEq] at h
    obtain ⟨rfl, rfl⟩ := h
    exact hQ a w ρ (Ext.refl _ _) s hE hd
  | o :: os, env, σ, a, w, ρ, env', σ', s, hE, hd, h, hQ => by
    have ih := seqA_sound hC (ops := ops) (Q := Q) os
    have hdp : ∀ u, (a.put o.dst u).defers = [] := fun u => by cases hh : o.dst <;> simp [Act.put, hd]
    simp only [seqA] at h
    unfold wpList
    rw [← wantedA_eq hE ops o]
    split at h
    · rename_i hw
      rw [if_pos hw]
      refine .inl ?_
      split at h
      · split at h
        · rename_i hv hopt
          split at h
          · rename_i v hva
            obtain ⟨u, h1, h2⟩ := valA_sound (P := P) s hE hopt hva
            exact wp_value h1 (ih _ _ _ _ ρ _ _ s (hE.put h2) (hdp u) h hQ)
          · cases h
        · cases h
      · split at h
        · rename_i v σ1 he
          refine effA_sound hC s hE he fun u w' ρ' x s' v' => ?_
          exact ih _ _ _ _ ρ' _ _ s' ((hE.mono x).put v') (hdp u) h (fun a' w2 ρ2 x2 => hQ a' w2 ρ2 (x.trans x2))
        · cases h
    · rename_i hw
      rw [if_neg hw]
      exact ih _ _ _ _ ρ _ _ s (hE.put VR.undef) (hdp undef) h hQ

theorem seqA_beh (hC : CallOk P call) {all : List Oper} : ∀ (os : List Oper) (env : Env) (σ : AS) (env' : Env) (σ' : AS), seqA P cx call all os env σ = some (env', σ') → cx.h ≤ σ.st.length → Beh cx.h cx.ro σ σ'
  | [], env, σ, env', σ', h, _ => by
    simp only [seqA, Option.some.injEq, Prod.mk.injEq] at h
    obtain ⟨rfl, rfl⟩ := h
    exact Beh.refl _ _ _
  | o :: os, env, σ, env', σ', h, hh => by
    have ih := seqA_beh hC (all := all) os
    simp only [seqA] at h
    split at h
    · split at h
      · split at h
        · split at h
          · exact ih _ _ _ _ h hh
          · cases h
        · cases h
      · split at h
        · rename_i v σ1 he
          have b1 := effA_beh hC he hh
          exact b1.trans (ih _ _ _ _ h (Nat.le_trans hh b1.len))
        · cases h
    · exact ih _ _ _ _ h hh
end
end Go.Abs
