/- Operations that only make a value, held against the model's own: the whole. -/
import Derived.Test.YtjhgheheopcolaaGreatAbs12
set_option linter.unusedVariables false
set_option linter.unusedSimpArgs false
namespace Go.Abs
section
variable {P : Program} {ρ : Rho} {w : World} {σ : AS}

theorem lenA_sound (s : SRo ρ σ w) {t ty : TypeId} {x : AV} {u : Value} {n : Nat} (hx : VR ρ w x u) (h : lenA P σ t x = some n) : (Builtin.len_ #[t] ty #[u]).run P w = .ok (.int .i64 n) w := by
  unfold lenA at h
  split at h
  · rename_i st ht; cases h; cases hx; simp [Builtin.len_, run_underlying ht, goInt]
  · rename_i m ht; cases h; simp [Builtin.len_, run_underlying ht, goInt]
  · rename_i e ht; cases h; cases hx; simp [Builtin.len_, run_underlying ht, goInt]
  · rename_i e ht; cases h; cases hx; simp [Builtin.len_, run_underlying ht, goInt]
  · rename_i e ht; cases h; cases hx; simp [Builtin.len_, run_underlying ht, goInt]
  · rename_i e ht; cases h; cases hx; simp [Builtin.len_, run_underlying ht, goInt]
  · rename_i k e L ht
    split at h
    · rename_i es hg
      cases h
      obtain ⟨p, arr, clock, hp, hr, hl, hw, _, hE⟩ := map_obj s hg
      cases hx with
      | map _ p' hp' hr' =>
        have : p' = p := Option.some.inj (hp'.symm.trans hp)
        subst this
        have hgo : (getObj p'.b).run P w = .ok (.map arr clock) w := by simp [getObj, Sem.run, hw]
        have hl := hE.1
        simp only [Array.length_toList] at hl
        simp [Builtin.len_, run_underlying ht, goInt, hgo, hl]
    · cases h
  · cases h

theorem capA_sound {t ty : TypeId} {x : AV} {u : Value} {n : Nat} (hx : VR ρ w x u) (h : capA P t x = some n) : (Builtin.cap_ #[t] ty #[u]).run P w = .ok (.int .i64 n) w := by
  unfold capA at h
  split at h
  · rename_i m ht; cases h; simp [Builtin.cap_, run_underlying ht, goInt]
  · rename_i e ht; cases h; cases hx; simp [Builtin.cap_, run_underlying ht, goInt]
  · rename_i e sz es ht
    cases h
    cases hx with
    | sl _ _ _ a cap f hc hfull =>
      rw [hfull rfl]
      simp [Builtin.cap_, run_underlying ht, goInt]
  · cases h

theorem minMaxA_sound {mx : Bool} {xs : List AV} {us : List Value} {c : AV} (hx : VRs ρ w xs us) (h : minMaxA mx xs = some c) {at_ : Array TypeId} {ty : TypeId} :
    ∃ r, ((if mx then Builtin.max_ at_ ty us.toArray else Builtin.min_ at_ ty us.toArray) : Sem Value).run P w = .ok r w ∧ VR ρ w c r := by
  unfold minMaxA at h
  split at h
  · rename_i k a xs
    cases us with
    | nil => have := hx.1; simp at this
    | cons u us =>
      have h0 := (hx.2 0 (.int k a) u (by simp) (by simp)).int_inv
      subst h0
      have hx' : VRs ρ w xs us := ⟨by simpa using hx.1, fun i c v hc hv => hx.2 (i + 1) c v (by simpa using hc) (by simpa using hv)⟩
      clear hx
      have key : ∀ (xs : List AV) (us : List Value) (a : Int) (r : Int), VRs ρ w xs us → xs.foldl (mmStep mx k) (some a) = some r →
          (us.foldlM (if mx then Builtin.max2 else Builtin.min2) (.int k a) : Sem Value).run P w = .ok (.int k r) w := by
        intro xs
        induction xs with
        | nil =>
          intro us a r hv hf
          have : us = [] := by simpa using hv.1.symm
          subst this
          simp only [List.foldl_nil, Option.some.injEq] at hf
          subst hf
          simp
        | cons x xs ih =>
          intro us a r hv hf
          cases us with
          | nil => have := hv.1; simp at this
          | cons u us =>
            have hv' : VRs ρ w xs us := ⟨by simpa using hv.1, fun i c v hc hv2 => hv.2 (i + 1) c v (by simpa using hc) (by simpa using hv2)⟩
            simp only [List.foldl_cons] at hf
            have hno : ∀ l : List AV, l.foldl (mmStep mx k) none = none := by
              intro l
              induction l with
              | nil => rfl
              | cons y l ihl => simpa [mmStep] using ihl
            cases x <;> (try (simp only [mmStep] at hf; rw [hno] at hf; cases hf; done))
            rename_i k' b
            simp only [mmStep] at hf
            by_cases hk : k' = k
            · rw [if_pos hk] at hf
              subst hk
              have hu := (hv.2 0 (.int k' b) u (by simp) (by simp)).int_inv
              subst hu
              have := ih us _ r hv' hf
              simp only [List.foldlM_cons, Sem.run_bind]
              cases mx
              · simp only [Bool.false_eq_true, if_false] at this ⊢
                simp only [Builtin.min2, Sem.run_pure, Result.andThen_ok]
                exact this
              · simp only [if_true] at this ⊢
                simp only [Builtin.max2, Sem.run_pure, Result.andThen_ok]
                exact this
            · rw [if_neg hk, hno] at hf; cases hf
      cases hf : xs.foldl (mmStep mx k) (some a) with
      | none => rw [hf] at h; simp at h
      | some r =>
        rw [hf] at h
        simp only [Option.map_some, Option.some.injEq] at h
        subst h
        have := key xs us a r hx' hf
        refine ⟨.int k r, ?_, .int _ _⟩
        cases mx
        · simpa [Builtin.min_] using this
        · simpa [Builtin.max_] using this
  · cases h

theorem nilCheckA_sound {x c : AV} {u : Value} (hx : VR ρ w x u) (h : nilCheckA x = some c) {o : Oper} {e : Operand → Value} {y : Operand} (ho : o.op = .nilCheck y) (hu : e y = u) :
    (execOp e o).run P w = .ok (.value u) w ∧ VR ρ w c u := by
  unfold nilCheckA at h
  split at h
  · cases h; refine ⟨?_, hx⟩; cases hx; simp [execOp, ho, hu]
  · cases h; refine ⟨?_, hx⟩; cases hx; simp [execOp, ho, hu]
  · cases h; refine ⟨?_, hx⟩; cases hx; simp [execOp, ho, hu]
  · cases h; refine ⟨?_, hx⟩; cases hx; simp [execOp, ho, hu]
  · cases h

theorem optOV {env : Env} {a : Act} (hE : ER ρ w env a.tmps) {x : Option Operand} (h : optsOk env x = true) : OV ρ w (x.bind (ev env)) (x.map a.eval) := by
  cases x with
  | none => trivial
  | some x =>
    simp only [optsOk] at h
    obtain ⟨c, hc⟩ := Option.isSome_iff_exists.1 h
    simp only [Option.bind_some, hc, Option.map_some]
    exact ev_sound hE hc

set_option maxHeartbeats 1000000 in
theorem valA_sound (s : SRo ρ σ w) {env : Env} {a : Act} (hE : ER ρ w env a.tmps) {o : Oper} (ho : optsA env o = true) {c : AV} (h : valA P σ env o = some c) :
    ∃ u, (execOp a.eval o).run P w = .ok (.value u) w ∧ VR ρ w c u := by
  unfold valA at h
  split at h
  · rename_i x hop
    exact ⟨_, by simp [execOp, hop], ev_sound hE h⟩
  · rename_i x hop
    exact ⟨_, by simp [execOp, hop], ev_sound hE h⟩
  · rename_i x y z hop
    split at h
    · rename_i hc
      have := (ev_sound hE hc).bool_inv
      exact ⟨_, by simp [execOp, hop, this, asBool], ev_sound hE h⟩
    · rename_i hc
      have := (ev_sound hE hc).bool_inv
      exact ⟨_, by simp [execOp, hop, this, asBool], ev_sound hE h⟩
    · cases h
  · rename_i t parts hop
    split at h
    · rename_i ps hps
      obtain ⟨e1, e2⟩ := evps_sound hE hps
      obtain ⟨u, h1, h2⟩ := buildA_sound (P := P) (us := parts.toList.map fun p => (p.1, a.eval p.2)) (by rw [List.map_map]; exact e1) (by rw [List.map_map]; exact e2) h
      refine ⟨u, ?_, h2⟩
      have e3 : (parts.map fun (i, x) => (i, a.eval x)) = (parts.toList.map fun p => (p.1, a.eval p.2)).toArray := by
        apply Array.ext'; simp
      simp only [execOp, hop, e3]
      simp [h1]
    · cases h
  · rename_i t x hop
    split at h
    · rename_i b hb
      obtain ⟨u, h1, h2⟩ := loadA_sound (P := P) s (ev_sound hE hb) h
      exact ⟨u, by simp [execOp, hop, h1], h2⟩
    · cases h
  · rename_i x hop
    split at h
    · rename_i b hb
      have := nilCheckA_sound (P := P) (ev_sound hE hb) h hop rfl
      exact ⟨_, this.1, this.2⟩
    · cases h
  · rename_i op t x y t' hop
    split at h
    · rename_i b c' hb hc
      obtain ⟨u, h1, h2⟩ := binA_sound (P := P) (ev_sound hE hb) (ev_sound hE hc) h
      refine ⟨u, ?_, h2⟩
      simp only [execOp, hop]
      rw [Sem.run_bind, h1]
      rfl
    · cases h
  · rename_i op t x hop
    split at h
    · rename_i b hb
      obtain ⟨u, h1, h2⟩ := unA_sound (P := P) (ev_sound hE hb) h
      exact ⟨u, by simp [execOp, hop, h1], h2⟩
    · cases h
  · rename_i src dst x hop
    split at h
    · rename_i b hb
      obtain ⟨u, h1, h2⟩ := convA_sound (P := P) s (ev_sound hE hb) h
      exact ⟨u, by simp [execOp, hop, h1], h2⟩
    · cases h
  · rename_i t x hop
    split at h
    · cases h
    · rename_i v d hni hv hd
      cases h
      refine ⟨.iface t (a.eval x), ?_, .iface _ _ _ (ev_sound hE hv)⟩
      cases d <;> first | (simp [execOp, hop, Instr.makeInterface, run_underlying hd]; done) | (exact absurd rfl (hni _))
    · cases h
  · rename_i fn first captured hop
    split at h
    · rename_i xs ys hx hy
      cases h
      obtain ⟨l1, v1⟩ := evs_sound hE hx
      obtain ⟨l2, v2⟩ := evs_sound hE hy
      refine ⟨.func fn (first.map a.eval) (captured.map a.eval), by simp [execOp, hop, Instr.makeFunc], .fn _ _ _ _ _ (by simpa using l1) (by simpa using l2) (fun i c v hc hv => v1 i c v hc ?_) (fun i c v hc hv => v2 i c v hc ?_)⟩
      · simpa using hv
      · simpa using hv
    · cases h
  · rename_i t x lo hi mx hop
    split at h
    · rename_i b hb
      simp only [optsA, hop, Bool.and_eq_true] at ho
      obtain ⟨u, h1, h2⟩ := sliceA_sound (P := P) s (ev_sound hE hb) (optOV hE ho.1.1) (optOV hE ho.1.2) (optOV hE ho.2) h
      exact ⟨u, by simp [execOp, hop, h1], h2⟩
    · cases h
  · rename_i t x i hop
    split at h
    · rename_i b hb
      obtain ⟨u, h1, h2⟩ := fieldAddrA_sound (P := P) (ev_sound hE hb) h
      exact ⟨u, by simp [execOp, hop, h1], h2⟩
    · cases h
  · rename_i t x i hop
    split at h
    · rename_i b hb
      obtain ⟨u, h1, h2⟩ := fieldValA_sound (P := P) (ev_sound hE hb) h
      exact ⟨u, by simp [execOp, hop, h1], h2⟩
    · cases h
  · rename_i t x i hop
    split at h
    · rename_i b c' hb hc
      obtain ⟨u, h1, h2⟩ := indexAddrA_sound (P := P) s (ev_sound hE hb) (ev_sound hE hc) h
      exact ⟨u, by simp [execOp, hop, h1], h2⟩
    · cases h
  · rename_i t x i hop
    split at h
    · rename_i b c' hb hc
      obtain ⟨u, h1, h2⟩ := indexA_sound (P := P) (ev_sound hE hb) (ev_sound hE hc) h
      exact ⟨u, by simp [execOp, hop, h1], h2⟩
    · cases h
  · rename_i t m k ok hop
    split at h
    · rename_i b c' hb hc
      have hlk : ∃ u, (Instr.lookup t (a.eval m) (a.eval k) ok).run P w = .ok u w ∧ VR ρ w c u := by
        split at h
        · rename_i c2 h2
          cases h
          exact lookupA_sound (P := P) s (ev_sound hE hb) (ev_sound hE hc) h2
        · exact lookupEA_sound (P := P) s (ev_sound hE hb) (ev_sound hE hc) h
      obtain ⟨u, h1, h2⟩ := hlk
      exact ⟨u, by simp [execOp, hop, h1], h2⟩
    · cases h
  · rename_i t i hop
    split at h
    · rename_i vs hb
      have hv := ev_sound hE hb
      generalize hq : a.eval t = q at hv
      cases hv with
      | tup _ us l hv =>
        have hi : i < us.size := by rw [← l]; exact (List.getElem?_eq_some_iff.1 h).1
        have h2 : us[i]? = some us[i] := Array.getElem?_eq_getElem hi
        exact ⟨us[i], by simp [execOp, hop, hq, Instr.extract, h2], hv i c _ h h2⟩
    · cases h
  · rename_i x xt t ok hop
    split at h
    · rename_i b hb
      obtain ⟨u, h1, h2⟩ := assertA_sound (P := P) (xt := xt) (ev_sound hE hb) h
      exact ⟨u, by simp [execOp, hop, h1], h2⟩
    · cases h
  · rename_i b args ats hop
    split at h
    · rename_i xs hx
      have hvs := evs_sound hE hx
      have hargs : (args.map a.eval) = (args.toList.map a.eval).toArray := by apply Array.ext'; simp
      split at h
      · rename_i x t hb2
        cases hn : lenA P σ t x with
        | none => simp [hn] at h
        | some n =>
          simp only [hn, Option.map_some, Option.some.injEq] at h
          subst h
          obtain ⟨u, hu⟩ : ∃ u, args.toList.map a.eval = [u] := by
            have := hvs.1
            simp only [List.length_cons, List.length_nil] at this
            exact List.length_eq_one_iff.1 this.symm
          rw [hu] at hvs hargs
          have h0 := hvs.2 0 x u (by simp) (by simp)
          have hl := lenA_sound (P := P) (ty := o.type) s h0 hn
          have hat : ats = #[t] := by rw [← Array.toArray_toList (xs := ats), hb2]
          subst hat
          exact ⟨_, by simp [execOp, hop, resolve, hargs, invoke, builtin, hl], .int _ _⟩
      · rename_i x t hb2
        cases hn : capA P t x with
        | none => simp [hn] at h
        | some n =>
          simp only [hn, Option.map_some, Option.some.injEq] at h
          subst h
          obtain ⟨u, hu⟩ : ∃ u, args.toList.map a.eval = [u] := by
            have := hvs.1
            simp only [List.length_cons, List.length_nil] at this
            exact List.length_eq_one_iff.1 this.symm
          rw [hu] at hvs hargs
          have h0 := hvs.2 0 x u (by simp) (by simp)
          have hl := capA_sound (P := P) (ty := o.type) h0 hn
          have hat : ats = #[t] := by rw [← Array.toArray_toList (xs := ats), hb2]
          subst hat
          exact ⟨_, by simp [execOp, hop, resolve, hargs, invoke, builtin, hl], .int _ _⟩
      · obtain ⟨u, h1, h2⟩ := minMaxA_sound (P := P) hvs h (at_ := ats) (ty := o.type)
        simp only [Bool.false_eq_true, if_false] at h1
        exact ⟨u, by simp [execOp, hop, resolve, hargs, invoke, builtin, h1], h2⟩
      · obtain ⟨u, h1, h2⟩ := minMaxA_sound (P := P) hvs h (at_ := ats) (ty := o.type)
        simp only [if_true] at h1
        exact ⟨u, by simp [execOp, hop, resolve, hargs, invoke, builtin, h1], h2⟩
      · cases h
    · cases h
  · cases h
end
end Go.Abs
