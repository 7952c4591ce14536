/- Loops that turn the elements of a slice, one by one, up to a cut. -/
import Derived.Test.YtjhgheheopcolaaGreatAbs45
set_option linter.unusedVariables false
set_option linter.unusedSimpArgs false
namespace Go.Abs
/-- What holds in such a loop: slots S are as they were, the index, the state after m rounds that did something. -/
structure LoopI (N : Nat) (S : List Nat) (env0 : Env) (ti : Nat) (W : Nat → AS → Prop) (k m : Nat) (st : St) : Prop where
  len : st.1.length = N
  keep : ∀ i ∈ S, Env.get st.1 i = Env.get env0 i
  ix : Env.get st.1 ti = .int .i64 (k : Int)
  w : W m st.2
section
variable {N ti : Nat} {S V : List Nat} {env0 : Env} {W : Nat → AS → Prop} {k m : Nat}
theorem LoopI.frame {env env' : Env} {σ : AS} (I : LoopI N S env0 ti W k m (env, σ)) (hl : env'.length = N) (hf : ∀ i, i ∉ V → Env.get env' i = Env.get env i) (hV : ti ∉ V ∧ ∀ i ∈ S, i ∉ V) : LoopI N S env0 ti W k m (env', σ) :=
  ⟨hl, fun i hi => by simp only; rw [hf i (hV.2 i hi)]; exact I.keep i hi, by simp only; rw [hf ti hV.1]; exact I.ix, I.w⟩
variable {P : Program} {cx : Cx} {tails : List Nat} {call : Caller}
theorem conv_loop {test body inc : Code} {tc tl B n : Nat} {VT VI : List Nat} (hS : tl ∈ S) (hln : Env.get env0 tl = .int .i64 (n : Int)) (hn : n ≤ 9223372036854775807)
    (hT : ∀ (env : Env) (σ : AS) (k : Nat), env.length = N → Env.get env ti = .int .i64 (k : Int) → Env.get env tl = .int .i64 (n : Int) → ∃ env', execW P cx tails call test (env, σ) = some (.normal, (env', σ)) ∧ env'.length = N ∧ Env.get env' tc = .bool (decide (k < n)) ∧ ∀ i, i ∉ VT → Env.get env' i = Env.get env i)
    (hVT : ti ∉ VT ∧ ∀ i ∈ S, i ∉ VT)
    (hB : ∀ (k : Nat) (env : Env) (σ : AS), k < n → LoopI N S env0 ti W k k (env, σ) → ∃ st', execW P cx tails call body (env, σ) = some (.normal, st') ∧ LoopI N S env0 ti W k (k + 1) st')
    (hI : ∀ (env : Env) (σ : AS) (k : Nat), env.length = N → Env.get env ti = .int .i64 (k : Int) → wr .i64 ((k : Int) + 1) = (k : Int) + 1 → ∃ env', execW P cx tails call inc (env, σ) = some (.normal, (env', σ)) ∧ env'.length = N ∧ Env.get env' ti = .int .i64 ((k : Int) + 1) ∧ ∀ i, i ∉ VI → Env.get env' i = Env.get env i)
    (hVI : ∀ i ∈ S, i ∉ VI) {st : St} (h0 : LoopI N S env0 ti W 0 0 st) :
    ∃ st', execW P cx tails call (.block B (.loop (.seq test (.seq (.cond (.tmp tc) .skip (.exit B)) (.seq body inc))))) st = some (.normal, st') ∧ LoopI N S env0 ti W n n st' := by
  refine execW_range (n := n) (Inv := fun k st => LoopI N S env0 ti W k k st) (Mid := fun k st => LoopI N S env0 ti W k k st) (Mid2 := fun k st => LoopI N S env0 ti W k (k + 1) st) ?_ ?_ ?_ h0
  · rintro k ⟨env, σ⟩ hkn I
    obtain ⟨env', e1, e2, e3, e4⟩ := hT env σ k I.len I.ix (by rw [I.keep tl hS]; exact hln)
    have I' := I.frame e2 e4 hVT
    refine ⟨(env', σ), e1, ev_tmp e3, fun _ => I', fun h => ?_⟩
    have : k = n := by omega
    subst this
    exact I'
  · rintro k ⟨env, σ⟩ hk I
    exact hB k env σ hk I
  · rintro k ⟨env, σ⟩ hk I
    obtain ⟨env', e1, e2, e3, e4⟩ := hI env σ k I.len I.ix (wr_ok (by omega) (by omega))
    exact ⟨(env', σ), e1, e2, fun i hi => by simp only; rw [e4 i (hVI i hi)]; exact I.keep i hi, by simpa using e3, I.w⟩

theorem conv_body {elemR cutR app : Code} {es : List AV} {sz ts tb tk tc cut B : Nat} {VE VC VA : List Nat} (hS : ts ∈ S) (hsl : es = [] ∨ Env.get env0 ts = .sl false sz es)
    (hE : ∀ (env : Env) (σ : AS) (k : Nat) (hk : k < es.length), env.length = N → Env.get env ts = .sl false sz es → Env.get env ti = .int .i64 (k : Int) → cx.h ≤ σ.st.length → ∃ env', execW P cx tails call elemR (env, σ) = some (.normal, (env', σ.push false (.cells es[k].cells))) ∧ env'.length = N ∧ (Env.get env' tb = .ptr (.st σ.st.length) 0 ∧ Env.get env' tk = .int .i64 (k : Int)) ∧ ∀ i, i ∉ VE → Env.get env' i = Env.get env i)
    (hVE : ti ∉ VE ∧ ∀ i ∈ S, i ∉ VE)
    (hC : ∀ (env : Env) (σ : AS) (k : Nat), env.length = N → Env.get env tk = .int .i64 (k : Int) → ∃ env', execW P cx tails call cutR (env, σ) = some (.normal, (env', σ)) ∧ env'.length = N ∧ Env.get env' tc = .bool (decide ((k : Int) < cut)) ∧ ∀ i, i ∉ VC → Env.get env' i = Env.get env i)
    (hVC : ti ∉ VC ∧ ∀ i ∈ S, i ∉ VC) (hbC : tb ∉ VC)
    (hA : ∀ (env : Env) (σ : AS) (e : AV) (m : Nat), e ∈ es → env.length = N → (∀ i ∈ S, Env.get env i = Env.get env0 i) → Env.get env tb = .ptr (.st σ.st.length) 0 → W m σ → m < cut → ∃ env' σ', execW P cx tails call app (env, σ.push false (.cells e.cells)) = some (.normal, (env', σ')) ∧ env'.length = N ∧ W (m + 1) σ' ∧ ∀ i, i ∉ VA → Env.get env' i = Env.get env i)
    (hVA : ti ∉ VA ∧ ∀ i ∈ S, i ∉ VA)
    (hpush : ∀ m σ ob, W m σ → W m (σ.push false ob)) (hmono : ∀ m σ, W m σ → W (m + 1) σ) (hlenW : ∀ m σ, W m σ → cx.h ≤ σ.st.length) :
    ∀ (k : Nat) (env : Env) (σ : AS), k < es.length → LoopI N S env0 ti W k k (env, σ) → ∃ st', execW P cx tails call (.block B (.seq elemR (.seq cutR (.cond (.tmp tc) app .skip)))) (env, σ) = some (.normal, st') ∧ LoopI N S env0 ti W k (k + 1) st' := by
  intro k env σ hk I
  have hts : Env.get env ts = .sl false sz es := by
    have h1 := I.keep ts hS
    simp only at h1
    rw [h1]
    rcases hsl with rfl | h
    · cases hk
    · exact h
  obtain ⟨env1, a1, a2, a3, a4⟩ := hE env σ k hk I.len hts I.ix (hlenW _ _ I.w)
  obtain ⟨env2, b1, b2, b3, b4⟩ := hC env1 (σ.push false (.cells es[k].cells)) k a2 a3.2
  have I1 : LoopI N S env0 ti W k k (env1, σ) := I.frame a2 a4 hVE
  have I2 : LoopI N S env0 ti W k k (env2, σ) := I1.frame b2 b4 hVC
  by_cases hc : (k : Int) < cut
  · obtain ⟨env3, σ3, c1, c2, c3, c4⟩ := hA env2 σ es[k] k (List.getElem_mem hk) I2.len I2.keep (by rw [b4 tb hbC]; exact a3.1) I2.w (by omega)
    refine ⟨(env3, σ3), execW_block_of (execW_seq_of a1 (execW_seq_of b1 (execW_cond_t (by rw [ev_tmp b3, decide_eq_true hc]) c1))), c2, fun i hi => ?_, ?_, c3⟩
    · simp only; rw [c4 i (hVA.2 i hi)]; exact I2.keep i hi
    · simp only; rw [c4 ti hVA.1]; exact I2.ix
  · exact ⟨(env2, σ.push false (.cells es[k].cells)), execW_block_of (execW_seq_of a1 (execW_seq_of b1 (execW_cond_f (by rw [ev_tmp b3, decide_eq_false hc]) rfl))), I2.len, I2.keep, I2.ix, hmono _ _ (hpush _ _ _ I2.w)⟩
end
end Go.Abs
