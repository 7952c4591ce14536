/- Small things used in all that follows. -/

import Derived.Test.YtidfkjpcpgeilaaA0
open Go Go.Abs Go.Proofs
set_option maxRecDepth 100000
set_option maxHeartbeats 4000000
set_option linter.unusedSimpArgs false
set_option linter.unusedVariables false
section
variable {P : Program} {cx : Cx} {tails : List Nat} {call : Caller}
/-- A loop whose rounds count up to n. -/
theorem loop_up {c : Code} {n : Nat} {J : Nat → Env → AS → Prop} {Q : AExit → Env → AS → Prop}
    (step : ∀ k env σ, k < n → J k env σ → ∃ e env' σ', execW P cx tails call c (env, σ) = some (e, (env', σ')) ∧ ((e = .normal ∧ J (k + 1) env' σ') ∨ (e ≠ .normal ∧ Q e env' σ')))
    (last : ∀ env σ, J n env σ → ∃ e env' σ', execW P cx tails call c (env, σ) = some (e, (env', σ')) ∧ (e ≠ .normal ∧ Q e env' σ')) :
    ∀ (m k : Nat) (env : Env) (σ : AS), k + m = n → J k env σ → ∃ e env' σ', execW P cx tails call (.loop c) (env, σ) = some (e, (env', σ')) ∧ (e ≠ .normal ∧ Q e env' σ')
  | 0, k, env, σ, hk, h => by
    have : k = n := by omega
    subst this
    obtain ⟨e, env', σ', r, h1, h2⟩ := last env σ h
    exact ⟨e, env', σ', by rw [execW]; exact iterW_out r h1, h1, h2⟩
  | m + 1, k, env, σ, hk, h => by
    obtain ⟨e, env', σ', r, h1⟩ := step k env σ (by omega) h
    rcases h1 with ⟨rfl, h1⟩ | ⟨h1, h2⟩
    · obtain ⟨e, env2, σ2, r2, h2⟩ := loop_up step last m (k + 1) env' σ' (by omega) h1
      refine ⟨e, env2, σ2, ?_, h2⟩
      rw [execW] at r2 ⊢
      exact iterW_next r r2
    · exact ⟨e, env', σ', by rw [execW]; exact iterW_out r h1, h1, h2⟩
theorem block_up {c : Code} {B n : Nat} {J : Nat → Env → AS → Prop} {Ex : AExit → Env → AS → Prop}
    (step : ∀ k env σ, k < n → J k env σ → ∃ e env' σ', execW P cx tails call c (env, σ) = some (e, (env', σ')) ∧ ((e = .normal ∧ J (k + 1) env' σ') ∨ (e ≠ .normal ∧ ((e = .exit B ∧ J n env' σ') ∨ Ex e env' σ'))))
    (last : ∀ env σ, J n env σ → ∃ e env' σ', execW P cx tails call c (env, σ) = some (e, (env', σ')) ∧ (e ≠ .normal ∧ ((e = .exit B ∧ J n env' σ') ∨ Ex e env' σ')))
    {env : Env} {σ : AS} (h0 : J 0 env σ) :
    ∃ e env' σ', execW P cx tails call (.block B (.loop c)) (env, σ) = some (e, (env', σ')) ∧ ((e = .normal ∧ (J n env' σ' ∨ Ex (.exit B) env' σ')) ∨ (e ≠ .normal ∧ e ≠ .exit B ∧ Ex e env' σ')) := by
  obtain ⟨e, env', σ', r, h1, h2⟩ := loop_up (Q := fun e env σ => (e = .exit B ∧ J n env σ) ∨ Ex e env σ) step last n 0 env σ (by omega) h0
  by_cases hb : e = .exit B
  · subst hb
    refine ⟨.normal, env', σ', block_out r, .inl ⟨rfl, ?_⟩⟩
    rcases h2 with ⟨_, h2⟩ | h2
    · exact .inl h2
    · exact .inr h2
  · refine ⟨e, env', σ', block_exit r hb, .inr ⟨h1, hb, ?_⟩⟩
    rcases h2 with ⟨x, _⟩ | h2
    · exact absurd x hb
    · exact h2
end
