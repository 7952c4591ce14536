/- Ranges over slices: one theorem for the loop that they are translated to. -/
import Derived.Test.YtjhgheheopcolaaGreatAbs43
set_option linter.unusedVariables false
set_option linter.unusedSimpArgs false
namespace Go.Abs
section
variable {P : Program} {cx : Cx} {tails : List Nat} {call : Caller}

theorem range_iter {test body inc : Code} {c : Operand} {B n : Nat} {Inv Mid Mid2 : Nat → St → Prop} {Out : St → Prop}
    (hT : ∀ k st, k ≤ n → Inv k st → ∃ st1, execW P cx tails call test st = some (.normal, st1) ∧ ev st1.1 c = some (.bool (decide (k < n))) ∧ (k < n → Mid k st1) ∧ (¬ k < n → Out st1))
    (hB : ∀ k st, k < n → Mid k st → ∃ st1, execW P cx tails call body st = some (.normal, st1) ∧ Mid2 k st1)
    (hI : ∀ k st, k < n → Mid2 k st → ∃ st1, execW P cx tails call inc st = some (.normal, st1) ∧ Inv (k + 1) st1) :
    ∀ (m k : Nat) (st : St), k + m = n → Inv k st → ∃ st', iterW (execW P cx tails call (.seq test (.seq (.cond c .skip (.exit B)) (.seq body inc)))) st = some (.exit B, st') ∧ Out st'
  | 0, k, st, hk, h => by
    obtain ⟨st1, e1, e2, _, e4⟩ := hT k st (by omega) h
    have hn : ¬ k < n := by omega
    refine ⟨st1, iterW_out ?_ (by simp), e4 hn⟩
    simp only [execW, e1, e2, hn, decide_false]
  | m + 1, k, st, hk, h => by
    obtain ⟨st1, e1, e2, e3, _⟩ := hT k st (by omega) h
    have hn : k < n := by omega
    obtain ⟨st2, f1, f2⟩ := hB k st1 hn (e3 hn)
    obtain ⟨st3, g1, g2⟩ := hI k st2 hn f2
    obtain ⟨st', h1, h2⟩ := range_iter hT hB hI m (k + 1) st3 (by omega) g2
    refine ⟨st', iterW_next ?_ h1, h2⟩
    simp only [execW, e1, e2, hn, decide_true, f1, g1]

/-- The loop of a range: what holds ahead of each round, what holds behind the last one. -/
theorem execW_range {test body inc : Code} {c : Operand} {B n : Nat} {Inv Mid Mid2 : Nat → St → Prop} {Out : St → Prop}
    (hT : ∀ k st, k ≤ n → Inv k st → ∃ st1, execW P cx tails call test st = some (.normal, st1) ∧ ev st1.1 c = some (.bool (decide (k < n))) ∧ (k < n → Mid k st1) ∧ (¬ k < n → Out st1))
    (hB : ∀ k st, k < n → Mid k st → ∃ st1, execW P cx tails call body st = some (.normal, st1) ∧ Mid2 k st1)
    (hI : ∀ k st, k < n → Mid2 k st → ∃ st1, execW P cx tails call inc st = some (.normal, st1) ∧ Inv (k + 1) st1) {st : St} (h0 : Inv 0 st) :
    ∃ st', execW P cx tails call (.block B (.loop (.seq test (.seq (.cond c .skip (.exit B)) (.seq body inc))))) st = some (.normal, st') ∧ Out st' := by
  obtain ⟨st', h1, h2⟩ := range_iter (B := B) hT hB hI n 0 st (by omega) h0
  refine ⟨st', ?_, h2⟩
  rw [execW, execW, h1]
  simp
theorem execW_block_of {c : Code} {B : Nat} {st st' : St} (h : execW P cx tails call c st = some (.normal, st')) : execW P cx tails call (.block B c) st = some (.normal, st') := by
  rw [execW, h]
theorem execW_cond_t {x y : Code} {c : Operand} {st : St} {r : Option (AExit × St)} (hc : ev st.1 c = some (.bool true)) (h : execW P cx tails call x st = r) : execW P cx tails call (.cond c x y) st = r := by
  rw [execW, hc]
  exact h
theorem execW_cond_f {x y : Code} {c : Operand} {st : St} {r : Option (AExit × St)} (hc : ev st.1 c = some (.bool false)) (h : execW P cx tails call y st = r) : execW P cx tails call (.cond c x y) st = r := by
  rw [execW, hc]
  exact h
end
end Go.Abs
