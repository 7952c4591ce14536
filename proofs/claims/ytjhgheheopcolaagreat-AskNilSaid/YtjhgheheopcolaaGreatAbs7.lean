/- Operations that only make a value, held against the model's own: arithmetic, comparisons, strings. -/
import Derived.Test.YtjhgheheopcolaaGreatAbs6
import Derived.Laws.StructEq
set_option linter.unusedVariables false
set_option linter.unusedSimpArgs false
namespace Go.Abs

theorem beqS_eq (x y : ByteArray) : beqS x y = (x.toList == y.toList) := by
  rw [ByteArray.toList_eq, ByteArray.toList_eq]; rfl
theorem ltS_eq (x y : ByteArray) : ltS x y = Op.bytesLess x.toList y.toList := by
  rw [ByteArray.toList_eq, ByteArray.toList_eq]; rfl

theorem wr_eq (k : IntKind) (n : Int) : wr k n = k.wrap n := by
  unfold wr
  split
  · rename_i h
    simp only [Bool.and_eq_true, decide_eq_true_eq] at h
    obtain ⟨h1, h2⟩ := h
    cases k <;> simp only [loK, hiK, IntKind.wrap, IntKind.bits, IntKind.signed] at * <;> simp <;> omega
  · rfl

section
variable {P : Program} {ρ : Rho} {w : World} {σ : AS}

theorem VR.bool_inv {b : Bool} {v : Value} (h : VR ρ w (.bool b) v) : v = .bool b := by cases h; rfl
theorem VR.int_inv {k : IntKind} {n : Int} {v : Value} (h : VR ρ w (.int k n) v) : v = .int k n := by cases h; rfl
theorem VR.str_inv {s : ByteArray} {v : Value} (h : VR ρ w (.str s) v) : v = .string s := by cases h; rfl

theorem eqFieldsA_sound {eq : TypeId → AV → AV → Option Bool} {d : Nat} {xs ys : List AV} {us vs : Array Value}
    (heq : ∀ t a b r u v, eq t a b = some r → VR ρ w a u → VR ρ w b v → (Op.equalIn d t u v).run P w = .ok r w)
    (hx : VR ρ w (.agg xs) (.agg us)) (hy : VR ρ w (.agg ys) (.agg vs)) : ∀ (fs : List Field) (r : Bool), eqFieldsA P eq xs ys fs = some r → (Op.eqFields d us vs fs).run P w = .ok r w
  | [], r, h => by simp only [eqFieldsA, Option.some.injEq] at h; subst h; simp [Op.eqFields]
  | f :: fs, r, h => by
    have ih := eqFieldsA_sound heq hx hy fs
    cases hx with
    | agg _ _ lx hxs => cases hy with
      | agg _ _ ly hys =>
        simp only [eqFieldsA] at h
        split at h
        · rename_i hn
          simp only [Op.eqFields, hn, ne_eq, not_true_eq_false, if_false]
          exact ih r h
        · rename_i hn
          split at h
          · rename_i a b ha hb
            obtain ⟨u, u1, u2⟩ := part_sound lx hxs ha w
            obtain ⟨v, v1, v2⟩ := part_sound ly hys hb w
            simp only [Op.eqFields, ne_eq, hn, not_false_eq_true, if_true, Sem.run_bind, u1, Result.andThen_ok, v1]
            split at h
            · rename_i hr
              rw [heq _ _ _ _ _ _ hr u2 v2]
              simp only [Result.andThen_ok, Bool.not_true, Bool.false_eq_true, if_false]
              exact ih r h
            · rename_i hr
              cases h
              rw [heq _ _ _ _ _ _ hr u2 v2]
              simp
            · cases h
          · cases h

set_option maxHeartbeats 2000000 in
theorem eqA_sound : ∀ (n : Nat) (t : TypeId) (x y : AV) (b : Bool) (u v : Value), eqA P n t x y = some b → VR ρ w x u → VR ρ w y v →
    ∀ d, n ≤ d → (Op.equalIn d t u v).run P w = .ok b w
  | 0, _, _, _, _, _, _, h, _, _ => by simp [eqA] at h
  | n + 1, t, x, y, b, u, v, h, hx, hy => by
    have ih := eqA_sound n
    intro d hd
    obtain ⟨d, rfl⟩ : ∃ e, d = e + 1 := ⟨d - 1, by omega⟩
    have hd' : n ≤ d := by omega
    simp only [eqA] at h
    split at h
    case h_1 ht => cases h; cases hx; cases hy; simp [Op.equalIn, run_underlying ht]
    case h_2 ht =>
      split at h
      · rename_i hk; cases h; cases hx; cases hy; subst hk; simp [Op.equalIn, run_underlying ht]
      · cases h
    case h_3 ht => cases h; cases hx; cases hy; rw [run_equalIn_string w d t _ _ ht, beqS_eq]
    case h_4 fs xs ys ht =>
      split at h
      · cases h
      · rename_i hst
        have hf : P.fieldsOf t = fs := by simp [Program.fieldsOf, ht]
        cases hx with
        | agg _ us lx hxs => cases hy with
          | agg _ vs ly hys =>
            rw [run_equalIn_struct w d t us vs (by rw [hf]; exact ht) (by simpa using hst), hf]
            exact eqFieldsA_sound (fun t a b r u v h1 h2 h3 => ih t a b r u v h1 h2 h3 d hd') (.agg _ _ lx hxs) (.agg _ _ ly hys) _ _ h
    case h_26 tx vx ty vy ht =>
      cases hx with
      | iface _ _ vx' hx => cases hy with
        | iface _ _ vy' hy =>
          split at h
          · rename_i e
            subst e
            split at h
            · rename_i hc
              cases hi : P.info? tx with
              | none => simp [hi] at hc
              | some i =>
                simp only [hi, Option.map_some, Option.some.injEq] at hc
                have := ih _ _ _ _ _ _ h hx hy d hd'
                simp [Op.equalIn, run_underlying ht, typeInfo, hi, hc, this]
            · cases h
          · rename_i e
            cases h
            simp [Op.equalIn, run_underlying ht, e]
    all_goals first
      | (rename_i ht; cases h; cases hx; cases hy; simp [Op.equalIn, run_underlying ht]; done)
      | cases h
end
end Go.Abs
