/- Operations that only make a value, held against the model's own: the rest. -/
import Derived.Test.YtjhgheheopcolaaGreatAbs7
set_option linter.unusedVariables false
set_option linter.unusedSimpArgs false
namespace Go.Abs
section
variable {P : Program} {ρ : Rho} {w : World} {σ : AS}

theorem intBinA_sound {op : BinOp} {k : IntKind} {a b : Int} {c : AV} (h : intBinA op k a b = some c) (t : TypeId) (hs : (op == .shl || op == .shr) = false) :
    ∃ u, (binOp op t (.int k a) (.int k b)).run P w = .ok u w ∧ VR ρ w c u := by
  cases op <;> simp only [intBinA] at h <;> (try (simp at hs; done)) <;>
    first
    | (cases h; refine ⟨_, by simp only [binOp, ne_eq, not_true_eq_false, if_false, Op.intArith, Op.intBits, Op.intCmp]; rfl, ?_⟩; first | exact .bool _ | (rw [wr_eq]; exact .int _ _))
    | (split at h
       · cases h
       · rename_i hb
         cases h
         refine ⟨_, by simp [binOp, Op.intDiv, hb]; rfl, ?_⟩
         first | exact .int _ _ | (rw [wr_eq]; exact .int _ _))
    | (cases h; done)

theorem shiftA_sound {op : BinOp} {k k' : IntKind} {a b : Int} {c : AV} (h : shiftA op k a b = some c) (t : TypeId) (hs : (op == .shl || op == .shr) = true) :
    ∃ u, (binOp op t (.int k a) (.int k' b)).run P w = .ok u w ∧ VR ρ w c u := by
  unfold shiftA at h
  split at h
  · cases h
  · rename_i hb
    cases op <;> (try (simp at hs; done)) <;> simp only [Option.some.injEq] at h <;> subst h
    · exact ⟨_, by simp only [binOp, Op.shift, hb, if_false]; rfl, by rw [wr_eq]; exact .int _ _⟩
    · exact ⟨_, by simp only [binOp, Op.shift, hb, if_false]; rfl, .int _ _⟩

theorem strBinA_sound {op : BinOp} {a b : ByteArray} {c : AV} (h : strBinA op a b = some c) (t : TypeId) :
    ∃ u, (binOp op t (.string a) (.string b)).run P w = .ok u w ∧ VR ρ w c u := by
  cases op <;> simp only [strBinA] at h <;> (try (cases h; done)) <;>
    first
    | (cases h; refine ⟨_, by simp only [binOp, Op.stringOp]; rfl, ?_⟩; rw [← beqS_eq, ← ltS_eq]; exact .bool _)
    | (cases h; refine ⟨_, by simp only [binOp, Op.stringOp]; rfl, ?_⟩; rw [← beqS_eq]; exact .bool _)
    | (cases h; refine ⟨_, by simp only [binOp, Op.stringOp]; rfl, ?_⟩; rw [← ltS_eq]; exact .bool _)
    | (split at h
       · rename_i hle
         cases h
         have hn : ¬ (((a.size + b.size : Nat) : Int) > IntKind.i64.max) := by simp [IntKind.max, IntKind.bits, IntKind.signed]; omega
         exact ⟨.string (a ++ b), by simp only [binOp, Op.stringOp]; rw [if_neg hn]; rfl, .str _⟩
       · cases h)

theorem VR.no_float {a : AV} {k : FloatKind} {n : Nat} (h : VR ρ w a (.float k n)) : False := by cases h
theorem VR.no_complex {a : AV} {k : FloatKind} {n m : Nat} (h : VR ρ w a (.complex k n m)) : False := by cases h
theorem VR.of_int {a : AV} {k : IntKind} {n : Int} (h : VR ρ w a (.int k n)) : a = .int k n := by cases h; rfl
theorem VR.of_string {a : AV} {s : ByteArray} (h : VR ρ w a (.string s)) : a = .str s := by cases h; rfl
theorem VR.of_bool {a : AV} {b : Bool} (h : VR ρ w a (.bool b)) : a = .bool b := by cases h; rfl
theorem VR.of_nilIface {a : AV} (h : VR ρ w a .nilIface) : a = .nili := by cases h; rfl
theorem VR.of_agg {a : AV} {vs : Array Value} (h : VR ρ w a (.agg vs)) : ∃ cs, a = .agg cs := by cases h; exact ⟨_, rfl⟩

theorem binOp_eql {t : TypeId} {a b : AV} {u v : Value} (hu : VR ρ w a u) (hv : VR ρ w b v) (hi : ∀ k m k' n, a = .int k m → b = .int k' n → False)
    (hs : ∀ m n, a = .str m → b = .str n → False) : binOp .eql t u v = (do pure (.bool (← Op.equal t u v))) ∧ binOp .neq t u v = (do pure (.bool (!(← Op.equal t u v)))) := by
  constructor
  all_goals
    unfold binOp
    split <;> first
      | rfl
      | (exfalso; exact hi _ _ _ _ hu.of_int hv.of_int)
      | (exfalso; exact hs _ _ hu.of_string hv.of_string)
      | (exfalso; exact hu.no_float)
      | (exfalso; exact hu.no_complex)
      | (rename_i h; cases h; done)
      | simp_all

theorem eqGuard_sound {op : BinOp} {t : TypeId} {x y : Operand} {a b : AV} {u v : Value} (hu : VR ρ w a u) (hv : VR ρ w b v) (h : guardOk P t x y a b = true) :
    (eqGuard op t x y u v).run P w = .ok () w := by
  have key : (match u, v with
      | Value.nilIface, Value.nilIface => do
        if (x matches .const _) || (y matches .const _) then return
        if ← Op.eqGuardIn Op.maxDepth t u v then unsupported (.noEntry "binop/eql: two nil values of an interface type with methods, neither of them the literal nil")
      | .agg _, .agg _ => do
        if !(← program).eqGuardType (← program).depth t then return
        if ← Op.eqGuardIn Op.maxDepth t u v then unsupported (.noEntry "binop/eql: two nil values of an interface type with methods, in a part of a struct or an array")
      | _, _ => (pure () : Sem Unit)).run P w = .ok () w := by
    split
    · have h1 := hu.of_nilIface
      have h2 := hv.of_nilIface
      subst h1; subst h2
      simp only [guardOk, Bool.or_eq_true] at h
      rcases h with h | h
      · cases x <;> simp [isConst] at h ⊢
      · cases y <;> simp [isConst] at h ⊢
    · obtain ⟨cs, rfl⟩ := hu.of_agg
      obtain ⟨ds, rfl⟩ := hv.of_agg
      simp only [guardOk, Bool.not_eq_true'] at h
      simp [h]
    · simp
  unfold eqGuard
  cases op <;> first | rfl | exact key

theorem binA_sound {op : BinOp} {t : TypeId} {x y : Operand} {a b c : AV} {u v : Value} (hu : VR ρ w a u) (hv : VR ρ w b v) (h : binA P op t x y a b = some c) :
    ∃ r, (do eqGuard op t x y u v; binOp op t u v : Sem Value).run P w = .ok r w ∧ VR ρ w c r := by
  unfold binA at h
  split at h
  · rename_i k m k' n
    have h1 := hu.int_inv; have h2 := hv.int_inv; subst h1; subst h2
    have hg : (eqGuard op t x y (.int k m) (.int k' n)).run P w = .ok () w := eqGuard_sound hu hv rfl
    simp only [Sem.run_bind, hg, Result.andThen_ok]
    split at h
    · rename_i hs; exact shiftA_sound h t hs
    · rename_i hs
      split at h
      · rename_i hk; subst hk; exact intBinA_sound h t (by simpa using hs)
      · cases h
  · rename_i m n
    have h1 := hu.str_inv; have h2 := hv.str_inv; subst h1; subst h2
    have hg : (eqGuard op t x y (.string m) (.string n)).run P w = .ok () w := eqGuard_sound hu hv rfl
    simp only [Sem.run_bind, hg, Result.andThen_ok]
    exact strBinA_sound h t
  · rename_i h1 h2
    have he := binOp_eql (t := t) hu hv (fun k m k' n e1 e2 => h1 k m k' n e1 e2) (fun m n e1 e2 => h2 m n e1 e2)
    split at h
    · split at h
      · rename_i hg
        cases hq : eqA P 40 t a b with
        | none => simp [hq] at h
        | some r =>
          simp only [hq, Option.map_some, Option.some.injEq] at h
          subst h
          refine ⟨.bool r, ?_, .bool r⟩
          rw [Sem.run_bind, eqGuard_sound hu hv hg, Result.andThen_ok, he.1]
          simp [Op.equal, eqA_sound _ _ _ _ _ _ _ hq hu hv Op.maxDepth (by decide)]
      · cases h
    · split at h
      · rename_i hg
        cases hq : eqA P 40 t a b with
        | none => simp [hq] at h
        | some r =>
          simp only [hq, Option.map_some, Option.some.injEq] at h
          subst h
          refine ⟨.bool (!r), ?_, .bool _⟩
          rw [Sem.run_bind, eqGuard_sound hu hv hg, Result.andThen_ok, he.2]
          simp [Op.equal, eqA_sound _ _ _ _ _ _ _ hq hu hv Op.maxDepth (by decide)]
      · cases h
    · cases h

theorem unA_sound {op : UnOp} {a c : AV} {u : Value} (hu : VR ρ w a u) (h : unA op a = some c) : ∃ r, (Op.unary op u).run P w = .ok r w ∧ VR ρ w c r := by
  unfold unA at h
  split at h
  · cases h; cases hu; exact ⟨_, by simp only [Op.unary, Op.intArith]; rfl, by rw [wr_eq]; exact .int _ _⟩
  · cases h; cases hu; exact ⟨_, by simp only [Op.unary, Op.intBits]; rfl, by rw [wr_eq]; exact .int _ _⟩
  · cases h; cases hu; exact ⟨_, by simp only [Op.unary]; rfl, .bool _⟩
  · cases h

theorem fieldValA_sound {t : TypeId} {a c : AV} {u : Value} {i : Nat} (hu : VR ρ w a u) (h : fieldValA P t a i = some c) : ∃ r, (Instr.field t u i).run P w = .ok r w ∧ VR ρ w c r := by
  unfold fieldValA at h
  split at h
  · rename_i f cs hf
    cases hu with
    | agg _ vs l hv =>
      unfold fieldA at hf
      split at hf
      · rename_i fs hu
        obtain ⟨r, h1, h2⟩ := part_sound l hv h w
        exact ⟨r, by simp [Instr.field, run_underlying hu, hf, asAgg, h1], h2⟩
      · cases hf
  · cases h

theorem fieldAddrA_sound {t : TypeId} {a c : AV} {u : Value} {i : Nat} (hu : VR ρ w a u) (h : fieldAddrA P t a i = some c) : ∃ r, (Instr.fieldAt t u i).run P w = .ok r w ∧ VR ρ w c r := by
  unfold fieldAddrA at h
  split at h
  · rename_i f hf
    unfold fieldA at hf
    split at hf
    · rename_i fs hus
      split at h
      · rename_i n hn
        have hfp : ∀ b o, (fieldPlace ⟨b, o, none⟩ f).run P w = .ok ⟨b, o + f.offset, none⟩ w := fun b o => by
          unfold fieldPlace
          simp [run_sizeA hn, add_mk]
        split at h
        · rename_i L o
          cases h
          cases hu with
          | ptr _ _ p h1 h2 => exact ⟨_, by simp [Instr.fieldAt, run_underlying hus, hf, Instr.sureAddr, hfp], .ptr L _ p h1 h2⟩
        · rename_i cs o
          cases h
          cases hu with
          | rptr _ _ b o0 g hb hfr h1 h2 h3 =>
            refine ⟨_, by simp [Instr.fieldAt, run_underlying hus, hf, Instr.sureAddr, hfp]; exact rfl, ?_⟩
            rw [Nat.add_assoc]
            exact .rptr cs _ b o0 g hb hfr h1 h2 h3
        · rename_i L v i' o
          cases h
          cases hu with
          | eptr _ _ _ _ p a h1 h2 h3 h4 =>
            by_cases hv : p.ver = v
            · have := h4 hv
              subst this
              refine ⟨_, by simp [Instr.fieldAt, run_underlying hus, hf, Instr.sureAddr, hfp]; exact rfl, ?_⟩
              exact .eptr L v i' _ p _ h1 h2 h3 (fun _ => by rw [Nat.add_assoc])
            · refine ⟨.pointer (some (a.add f.offset)), ?_, .eptr L v i' _ p _ h1 h2 h3 (fun e => absurd e hv)⟩
              simp [Instr.fieldAt, run_underlying hus, hf, Instr.sureAddr, fieldPlace, run_sizeA hn]
        · cases h
      · cases h
    · cases hf
  · cases h

theorem indexA_sound {t : TypeId} {a ix c : AV} {u v : Value} (hu : VR ρ w a u) (hi : VR ρ w ix v) (h : indexA P t a ix = some c) : ∃ r, (Instr.index t u v).run P w = .ok r w ∧ VR ρ w c r := by
  unfold indexA at h
  split at h
  · rename_i k i
    cases hi
    split at h
    · rename_i h0
      split at h
      · rename_i n e cs ht
        split at h
        · rename_i sz hsz
          split at h
          · rename_i hlt
            cases hu with
            | agg _ vs l hv =>
              obtain ⟨r, h1, h2⟩ := part_sound l hv h w
              exact ⟨r, by simp [Instr.index, asIntOf, run_underlying ht, h0, hlt, run_sizeA hsz, h1], h2⟩
          · cases h
        · cases h
      · rename_i s ht
        split at h
        · rename_i b hb
          cases h
          cases hu
          obtain ⟨h1, h2⟩ := List.getElem?_eq_some_iff.1 hb
          have h3 : i.toNat < s.size := by simpa using h1
          have hb' : s[i.toNat]? = some b := by
            rw [getElem?_pos s i.toNat h3]
            congr 1
          exact ⟨.int .u8 b.toNat, by simp [Instr.index, asIntOf, run_underlying ht, h0, hb'], .int _ _⟩
        · cases h
      · cases h
    · cases h
  · cases h
end
end Go.Abs
