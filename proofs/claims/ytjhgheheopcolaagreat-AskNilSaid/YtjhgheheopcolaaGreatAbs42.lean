/- Runs that the kernel makes, in pieces. -/
import Derived.Test.YtjhgheheopcolaaGreatAbs41
set_option linter.unusedVariables false
set_option linter.unusedSimpArgs false
namespace Go.Abs
section
variable {P : Program} {cx : Cx} {tails : List Nat} {call call' : Caller}
theorem execW_ofA (hs : Sub call call') {n : Nat} : ∀ (c : Code) (st : St) (r : AExit × St), execA P cx tails call n c st = some r → execW P cx tails call' c st = some r := by
  intro c
  induction c with
  | region id ops draw =>
    intro st r h
    simp only [execA] at h
    simp only [execW]
    cases hr : regionA P cx tails call id ops.toList draw st.1 st.2 with
    | none => rw [hr] at h; cases h
    | some x =>
      rw [hr] at h
      rw [regionA_mono hs hr]
      exact h
  | seq a b iha ihb =>
    intro st r h
    simp only [execA] at h
    simp only [execW]
    cases ha : execA P cx tails call n a st with
    | none => rw [ha] at h; cases h
    | some x =>
      obtain ⟨e, st1⟩ := x
      rw [ha] at h
      rw [iha st _ ha]
      cases e with
      | normal => exact ihb _ _ h
      | _ => exact h
  | cond x a b iha ihb =>
    intro st r h
    simp only [execA] at h
    simp only [execW]
    split at h
    · rename_i hc; rw [hc]; exact iha _ _ h
    · rename_i hc; rw [hc]; exact ihb _ _ h
    · cases h
  | block id a iha =>
    intro st r h
    simp only [execA] at h
    simp only [execW]
    cases ha : execA P cx tails call n a st with
    | none => rw [ha] at h; cases h
    | some x =>
      rw [ha] at h
      rw [iha st _ ha]
      exact h
  | loop a iha =>
    intro st r h
    simp only [execA] at h
    simp only [execW]
    exact iterW_of (iterA_mono (fun st r hh => iha st r hh) n n st r (Nat.le_refl n) h)
  | _ =>
    intro st r h
    first | (simp only [execA] at h; simp only [execW]; exact h) | (simp [execA] at h)
/-- A call in the midst of a region. -/
theorem seqA_call {all : List Oper} {o : Oper} {env : Env} {σ σ' : AS} {f : Operand} {args : Array Operand} {ts : Array TypeId} {fv : AV} {as gs : List AV} {g : FuncId} {v : AV}
    (hop : o.op = .call { callee := .value f, args := args, argTypes := ts }) (hw : wantedA all env o = true) (hf : ev env f = some fv) (ha : evs env args.toList = some as) (hc : calleeA fv as = some (g, gs)) (hcall : call g gs σ cx.ro = some (v, σ')) :
    seqA P cx call all [o] env σ = some (putE env o.dst v, σ') := by
  have hv : isVal P o = false := by unfold isVal; rw [hop]
  simp only [seqA, hw, if_true, hv, Bool.false_eq_true, if_false, effA, hop, hf, ha, hc, hcall]
def stOf : Option (AExit × St) → St
  | some (_, st) => st
  | none => ([], ⟨[], []⟩)
def sOf : Option (Env × AS) → Env × AS
  | some s => s
  | none => ([], ⟨[], []⟩)
end
end Go.Abs
