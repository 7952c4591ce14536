/- What the example knows of functions. -/

import Derived.Test.YtidfkjpcpgeilaaD4
import Derived.Test.YtidfkjpcpgeilaaAbs14
open Go Go.Abs Go.Proofs
set_option maxRecDepth 100000
set_option maxHeartbeats 4000000
set_option linter.unusedSimpArgs false
set_option linter.unusedVariables false

/-- Keys sorted, of the one map's keys or the other's. -/
noncomputable def orP (p q : List AV → AS → Option Nat → Option (AV × AS)) (args : List AV) (σ : AS) (ro : Option Nat) : Option (AV × AS) := match p args σ ro with
  | some r => some r
  | none => q args σ ro
theorem orP_ok {P : Program} {f : FuncId} {p q : List AV → AS → Option Nat → Option (AV × AS)} (hp : PrimOk P f p) (hq : PrimOk P f q) : PrimOk P f (orP p q) := {
  ent := hp.ent
  snd := by
    intro args σ ro v σ' h
    unfold orP at h
    split at h
    · rename_i r e
      cases h
      exact hp.snd args σ ro v σ' e
    · exact hq.snd args σ ro v σ' h
  beh := by
    intro args σ ro v σ' h
    unfold orP at h
    split at h
    · rename_i r e
      cases h
      exact hp.beh args σ ro v σ' e
    · exact hq.beh args σ ro v σ' h }
/-- How each function is run. -/
noncomputable def how1 (f : FuncId) : Option How :=
  if f = 30 then some (.prim Ldr.leadP) else if f = 32 then some (.prim (orP (sortedA kindI 50) (sortedA kindI 68))) else
  match bodyTab.find? (fun p => p.1 == f) with
  | some p => some (.body p.2)
  | none => if decide (f < 53) = true then some (.body {}) else none
/-- For the chapter's example, run as it stands. -/
def howA (f : FuncId) : Option How := if f = 30 then some (.body {esc := [58]}) else
  match bodyTab.find? (fun p => p.1 == f) with
  | some p => some (.body p.2)
  | none => if decide (f < 53) = true then some (.body {}) else none
noncomputable def how (f : FuncId) : Option How := if f = 8 then some (.prim (promE (callW Try.prog howA 8))) else how1 f
theorem awake_run : (callN Try.prog howA 40 8 [] ⟨[], []⟩ none).map (fun x => x.1) = some (.bool true) := by kernel_rfl
theorem awake_c (σ : AS) (ro : Option Nat) : callW Try.prog how 8 [] σ ro = some (.bool true, σ) := by
  obtain ⟨⟨v, σ1⟩, h1, h2⟩ := Option.map_eq_some_iff.1 awake_run
  simp only at h2
  subst h2
  exact callW_prim rfl (promE_eq (callW_of h1))