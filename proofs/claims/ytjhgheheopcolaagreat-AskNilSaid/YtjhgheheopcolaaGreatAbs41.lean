/- Keys that are ints, keys that are strings. -/
import Derived.Test.YtjhgheheopcolaaGreatAbs40
import Derived.Sort.OwnSorted
set_option linter.unusedVariables false
set_option linter.unusedSimpArgs false
namespace Go.Abs
open Go.RowKit Go.MapKept Go.Maps Go.ChangeMaps Go.Proofs

def kindI : KeyKind Int := {
  at? a := match a with
    | .int .i64 k => if (Lit.int .i64 k).wf = true then some k else none
    | _ => none
  av k := .int .i64 k
  val k := .int .i64 k
  lit k := .int .i64 k
  of := intKeys
  le := leI
  most := 17592186044416 }

theorem kindI_ok {P : Program} {kt : TypeId} (hk : P.underlying kt = some (.int .i64)) : KeyKindOk P kt kindI := {
  key a k h := by
    simp only [kindI] at h
    split at h
    · rename_i n
      split at h
      · rename_i hw
        cases h
        exact ⟨rfl, by simp [kindI, keyOf, hk, mapKey, hw]⟩
      · cases h
    · cases h
  vr ρ w k u h := by cases h; rfl
  rv ρ w k := .int _ _
  one k := ⟨rfl, rfl⟩
  of es ks h := by
    have : (es.map (·.1)).map intOf = (ks.map fun k => Lit.int .i64 k).map intOf := congrArg _ h
    simpa [kindI, intKeys, Function.comp_def, intOf] using this
  perm es es' h := h.map _
  sort l l' h := isortB_int h
  most := by decide }

def kindS : KeyKind (List UInt8) := {
  at? a := match a with
    | .str s => if s.data.toList.length ≤ maxLen then some s.data.toList else none
    | _ => none
  av k := .str ⟨⟨k⟩⟩
  val k := encStr k
  lit k := .string k
  of := strKeys
  le := leB
  most := 8796093022208 }

theorem kindS_ok {P : Program} {kt : TypeId} (hk : P.underlying kt = some .string) : KeyKindOk P kt kindS := {
  key a k h := by
    simp only [kindS] at h
    split at h
    · rename_i n
      split at h
      · rename_i hw
        cases h
        refine ⟨by simp [kindS], ?_⟩
        have h1 : (ByteArray.mk ⟨n.data.toList⟩).size ≤ maxLen := hw
        simp only [kindS, keyOf, hk, encStr, mapKey]
        exact if_pos h1
      · cases h
    · cases h
  vr ρ w k u h := by cases h; rfl
  rv ρ w k := .str _
  one k := ⟨rfl, rfl⟩
  of es ks h := by
    have : (es.map (·.1)).map strOf = (ks.map fun k => Lit.string k).map strOf := congrArg _ h
    simpa [kindS, strKeys, Function.comp_def, strOf] using this
  perm es es' h := h.map _
  sort l l' h := isortB_str h
  most := by decide }
end Go.Abs
