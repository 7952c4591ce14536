/-
  No cell of these rows narrows 'for every input' (looked for: loops, veiled, ifaces, maps, wideKeys, modest, calm, conditions, laid).
  DERIVED. THE GIVEN ROWS OF THIS SEAT. 3 by the template 'for every input the law returns true; each argument reads behind the call as it read before'; 0 by the template 'total and deterministic' (their statements: YtidfkjpcpgeilaaTotals.lean).
  GIVEN WITH THE SEED: the statements are not yours to turn. If you find one false, say at which input.
  Laid BY PROGRAM, IN A SANDBOX (cutbox-rows.mjs): the forced cells as the released guide's own fill.sh prints them over the translation 455b43c8baf3bf61… (all of the seat's roots in one cut). By AI agents, Wed Nov 11 2026. No macro, syntax, notation, axiom, sorry.
-/
import Derived.Test.YtidfkjpcpgeilaaChecked
import GoSem.Claim
import GoSem.ClaimJoined
import GoSem.ClaimMapViews
import Derived.JoinedTies
import Derived.KernelRfl
namespace Go.Proofs.Ytidfkjpcpgeilaa
/- THE CELL 'sum', in the pinned program and in every row, IS THE sha256 OF THE DUMP (.gsa) THAT YtidfkjpcpgeilaaProg.lean LOADS. Nothing in Lean hashes anything: it is a label: what it is worth is what the hold of that sum in a sandbox is worth. -/
noncomputable def Try.pinned : Pinned := { name := "ytidfkjpcpgeilaa", sum := "455b43c8baf3bf6125ee0c14617d8939d456885e0119f47d17369d667ac7da10", checked := Try.checked }
namespace Rows
def none {H : Type} : Left H := { results := [], args := [] }

/-- 'sautoirlaw20.LeadTakes': WHATEVER THE INPUT: true; the input reads as it did. -/
def leadTakesSpec : ChangeSpec := { name := "leadTakes", fn := fun _ => fun
  | [d1, d2, d3] => { results := [.lit (.bool true)], args := [d1, d2, d3] }
  | _ => none }
def leadTakesRow : OpenClaim := { program := "ytidfkjpcpgeilaa", sum := "455b43c8baf3bf6125ee0c14617d8939d456885e0119f47d17369d667ac7da10", func := "sautoir/sautoirlaw20.LeadTakes", spec := "leadTakes", unfollowed := true, recurses := true, apart := false }
def LeadTakesSaid : Prop := leadTakesRow.holds Try.pinned (OpenSpec.ofChange leadTakesSpec)

/-- ITS FALSE NEIGHBOUR: 'it returns false'. Refute it at one input. -/
def leadTakesWrong : ChangeSpec := { name := "leadTakes", fn := fun _ => fun
  | [d1, d2, d3] => { results := [.lit (.bool false)], args := [d1, d2, d3] }
  | _ => none }
def LeadTakesWrongFalsely : Prop := leadTakesRow.holds Try.pinned (OpenSpec.ofChange leadTakesWrong)

/-- 'sautoirlaw20.LeadPlays': WHATEVER THE INPUT: true; the input reads as it did. -/
def leadPlaysSpec : ChangeSpec := { name := "leadPlays", fn := fun _ => fun
  | [d1, d2, d3] => { results := [.lit (.bool true)], args := [d1, d2, d3] }
  | _ => none }
def leadPlaysRow : OpenClaim := { program := "ytidfkjpcpgeilaa", sum := "455b43c8baf3bf6125ee0c14617d8939d456885e0119f47d17369d667ac7da10", func := "sautoir/sautoirlaw20.LeadPlays", spec := "leadPlays", unfollowed := true, recurses := true, apart := false }
def LeadPlaysSaid : Prop := leadPlaysRow.holds Try.pinned (OpenSpec.ofChange leadPlaysSpec)

/-- ITS FALSE NEIGHBOUR: 'it returns false'. Refute it at one input. -/
def leadPlaysWrong : ChangeSpec := { name := "leadPlays", fn := fun _ => fun
  | [d1, d2, d3] => { results := [.lit (.bool false)], args := [d1, d2, d3] }
  | _ => none }
def LeadPlaysWrongFalsely : Prop := leadPlaysRow.holds Try.pinned (OpenSpec.ofChange leadPlaysWrong)

/-- 'sautoirlaw20.LeadSafe': WHATEVER THE INPUT: true; the input reads as it did. -/
def leadSafeSpec : ChangeSpec := { name := "leadSafe", fn := fun _ => fun
  | [d] => { results := [.lit (.bool true)], args := [d] }
  | _ => none }
def leadSafeRow : OpenClaim := { program := "ytidfkjpcpgeilaa", sum := "455b43c8baf3bf6125ee0c14617d8939d456885e0119f47d17369d667ac7da10", func := "sautoir/sautoirlaw20.LeadSafe", spec := "leadSafe", unfollowed := true, recurses := true, apart := false }
def LeadSafeSaid : Prop := leadSafeRow.holds Try.pinned (OpenSpec.ofChange leadSafeSpec)

/-- ITS FALSE NEIGHBOUR: 'it returns false'. Refute it at one input. -/
def leadSafeWrong : ChangeSpec := { name := "leadSafe", fn := fun _ => fun
  | [d] => { results := [.lit (.bool false)], args := [d] }
  | _ => none }
def LeadSafeWrongFalsely : Prop := leadSafeRow.holds Try.pinned (OpenSpec.ofChange leadSafeWrong)

/- THE SECOND FORM. 'bulk': how many values and letters a reading holds, each counted each time it is reached (what is shared counts as often as it is met; a slice's spare places count too). A statement '..UptoSaid' is the law's where the arguments, and the package variables that the reading takes, are together of bulk at most 1048576: NARROWER than '..Said'. Prove '..Said' where nothing that the law and all that it calls make is longer than what came in: it says more and counts as full. Else prove '..UptoSaid'. A law counts once. -/
mutual
def uptoBulk {H : Type} : DataW H → Nat
  | .lit (.string bytes) => bytes.length + 1
  | .lit _ => 1
  | .nil => 1
  | .ptr d => uptoBulk d + 1
  | .slice elems spare => uptoBulkAll elems + uptoBulkAll spare + 1
  | .agg parts => uptoBulkAll parts + 1
  | .iface _ d => uptoBulk d + 1
  | .map entries => uptoBulkEntries entries + 1
  | .held _ => 1
def uptoBulkAll {H : Type} : List (DataW H) → Nat
  | [] => 0
  | d :: r => uptoBulk d + uptoBulkAll r
def uptoBulkEntries {H : Type} : List (Lit × DataW H) → Nat
  | [] => 0
  | x :: r => uptoBulkEntry x + uptoBulkEntries r
def uptoBulkEntry {H : Type} : Lit × DataW H → Nat
  | (.string bytes, d) => bytes.length + uptoBulk d + 1
  | (_, d) => uptoBulk d + 1
 end
def uptoSmall : (H : Type) → List (DataW H) → Bool := fun _ ds => decide (uptoBulkAll ds ≤ 1048576)
def OpenSpec.upto (s : _root_.Go.ChangeSpec) : _root_.Go.OpenSpec := { _root_.Go.OpenSpec.ofChange s with cond := some uptoSmall }

/-- 'sautoirlaw20.LeadTakes', WHERE WHAT IT READS IS OF BULK AT MOST 1048576: true; the input reads as it did. -/
def leadTakesUptoRow : OpenClaim := { program := "ytidfkjpcpgeilaa", sum := "455b43c8baf3bf6125ee0c14617d8939d456885e0119f47d17369d667ac7da10", func := "sautoir/sautoirlaw20.LeadTakes", spec := "leadTakes", unfollowed := true, recurses := true, apart := false, narrowed := true }
def LeadTakesUptoSaid : Prop := leadTakesUptoRow.holds Try.pinned (OpenSpec.upto leadTakesSpec)

/-- 'sautoirlaw20.LeadPlays', WHERE WHAT IT READS IS OF BULK AT MOST 1048576: true; the input reads as it did. -/
def leadPlaysUptoRow : OpenClaim := { program := "ytidfkjpcpgeilaa", sum := "455b43c8baf3bf6125ee0c14617d8939d456885e0119f47d17369d667ac7da10", func := "sautoir/sautoirlaw20.LeadPlays", spec := "leadPlays", unfollowed := true, recurses := true, apart := false, narrowed := true }
def LeadPlaysUptoSaid : Prop := leadPlaysUptoRow.holds Try.pinned (OpenSpec.upto leadPlaysSpec)

/-- 'sautoirlaw20.LeadSafe', WHERE WHAT IT READS IS OF BULK AT MOST 1048576: true; the input reads as it did. -/
def leadSafeUptoRow : OpenClaim := { program := "ytidfkjpcpgeilaa", sum := "455b43c8baf3bf6125ee0c14617d8939d456885e0119f47d17369d667ac7da10", func := "sautoir/sautoirlaw20.LeadSafe", spec := "leadSafe", unfollowed := true, recurses := true, apart := false, narrowed := true }
def LeadSafeUptoSaid : Prop := leadSafeUptoRow.holds Try.pinned (OpenSpec.upto leadSafeSpec)

end Rows
end Go.Proofs.Ytidfkjpcpgeilaa
