/-
  No cell of these rows narrows 'for every input' (looked for: loops, veiled, ifaces, maps, wideKeys, modest, calm, conditions, laid).
  DERIVED. THE GIVEN ROWS OF THIS SEAT. 3 by the template 'for every input the law returns true; each argument reads behind the call as it read before'; 0 by the template 'total and deterministic' (their statements: YtmifnbjponpngaaGreatTotals.lean).
  GIVEN WITH THE SEED: the statements are not yours to turn. If you find one false, say at which input.
  Laid BY PROGRAM, IN A SANDBOX (cutbox-rows.mjs): the forced cells as the released guide's own fill.sh prints them over the translation 635dc4f2c8265794… (all of the seat's roots in one cut). By AI agents, Wed Nov 11 2026. No macro, syntax, notation, axiom, sorry.
-/
import Derived.Test.YtmifnbjponpngaaGreatChecked
import GoSem.Claim
import GoSem.ClaimJoined
import GoSem.ClaimMapViews
import Derived.JoinedTies
import Derived.KernelRfl
namespace Go.Proofs.YtmifnbjponpngaaGreat
/- THE CELL 'sum', in the pinned program and in every row, IS THE sha256 OF THE DUMP (.gsa) THAT YtmifnbjponpngaaGreatProg.lean LOADS. Nothing in Lean hashes anything: it is a label: what it is worth is what the hold of that sum in a sandbox is worth. -/
noncomputable def Tryz.pinned : Pinned := { name := "ytmifnbjponpngaagreat", sum := "635dc4f2c8265794fd3dc898849eadb020b8350ac8e9bc0323ff98e0778892db", checked := Tryz.checked }
namespace Rows
def none {H : Type} : Left H := { results := [], args := [] }

/-- 'sautoirlaw31.GhostTimes': WHATEVER THE INPUT: true; the input reads as it did. -/
def ghostTimesSpec : ChangeSpec := { name := "ghostTimes", fn := fun _ => fun
  | [d1, d2] => { results := [.lit (.bool true)], args := [d1, d2] }
  | _ => none }
def ghostTimesRow : OpenClaim := { program := "ytmifnbjponpngaagreat", sum := "635dc4f2c8265794fd3dc898849eadb020b8350ac8e9bc0323ff98e0778892db", func := "sautoir/sautoirlaw31.GhostTimes", spec := "ghostTimes", unfollowed := true, recurses := true, plainKeys := false, apart := false }
def GhostTimesSaid : Prop := ghostTimesRow.holds Tryz.pinned (OpenSpec.ofChange ghostTimesSpec)

/-- ITS FALSE NEIGHBOUR: 'it returns false'. Refute it at one input. -/
def ghostTimesWrong : ChangeSpec := { name := "ghostTimes", fn := fun _ => fun
  | [d1, d2] => { results := [.lit (.bool false)], args := [d1, d2] }
  | _ => none }
def GhostTimesWrongFalsely : Prop := ghostTimesRow.holds Tryz.pinned (OpenSpec.ofChange ghostTimesWrong)

/-- 'sautoirlaw31.GhostPlays': WHATEVER THE INPUT: true; the input reads as it did. -/
def ghostPlaysSpec : ChangeSpec := { name := "ghostPlays", fn := fun _ => fun
  | [d1, d2] => { results := [.lit (.bool true)], args := [d1, d2] }
  | _ => none }
def ghostPlaysRow : OpenClaim := { program := "ytmifnbjponpngaagreat", sum := "635dc4f2c8265794fd3dc898849eadb020b8350ac8e9bc0323ff98e0778892db", func := "sautoir/sautoirlaw31.GhostPlays", spec := "ghostPlays", unfollowed := true, recurses := true, plainKeys := false, apart := false }
def GhostPlaysSaid : Prop := ghostPlaysRow.holds Tryz.pinned (OpenSpec.ofChange ghostPlaysSpec)

/-- ITS FALSE NEIGHBOUR: 'it returns false'. Refute it at one input. -/
def ghostPlaysWrong : ChangeSpec := { name := "ghostPlays", fn := fun _ => fun
  | [d1, d2] => { results := [.lit (.bool false)], args := [d1, d2] }
  | _ => none }
def GhostPlaysWrongFalsely : Prop := ghostPlaysRow.holds Tryz.pinned (OpenSpec.ofChange ghostPlaysWrong)

/-- 'sautoirlaw31.GhostNil': WHATEVER THE INPUT: true; the input reads as it did. -/
def ghostNilSpec : ChangeSpec := { name := "ghostNil", fn := fun _ => fun
  | [d] => { results := [.lit (.bool true)], args := [d] }
  | _ => none }
def ghostNilRow : OpenClaim := { program := "ytmifnbjponpngaagreat", sum := "635dc4f2c8265794fd3dc898849eadb020b8350ac8e9bc0323ff98e0778892db", func := "sautoir/sautoirlaw31.GhostNil", spec := "ghostNil", unfollowed := true, recurses := true, plainKeys := false, apart := false }
def GhostNilSaid : Prop := ghostNilRow.holds Tryz.pinned (OpenSpec.ofChange ghostNilSpec)

/-- ITS FALSE NEIGHBOUR: 'it returns false'. Refute it at one input. -/
def ghostNilWrong : ChangeSpec := { name := "ghostNil", fn := fun _ => fun
  | [d] => { results := [.lit (.bool false)], args := [d] }
  | _ => none }
def GhostNilWrongFalsely : Prop := ghostNilRow.holds Tryz.pinned (OpenSpec.ofChange ghostNilWrong)

/- THE SECOND FORM. 'bulk': how many values and letters a reading holds, each counted each time it is reached (what is shared counts as often as it is met; a slice's spare places count too). A statement '..UptoSaid' is the law's where the arguments, and the package variables that the reading takes, are together of bulk at most 1048576: NARROWER than '..Said'. Prove '..Said' where nothing that the law and all that it calls make is longer than what came in: it says more and counts as full. Else prove '..UptoSaid'. A law counts once. -/
mutual
def uptoBulk {H : Type} : DataW H → Nat
  | .lit (.string bytes) => bytes.length + 1
  | .lit _ => 1
  | .nil => 1
  | .ptr d => uptoBulk d + 1
  | .slice elems spare => uptoBulkAll elems + uptoBulkAll spare + 1
  | .agg parts => uptoBulkAll parts + 1
  | .iface _ d => uptoBulk d + 1
  | .map entries => uptoBulkEntries entries + 1
  | .held _ => 1
def uptoBulkAll {H : Type} : List (DataW H) → Nat
  | [] => 0
  | d :: r => uptoBulk d + uptoBulkAll r
def uptoBulkEntries {H : Type} : List (Lit × DataW H) → Nat
  | [] => 0
  | x :: r => uptoBulkEntry x + uptoBulkEntries r
def uptoBulkEntry {H : Type} : Lit × DataW H → Nat
  | (.string bytes, d) => bytes.length + uptoBulk d + 1
  | (_, d) => uptoBulk d + 1
 end
def uptoSmall : (H : Type) → List (DataW H) → Bool := fun _ ds => decide (uptoBulkAll ds ≤ 1048576)
def OpenSpec.upto (s : _root_.Go.ChangeSpec) : _root_.Go.OpenSpec := { _root_.Go.OpenSpec.ofChange s with cond := some uptoSmall }

/-- 'sautoirlaw31.GhostTimes', WHERE WHAT IT READS IS OF BULK AT MOST 1048576: true; the input reads as it did. -/
def ghostTimesUptoRow : OpenClaim := { program := "ytmifnbjponpngaagreat", sum := "635dc4f2c8265794fd3dc898849eadb020b8350ac8e9bc0323ff98e0778892db", func := "sautoir/sautoirlaw31.GhostTimes", spec := "ghostTimes", unfollowed := true, recurses := true, plainKeys := false, apart := false, narrowed := true }
def GhostTimesUptoSaid : Prop := ghostTimesUptoRow.holds Tryz.pinned (OpenSpec.upto ghostTimesSpec)

/-- 'sautoirlaw31.GhostPlays', WHERE WHAT IT READS IS OF BULK AT MOST 1048576: true; the input reads as it did. -/
def ghostPlaysUptoRow : OpenClaim := { program := "ytmifnbjponpngaagreat", sum := "635dc4f2c8265794fd3dc898849eadb020b8350ac8e9bc0323ff98e0778892db", func := "sautoir/sautoirlaw31.GhostPlays", spec := "ghostPlays", unfollowed := true, recurses := true, plainKeys := false, apart := false, narrowed := true }
def GhostPlaysUptoSaid : Prop := ghostPlaysUptoRow.holds Tryz.pinned (OpenSpec.upto ghostPlaysSpec)

/-- 'sautoirlaw31.GhostNil', WHERE WHAT IT READS IS OF BULK AT MOST 1048576: true; the input reads as it did. -/
def ghostNilUptoRow : OpenClaim := { program := "ytmifnbjponpngaagreat", sum := "635dc4f2c8265794fd3dc898849eadb020b8350ac8e9bc0323ff98e0778892db", func := "sautoir/sautoirlaw31.GhostNil", spec := "ghostNil", unfollowed := true, recurses := true, plainKeys := false, apart := false, narrowed := true }
def GhostNilUptoSaid : Prop := ghostNilUptoRow.holds Tryz.pinned (OpenSpec.upto ghostNilSpec)

end Rows
end Go.Proofs.YtmifnbjponpngaaGreat
