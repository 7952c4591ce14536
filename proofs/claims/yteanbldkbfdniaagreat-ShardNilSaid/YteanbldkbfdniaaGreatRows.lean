/-
  No cell of these rows narrows 'for every input' (looked for: loops, veiled, ifaces, maps, wideKeys, modest, calm, conditions, laid).
  DERIVED. THE GIVEN ROWS OF THIS SEAT. 5 by the template 'for every input the law returns true; each argument reads behind the call as it read before'; 0 by the template 'total and deterministic' (their statements: YteanbldkbfdniaaGreatTotals.lean).
  GIVEN WITH THE SEED: the statements are not yours to turn. If you find one false, say at which input.
  Laid BY PROGRAM, IN A SANDBOX (cutbox-rows.mjs): the forced cells as the released guide's own fill.sh prints them over the translation a4fb527f2e6b49f9… (all of the seat's roots in one cut). By AI agents, Wed Nov 11 2026. No macro, syntax, notation, axiom, sorry.
-/
import Derived.Test.YteanbldkbfdniaaGreatChecked
import GoSem.Claim
import GoSem.ClaimJoined
import GoSem.ClaimMapViews
import Derived.JoinedTies
import Derived.KernelRfl
namespace Go.Proofs.YteanbldkbfdniaaGreat
/- THE CELL 'sum', in the pinned program and in every row, IS THE sha256 OF THE DUMP (.gsa) THAT YteanbldkbfdniaaGreatProg.lean LOADS. Nothing in Lean hashes anything: it is a label: what it is worth is what the hold of that sum in a sandbox is worth. -/
noncomputable def Tryz.pinned : Pinned := { name := "yteanbldkbfdniaagreat", sum := "a4fb527f2e6b49f925379fdbde87de59d4c3b0aba9c67072ad0129d34522b637", checked := Tryz.checked }
namespace Rows
def none {H : Type} : Left H := { results := [], args := [] }

/-- 'sautoirlaw14.ShardHolds': WHATEVER THE INPUT: true; the input reads as it did. -/
def shardHoldsSpec : ChangeSpec := { name := "shardHolds", fn := fun _ => fun
  | [d1, d2, d3] => { results := [.lit (.bool true)], args := [d1, d2, d3] }
  | _ => none }
def shardHoldsRow : OpenClaim := { program := "yteanbldkbfdniaagreat", sum := "a4fb527f2e6b49f925379fdbde87de59d4c3b0aba9c67072ad0129d34522b637", func := "sautoir/sautoirlaw14.ShardHolds", spec := "shardHolds", unfollowed := true, recurses := true, apart := false }
def ShardHoldsSaid : Prop := shardHoldsRow.holds Tryz.pinned (OpenSpec.ofChange shardHoldsSpec)

/-- ITS FALSE NEIGHBOUR: 'it returns false'. Refute it at one input. -/
def shardHoldsWrong : ChangeSpec := { name := "shardHolds", fn := fun _ => fun
  | [d1, d2, d3] => { results := [.lit (.bool false)], args := [d1, d2, d3] }
  | _ => none }
def ShardHoldsWrongFalsely : Prop := shardHoldsRow.holds Tryz.pinned (OpenSpec.ofChange shardHoldsWrong)

/-- 'sautoirlaw14.ShardWalk': WHATEVER THE INPUT: true; the input reads as it did. -/
def shardWalkSpec : ChangeSpec := { name := "shardWalk", fn := fun _ => fun
  | [d1, d2, d3] => { results := [.lit (.bool true)], args := [d1, d2, d3] }
  | _ => none }
def shardWalkRow : OpenClaim := { program := "yteanbldkbfdniaagreat", sum := "a4fb527f2e6b49f925379fdbde87de59d4c3b0aba9c67072ad0129d34522b637", func := "sautoir/sautoirlaw14.ShardWalk", spec := "shardWalk", unfollowed := true, recurses := true, apart := false }
def ShardWalkSaid : Prop := shardWalkRow.holds Tryz.pinned (OpenSpec.ofChange shardWalkSpec)

/-- ITS FALSE NEIGHBOUR: 'it returns false'. Refute it at one input. -/
def shardWalkWrong : ChangeSpec := { name := "shardWalk", fn := fun _ => fun
  | [d1, d2, d3] => { results := [.lit (.bool false)], args := [d1, d2, d3] }
  | _ => none }
def ShardWalkWrongFalsely : Prop := shardWalkRow.holds Tryz.pinned (OpenSpec.ofChange shardWalkWrong)

/-- 'sautoirlaw14.ShardOnce': WHATEVER THE INPUT: true; the input reads as it did. -/
def shardOnceSpec : ChangeSpec := { name := "shardOnce", fn := fun _ => fun
  | [d1, d2, d3, d4] => { results := [.lit (.bool true)], args := [d1, d2, d3, d4] }
  | _ => none }
def shardOnceRow : OpenClaim := { program := "yteanbldkbfdniaagreat", sum := "a4fb527f2e6b49f925379fdbde87de59d4c3b0aba9c67072ad0129d34522b637", func := "sautoir/sautoirlaw14.ShardOnce", spec := "shardOnce", unfollowed := true, recurses := true, apart := false }
def ShardOnceSaid : Prop := shardOnceRow.holds Tryz.pinned (OpenSpec.ofChange shardOnceSpec)

/-- ITS FALSE NEIGHBOUR: 'it returns false'. Refute it at one input. -/
def shardOnceWrong : ChangeSpec := { name := "shardOnce", fn := fun _ => fun
  | [d1, d2, d3, d4] => { results := [.lit (.bool false)], args := [d1, d2, d3, d4] }
  | _ => none }
def ShardOnceWrongFalsely : Prop := shardOnceRow.holds Tryz.pinned (OpenSpec.ofChange shardOnceWrong)

/-- 'sautoirlaw14.ShardPlays': WHATEVER THE INPUT: true; the input reads as it did. -/
def shardPlaysSpec : ChangeSpec := { name := "shardPlays", fn := fun _ => fun
  | [d1, d2, d3, d4, d5] => { results := [.lit (.bool true)], args := [d1, d2, d3, d4, d5] }
  | _ => none }
def shardPlaysRow : OpenClaim := { program := "yteanbldkbfdniaagreat", sum := "a4fb527f2e6b49f925379fdbde87de59d4c3b0aba9c67072ad0129d34522b637", func := "sautoir/sautoirlaw14.ShardPlays", spec := "shardPlays", unfollowed := true, recurses := true, apart := false }
def ShardPlaysSaid : Prop := shardPlaysRow.holds Tryz.pinned (OpenSpec.ofChange shardPlaysSpec)

/-- ITS FALSE NEIGHBOUR: 'it returns false'. Refute it at one input. -/
def shardPlaysWrong : ChangeSpec := { name := "shardPlays", fn := fun _ => fun
  | [d1, d2, d3, d4, d5] => { results := [.lit (.bool false)], args := [d1, d2, d3, d4, d5] }
  | _ => none }
def ShardPlaysWrongFalsely : Prop := shardPlaysRow.holds Tryz.pinned (OpenSpec.ofChange shardPlaysWrong)

/-- 'sautoirlaw14.ShardNil': WHATEVER THE INPUT: true; the input reads as it did. -/
def shardNilSpec : ChangeSpec := { name := "shardNil", fn := fun _ => fun
  | [d1, d2, d3] => { results := [.lit (.bool true)], args := [d1, d2, d3] }
  | _ => none }
def shardNilRow : OpenClaim := { program := "yteanbldkbfdniaagreat", sum := "a4fb527f2e6b49f925379fdbde87de59d4c3b0aba9c67072ad0129d34522b637", func := "sautoir/sautoirlaw14.ShardNil", spec := "shardNil", unfollowed := true, recurses := true, apart := false }
def ShardNilSaid : Prop := shardNilRow.holds Tryz.pinned (OpenSpec.ofChange shardNilSpec)

/-- ITS FALSE NEIGHBOUR: 'it returns false'. Refute it at one input. -/
def shardNilWrong : ChangeSpec := { name := "shardNil", fn := fun _ => fun
  | [d1, d2, d3] => { results := [.lit (.bool false)], args := [d1, d2, d3] }
  | _ => none }
def ShardNilWrongFalsely : Prop := shardNilRow.holds Tryz.pinned (OpenSpec.ofChange shardNilWrong)

/- THE SECOND FORM. 'bulk': how many values and letters a reading holds, each counted each time it is reached (what is shared counts as often as it is met; a slice's spare places count too). A statement '..UptoSaid' is the law's where the arguments, and the package variables that the reading takes, are together of bulk at most 1048576: NARROWER than '..Said'. Prove '..Said' where nothing that the law and all that it calls make is longer than what came in: it says more and counts as full. Else prove '..UptoSaid'. A law counts once. -/
mutual
def uptoBulk {H : Type} : DataW H → Nat
  | .lit (.string bytes) => bytes.length + 1
  | .lit _ => 1
  | .nil => 1
  | .ptr d => uptoBulk d + 1
  | .slice elems spare => uptoBulkAll elems + uptoBulkAll spare + 1
  | .agg parts => uptoBulkAll parts + 1
  | .iface _ d => uptoBulk d + 1
  | .map entries => uptoBulkEntries entries + 1
  | .held _ => 1
def uptoBulkAll {H : Type} : List (DataW H) → Nat
  | [] => 0
  | d :: r => uptoBulk d + uptoBulkAll r
def uptoBulkEntries {H : Type} : List (Lit × DataW H) → Nat
  | [] => 0
  | x :: r => uptoBulkEntry x + uptoBulkEntries r
def uptoBulkEntry {H : Type} : Lit × DataW H → Nat
  | (.string bytes, d) => bytes.length + uptoBulk d + 1
  | (_, d) => uptoBulk d + 1
 end
def uptoSmall : (H : Type) → List (DataW H) → Bool := fun _ ds => decide (uptoBulkAll ds ≤ 1048576)
def OpenSpec.upto (s : _root_.Go.ChangeSpec) : _root_.Go.OpenSpec := { _root_.Go.OpenSpec.ofChange s with cond := some uptoSmall }

/-- 'sautoirlaw14.ShardHolds', WHERE WHAT IT READS IS OF BULK AT MOST 1048576: true; the input reads as it did. -/
def shardHoldsUptoRow : OpenClaim := { program := "yteanbldkbfdniaagreat", sum := "a4fb527f2e6b49f925379fdbde87de59d4c3b0aba9c67072ad0129d34522b637", func := "sautoir/sautoirlaw14.ShardHolds", spec := "shardHolds", unfollowed := true, recurses := true, apart := false, narrowed := true }
def ShardHoldsUptoSaid : Prop := shardHoldsUptoRow.holds Tryz.pinned (OpenSpec.upto shardHoldsSpec)

/-- 'sautoirlaw14.ShardWalk', WHERE WHAT IT READS IS OF BULK AT MOST 1048576: true; the input reads as it did. -/
def shardWalkUptoRow : OpenClaim := { program := "yteanbldkbfdniaagreat", sum := "a4fb527f2e6b49f925379fdbde87de59d4c3b0aba9c67072ad0129d34522b637", func := "sautoir/sautoirlaw14.ShardWalk", spec := "shardWalk", unfollowed := true, recurses := true, apart := false, narrowed := true }
def ShardWalkUptoSaid : Prop := shardWalkUptoRow.holds Tryz.pinned (OpenSpec.upto shardWalkSpec)

/-- 'sautoirlaw14.ShardOnce', WHERE WHAT IT READS IS OF BULK AT MOST 1048576: true; the input reads as it did. -/
def shardOnceUptoRow : OpenClaim := { program := "yteanbldkbfdniaagreat", sum := "a4fb527f2e6b49f925379fdbde87de59d4c3b0aba9c67072ad0129d34522b637", func := "sautoir/sautoirlaw14.ShardOnce", spec := "shardOnce", unfollowed := true, recurses := true, apart := false, narrowed := true }
def ShardOnceUptoSaid : Prop := shardOnceUptoRow.holds Tryz.pinned (OpenSpec.upto shardOnceSpec)

/-- 'sautoirlaw14.ShardPlays', WHERE WHAT IT READS IS OF BULK AT MOST 1048576: true; the input reads as it did. -/
def shardPlaysUptoRow : OpenClaim := { program := "yteanbldkbfdniaagreat", sum := "a4fb527f2e6b49f925379fdbde87de59d4c3b0aba9c67072ad0129d34522b637", func := "sautoir/sautoirlaw14.ShardPlays", spec := "shardPlays", unfollowed := true, recurses := true, apart := false, narrowed := true }
def ShardPlaysUptoSaid : Prop := shardPlaysUptoRow.holds Tryz.pinned (OpenSpec.upto shardPlaysSpec)

/-- 'sautoirlaw14.ShardNil', WHERE WHAT IT READS IS OF BULK AT MOST 1048576: true; the input reads as it did. -/
def shardNilUptoRow : OpenClaim := { program := "yteanbldkbfdniaagreat", sum := "a4fb527f2e6b49f925379fdbde87de59d4c3b0aba9c67072ad0129d34522b637", func := "sautoir/sautoirlaw14.ShardNil", spec := "shardNil", unfollowed := true, recurses := true, apart := false, narrowed := true }
def ShardNilUptoSaid : Prop := shardNilUptoRow.holds Tryz.pinned (OpenSpec.upto shardNilSpec)

end Rows
end Go.Proofs.YteanbldkbfdniaaGreat
