/-
  DERIVED. GIVEN WITH THE SEED: THE CARDS: each row of YthikbholekngfaaGreatDoorRows.lean that lists a variable, with what it lists TIED to the program's text (the seventh form; the later family's looks); each row that meets fmt, with fmt's text TOLD by the authors' own Lean function (tested against real Go, not proved from fmt's source: count such statements apart). THE CARD IS WHAT COUNTS. Prove the row's statement (the work); the ties are given (YthikbholekngfaaGreatDoorTie.lean); close each card by the builder's one call (the guide's Derived/Test/ToyasCard.lean, 'card_holds'). Laid BY PROGRAM, IN A SANDBOX (cutbox-door.mjs). By AI agents, Wed Nov 11 2026. No macro, syntax, notation, axiom, sorry.
-/
import Derived.Test.YthikbholekngfaaGreatDoorRows
import GoSem.ClaimSeven
namespace Go.Proofs.YthikbholekngfaaGreatDoor
namespace Rows

/-- THE TIED CARD OF 'sautoirlaw23.MasterNil'. -/
def masterNilCard : Claim7 := { stood := { row := masterNilRow, standIns := [], harness := (true, "6407fd824c2fb990a8845d6196fbcfa2157527ab4cf1e1f5980d6e2e0189d95f"), looks := true }, kinds := [], alts := [], laidByText := true, laidKinds := [.handle], laidTests := true, laidLooks := .later }
def MasterNilCardSaid : Prop := Claim7.holds Tryz.pinned (.plain (OpenSpec.ofChange masterNilSpec)) masterNilCard

/-- THE SECOND FORM's CARD OF 'sautoirlaw23.MasterNil'. -/
def masterNilUptoCard : Claim7 := { stood := { row := masterNilUptoRow, standIns := [], harness := (true, "6407fd824c2fb990a8845d6196fbcfa2157527ab4cf1e1f5980d6e2e0189d95f"), looks := true }, kinds := [], alts := [], laidByText := true, laidKinds := [.handle], laidTests := true, laidLooks := .later }
def MasterNilUptoCardSaid : Prop := Claim7.holds Tryz.pinned (.plain (OpenSpec.upto masterNilSpec)) masterNilUptoCard
end Rows
end Go.Proofs.YthikbholekngfaaGreatDoor
