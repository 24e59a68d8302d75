/-
  DERIVED. GIVEN WITH THE SEED: THE CARDS: each row of YtgnjakaamgeibaaGreatDoorRows.lean that lists a variable, with what it lists TIED to the program's text (the seventh form; the later family's looks); each row that meets fmt, with fmt's text TOLD by the authors' own Lean function (tested against real Go, not proved from fmt's source: count such statements apart). THE CARD IS WHAT COUNTS. Prove the row's statement (the work); the ties are given (YtgnjakaamgeibaaGreatDoorTie.lean); close each card by the builder's one call (the guide's Derived/Test/ToyasCard.lean, 'card_holds'). Laid BY PROGRAM, IN A SANDBOX (cutbox-door.mjs). By AI agents, Wed Nov 11 2026. No macro, syntax, notation, axiom, sorry.
-/
import Derived.Test.YtgnjakaamgeibaaGreatDoorRows
import GoSem.ClaimSeven
namespace Go.Proofs.YtgnjakaamgeibaaGreatDoor
namespace Rows

/-- THE TIED CARD OF 'concordlaw08.ShapeParts'. -/
def shapePartsCard : Claim7 := { stood := { row := shapePartsRow, standIns := [], harness := (true, "261e71fc966f3f4efb0d976127759169e36c342446bd9eaa57b0a6e4c1b86743"), looks := false }, kinds := [], alts := [], laidByText := true, laidKinds := [.data, .data, .data, .data, .pinned, .pinned], laidTests := true, laidLooks := .later }
def ShapePartsCardSaid : Prop := Claim7.holds Tryz.pinned (.plain (OpenSpec.ofChange shapePartsSpec)) shapePartsCard

/-- THE SECOND FORM's CARD OF 'concordlaw08.ShapeParts'. -/
def shapePartsUptoCard : Claim7 := { stood := { row := shapePartsUptoRow, standIns := [], harness := (true, "261e71fc966f3f4efb0d976127759169e36c342446bd9eaa57b0a6e4c1b86743"), looks := false }, kinds := [], alts := [], laidByText := true, laidKinds := [.data, .data, .data, .data, .pinned, .pinned], laidTests := true, laidLooks := .later }
def ShapePartsUptoCardSaid : Prop := Claim7.holds Tryz.pinned (.plain (OpenSpec.upto shapePartsSpec)) shapePartsUptoCard
end Rows
end Go.Proofs.YtgnjakaamgeibaaGreatDoor
