/-
  The arguments of the laws that are slices, opened. Conditions: none.
-/
import Derived.Test.YtgnjakaamgeibaaGreatDoorRowD
import Derived.Test.YtgnjakaamgeibaaGreatDoorMde
import Derived.Deep.Slices
namespace Go.Proofs.YtgnjakaamgeibaaGreatDoor
open Go.ChangeShapes Go.WideShapes Go.ChangeAt Go.RowKit
open Go.ChangeMaps (open_string shut_string)
theorem row_cells3 : Tryz.prog.cellsOf 3 = 1 := by kernel_rfl
theorem row_cells9 : Tryz.prog.cellsOf 9 = 1 := by kernel_rfl
section opens
variable {H : Type} {enc : TypeId × Value → H} {W : World} {base : Nat} {sp : Nat → Bool} {held : Bool}
end opens
end Go.Proofs.YtgnjakaamgeibaaGreatDoor
