/-
  What the rows have in common: the laid variables, opened. Conditions: none.
-/
import Derived.Test.YtgnjakaamgeibaaGreatDoorRdr2
import Derived.Test.YtgnjakaamgeibaaGreatDoorRPar
import Derived.Test.YtgnjakaamgeibaaGreatDoorRgt
import Derived.Test.YtgnjakaamgeibaaGreatDoorRange
import Derived.Test.YtgnjakaamgeibaaGreatDoorOps
import Derived.Test.YtgnjakaamgeibaaGreatDoorBrg
import Derived.Test.YtgnjakaamgeibaaGreatDoorRangeA
import Derived.Test.YtgnjakaamgeibaaGreatDoorFnd
import Derived.Test.YtgnjakaamgeibaaGreatDoorCards
import Derived.ProofKit
import Derived.LaidMore
import Derived.OpenShut
import Derived.Stop.Joined
import Derived.Lib.LaidTab
namespace Go.Proofs.YtgnjakaamgeibaaGreatDoor
open Go.ChangeShapes Go.WideShapes Go.ChangeAt Go.WideElems Go.RowKit
theorem row_own : ownKnob Tryz.prog.godebug = none := by kernel_rfl
theorem row_laidOut : laidOutB Tryz.prog = true := by kernel_rfl
theorem g_pow : Tryz.prog.globalNamed "internal/strconv.uint64pow10" = some 4 := by kernel_rfl
theorem lay_pow {H : Type} : (Rows.laid_internal_strconv_uint64pow10 : DataW H) = Lib.tabData .u64 Lib.pow10Tab := rfl
theorem t_pow : (Tryz.prog.globals[4]?).map (·.type) = some 125 := by kernel_rfl
theorem u_pow : Tryz.prog.underlying 125 = some (.array 20 110) := by kernel_rfl
theorem c11 : Tryz.prog.cellsOf 110 = 1 := by kernel_rfl
theorem c150 : Tryz.prog.cellsOf 125 = 20 := by kernel_rfl
theorem wf_i64 {n : Int} (h : (Lit.int .i64 n).wf = true) : -9223372036854775808 ≤ n ∧ n ≤ 9223372036854775807 := by
  have h' : IntKind.i64.min ≤ n ∧ n ≤ IntKind.i64.max := by simpa [Lit.wf] using h
  exact h'
theorem wf_u8 {n : Int} (h : (Lit.int .u8 n).wf = true) : 0 ≤ n ∧ n ≤ 255 := by
  have h' : IntKind.u8.min ≤ n ∧ n ≤ IntKind.u8.max := by simpa [Lit.wf] using h
  exact h'
end Go.Proofs.YtgnjakaamgeibaaGreatDoor
