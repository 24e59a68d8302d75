/-
  What the rows have in common: the laid variables, opened. Conditions: none.
-/
import Derived.Test.YtmpfgdpicbpedaaDoorCards
import Derived.Test.YtmpfgdpicbpedaaDoorSan
import Derived.ProofKit
import Derived.LaidMore
import Derived.OpenShut
import Derived.Stop.Joined
import Derived.Lib.LaidTab
namespace Go.Proofs.YtmpfgdpicbpedaaDoor
open Go.ChangeShapes Go.WideShapes Go.ChangeAt Go.WideElems Go.RowKit

theorem row_own : ownKnob Tryd.prog.godebug = none := by kernel_rfl
theorem row_laidOut : laidOutB Tryd.prog = true := by kernel_rfl
theorem g_pow : Tryd.prog.globalNamed "internal/strconv.uint64pow10" = some 1 := by kernel_rfl
theorem g_len : Tryd.prog.globalNamed "concord/date.lengths" = some 0 := by kernel_rfl
theorem t_len : (Tryd.prog.globals[0]?).map (·.type) = some 81 := by kernel_rfl
theorem u_len : Tryd.prog.underlying 81 = some (.array 12 3) := by kernel_rfl
theorem c3 : Tryd.prog.cellsOf 3 = 1 := by kernel_rfl
theorem c81 : Tryd.prog.cellsOf 81 = 12 := by kernel_rfl
theorem lay_len {H : Type} : (Rows.laid_concord_date_lengths : DataW H) = Lib.tabData .i64 lenL := rfl
theorem lay_pow {H : Type} : (Rows.laid_internal_strconv_uint64pow10 : DataW H) = Lib.tabData .u64 Lib.pow10Tab := rfl
theorem t_pow : (Tryd.prog.globals[1]?).map (·.type) = some 113 := by kernel_rfl
theorem u_pow : Tryd.prog.underlying 113 = some (.array 20 103) := by kernel_rfl
theorem c11 : Tryd.prog.cellsOf 103 = 1 := by kernel_rfl
theorem c113 : Tryd.prog.cellsOf 113 = 20 := by kernel_rfl

/-- The tables that the rows list. -/
def laid4 : List (String × DataW Unit) := [("math/bits.deBruijn32tab", Rows.laid_math_bits_deBruijn32tab), ("math/bits.deBruijn64tab", Rows.laid_math_bits_deBruijn64tab), ("internal/strconv.uint64pow10", Rows.laid_internal_strconv_uint64pow10), ("concord/date.lengths", Rows.laid_concord_date_lengths)]

theorem of_laid {W : World} (h : laidMetH Tryd.prog laid4 W) : Tabs W := by
  rw [MakeChecks.laidMetH_plain _ _ _ (by kernel_rfl)] at h
  obtain ⟨ps, ⟨g0, t0, cs0, f0, p0, q0, hg0, ht0, hv0, hd0, ⟨g1, t1, cs1, f1, p1, q1, hg1, ht1, hv1, hd1, ⟨g2, t2, cs2, f2, p2, q2, hg2, ht2, hv2, hd2, ⟨g3, t3, cs3, f3, p3, q3, hg3, ht3, hv3, hd3, _, _⟩, _⟩, _⟩, _⟩, _, _⟩ := h
  obtain rfl := Option.some.inj (g_pow.symm.trans hg2)
  obtain rfl := Option.some.inj (g_len.symm.trans hg3)
  obtain rfl := Option.some.inj (t_pow.symm.trans ht2)
  obtain rfl := Option.some.inj (t_len.symm.trans ht3)
  rw [lay_pow] at hd2
  rw [lay_len] at hd3
  have e2 := Lib.cells_of_tab u_pow (show Tryd.prog.underlying 103 = some (.int .u64) by kernel_rfl) c11 c113 hd2
  have e3 := Lib.cells_of_tab u_len Tryd.underlying3 c3 c81 hd3
  have l2 : Lib.TabIs Tryd.prog W "internal/strconv.uint64pow10" .u64 Lib.pow10Tab := by unfold Lib.TabIs; rw [hv2, ← e2]
  have l3 : Lib.TabIs Tryd.prog W "concord/date.lengths" .i64 lenL := by unfold Lib.TabIs; rw [hv3, ← e3]
  refine ⟨fun i hi => ?_, l2⟩
  have := l3.cell g_len i hi
  rw [this]

theorem door_met (os : Os) (args : Array Value) : laidMetH Tryd.prog laid4 ((World.doorLaid Tryd.prog 4000 os).forCall (fun _ _ => 0) ⟨#[], args, []⟩).memory :=
  laidMetH_of_parts3 (fuel := 8) (laidMet_of_run' 8 (by kernel_rfl) (by kernel_rfl)) (by kernel_rfl) (by kernel_rfl)

theorem wf_i64 {n : Int} (h : (Lit.int .i64 n).wf = true) : -9223372036854775808 ≤ n ∧ n ≤ 9223372036854775807 := by
  have h' : IntKind.i64.min ≤ n ∧ n ≤ IntKind.i64.max := by simpa [Lit.wf] using h
  exact h'
theorem wf_u8 {n : Int} (h : (Lit.int .u8 n).wf = true) : 0 ≤ n ∧ n ≤ 255 := by
  have h' : IntKind.u8.min ≤ n ∧ n ≤ IntKind.u8.max := by simpa [Lit.wf] using h
  exact h'
theorem wf_u16 {n : Int} (h : (Lit.int .u16 n).wf = true) : 0 ≤ n ∧ n ≤ 65535 := by
  have h' : IntKind.u16.min ≤ n ∧ n ≤ IntKind.u16.max := by simpa [Lit.wf] using h
  exact h'
theorem wf_u32 {n : Int} (h : (Lit.int .u32 n).wf = true) : 0 ≤ n ∧ n ≤ 4294967295 := by
  have h' : IntKind.u32.min ≤ n ∧ n ≤ IntKind.u32.max := by simpa [Lit.wf] using h
  exact h'
end Go.Proofs.YtmpfgdpicbpedaaDoor
