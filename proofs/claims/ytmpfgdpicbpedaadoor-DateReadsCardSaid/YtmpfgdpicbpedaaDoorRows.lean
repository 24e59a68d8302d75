/-
  NARROWER THAN 'FOR EVERY INPUT', by the rows' own cells (each row's printed sentence says how): DateNumbers: laid · DateInverse: laid · DateYears: laid · DateMonths: laid · DateBack: laid · DateFormats: laid · DateReads: laid · DateUndo: laid · DateTexts: laid · DateAdds: laid.
  DERIVED. THE GIVEN ROWS OF THIS SEAT. 10 by the template 'for every input the law returns true; each argument reads behind the call as it read before'; 0 by the template 'total and deterministic' (their statements: YtmpfgdpicbpedaaDoorTotals.lean).
  GIVEN WITH THE SEED: the statements are not yours to turn. If you find one false, say at which input.
  Laid BY PROGRAM, IN A SANDBOX (cutbox-rows.mjs): the forced cells as the released guide's own fill.sh prints them over the translation 2285895a21e505fd… (all of the seat's roots in one cut). By AI agents, Wed Nov 11 2026. No macro, syntax, notation, axiom, sorry.
-/
import Derived.Test.YtmpfgdpicbpedaaDoorChecked
import GoSem.Claim
import GoSem.ClaimJoined
import GoSem.ClaimMapViews
import Derived.JoinedTies
import Derived.KernelRfl
namespace Go.Proofs.YtmpfgdpicbpedaaDoor
/- THE CELL 'sum', in the pinned program and in every row, IS THE sha256 OF THE DUMP (.gsa) THAT YtmpfgdpicbpedaaDoorProg.lean LOADS. Nothing in Lean hashes anything: it is a label: what it is worth is what the hold of that sum in a sandbox is worth. -/
noncomputable def Tryd.pinned : Pinned := { name := "ytmpfgdpicbpedaadoor", sum := "2285895a21e505fd7993dc3c744075394834e692d9af5714eabf916097039bb0", checked := Tryd.checked }
namespace Rows
def none {H : Type} : Left H := { results := [], args := [] }

/- WHAT THE LISTED PACKAGE-LEVEL VARIABLES READ AS WHEN THE CALL BEGINS. Each datum BY PROGRAM (the guide's laid-datum.mjs) off the statement by which the dump's own 'gosem.cut.vars' lays the variable. In a bare row this is a premise. The card (YtmpfgdpicbpedaaDoorCards.lean) ties it to the program's text. -/
def laid_math_bits_deBruijn32tab {H : Type} : DataW H := .agg [.lit (.int .u8 0), .lit (.int .u8 1), .lit (.int .u8 28), .lit (.int .u8 2), .lit (.int .u8 29), .lit (.int .u8 14), .lit (.int .u8 24), .lit (.int .u8 3), .lit (.int .u8 30), .lit (.int .u8 22), .lit (.int .u8 20), .lit (.int .u8 15), .lit (.int .u8 25), .lit (.int .u8 17), .lit (.int .u8 4), .lit (.int .u8 8), .lit (.int .u8 31), .lit (.int .u8 27), .lit (.int .u8 13), .lit (.int .u8 23), .lit (.int .u8 21), .lit (.int .u8 19), .lit (.int .u8 16), .lit (.int .u8 7), .lit (.int .u8 26), .lit (.int .u8 12), .lit (.int .u8 18), .lit (.int .u8 6), .lit (.int .u8 11), .lit (.int .u8 5), .lit (.int .u8 10), .lit (.int .u8 9)]
def laid_math_bits_deBruijn64tab {H : Type} : DataW H := .agg [.lit (.int .u8 0), .lit (.int .u8 1), .lit (.int .u8 56), .lit (.int .u8 2), .lit (.int .u8 57), .lit (.int .u8 49), .lit (.int .u8 28), .lit (.int .u8 3), .lit (.int .u8 61), .lit (.int .u8 58), .lit (.int .u8 42), .lit (.int .u8 50), .lit (.int .u8 38), .lit (.int .u8 29), .lit (.int .u8 17), .lit (.int .u8 4), .lit (.int .u8 62), .lit (.int .u8 47), .lit (.int .u8 59), .lit (.int .u8 36), .lit (.int .u8 45), .lit (.int .u8 43), .lit (.int .u8 51), .lit (.int .u8 22), .lit (.int .u8 53), .lit (.int .u8 39), .lit (.int .u8 33), .lit (.int .u8 30), .lit (.int .u8 24), .lit (.int .u8 18), .lit (.int .u8 12), .lit (.int .u8 5), .lit (.int .u8 63), .lit (.int .u8 55), .lit (.int .u8 48), .lit (.int .u8 27), .lit (.int .u8 60), .lit (.int .u8 41), .lit (.int .u8 37), .lit (.int .u8 16), .lit (.int .u8 46), .lit (.int .u8 35), .lit (.int .u8 44), .lit (.int .u8 21), .lit (.int .u8 52), .lit (.int .u8 32), .lit (.int .u8 23), .lit (.int .u8 11), .lit (.int .u8 54), .lit (.int .u8 26), .lit (.int .u8 40), .lit (.int .u8 15), .lit (.int .u8 34), .lit (.int .u8 20), .lit (.int .u8 31), .lit (.int .u8 10), .lit (.int .u8 25), .lit (.int .u8 14), .lit (.int .u8 19), .lit (.int .u8 9), .lit (.int .u8 13), .lit (.int .u8 8), .lit (.int .u8 7), .lit (.int .u8 6)]
def laid_internal_strconv_uint64pow10 {H : Type} : DataW H := .agg [.lit (.int .u64 1), .lit (.int .u64 10), .lit (.int .u64 100), .lit (.int .u64 1000), .lit (.int .u64 10000), .lit (.int .u64 100000), .lit (.int .u64 1000000), .lit (.int .u64 10000000), .lit (.int .u64 100000000), .lit (.int .u64 1000000000), .lit (.int .u64 10000000000), .lit (.int .u64 100000000000), .lit (.int .u64 1000000000000), .lit (.int .u64 10000000000000), .lit (.int .u64 100000000000000), .lit (.int .u64 1000000000000000), .lit (.int .u64 10000000000000000), .lit (.int .u64 100000000000000000), .lit (.int .u64 1000000000000000000), .lit (.int .u64 10000000000000000000)]
def laid_concord_date_lengths {H : Type} : DataW H := .agg [.lit (.int .i64 31), .lit (.int .i64 28), .lit (.int .i64 31), .lit (.int .i64 30), .lit (.int .i64 31), .lit (.int .i64 30), .lit (.int .i64 31), .lit (.int .i64 31), .lit (.int .i64 30), .lit (.int .i64 31), .lit (.int .i64 30), .lit (.int .i64 31)]

/-- 'concordlaw03.DateNumbers': WHATEVER THE INPUT: true; the input reads as it did. -/
def dateNumbersSpec : ChangeSpec := { name := "dateNumbers", fn := fun _ => fun
  | [d1, d2, d3] => { results := [.lit (.bool true)], args := [d1, d2, d3] }
  | _ => none }
def dateNumbersRow : OpenClaim := { program := "ytmpfgdpicbpedaadoor", sum := "2285895a21e505fd7993dc3c744075394834e692d9af5714eabf916097039bb0", func := "concord/concordlaw03.DateNumbers", spec := "dateNumbers", inPlace := ["internal/abi.NoEscape", "internal/bytealg.MakeNoZero"], unfollowed := true, recurses := true, named := ["concord/date.lengths", "internal/strconv.uint64pow10", "math/bits.deBruijn32tab", "math/bits.deBruijn64tab"], apart := false, laid := [("math/bits.deBruijn32tab", laid_math_bits_deBruijn32tab), ("math/bits.deBruijn64tab", laid_math_bits_deBruijn64tab), ("internal/strconv.uint64pow10", laid_internal_strconv_uint64pow10), ("concord/date.lengths", laid_concord_date_lengths)] }
def DateNumbersSaid : Prop := dateNumbersRow.holds Tryd.pinned (OpenSpec.ofChange dateNumbersSpec)

/-- ITS FALSE NEIGHBOUR: 'it returns false'. Refute it at one input. -/
def dateNumbersWrong : ChangeSpec := { name := "dateNumbers", fn := fun _ => fun
  | [d1, d2, d3] => { results := [.lit (.bool false)], args := [d1, d2, d3] }
  | _ => none }
def DateNumbersWrongFalsely : Prop := dateNumbersRow.holds Tryd.pinned (OpenSpec.ofChange dateNumbersWrong)

/-- 'concordlaw03.DateInverse': WHATEVER THE INPUT: true; the input reads as it did. -/
def dateInverseSpec : ChangeSpec := { name := "dateInverse", fn := fun _ => fun
  | [d] => { results := [.lit (.bool true)], args := [d] }
  | _ => none }
def dateInverseRow : OpenClaim := { program := "ytmpfgdpicbpedaadoor", sum := "2285895a21e505fd7993dc3c744075394834e692d9af5714eabf916097039bb0", func := "concord/concordlaw03.DateInverse", spec := "dateInverse", inPlace := ["internal/abi.NoEscape", "internal/bytealg.MakeNoZero"], unfollowed := true, recurses := true, named := ["concord/date.lengths", "internal/strconv.uint64pow10", "math/bits.deBruijn32tab", "math/bits.deBruijn64tab"], apart := false, laid := [("math/bits.deBruijn32tab", laid_math_bits_deBruijn32tab), ("math/bits.deBruijn64tab", laid_math_bits_deBruijn64tab), ("internal/strconv.uint64pow10", laid_internal_strconv_uint64pow10), ("concord/date.lengths", laid_concord_date_lengths)] }
def DateInverseSaid : Prop := dateInverseRow.holds Tryd.pinned (OpenSpec.ofChange dateInverseSpec)

/-- ITS FALSE NEIGHBOUR: 'it returns false'. Refute it at one input. -/
def dateInverseWrong : ChangeSpec := { name := "dateInverse", fn := fun _ => fun
  | [d] => { results := [.lit (.bool false)], args := [d] }
  | _ => none }
def DateInverseWrongFalsely : Prop := dateInverseRow.holds Tryd.pinned (OpenSpec.ofChange dateInverseWrong)

/-- 'concordlaw03.DateYears': WHATEVER THE INPUT: true; the input reads as it did. -/
def dateYearsSpec : ChangeSpec := { name := "dateYears", fn := fun _ => fun
  | [d1, d2, d3] => { results := [.lit (.bool true)], args := [d1, d2, d3] }
  | _ => none }
def dateYearsRow : OpenClaim := { program := "ytmpfgdpicbpedaadoor", sum := "2285895a21e505fd7993dc3c744075394834e692d9af5714eabf916097039bb0", func := "concord/concordlaw03.DateYears", spec := "dateYears", inPlace := ["internal/abi.NoEscape", "internal/bytealg.MakeNoZero"], unfollowed := true, recurses := true, named := ["concord/date.lengths", "internal/strconv.uint64pow10", "math/bits.deBruijn32tab", "math/bits.deBruijn64tab"], apart := false, laid := [("math/bits.deBruijn32tab", laid_math_bits_deBruijn32tab), ("math/bits.deBruijn64tab", laid_math_bits_deBruijn64tab), ("internal/strconv.uint64pow10", laid_internal_strconv_uint64pow10), ("concord/date.lengths", laid_concord_date_lengths)] }
def DateYearsSaid : Prop := dateYearsRow.holds Tryd.pinned (OpenSpec.ofChange dateYearsSpec)

/-- ITS FALSE NEIGHBOUR: 'it returns false'. Refute it at one input. -/
def dateYearsWrong : ChangeSpec := { name := "dateYears", fn := fun _ => fun
  | [d1, d2, d3] => { results := [.lit (.bool false)], args := [d1, d2, d3] }
  | _ => none }
def DateYearsWrongFalsely : Prop := dateYearsRow.holds Tryd.pinned (OpenSpec.ofChange dateYearsWrong)

/-- 'concordlaw03.DateMonths': WHATEVER THE INPUT: true; the input reads as it did. -/
def dateMonthsSpec : ChangeSpec := { name := "dateMonths", fn := fun _ => fun
  | [d1, d2] => { results := [.lit (.bool true)], args := [d1, d2] }
  | _ => none }
def dateMonthsRow : OpenClaim := { program := "ytmpfgdpicbpedaadoor", sum := "2285895a21e505fd7993dc3c744075394834e692d9af5714eabf916097039bb0", func := "concord/concordlaw03.DateMonths", spec := "dateMonths", inPlace := ["internal/abi.NoEscape", "internal/bytealg.MakeNoZero"], unfollowed := true, recurses := true, named := ["concord/date.lengths", "internal/strconv.uint64pow10", "math/bits.deBruijn32tab", "math/bits.deBruijn64tab"], apart := false, laid := [("math/bits.deBruijn32tab", laid_math_bits_deBruijn32tab), ("math/bits.deBruijn64tab", laid_math_bits_deBruijn64tab), ("internal/strconv.uint64pow10", laid_internal_strconv_uint64pow10), ("concord/date.lengths", laid_concord_date_lengths)] }
def DateMonthsSaid : Prop := dateMonthsRow.holds Tryd.pinned (OpenSpec.ofChange dateMonthsSpec)

/-- ITS FALSE NEIGHBOUR: 'it returns false'. Refute it at one input. -/
def dateMonthsWrong : ChangeSpec := { name := "dateMonths", fn := fun _ => fun
  | [d1, d2] => { results := [.lit (.bool false)], args := [d1, d2] }
  | _ => none }
def DateMonthsWrongFalsely : Prop := dateMonthsRow.holds Tryd.pinned (OpenSpec.ofChange dateMonthsWrong)

/-- 'concordlaw03.DateBack': WHATEVER THE INPUT: true; the input reads as it did. -/
def dateBackSpec : ChangeSpec := { name := "dateBack", fn := fun _ => fun
  | [d1, d2, d3] => { results := [.lit (.bool true)], args := [d1, d2, d3] }
  | _ => none }
def dateBackRow : OpenClaim := { program := "ytmpfgdpicbpedaadoor", sum := "2285895a21e505fd7993dc3c744075394834e692d9af5714eabf916097039bb0", func := "concord/concordlaw03.DateBack", spec := "dateBack", inPlace := ["internal/abi.NoEscape", "internal/bytealg.MakeNoZero"], unfollowed := true, recurses := true, named := ["concord/date.lengths", "internal/strconv.uint64pow10", "math/bits.deBruijn32tab", "math/bits.deBruijn64tab"], apart := false, laid := [("math/bits.deBruijn32tab", laid_math_bits_deBruijn32tab), ("math/bits.deBruijn64tab", laid_math_bits_deBruijn64tab), ("internal/strconv.uint64pow10", laid_internal_strconv_uint64pow10), ("concord/date.lengths", laid_concord_date_lengths)] }
def DateBackSaid : Prop := dateBackRow.holds Tryd.pinned (OpenSpec.ofChange dateBackSpec)

/-- ITS FALSE NEIGHBOUR: 'it returns false'. Refute it at one input. -/
def dateBackWrong : ChangeSpec := { name := "dateBack", fn := fun _ => fun
  | [d1, d2, d3] => { results := [.lit (.bool false)], args := [d1, d2, d3] }
  | _ => none }
def DateBackWrongFalsely : Prop := dateBackRow.holds Tryd.pinned (OpenSpec.ofChange dateBackWrong)

/-- 'concordlaw03.DateFormats': WHATEVER THE INPUT: true; the input reads as it did. -/
def dateFormatsSpec : ChangeSpec := { name := "dateFormats", fn := fun _ => fun
  | [d1, d2, d3] => { results := [.lit (.bool true)], args := [d1, d2, d3] }
  | _ => none }
def dateFormatsRow : OpenClaim := { program := "ytmpfgdpicbpedaadoor", sum := "2285895a21e505fd7993dc3c744075394834e692d9af5714eabf916097039bb0", func := "concord/concordlaw03.DateFormats", spec := "dateFormats", inPlace := ["internal/abi.NoEscape", "internal/bytealg.MakeNoZero"], unfollowed := true, recurses := true, named := ["concord/date.lengths", "internal/strconv.uint64pow10", "math/bits.deBruijn32tab", "math/bits.deBruijn64tab"], apart := false, laid := [("math/bits.deBruijn32tab", laid_math_bits_deBruijn32tab), ("math/bits.deBruijn64tab", laid_math_bits_deBruijn64tab), ("internal/strconv.uint64pow10", laid_internal_strconv_uint64pow10), ("concord/date.lengths", laid_concord_date_lengths)] }
def DateFormatsSaid : Prop := dateFormatsRow.holds Tryd.pinned (OpenSpec.ofChange dateFormatsSpec)

/-- ITS FALSE NEIGHBOUR: 'it returns false'. Refute it at one input. -/
def dateFormatsWrong : ChangeSpec := { name := "dateFormats", fn := fun _ => fun
  | [d1, d2, d3] => { results := [.lit (.bool false)], args := [d1, d2, d3] }
  | _ => none }
def DateFormatsWrongFalsely : Prop := dateFormatsRow.holds Tryd.pinned (OpenSpec.ofChange dateFormatsWrong)

/-- 'concordlaw03.DateReads': WHATEVER THE INPUT: true; the input reads as it did. -/
def dateReadsSpec : ChangeSpec := { name := "dateReads", fn := fun _ => fun
  | [d1, d2, d3] => { results := [.lit (.bool true)], args := [d1, d2, d3] }
  | _ => none }
def dateReadsRow : OpenClaim := { program := "ytmpfgdpicbpedaadoor", sum := "2285895a21e505fd7993dc3c744075394834e692d9af5714eabf916097039bb0", func := "concord/concordlaw03.DateReads", spec := "dateReads", inPlace := ["internal/abi.NoEscape", "internal/bytealg.MakeNoZero"], unfollowed := true, recurses := true, named := ["concord/date.lengths", "internal/strconv.uint64pow10", "math/bits.deBruijn32tab", "math/bits.deBruijn64tab"], apart := false, laid := [("math/bits.deBruijn32tab", laid_math_bits_deBruijn32tab), ("math/bits.deBruijn64tab", laid_math_bits_deBruijn64tab), ("internal/strconv.uint64pow10", laid_internal_strconv_uint64pow10), ("concord/date.lengths", laid_concord_date_lengths)] }
def DateReadsSaid : Prop := dateReadsRow.holds Tryd.pinned (OpenSpec.ofChange dateReadsSpec)

/-- ITS FALSE NEIGHBOUR: 'it returns false'. Refute it at one input. -/
def dateReadsWrong : ChangeSpec := { name := "dateReads", fn := fun _ => fun
  | [d1, d2, d3] => { results := [.lit (.bool false)], args := [d1, d2, d3] }
  | _ => none }
def DateReadsWrongFalsely : Prop := dateReadsRow.holds Tryd.pinned (OpenSpec.ofChange dateReadsWrong)

/-- 'concordlaw03.DateUndo': WHATEVER THE INPUT: true; the input reads as it did. -/
def dateUndoSpec : ChangeSpec := { name := "dateUndo", fn := fun _ => fun
  | [d1, d2, d3] => { results := [.lit (.bool true)], args := [d1, d2, d3] }
  | _ => none }
def dateUndoRow : OpenClaim := { program := "ytmpfgdpicbpedaadoor", sum := "2285895a21e505fd7993dc3c744075394834e692d9af5714eabf916097039bb0", func := "concord/concordlaw03.DateUndo", spec := "dateUndo", inPlace := ["internal/abi.NoEscape", "internal/bytealg.MakeNoZero"], unfollowed := true, recurses := true, named := ["concord/date.lengths", "internal/strconv.uint64pow10", "math/bits.deBruijn32tab", "math/bits.deBruijn64tab"], apart := false, laid := [("math/bits.deBruijn32tab", laid_math_bits_deBruijn32tab), ("math/bits.deBruijn64tab", laid_math_bits_deBruijn64tab), ("internal/strconv.uint64pow10", laid_internal_strconv_uint64pow10), ("concord/date.lengths", laid_concord_date_lengths)] }
def DateUndoSaid : Prop := dateUndoRow.holds Tryd.pinned (OpenSpec.ofChange dateUndoSpec)

/-- ITS FALSE NEIGHBOUR: 'it returns false'. Refute it at one input. -/
def dateUndoWrong : ChangeSpec := { name := "dateUndo", fn := fun _ => fun
  | [d1, d2, d3] => { results := [.lit (.bool false)], args := [d1, d2, d3] }
  | _ => none }
def DateUndoWrongFalsely : Prop := dateUndoRow.holds Tryd.pinned (OpenSpec.ofChange dateUndoWrong)

/-- 'concordlaw03.DateTexts': WHATEVER THE INPUT: true; the input reads as it did. -/
def dateTextsSpec : ChangeSpec := { name := "dateTexts", fn := fun _ => fun
  | [d1, d2, d3] => { results := [.lit (.bool true)], args := [d1, d2, d3] }
  | _ => none }
def dateTextsRow : OpenClaim := { program := "ytmpfgdpicbpedaadoor", sum := "2285895a21e505fd7993dc3c744075394834e692d9af5714eabf916097039bb0", func := "concord/concordlaw03.DateTexts", spec := "dateTexts", inPlace := ["internal/abi.NoEscape", "internal/bytealg.MakeNoZero"], unfollowed := true, recurses := true, named := ["concord/date.lengths", "internal/strconv.uint64pow10", "math/bits.deBruijn32tab", "math/bits.deBruijn64tab"], apart := false, laid := [("math/bits.deBruijn32tab", laid_math_bits_deBruijn32tab), ("math/bits.deBruijn64tab", laid_math_bits_deBruijn64tab), ("internal/strconv.uint64pow10", laid_internal_strconv_uint64pow10), ("concord/date.lengths", laid_concord_date_lengths)] }
def DateTextsSaid : Prop := dateTextsRow.holds Tryd.pinned (OpenSpec.ofChange dateTextsSpec)

/-- ITS FALSE NEIGHBOUR: 'it returns false'. Refute it at one input. -/
def dateTextsWrong : ChangeSpec := { name := "dateTexts", fn := fun _ => fun
  | [d1, d2, d3] => { results := [.lit (.bool false)], args := [d1, d2, d3] }
  | _ => none }
def DateTextsWrongFalsely : Prop := dateTextsRow.holds Tryd.pinned (OpenSpec.ofChange dateTextsWrong)

/-- 'concordlaw03.DateAdds': WHATEVER THE INPUT: true; the input reads as it did. -/
def dateAddsSpec : ChangeSpec := { name := "dateAdds", fn := fun _ => fun
  | [d1, d2] => { results := [.lit (.bool true)], args := [d1, d2] }
  | _ => none }
def dateAddsRow : OpenClaim := { program := "ytmpfgdpicbpedaadoor", sum := "2285895a21e505fd7993dc3c744075394834e692d9af5714eabf916097039bb0", func := "concord/concordlaw03.DateAdds", spec := "dateAdds", inPlace := ["internal/abi.NoEscape", "internal/bytealg.MakeNoZero"], unfollowed := true, recurses := true, named := ["concord/date.lengths", "internal/strconv.uint64pow10", "math/bits.deBruijn32tab", "math/bits.deBruijn64tab"], apart := false, laid := [("math/bits.deBruijn32tab", laid_math_bits_deBruijn32tab), ("math/bits.deBruijn64tab", laid_math_bits_deBruijn64tab), ("internal/strconv.uint64pow10", laid_internal_strconv_uint64pow10), ("concord/date.lengths", laid_concord_date_lengths)] }
def DateAddsSaid : Prop := dateAddsRow.holds Tryd.pinned (OpenSpec.ofChange dateAddsSpec)

/-- ITS FALSE NEIGHBOUR: 'it returns false'. Refute it at one input. -/
def dateAddsWrong : ChangeSpec := { name := "dateAdds", fn := fun _ => fun
  | [d1, d2] => { results := [.lit (.bool false)], args := [d1, d2] }
  | _ => none }
def DateAddsWrongFalsely : Prop := dateAddsRow.holds Tryd.pinned (OpenSpec.ofChange dateAddsWrong)

/- THE SECOND FORM. 'bulk': how many values and letters a reading holds, each counted each time it is reached (what is shared counts as often as it is met; a slice's spare places count too). A statement '..UptoSaid' is the law's where the arguments, and the package variables that the reading takes, are together of bulk at most 1048576: NARROWER than '..Said'. Prove '..Said' where nothing that the law and all that it calls make is longer than what came in: it says more and counts as full. Else prove '..UptoSaid'. A law counts once. -/
mutual
def uptoBulk {H : Type} : DataW H → Nat
  | .lit (.string bytes) => bytes.length + 1
  | .lit _ => 1
  | .nil => 1
  | .ptr d => uptoBulk d + 1
  | .slice elems spare => uptoBulkAll elems + uptoBulkAll spare + 1
  | .agg parts => uptoBulkAll parts + 1
  | .iface _ d => uptoBulk d + 1
  | .map entries => uptoBulkEntries entries + 1
  | .held _ => 1
def uptoBulkAll {H : Type} : List (DataW H) → Nat
  | [] => 0
  | d :: r => uptoBulk d + uptoBulkAll r
def uptoBulkEntries {H : Type} : List (Lit × DataW H) → Nat
  | [] => 0
  | x :: r => uptoBulkEntry x + uptoBulkEntries r
def uptoBulkEntry {H : Type} : Lit × DataW H → Nat
  | (.string bytes, d) => bytes.length + uptoBulk d + 1
  | (_, d) => uptoBulk d + 1
 end
def uptoSmall : (H : Type) → List (DataW H) → Bool := fun _ ds => decide (uptoBulkAll ds ≤ 1048576)
def OpenSpec.upto (s : _root_.Go.ChangeSpec) : _root_.Go.OpenSpec := { _root_.Go.OpenSpec.ofChange s with cond := some uptoSmall }

/-- 'concordlaw03.DateNumbers', WHERE WHAT IT READS IS OF BULK AT MOST 1048576: true; the input reads as it did. -/
def dateNumbersUptoRow : OpenClaim := { program := "ytmpfgdpicbpedaadoor", sum := "2285895a21e505fd7993dc3c744075394834e692d9af5714eabf916097039bb0", func := "concord/concordlaw03.DateNumbers", spec := "dateNumbers", inPlace := ["internal/abi.NoEscape", "internal/bytealg.MakeNoZero"], unfollowed := true, recurses := true, named := ["concord/date.lengths", "internal/strconv.uint64pow10", "math/bits.deBruijn32tab", "math/bits.deBruijn64tab"], apart := false, laid := [("math/bits.deBruijn32tab", laid_math_bits_deBruijn32tab), ("math/bits.deBruijn64tab", laid_math_bits_deBruijn64tab), ("internal/strconv.uint64pow10", laid_internal_strconv_uint64pow10), ("concord/date.lengths", laid_concord_date_lengths)], narrowed := true }
def DateNumbersUptoSaid : Prop := dateNumbersUptoRow.holds Tryd.pinned (OpenSpec.upto dateNumbersSpec)

/-- 'concordlaw03.DateInverse', WHERE WHAT IT READS IS OF BULK AT MOST 1048576: true; the input reads as it did. -/
def dateInverseUptoRow : OpenClaim := { program := "ytmpfgdpicbpedaadoor", sum := "2285895a21e505fd7993dc3c744075394834e692d9af5714eabf916097039bb0", func := "concord/concordlaw03.DateInverse", spec := "dateInverse", inPlace := ["internal/abi.NoEscape", "internal/bytealg.MakeNoZero"], unfollowed := true, recurses := true, named := ["concord/date.lengths", "internal/strconv.uint64pow10", "math/bits.deBruijn32tab", "math/bits.deBruijn64tab"], apart := false, laid := [("math/bits.deBruijn32tab", laid_math_bits_deBruijn32tab), ("math/bits.deBruijn64tab", laid_math_bits_deBruijn64tab), ("internal/strconv.uint64pow10", laid_internal_strconv_uint64pow10), ("concord/date.lengths", laid_concord_date_lengths)], narrowed := true }
def DateInverseUptoSaid : Prop := dateInverseUptoRow.holds Tryd.pinned (OpenSpec.upto dateInverseSpec)

/-- 'concordlaw03.DateYears', WHERE WHAT IT READS IS OF BULK AT MOST 1048576: true; the input reads as it did. -/
def dateYearsUptoRow : OpenClaim := { program := "ytmpfgdpicbpedaadoor", sum := "2285895a21e505fd7993dc3c744075394834e692d9af5714eabf916097039bb0", func := "concord/concordlaw03.DateYears", spec := "dateYears", inPlace := ["internal/abi.NoEscape", "internal/bytealg.MakeNoZero"], unfollowed := true, recurses := true, named := ["concord/date.lengths", "internal/strconv.uint64pow10", "math/bits.deBruijn32tab", "math/bits.deBruijn64tab"], apart := false, laid := [("math/bits.deBruijn32tab", laid_math_bits_deBruijn32tab), ("math/bits.deBruijn64tab", laid_math_bits_deBruijn64tab), ("internal/strconv.uint64pow10", laid_internal_strconv_uint64pow10), ("concord/date.lengths", laid_concord_date_lengths)], narrowed := true }
def DateYearsUptoSaid : Prop := dateYearsUptoRow.holds Tryd.pinned (OpenSpec.upto dateYearsSpec)

/-- 'concordlaw03.DateMonths', WHERE WHAT IT READS IS OF BULK AT MOST 1048576: true; the input reads as it did. -/
def dateMonthsUptoRow : OpenClaim := { program := "ytmpfgdpicbpedaadoor", sum := "2285895a21e505fd7993dc3c744075394834e692d9af5714eabf916097039bb0", func := "concord/concordlaw03.DateMonths", spec := "dateMonths", inPlace := ["internal/abi.NoEscape", "internal/bytealg.MakeNoZero"], unfollowed := true, recurses := true, named := ["concord/date.lengths", "internal/strconv.uint64pow10", "math/bits.deBruijn32tab", "math/bits.deBruijn64tab"], apart := false, laid := [("math/bits.deBruijn32tab", laid_math_bits_deBruijn32tab), ("math/bits.deBruijn64tab", laid_math_bits_deBruijn64tab), ("internal/strconv.uint64pow10", laid_internal_strconv_uint64pow10), ("concord/date.lengths", laid_concord_date_lengths)], narrowed := true }
def DateMonthsUptoSaid : Prop := dateMonthsUptoRow.holds Tryd.pinned (OpenSpec.upto dateMonthsSpec)

/-- 'concordlaw03.DateBack', WHERE WHAT IT READS IS OF BULK AT MOST 1048576: true; the input reads as it did. -/
def dateBackUptoRow : OpenClaim := { program := "ytmpfgdpicbpedaadoor", sum := "2285895a21e505fd7993dc3c744075394834e692d9af5714eabf916097039bb0", func := "concord/concordlaw03.DateBack", spec := "dateBack", inPlace := ["internal/abi.NoEscape", "internal/bytealg.MakeNoZero"], unfollowed := true, recurses := true, named := ["concord/date.lengths", "internal/strconv.uint64pow10", "math/bits.deBruijn32tab", "math/bits.deBruijn64tab"], apart := false, laid := [("math/bits.deBruijn32tab", laid_math_bits_deBruijn32tab), ("math/bits.deBruijn64tab", laid_math_bits_deBruijn64tab), ("internal/strconv.uint64pow10", laid_internal_strconv_uint64pow10), ("concord/date.lengths", laid_concord_date_lengths)], narrowed := true }
def DateBackUptoSaid : Prop := dateBackUptoRow.holds Tryd.pinned (OpenSpec.upto dateBackSpec)

/-- 'concordlaw03.DateFormats', WHERE WHAT IT READS IS OF BULK AT MOST 1048576: true; the input reads as it did. -/
def dateFormatsUptoRow : OpenClaim := { program := "ytmpfgdpicbpedaadoor", sum := "2285895a21e505fd7993dc3c744075394834e692d9af5714eabf916097039bb0", func := "concord/concordlaw03.DateFormats", spec := "dateFormats", inPlace := ["internal/abi.NoEscape", "internal/bytealg.MakeNoZero"], unfollowed := true, recurses := true, named := ["concord/date.lengths", "internal/strconv.uint64pow10", "math/bits.deBruijn32tab", "math/bits.deBruijn64tab"], apart := false, laid := [("math/bits.deBruijn32tab", laid_math_bits_deBruijn32tab), ("math/bits.deBruijn64tab", laid_math_bits_deBruijn64tab), ("internal/strconv.uint64pow10", laid_internal_strconv_uint64pow10), ("concord/date.lengths", laid_concord_date_lengths)], narrowed := true }
def DateFormatsUptoSaid : Prop := dateFormatsUptoRow.holds Tryd.pinned (OpenSpec.upto dateFormatsSpec)

/-- 'concordlaw03.DateReads', WHERE WHAT IT READS IS OF BULK AT MOST 1048576: true; the input reads as it did. -/
def dateReadsUptoRow : OpenClaim := { program := "ytmpfgdpicbpedaadoor", sum := "2285895a21e505fd7993dc3c744075394834e692d9af5714eabf916097039bb0", func := "concord/concordlaw03.DateReads", spec := "dateReads", inPlace := ["internal/abi.NoEscape", "internal/bytealg.MakeNoZero"], unfollowed := true, recurses := true, named := ["concord/date.lengths", "internal/strconv.uint64pow10", "math/bits.deBruijn32tab", "math/bits.deBruijn64tab"], apart := false, laid := [("math/bits.deBruijn32tab", laid_math_bits_deBruijn32tab), ("math/bits.deBruijn64tab", laid_math_bits_deBruijn64tab), ("internal/strconv.uint64pow10", laid_internal_strconv_uint64pow10), ("concord/date.lengths", laid_concord_date_lengths)], narrowed := true }
def DateReadsUptoSaid : Prop := dateReadsUptoRow.holds Tryd.pinned (OpenSpec.upto dateReadsSpec)

/-- 'concordlaw03.DateUndo', WHERE WHAT IT READS IS OF BULK AT MOST 1048576: true; the input reads as it did. -/
def dateUndoUptoRow : OpenClaim := { program := "ytmpfgdpicbpedaadoor", sum := "2285895a21e505fd7993dc3c744075394834e692d9af5714eabf916097039bb0", func := "concord/concordlaw03.DateUndo", spec := "dateUndo", inPlace := ["internal/abi.NoEscape", "internal/bytealg.MakeNoZero"], unfollowed := true, recurses := true, named := ["concord/date.lengths", "internal/strconv.uint64pow10", "math/bits.deBruijn32tab", "math/bits.deBruijn64tab"], apart := false, laid := [("math/bits.deBruijn32tab", laid_math_bits_deBruijn32tab), ("math/bits.deBruijn64tab", laid_math_bits_deBruijn64tab), ("internal/strconv.uint64pow10", laid_internal_strconv_uint64pow10), ("concord/date.lengths", laid_concord_date_lengths)], narrowed := true }
def DateUndoUptoSaid : Prop := dateUndoUptoRow.holds Tryd.pinned (OpenSpec.upto dateUndoSpec)

/-- 'concordlaw03.DateTexts', WHERE WHAT IT READS IS OF BULK AT MOST 1048576: true; the input reads as it did. -/
def dateTextsUptoRow : OpenClaim := { program := "ytmpfgdpicbpedaadoor", sum := "2285895a21e505fd7993dc3c744075394834e692d9af5714eabf916097039bb0", func := "concord/concordlaw03.DateTexts", spec := "dateTexts", inPlace := ["internal/abi.NoEscape", "internal/bytealg.MakeNoZero"], unfollowed := true, recurses := true, named := ["concord/date.lengths", "internal/strconv.uint64pow10", "math/bits.deBruijn32tab", "math/bits.deBruijn64tab"], apart := false, laid := [("math/bits.deBruijn32tab", laid_math_bits_deBruijn32tab), ("math/bits.deBruijn64tab", laid_math_bits_deBruijn64tab), ("internal/strconv.uint64pow10", laid_internal_strconv_uint64pow10), ("concord/date.lengths", laid_concord_date_lengths)], narrowed := true }
def DateTextsUptoSaid : Prop := dateTextsUptoRow.holds Tryd.pinned (OpenSpec.upto dateTextsSpec)

/-- 'concordlaw03.DateAdds', WHERE WHAT IT READS IS OF BULK AT MOST 1048576: true; the input reads as it did. -/
def dateAddsUptoRow : OpenClaim := { program := "ytmpfgdpicbpedaadoor", sum := "2285895a21e505fd7993dc3c744075394834e692d9af5714eabf916097039bb0", func := "concord/concordlaw03.DateAdds", spec := "dateAdds", inPlace := ["internal/abi.NoEscape", "internal/bytealg.MakeNoZero"], unfollowed := true, recurses := true, named := ["concord/date.lengths", "internal/strconv.uint64pow10", "math/bits.deBruijn32tab", "math/bits.deBruijn64tab"], apart := false, laid := [("math/bits.deBruijn32tab", laid_math_bits_deBruijn32tab), ("math/bits.deBruijn64tab", laid_math_bits_deBruijn64tab), ("internal/strconv.uint64pow10", laid_internal_strconv_uint64pow10), ("concord/date.lengths", laid_concord_date_lengths)], narrowed := true }
def DateAddsUptoSaid : Prop := dateAddsUptoRow.holds Tryd.pinned (OpenSpec.upto dateAddsSpec)

end Rows
end Go.Proofs.YtmpfgdpicbpedaaDoor
