/-
  NARROWER THAN 'FOR EVERY INPUT', by the rows' own cells (each row's printed sentence says how): ShapeContains: laid · ShapeSingle: laid · ShapeLattice: laid · ShapeSets: laid · PatternPrints: laid · PatternMatches: laid · PatternSamples: laid · PatternCovers: laid · PatternSound: laid · PatternClass: laid · ShapePatterns: laid · PatternFinds: laid · PatternSpans: laid.
  DERIVED. THE GIVEN ROWS OF THIS SEAT. 13 by the template 'for every input the law returns true; each argument reads behind the call as it read before'; 0 by the template 'total and deterministic' (their statements: YtgnjakaamgeibaaDoorTotals.lean).
  GIVEN WITH THE SEED: the statements are not yours to turn. If you find one false, say at which input.
  Laid BY PROGRAM, IN A SANDBOX (cutbox-rows.mjs): the forced cells as the released guide's own fill.sh prints them over the translation 6bb34df205ee79e3… (all of the seat's roots in one cut). By AI agents, Wed Nov 11 2026. No macro, syntax, notation, axiom, sorry.
-/
import Derived.Test.YtgnjakaamgeibaaDoorChecked
import GoSem.Claim
import GoSem.ClaimJoined
import GoSem.ClaimMapViews
import Derived.JoinedTies
import Derived.KernelRfl
namespace Go.Proofs.YtgnjakaamgeibaaDoor
/- THE CELL 'sum', in the pinned program and in every row, IS THE sha256 OF THE DUMP (.gsa) THAT YtgnjakaamgeibaaDoorProg.lean LOADS. Nothing in Lean hashes anything: it is a label: what it is worth is what the hold of that sum in a sandbox is worth. -/
noncomputable def Tryd.pinned : Pinned := { name := "ytgnjakaamgeibaadoor", sum := "6bb34df205ee79e39d2bbab52ee2737b7c97c527473bd237b4fb387ad16bd91d", checked := Tryd.checked }
namespace Rows
def none {H : Type} : Left H := { results := [], args := [] }

/- WHAT THE LISTED PACKAGE-LEVEL VARIABLES READ AS WHEN THE CALL BEGINS. Each datum BY PROGRAM (the guide's laid-datum.mjs) off the statement by which the dump's own 'gosem.cut.vars' lays the variable. In a bare row this is a premise. The card (YtgnjakaamgeibaaDoorCards.lean) ties it to the program's text. -/
def laid_math_bits_deBruijn32tab {H : Type} : DataW H := .agg [.lit (.int .u8 0), .lit (.int .u8 1), .lit (.int .u8 28), .lit (.int .u8 2), .lit (.int .u8 29), .lit (.int .u8 14), .lit (.int .u8 24), .lit (.int .u8 3), .lit (.int .u8 30), .lit (.int .u8 22), .lit (.int .u8 20), .lit (.int .u8 15), .lit (.int .u8 25), .lit (.int .u8 17), .lit (.int .u8 4), .lit (.int .u8 8), .lit (.int .u8 31), .lit (.int .u8 27), .lit (.int .u8 13), .lit (.int .u8 23), .lit (.int .u8 21), .lit (.int .u8 19), .lit (.int .u8 16), .lit (.int .u8 7), .lit (.int .u8 26), .lit (.int .u8 12), .lit (.int .u8 18), .lit (.int .u8 6), .lit (.int .u8 11), .lit (.int .u8 5), .lit (.int .u8 10), .lit (.int .u8 9)]
def laid_math_bits_deBruijn64tab {H : Type} : DataW H := .agg [.lit (.int .u8 0), .lit (.int .u8 1), .lit (.int .u8 56), .lit (.int .u8 2), .lit (.int .u8 57), .lit (.int .u8 49), .lit (.int .u8 28), .lit (.int .u8 3), .lit (.int .u8 61), .lit (.int .u8 58), .lit (.int .u8 42), .lit (.int .u8 50), .lit (.int .u8 38), .lit (.int .u8 29), .lit (.int .u8 17), .lit (.int .u8 4), .lit (.int .u8 62), .lit (.int .u8 47), .lit (.int .u8 59), .lit (.int .u8 36), .lit (.int .u8 45), .lit (.int .u8 43), .lit (.int .u8 51), .lit (.int .u8 22), .lit (.int .u8 53), .lit (.int .u8 39), .lit (.int .u8 33), .lit (.int .u8 30), .lit (.int .u8 24), .lit (.int .u8 18), .lit (.int .u8 12), .lit (.int .u8 5), .lit (.int .u8 63), .lit (.int .u8 55), .lit (.int .u8 48), .lit (.int .u8 27), .lit (.int .u8 60), .lit (.int .u8 41), .lit (.int .u8 37), .lit (.int .u8 16), .lit (.int .u8 46), .lit (.int .u8 35), .lit (.int .u8 44), .lit (.int .u8 21), .lit (.int .u8 52), .lit (.int .u8 32), .lit (.int .u8 23), .lit (.int .u8 11), .lit (.int .u8 54), .lit (.int .u8 26), .lit (.int .u8 40), .lit (.int .u8 15), .lit (.int .u8 34), .lit (.int .u8 20), .lit (.int .u8 31), .lit (.int .u8 10), .lit (.int .u8 25), .lit (.int .u8 14), .lit (.int .u8 19), .lit (.int .u8 9), .lit (.int .u8 13), .lit (.int .u8 8), .lit (.int .u8 7), .lit (.int .u8 6)]
def laid_internal_strconv_uint64pow10 {H : Type} : DataW H := .agg [.lit (.int .u64 1), .lit (.int .u64 10), .lit (.int .u64 100), .lit (.int .u64 1000), .lit (.int .u64 10000), .lit (.int .u64 100000), .lit (.int .u64 1000000), .lit (.int .u64 10000000), .lit (.int .u64 100000000), .lit (.int .u64 1000000000), .lit (.int .u64 10000000000), .lit (.int .u64 100000000000), .lit (.int .u64 1000000000000), .lit (.int .u64 10000000000000), .lit (.int .u64 100000000000000), .lit (.int .u64 1000000000000000), .lit (.int .u64 10000000000000000), .lit (.int .u64 100000000000000000), .lit (.int .u64 1000000000000000000), .lit (.int .u64 10000000000000000000)]

/-- 'concordlaw08.ShapeContains': WHATEVER THE INPUT: true; the input reads as it did. -/
def shapeContainsSpec : ChangeSpec := { name := "shapeContains", fn := fun _ => fun
  | [d1, d2] => { results := [.lit (.bool true)], args := [d1, d2] }
  | _ => none }
def shapeContainsRow : OpenClaim := { program := "ytgnjakaamgeibaadoor", sum := "6bb34df205ee79e39d2bbab52ee2737b7c97c527473bd237b4fb387ad16bd91d", func := "concord/concordlaw08.ShapeContains", spec := "shapeContains", inPlace := ["internal/bytealg.IndexByteString", "internal/abi.NoEscape"], unfollowed := true, recurses := true, named := ["internal/strconv.uint64pow10", "math/bits.deBruijn32tab", "math/bits.deBruijn64tab"], apart := false, laid := [("math/bits.deBruijn32tab", laid_math_bits_deBruijn32tab), ("math/bits.deBruijn64tab", laid_math_bits_deBruijn64tab), ("internal/strconv.uint64pow10", laid_internal_strconv_uint64pow10)] }
def ShapeContainsSaid : Prop := shapeContainsRow.holds Tryd.pinned (OpenSpec.ofChange shapeContainsSpec)

/-- ITS FALSE NEIGHBOUR: 'it returns false'. Refute it at one input. -/
def shapeContainsWrong : ChangeSpec := { name := "shapeContains", fn := fun _ => fun
  | [d1, d2] => { results := [.lit (.bool false)], args := [d1, d2] }
  | _ => none }
def ShapeContainsWrongFalsely : Prop := shapeContainsRow.holds Tryd.pinned (OpenSpec.ofChange shapeContainsWrong)

/-- 'concordlaw08.ShapeSingle': WHATEVER THE INPUT: true; the input reads as it did. -/
def shapeSingleSpec : ChangeSpec := { name := "shapeSingle", fn := fun _ => fun
  | [d1, d2] => { results := [.lit (.bool true)], args := [d1, d2] }
  | _ => none }
def shapeSingleRow : OpenClaim := { program := "ytgnjakaamgeibaadoor", sum := "6bb34df205ee79e39d2bbab52ee2737b7c97c527473bd237b4fb387ad16bd91d", func := "concord/concordlaw08.ShapeSingle", spec := "shapeSingle", inPlace := ["internal/bytealg.IndexByteString", "internal/abi.NoEscape"], unfollowed := true, recurses := true, named := ["internal/strconv.uint64pow10", "math/bits.deBruijn32tab", "math/bits.deBruijn64tab"], apart := false, laid := [("math/bits.deBruijn32tab", laid_math_bits_deBruijn32tab), ("math/bits.deBruijn64tab", laid_math_bits_deBruijn64tab), ("internal/strconv.uint64pow10", laid_internal_strconv_uint64pow10)] }
def ShapeSingleSaid : Prop := shapeSingleRow.holds Tryd.pinned (OpenSpec.ofChange shapeSingleSpec)

/-- ITS FALSE NEIGHBOUR: 'it returns false'. Refute it at one input. -/
def shapeSingleWrong : ChangeSpec := { name := "shapeSingle", fn := fun _ => fun
  | [d1, d2] => { results := [.lit (.bool false)], args := [d1, d2] }
  | _ => none }
def ShapeSingleWrongFalsely : Prop := shapeSingleRow.holds Tryd.pinned (OpenSpec.ofChange shapeSingleWrong)

/-- 'concordlaw08.ShapeLattice': WHATEVER THE INPUT: true; the input reads as it did. -/
def shapeLatticeSpec : ChangeSpec := { name := "shapeLattice", fn := fun _ => fun
  | [d] => { results := [.lit (.bool true)], args := [d] }
  | _ => none }
def shapeLatticeRow : OpenClaim := { program := "ytgnjakaamgeibaadoor", sum := "6bb34df205ee79e39d2bbab52ee2737b7c97c527473bd237b4fb387ad16bd91d", func := "concord/concordlaw08.ShapeLattice", spec := "shapeLattice", inPlace := ["internal/bytealg.IndexByteString", "internal/abi.NoEscape"], unfollowed := true, recurses := true, named := ["internal/strconv.uint64pow10", "math/bits.deBruijn32tab", "math/bits.deBruijn64tab"], apart := false, laid := [("math/bits.deBruijn32tab", laid_math_bits_deBruijn32tab), ("math/bits.deBruijn64tab", laid_math_bits_deBruijn64tab), ("internal/strconv.uint64pow10", laid_internal_strconv_uint64pow10)] }
def ShapeLatticeSaid : Prop := shapeLatticeRow.holds Tryd.pinned (OpenSpec.ofChange shapeLatticeSpec)

/-- ITS FALSE NEIGHBOUR: 'it returns false'. Refute it at one input. -/
def shapeLatticeWrong : ChangeSpec := { name := "shapeLattice", fn := fun _ => fun
  | [d] => { results := [.lit (.bool false)], args := [d] }
  | _ => none }
def ShapeLatticeWrongFalsely : Prop := shapeLatticeRow.holds Tryd.pinned (OpenSpec.ofChange shapeLatticeWrong)

/-- 'concordlaw08.ShapeSets': WHATEVER THE INPUT: true; the input reads as it did. -/
def shapeSetsSpec : ChangeSpec := { name := "shapeSets", fn := fun _ => fun
  | [d1, d2] => { results := [.lit (.bool true)], args := [d1, d2] }
  | _ => none }
def shapeSetsRow : OpenClaim := { program := "ytgnjakaamgeibaadoor", sum := "6bb34df205ee79e39d2bbab52ee2737b7c97c527473bd237b4fb387ad16bd91d", func := "concord/concordlaw08.ShapeSets", spec := "shapeSets", inPlace := ["internal/bytealg.IndexByteString", "internal/abi.NoEscape"], unfollowed := true, recurses := true, named := ["internal/strconv.uint64pow10", "math/bits.deBruijn32tab", "math/bits.deBruijn64tab"], apart := false, laid := [("math/bits.deBruijn32tab", laid_math_bits_deBruijn32tab), ("math/bits.deBruijn64tab", laid_math_bits_deBruijn64tab), ("internal/strconv.uint64pow10", laid_internal_strconv_uint64pow10)] }
def ShapeSetsSaid : Prop := shapeSetsRow.holds Tryd.pinned (OpenSpec.ofChange shapeSetsSpec)

/-- ITS FALSE NEIGHBOUR: 'it returns false'. Refute it at one input. -/
def shapeSetsWrong : ChangeSpec := { name := "shapeSets", fn := fun _ => fun
  | [d1, d2] => { results := [.lit (.bool false)], args := [d1, d2] }
  | _ => none }
def ShapeSetsWrongFalsely : Prop := shapeSetsRow.holds Tryd.pinned (OpenSpec.ofChange shapeSetsWrong)

/-- 'concordlaw05.PatternPrints': WHATEVER THE INPUT: true; the input reads as it did. -/
def patternPrintsSpec : ChangeSpec := { name := "patternPrints", fn := fun _ => fun
  | [d1, d2] => { results := [.lit (.bool true)], args := [d1, d2] }
  | _ => none }
def patternPrintsRow : OpenClaim := { program := "ytgnjakaamgeibaadoor", sum := "6bb34df205ee79e39d2bbab52ee2737b7c97c527473bd237b4fb387ad16bd91d", func := "concord/concordlaw05.PatternPrints", spec := "patternPrints", inPlace := ["internal/bytealg.IndexByteString", "internal/abi.NoEscape"], unfollowed := true, recurses := true, named := ["internal/strconv.uint64pow10", "math/bits.deBruijn32tab", "math/bits.deBruijn64tab"], apart := false, laid := [("math/bits.deBruijn32tab", laid_math_bits_deBruijn32tab), ("math/bits.deBruijn64tab", laid_math_bits_deBruijn64tab), ("internal/strconv.uint64pow10", laid_internal_strconv_uint64pow10)] }
def PatternPrintsSaid : Prop := patternPrintsRow.holds Tryd.pinned (OpenSpec.ofChange patternPrintsSpec)

/-- ITS FALSE NEIGHBOUR: 'it returns false'. Refute it at one input. -/
def patternPrintsWrong : ChangeSpec := { name := "patternPrints", fn := fun _ => fun
  | [d1, d2] => { results := [.lit (.bool false)], args := [d1, d2] }
  | _ => none }
def PatternPrintsWrongFalsely : Prop := patternPrintsRow.holds Tryd.pinned (OpenSpec.ofChange patternPrintsWrong)

/-- 'concordlaw05.PatternMatches': WHATEVER THE INPUT: true; the input reads as it did. -/
def patternMatchesSpec : ChangeSpec := { name := "patternMatches", fn := fun _ => fun
  | [d1, d2, d3] => { results := [.lit (.bool true)], args := [d1, d2, d3] }
  | _ => none }
def patternMatchesRow : OpenClaim := { program := "ytgnjakaamgeibaadoor", sum := "6bb34df205ee79e39d2bbab52ee2737b7c97c527473bd237b4fb387ad16bd91d", func := "concord/concordlaw05.PatternMatches", spec := "patternMatches", inPlace := ["internal/bytealg.IndexByteString", "internal/abi.NoEscape"], unfollowed := true, recurses := true, named := ["internal/strconv.uint64pow10", "math/bits.deBruijn32tab", "math/bits.deBruijn64tab"], apart := false, laid := [("math/bits.deBruijn32tab", laid_math_bits_deBruijn32tab), ("math/bits.deBruijn64tab", laid_math_bits_deBruijn64tab), ("internal/strconv.uint64pow10", laid_internal_strconv_uint64pow10)] }
def PatternMatchesSaid : Prop := patternMatchesRow.holds Tryd.pinned (OpenSpec.ofChange patternMatchesSpec)

/-- ITS FALSE NEIGHBOUR: 'it returns false'. Refute it at one input. -/
def patternMatchesWrong : ChangeSpec := { name := "patternMatches", fn := fun _ => fun
  | [d1, d2, d3] => { results := [.lit (.bool false)], args := [d1, d2, d3] }
  | _ => none }
def PatternMatchesWrongFalsely : Prop := patternMatchesRow.holds Tryd.pinned (OpenSpec.ofChange patternMatchesWrong)

/-- 'concordlaw05.PatternSamples': WHATEVER THE INPUT: true; the input reads as it did. -/
def patternSamplesSpec : ChangeSpec := { name := "patternSamples", fn := fun _ => fun
  | [d1, d2] => { results := [.lit (.bool true)], args := [d1, d2] }
  | _ => none }
def patternSamplesRow : OpenClaim := { program := "ytgnjakaamgeibaadoor", sum := "6bb34df205ee79e39d2bbab52ee2737b7c97c527473bd237b4fb387ad16bd91d", func := "concord/concordlaw05.PatternSamples", spec := "patternSamples", inPlace := ["internal/bytealg.IndexByteString", "internal/abi.NoEscape"], unfollowed := true, recurses := true, named := ["internal/strconv.uint64pow10", "math/bits.deBruijn32tab", "math/bits.deBruijn64tab"], apart := false, laid := [("math/bits.deBruijn32tab", laid_math_bits_deBruijn32tab), ("math/bits.deBruijn64tab", laid_math_bits_deBruijn64tab), ("internal/strconv.uint64pow10", laid_internal_strconv_uint64pow10)] }
def PatternSamplesSaid : Prop := patternSamplesRow.holds Tryd.pinned (OpenSpec.ofChange patternSamplesSpec)

/-- ITS FALSE NEIGHBOUR: 'it returns false'. Refute it at one input. -/
def patternSamplesWrong : ChangeSpec := { name := "patternSamples", fn := fun _ => fun
  | [d1, d2] => { results := [.lit (.bool false)], args := [d1, d2] }
  | _ => none }
def PatternSamplesWrongFalsely : Prop := patternSamplesRow.holds Tryd.pinned (OpenSpec.ofChange patternSamplesWrong)

/-- 'concordlaw05.PatternCovers': WHATEVER THE INPUT: true; the input reads as it did. -/
def patternCoversSpec : ChangeSpec := { name := "patternCovers", fn := fun _ => fun
  | [d1, d2] => { results := [.lit (.bool true)], args := [d1, d2] }
  | _ => none }
def patternCoversRow : OpenClaim := { program := "ytgnjakaamgeibaadoor", sum := "6bb34df205ee79e39d2bbab52ee2737b7c97c527473bd237b4fb387ad16bd91d", func := "concord/concordlaw05.PatternCovers", spec := "patternCovers", inPlace := ["internal/bytealg.IndexByteString", "internal/abi.NoEscape"], unfollowed := true, recurses := true, named := ["internal/strconv.uint64pow10", "math/bits.deBruijn32tab", "math/bits.deBruijn64tab"], apart := false, laid := [("math/bits.deBruijn32tab", laid_math_bits_deBruijn32tab), ("math/bits.deBruijn64tab", laid_math_bits_deBruijn64tab), ("internal/strconv.uint64pow10", laid_internal_strconv_uint64pow10)] }
def PatternCoversSaid : Prop := patternCoversRow.holds Tryd.pinned (OpenSpec.ofChange patternCoversSpec)

/-- ITS FALSE NEIGHBOUR: 'it returns false'. Refute it at one input. -/
def patternCoversWrong : ChangeSpec := { name := "patternCovers", fn := fun _ => fun
  | [d1, d2] => { results := [.lit (.bool false)], args := [d1, d2] }
  | _ => none }
def PatternCoversWrongFalsely : Prop := patternCoversRow.holds Tryd.pinned (OpenSpec.ofChange patternCoversWrong)

/-- 'concordlaw05.PatternSound': WHATEVER THE INPUT: true; the input reads as it did. -/
def patternSoundSpec : ChangeSpec := { name := "patternSound", fn := fun _ => fun
  | [d1, d2, d3] => { results := [.lit (.bool true)], args := [d1, d2, d3] }
  | _ => none }
def patternSoundRow : OpenClaim := { program := "ytgnjakaamgeibaadoor", sum := "6bb34df205ee79e39d2bbab52ee2737b7c97c527473bd237b4fb387ad16bd91d", func := "concord/concordlaw05.PatternSound", spec := "patternSound", inPlace := ["internal/bytealg.IndexByteString", "internal/abi.NoEscape"], unfollowed := true, recurses := true, named := ["internal/strconv.uint64pow10", "math/bits.deBruijn32tab", "math/bits.deBruijn64tab"], apart := false, laid := [("math/bits.deBruijn32tab", laid_math_bits_deBruijn32tab), ("math/bits.deBruijn64tab", laid_math_bits_deBruijn64tab), ("internal/strconv.uint64pow10", laid_internal_strconv_uint64pow10)] }
def PatternSoundSaid : Prop := patternSoundRow.holds Tryd.pinned (OpenSpec.ofChange patternSoundSpec)

/-- ITS FALSE NEIGHBOUR: 'it returns false'. Refute it at one input. -/
def patternSoundWrong : ChangeSpec := { name := "patternSound", fn := fun _ => fun
  | [d1, d2, d3] => { results := [.lit (.bool false)], args := [d1, d2, d3] }
  | _ => none }
def PatternSoundWrongFalsely : Prop := patternSoundRow.holds Tryd.pinned (OpenSpec.ofChange patternSoundWrong)

/-- 'concordlaw05.PatternClass': WHATEVER THE INPUT: true; the input reads as it did. -/
def patternClassSpec : ChangeSpec := { name := "patternClass", fn := fun _ => fun
  | [d] => { results := [.lit (.bool true)], args := [d] }
  | _ => none }
def patternClassRow : OpenClaim := { program := "ytgnjakaamgeibaadoor", sum := "6bb34df205ee79e39d2bbab52ee2737b7c97c527473bd237b4fb387ad16bd91d", func := "concord/concordlaw05.PatternClass", spec := "patternClass", inPlace := ["internal/bytealg.IndexByteString", "internal/abi.NoEscape"], unfollowed := true, recurses := true, named := ["internal/strconv.uint64pow10", "math/bits.deBruijn32tab", "math/bits.deBruijn64tab"], apart := false, laid := [("math/bits.deBruijn32tab", laid_math_bits_deBruijn32tab), ("math/bits.deBruijn64tab", laid_math_bits_deBruijn64tab), ("internal/strconv.uint64pow10", laid_internal_strconv_uint64pow10)] }
def PatternClassSaid : Prop := patternClassRow.holds Tryd.pinned (OpenSpec.ofChange patternClassSpec)

/-- ITS FALSE NEIGHBOUR: 'it returns false'. Refute it at one input. -/
def patternClassWrong : ChangeSpec := { name := "patternClass", fn := fun _ => fun
  | [d] => { results := [.lit (.bool false)], args := [d] }
  | _ => none }
def PatternClassWrongFalsely : Prop := patternClassRow.holds Tryd.pinned (OpenSpec.ofChange patternClassWrong)

/-- 'concordlaw08.ShapePatterns': WHATEVER THE INPUT: true; the input reads as it did. -/
def shapePatternsSpec : ChangeSpec := { name := "shapePatterns", fn := fun _ => fun
  | [d1, d2, d3] => { results := [.lit (.bool true)], args := [d1, d2, d3] }
  | _ => none }
def shapePatternsRow : OpenClaim := { program := "ytgnjakaamgeibaadoor", sum := "6bb34df205ee79e39d2bbab52ee2737b7c97c527473bd237b4fb387ad16bd91d", func := "concord/concordlaw08.ShapePatterns", spec := "shapePatterns", inPlace := ["internal/bytealg.IndexByteString", "internal/abi.NoEscape"], unfollowed := true, recurses := true, named := ["internal/strconv.uint64pow10", "math/bits.deBruijn32tab", "math/bits.deBruijn64tab"], apart := false, laid := [("math/bits.deBruijn32tab", laid_math_bits_deBruijn32tab), ("math/bits.deBruijn64tab", laid_math_bits_deBruijn64tab), ("internal/strconv.uint64pow10", laid_internal_strconv_uint64pow10)] }
def ShapePatternsSaid : Prop := shapePatternsRow.holds Tryd.pinned (OpenSpec.ofChange shapePatternsSpec)

/-- ITS FALSE NEIGHBOUR: 'it returns false'. Refute it at one input. -/
def shapePatternsWrong : ChangeSpec := { name := "shapePatterns", fn := fun _ => fun
  | [d1, d2, d3] => { results := [.lit (.bool false)], args := [d1, d2, d3] }
  | _ => none }
def ShapePatternsWrongFalsely : Prop := shapePatternsRow.holds Tryd.pinned (OpenSpec.ofChange shapePatternsWrong)

/-- 'concordlaw05.PatternFinds': WHATEVER THE INPUT: true; the input reads as it did. -/
def patternFindsSpec : ChangeSpec := { name := "patternFinds", fn := fun _ => fun
  | [d1, d2, d3] => { results := [.lit (.bool true)], args := [d1, d2, d3] }
  | _ => none }
def patternFindsRow : OpenClaim := { program := "ytgnjakaamgeibaadoor", sum := "6bb34df205ee79e39d2bbab52ee2737b7c97c527473bd237b4fb387ad16bd91d", func := "concord/concordlaw05.PatternFinds", spec := "patternFinds", inPlace := ["internal/bytealg.IndexByteString", "internal/abi.NoEscape"], unfollowed := true, recurses := true, named := ["internal/strconv.uint64pow10", "math/bits.deBruijn32tab", "math/bits.deBruijn64tab"], apart := false, laid := [("math/bits.deBruijn32tab", laid_math_bits_deBruijn32tab), ("math/bits.deBruijn64tab", laid_math_bits_deBruijn64tab), ("internal/strconv.uint64pow10", laid_internal_strconv_uint64pow10)] }
def PatternFindsSaid : Prop := patternFindsRow.holds Tryd.pinned (OpenSpec.ofChange patternFindsSpec)

/-- ITS FALSE NEIGHBOUR: 'it returns false'. Refute it at one input. -/
def patternFindsWrong : ChangeSpec := { name := "patternFinds", fn := fun _ => fun
  | [d1, d2, d3] => { results := [.lit (.bool false)], args := [d1, d2, d3] }
  | _ => none }
def PatternFindsWrongFalsely : Prop := patternFindsRow.holds Tryd.pinned (OpenSpec.ofChange patternFindsWrong)

/-- 'concordlaw05.PatternSpans': WHATEVER THE INPUT: true; the input reads as it did. -/
def patternSpansSpec : ChangeSpec := { name := "patternSpans", fn := fun _ => fun
  | [d1, d2] => { results := [.lit (.bool true)], args := [d1, d2] }
  | _ => none }
def patternSpansRow : OpenClaim := { program := "ytgnjakaamgeibaadoor", sum := "6bb34df205ee79e39d2bbab52ee2737b7c97c527473bd237b4fb387ad16bd91d", func := "concord/concordlaw05.PatternSpans", spec := "patternSpans", inPlace := ["internal/bytealg.IndexByteString", "internal/abi.NoEscape"], unfollowed := true, recurses := true, named := ["internal/strconv.uint64pow10", "math/bits.deBruijn32tab", "math/bits.deBruijn64tab"], apart := false, laid := [("math/bits.deBruijn32tab", laid_math_bits_deBruijn32tab), ("math/bits.deBruijn64tab", laid_math_bits_deBruijn64tab), ("internal/strconv.uint64pow10", laid_internal_strconv_uint64pow10)] }
def PatternSpansSaid : Prop := patternSpansRow.holds Tryd.pinned (OpenSpec.ofChange patternSpansSpec)

/-- ITS FALSE NEIGHBOUR: 'it returns false'. Refute it at one input. -/
def patternSpansWrong : ChangeSpec := { name := "patternSpans", fn := fun _ => fun
  | [d1, d2] => { results := [.lit (.bool false)], args := [d1, d2] }
  | _ => none }
def PatternSpansWrongFalsely : Prop := patternSpansRow.holds Tryd.pinned (OpenSpec.ofChange patternSpansWrong)

/- THE SECOND FORM. 'bulk': how many values and letters a reading holds, each counted each time it is reached (what is shared counts as often as it is met; a slice's spare places count too). A statement '..UptoSaid' is the law's where the arguments, and the package variables that the reading takes, are together of bulk at most 1048576: NARROWER than '..Said'. Prove '..Said' where nothing that the law and all that it calls make is longer than what came in: it says more and counts as full. Else prove '..UptoSaid'. A law counts once. -/
mutual
def uptoBulk {H : Type} : DataW H → Nat
  | .lit (.string bytes) => bytes.length + 1
  | .lit _ => 1
  | .nil => 1
  | .ptr d => uptoBulk d + 1
  | .slice elems spare => uptoBulkAll elems + uptoBulkAll spare + 1
  | .agg parts => uptoBulkAll parts + 1
  | .iface _ d => uptoBulk d + 1
  | .map entries => uptoBulkEntries entries + 1
  | .held _ => 1
def uptoBulkAll {H : Type} : List (DataW H) → Nat
  | [] => 0
  | d :: r => uptoBulk d + uptoBulkAll r
def uptoBulkEntries {H : Type} : List (Lit × DataW H) → Nat
  | [] => 0
  | x :: r => uptoBulkEntry x + uptoBulkEntries r
def uptoBulkEntry {H : Type} : Lit × DataW H → Nat
  | (.string bytes, d) => bytes.length + uptoBulk d + 1
  | (_, d) => uptoBulk d + 1
 end
def uptoSmall : (H : Type) → List (DataW H) → Bool := fun _ ds => decide (uptoBulkAll ds ≤ 1048576)
def OpenSpec.upto (s : _root_.Go.ChangeSpec) : _root_.Go.OpenSpec := { _root_.Go.OpenSpec.ofChange s with cond := some uptoSmall }

/-- 'concordlaw08.ShapeContains', WHERE WHAT IT READS IS OF BULK AT MOST 1048576: true; the input reads as it did. -/
def shapeContainsUptoRow : OpenClaim := { program := "ytgnjakaamgeibaadoor", sum := "6bb34df205ee79e39d2bbab52ee2737b7c97c527473bd237b4fb387ad16bd91d", func := "concord/concordlaw08.ShapeContains", spec := "shapeContains", inPlace := ["internal/bytealg.IndexByteString", "internal/abi.NoEscape"], unfollowed := true, recurses := true, named := ["internal/strconv.uint64pow10", "math/bits.deBruijn32tab", "math/bits.deBruijn64tab"], apart := false, laid := [("math/bits.deBruijn32tab", laid_math_bits_deBruijn32tab), ("math/bits.deBruijn64tab", laid_math_bits_deBruijn64tab), ("internal/strconv.uint64pow10", laid_internal_strconv_uint64pow10)], narrowed := true }
def ShapeContainsUptoSaid : Prop := shapeContainsUptoRow.holds Tryd.pinned (OpenSpec.upto shapeContainsSpec)

/-- 'concordlaw08.ShapeSingle', WHERE WHAT IT READS IS OF BULK AT MOST 1048576: true; the input reads as it did. -/
def shapeSingleUptoRow : OpenClaim := { program := "ytgnjakaamgeibaadoor", sum := "6bb34df205ee79e39d2bbab52ee2737b7c97c527473bd237b4fb387ad16bd91d", func := "concord/concordlaw08.ShapeSingle", spec := "shapeSingle", inPlace := ["internal/bytealg.IndexByteString", "internal/abi.NoEscape"], unfollowed := true, recurses := true, named := ["internal/strconv.uint64pow10", "math/bits.deBruijn32tab", "math/bits.deBruijn64tab"], apart := false, laid := [("math/bits.deBruijn32tab", laid_math_bits_deBruijn32tab), ("math/bits.deBruijn64tab", laid_math_bits_deBruijn64tab), ("internal/strconv.uint64pow10", laid_internal_strconv_uint64pow10)], narrowed := true }
def ShapeSingleUptoSaid : Prop := shapeSingleUptoRow.holds Tryd.pinned (OpenSpec.upto shapeSingleSpec)

/-- 'concordlaw08.ShapeLattice', WHERE WHAT IT READS IS OF BULK AT MOST 1048576: true; the input reads as it did. -/
def shapeLatticeUptoRow : OpenClaim := { program := "ytgnjakaamgeibaadoor", sum := "6bb34df205ee79e39d2bbab52ee2737b7c97c527473bd237b4fb387ad16bd91d", func := "concord/concordlaw08.ShapeLattice", spec := "shapeLattice", inPlace := ["internal/bytealg.IndexByteString", "internal/abi.NoEscape"], unfollowed := true, recurses := true, named := ["internal/strconv.uint64pow10", "math/bits.deBruijn32tab", "math/bits.deBruijn64tab"], apart := false, laid := [("math/bits.deBruijn32tab", laid_math_bits_deBruijn32tab), ("math/bits.deBruijn64tab", laid_math_bits_deBruijn64tab), ("internal/strconv.uint64pow10", laid_internal_strconv_uint64pow10)], narrowed := true }
def ShapeLatticeUptoSaid : Prop := shapeLatticeUptoRow.holds Tryd.pinned (OpenSpec.upto shapeLatticeSpec)

/-- 'concordlaw08.ShapeSets', WHERE WHAT IT READS IS OF BULK AT MOST 1048576: true; the input reads as it did. -/
def shapeSetsUptoRow : OpenClaim := { program := "ytgnjakaamgeibaadoor", sum := "6bb34df205ee79e39d2bbab52ee2737b7c97c527473bd237b4fb387ad16bd91d", func := "concord/concordlaw08.ShapeSets", spec := "shapeSets", inPlace := ["internal/bytealg.IndexByteString", "internal/abi.NoEscape"], unfollowed := true, recurses := true, named := ["internal/strconv.uint64pow10", "math/bits.deBruijn32tab", "math/bits.deBruijn64tab"], apart := false, laid := [("math/bits.deBruijn32tab", laid_math_bits_deBruijn32tab), ("math/bits.deBruijn64tab", laid_math_bits_deBruijn64tab), ("internal/strconv.uint64pow10", laid_internal_strconv_uint64pow10)], narrowed := true }
def ShapeSetsUptoSaid : Prop := shapeSetsUptoRow.holds Tryd.pinned (OpenSpec.upto shapeSetsSpec)

/-- 'concordlaw05.PatternPrints', WHERE WHAT IT READS IS OF BULK AT MOST 1048576: true; the input reads as it did. -/
def patternPrintsUptoRow : OpenClaim := { program := "ytgnjakaamgeibaadoor", sum := "6bb34df205ee79e39d2bbab52ee2737b7c97c527473bd237b4fb387ad16bd91d", func := "concord/concordlaw05.PatternPrints", spec := "patternPrints", inPlace := ["internal/bytealg.IndexByteString", "internal/abi.NoEscape"], unfollowed := true, recurses := true, named := ["internal/strconv.uint64pow10", "math/bits.deBruijn32tab", "math/bits.deBruijn64tab"], apart := false, laid := [("math/bits.deBruijn32tab", laid_math_bits_deBruijn32tab), ("math/bits.deBruijn64tab", laid_math_bits_deBruijn64tab), ("internal/strconv.uint64pow10", laid_internal_strconv_uint64pow10)], narrowed := true }
def PatternPrintsUptoSaid : Prop := patternPrintsUptoRow.holds Tryd.pinned (OpenSpec.upto patternPrintsSpec)

/-- 'concordlaw05.PatternMatches', WHERE WHAT IT READS IS OF BULK AT MOST 1048576: true; the input reads as it did. -/
def patternMatchesUptoRow : OpenClaim := { program := "ytgnjakaamgeibaadoor", sum := "6bb34df205ee79e39d2bbab52ee2737b7c97c527473bd237b4fb387ad16bd91d", func := "concord/concordlaw05.PatternMatches", spec := "patternMatches", inPlace := ["internal/bytealg.IndexByteString", "internal/abi.NoEscape"], unfollowed := true, recurses := true, named := ["internal/strconv.uint64pow10", "math/bits.deBruijn32tab", "math/bits.deBruijn64tab"], apart := false, laid := [("math/bits.deBruijn32tab", laid_math_bits_deBruijn32tab), ("math/bits.deBruijn64tab", laid_math_bits_deBruijn64tab), ("internal/strconv.uint64pow10", laid_internal_strconv_uint64pow10)], narrowed := true }
def PatternMatchesUptoSaid : Prop := patternMatchesUptoRow.holds Tryd.pinned (OpenSpec.upto patternMatchesSpec)

/-- 'concordlaw05.PatternSamples', WHERE WHAT IT READS IS OF BULK AT MOST 1048576: true; the input reads as it did. -/
def patternSamplesUptoRow : OpenClaim := { program := "ytgnjakaamgeibaadoor", sum := "6bb34df205ee79e39d2bbab52ee2737b7c97c527473bd237b4fb387ad16bd91d", func := "concord/concordlaw05.PatternSamples", spec := "patternSamples", inPlace := ["internal/bytealg.IndexByteString", "internal/abi.NoEscape"], unfollowed := true, recurses := true, named := ["internal/strconv.uint64pow10", "math/bits.deBruijn32tab", "math/bits.deBruijn64tab"], apart := false, laid := [("math/bits.deBruijn32tab", laid_math_bits_deBruijn32tab), ("math/bits.deBruijn64tab", laid_math_bits_deBruijn64tab), ("internal/strconv.uint64pow10", laid_internal_strconv_uint64pow10)], narrowed := true }
def PatternSamplesUptoSaid : Prop := patternSamplesUptoRow.holds Tryd.pinned (OpenSpec.upto patternSamplesSpec)

/-- 'concordlaw05.PatternCovers', WHERE WHAT IT READS IS OF BULK AT MOST 1048576: true; the input reads as it did. -/
def patternCoversUptoRow : OpenClaim := { program := "ytgnjakaamgeibaadoor", sum := "6bb34df205ee79e39d2bbab52ee2737b7c97c527473bd237b4fb387ad16bd91d", func := "concord/concordlaw05.PatternCovers", spec := "patternCovers", inPlace := ["internal/bytealg.IndexByteString", "internal/abi.NoEscape"], unfollowed := true, recurses := true, named := ["internal/strconv.uint64pow10", "math/bits.deBruijn32tab", "math/bits.deBruijn64tab"], apart := false, laid := [("math/bits.deBruijn32tab", laid_math_bits_deBruijn32tab), ("math/bits.deBruijn64tab", laid_math_bits_deBruijn64tab), ("internal/strconv.uint64pow10", laid_internal_strconv_uint64pow10)], narrowed := true }
def PatternCoversUptoSaid : Prop := patternCoversUptoRow.holds Tryd.pinned (OpenSpec.upto patternCoversSpec)

/-- 'concordlaw05.PatternSound', WHERE WHAT IT READS IS OF BULK AT MOST 1048576: true; the input reads as it did. -/
def patternSoundUptoRow : OpenClaim := { program := "ytgnjakaamgeibaadoor", sum := "6bb34df205ee79e39d2bbab52ee2737b7c97c527473bd237b4fb387ad16bd91d", func := "concord/concordlaw05.PatternSound", spec := "patternSound", inPlace := ["internal/bytealg.IndexByteString", "internal/abi.NoEscape"], unfollowed := true, recurses := true, named := ["internal/strconv.uint64pow10", "math/bits.deBruijn32tab", "math/bits.deBruijn64tab"], apart := false, laid := [("math/bits.deBruijn32tab", laid_math_bits_deBruijn32tab), ("math/bits.deBruijn64tab", laid_math_bits_deBruijn64tab), ("internal/strconv.uint64pow10", laid_internal_strconv_uint64pow10)], narrowed := true }
def PatternSoundUptoSaid : Prop := patternSoundUptoRow.holds Tryd.pinned (OpenSpec.upto patternSoundSpec)

/-- 'concordlaw05.PatternClass', WHERE WHAT IT READS IS OF BULK AT MOST 1048576: true; the input reads as it did. -/
def patternClassUptoRow : OpenClaim := { program := "ytgnjakaamgeibaadoor", sum := "6bb34df205ee79e39d2bbab52ee2737b7c97c527473bd237b4fb387ad16bd91d", func := "concord/concordlaw05.PatternClass", spec := "patternClass", inPlace := ["internal/bytealg.IndexByteString", "internal/abi.NoEscape"], unfollowed := true, recurses := true, named := ["internal/strconv.uint64pow10", "math/bits.deBruijn32tab", "math/bits.deBruijn64tab"], apart := false, laid := [("math/bits.deBruijn32tab", laid_math_bits_deBruijn32tab), ("math/bits.deBruijn64tab", laid_math_bits_deBruijn64tab), ("internal/strconv.uint64pow10", laid_internal_strconv_uint64pow10)], narrowed := true }
def PatternClassUptoSaid : Prop := patternClassUptoRow.holds Tryd.pinned (OpenSpec.upto patternClassSpec)

/-- 'concordlaw08.ShapePatterns', WHERE WHAT IT READS IS OF BULK AT MOST 1048576: true; the input reads as it did. -/
def shapePatternsUptoRow : OpenClaim := { program := "ytgnjakaamgeibaadoor", sum := "6bb34df205ee79e39d2bbab52ee2737b7c97c527473bd237b4fb387ad16bd91d", func := "concord/concordlaw08.ShapePatterns", spec := "shapePatterns", inPlace := ["internal/bytealg.IndexByteString", "internal/abi.NoEscape"], unfollowed := true, recurses := true, named := ["internal/strconv.uint64pow10", "math/bits.deBruijn32tab", "math/bits.deBruijn64tab"], apart := false, laid := [("math/bits.deBruijn32tab", laid_math_bits_deBruijn32tab), ("math/bits.deBruijn64tab", laid_math_bits_deBruijn64tab), ("internal/strconv.uint64pow10", laid_internal_strconv_uint64pow10)], narrowed := true }
def ShapePatternsUptoSaid : Prop := shapePatternsUptoRow.holds Tryd.pinned (OpenSpec.upto shapePatternsSpec)

/-- 'concordlaw05.PatternFinds', WHERE WHAT IT READS IS OF BULK AT MOST 1048576: true; the input reads as it did. -/
def patternFindsUptoRow : OpenClaim := { program := "ytgnjakaamgeibaadoor", sum := "6bb34df205ee79e39d2bbab52ee2737b7c97c527473bd237b4fb387ad16bd91d", func := "concord/concordlaw05.PatternFinds", spec := "patternFinds", inPlace := ["internal/bytealg.IndexByteString", "internal/abi.NoEscape"], unfollowed := true, recurses := true, named := ["internal/strconv.uint64pow10", "math/bits.deBruijn32tab", "math/bits.deBruijn64tab"], apart := false, laid := [("math/bits.deBruijn32tab", laid_math_bits_deBruijn32tab), ("math/bits.deBruijn64tab", laid_math_bits_deBruijn64tab), ("internal/strconv.uint64pow10", laid_internal_strconv_uint64pow10)], narrowed := true }
def PatternFindsUptoSaid : Prop := patternFindsUptoRow.holds Tryd.pinned (OpenSpec.upto patternFindsSpec)

/-- 'concordlaw05.PatternSpans', WHERE WHAT IT READS IS OF BULK AT MOST 1048576: true; the input reads as it did. -/
def patternSpansUptoRow : OpenClaim := { program := "ytgnjakaamgeibaadoor", sum := "6bb34df205ee79e39d2bbab52ee2737b7c97c527473bd237b4fb387ad16bd91d", func := "concord/concordlaw05.PatternSpans", spec := "patternSpans", inPlace := ["internal/bytealg.IndexByteString", "internal/abi.NoEscape"], unfollowed := true, recurses := true, named := ["internal/strconv.uint64pow10", "math/bits.deBruijn32tab", "math/bits.deBruijn64tab"], apart := false, laid := [("math/bits.deBruijn32tab", laid_math_bits_deBruijn32tab), ("math/bits.deBruijn64tab", laid_math_bits_deBruijn64tab), ("internal/strconv.uint64pow10", laid_internal_strconv_uint64pow10)], narrowed := true }
def PatternSpansUptoSaid : Prop := patternSpansUptoRow.holds Tryd.pinned (OpenSpec.upto patternSpansSpec)

end Rows
end Go.Proofs.YtgnjakaamgeibaaDoor
