/-
  DERIVED. GIVEN WITH THE SEED: THE CARDS: each row of YtgnjakaamgeibaaDoorRows.lean that lists a variable, with what it lists TIED to the program's text (the seventh form; the later family's looks); each row that meets fmt, with fmt's text TOLD by the authors' own Lean function (tested against real Go, not proved from fmt's source: count such statements apart). THE CARD IS WHAT COUNTS. Prove the row's statement (the work); the ties are given (YtgnjakaamgeibaaDoorTie.lean); close each card by the builder's one call (the guide's Derived/Test/ToyasCard.lean, 'card_holds'). Laid BY PROGRAM, IN A SANDBOX (cutbox-door.mjs). By AI agents, Wed Nov 11 2026. No macro, syntax, notation, axiom, sorry.
-/
import Derived.Test.YtgnjakaamgeibaaDoorRows
import GoSem.ClaimSeven
namespace Go.Proofs.YtgnjakaamgeibaaDoor
namespace Rows

/-- THE TIED CARD OF 'concordlaw08.ShapeContains'. -/
def shapeContainsCard : Claim7 := { stood := { row := shapeContainsRow, standIns := [], harness := (true, "a2d8ea23f819cb40967ddeaff73c3f30912431127725482c47b48a387a6a4090"), looks := true }, kinds := [], alts := [], laidByText := true, laidKinds := [.data, .data, .data], laidTests := true, laidLooks := .later }
def ShapeContainsCardSaid : Prop := Claim7.holds Tryd.pinned (.plain (OpenSpec.ofChange shapeContainsSpec)) shapeContainsCard

/-- THE TIED CARD OF 'concordlaw08.ShapeSingle'. -/
def shapeSingleCard : Claim7 := { stood := { row := shapeSingleRow, standIns := [], harness := (true, "a2d8ea23f819cb40967ddeaff73c3f30912431127725482c47b48a387a6a4090"), looks := true }, kinds := [], alts := [], laidByText := true, laidKinds := [.data, .data, .data], laidTests := true, laidLooks := .later }
def ShapeSingleCardSaid : Prop := Claim7.holds Tryd.pinned (.plain (OpenSpec.ofChange shapeSingleSpec)) shapeSingleCard

/-- THE TIED CARD OF 'concordlaw08.ShapeLattice'. -/
def shapeLatticeCard : Claim7 := { stood := { row := shapeLatticeRow, standIns := [], harness := (true, "a2d8ea23f819cb40967ddeaff73c3f30912431127725482c47b48a387a6a4090"), looks := true }, kinds := [], alts := [], laidByText := true, laidKinds := [.data, .data, .data], laidTests := true, laidLooks := .later }
def ShapeLatticeCardSaid : Prop := Claim7.holds Tryd.pinned (.plain (OpenSpec.ofChange shapeLatticeSpec)) shapeLatticeCard

/-- THE TIED CARD OF 'concordlaw08.ShapeSets'. -/
def shapeSetsCard : Claim7 := { stood := { row := shapeSetsRow, standIns := [], harness := (true, "a2d8ea23f819cb40967ddeaff73c3f30912431127725482c47b48a387a6a4090"), looks := true }, kinds := [], alts := [], laidByText := true, laidKinds := [.data, .data, .data], laidTests := true, laidLooks := .later }
def ShapeSetsCardSaid : Prop := Claim7.holds Tryd.pinned (.plain (OpenSpec.ofChange shapeSetsSpec)) shapeSetsCard

/-- THE TIED CARD OF 'concordlaw05.PatternPrints'. -/
def patternPrintsCard : Claim7 := { stood := { row := patternPrintsRow, standIns := [], harness := (true, "a2d8ea23f819cb40967ddeaff73c3f30912431127725482c47b48a387a6a4090"), looks := true }, kinds := [], alts := [], laidByText := true, laidKinds := [.data, .data, .data], laidTests := true, laidLooks := .later }
def PatternPrintsCardSaid : Prop := Claim7.holds Tryd.pinned (.plain (OpenSpec.ofChange patternPrintsSpec)) patternPrintsCard

/-- THE TIED CARD OF 'concordlaw05.PatternMatches'. -/
def patternMatchesCard : Claim7 := { stood := { row := patternMatchesRow, standIns := [], harness := (true, "a2d8ea23f819cb40967ddeaff73c3f30912431127725482c47b48a387a6a4090"), looks := true }, kinds := [], alts := [], laidByText := true, laidKinds := [.data, .data, .data], laidTests := true, laidLooks := .later }
def PatternMatchesCardSaid : Prop := Claim7.holds Tryd.pinned (.plain (OpenSpec.ofChange patternMatchesSpec)) patternMatchesCard

/-- THE TIED CARD OF 'concordlaw05.PatternSamples'. -/
def patternSamplesCard : Claim7 := { stood := { row := patternSamplesRow, standIns := [], harness := (true, "a2d8ea23f819cb40967ddeaff73c3f30912431127725482c47b48a387a6a4090"), looks := true }, kinds := [], alts := [], laidByText := true, laidKinds := [.data, .data, .data], laidTests := true, laidLooks := .later }
def PatternSamplesCardSaid : Prop := Claim7.holds Tryd.pinned (.plain (OpenSpec.ofChange patternSamplesSpec)) patternSamplesCard

/-- THE TIED CARD OF 'concordlaw05.PatternCovers'. -/
def patternCoversCard : Claim7 := { stood := { row := patternCoversRow, standIns := [], harness := (true, "a2d8ea23f819cb40967ddeaff73c3f30912431127725482c47b48a387a6a4090"), looks := true }, kinds := [], alts := [], laidByText := true, laidKinds := [.data, .data, .data], laidTests := true, laidLooks := .later }
def PatternCoversCardSaid : Prop := Claim7.holds Tryd.pinned (.plain (OpenSpec.ofChange patternCoversSpec)) patternCoversCard

/-- THE TIED CARD OF 'concordlaw05.PatternSound'. -/
def patternSoundCard : Claim7 := { stood := { row := patternSoundRow, standIns := [], harness := (true, "a2d8ea23f819cb40967ddeaff73c3f30912431127725482c47b48a387a6a4090"), looks := true }, kinds := [], alts := [], laidByText := true, laidKinds := [.data, .data, .data], laidTests := true, laidLooks := .later }
def PatternSoundCardSaid : Prop := Claim7.holds Tryd.pinned (.plain (OpenSpec.ofChange patternSoundSpec)) patternSoundCard

/-- THE TIED CARD OF 'concordlaw05.PatternClass'. -/
def patternClassCard : Claim7 := { stood := { row := patternClassRow, standIns := [], harness := (true, "a2d8ea23f819cb40967ddeaff73c3f30912431127725482c47b48a387a6a4090"), looks := true }, kinds := [], alts := [], laidByText := true, laidKinds := [.data, .data, .data], laidTests := true, laidLooks := .later }
def PatternClassCardSaid : Prop := Claim7.holds Tryd.pinned (.plain (OpenSpec.ofChange patternClassSpec)) patternClassCard

/-- THE TIED CARD OF 'concordlaw08.ShapePatterns'. -/
def shapePatternsCard : Claim7 := { stood := { row := shapePatternsRow, standIns := [], harness := (true, "a2d8ea23f819cb40967ddeaff73c3f30912431127725482c47b48a387a6a4090"), looks := true }, kinds := [], alts := [], laidByText := true, laidKinds := [.data, .data, .data], laidTests := true, laidLooks := .later }
def ShapePatternsCardSaid : Prop := Claim7.holds Tryd.pinned (.plain (OpenSpec.ofChange shapePatternsSpec)) shapePatternsCard

/-- THE TIED CARD OF 'concordlaw05.PatternFinds'. -/
def patternFindsCard : Claim7 := { stood := { row := patternFindsRow, standIns := [], harness := (true, "a2d8ea23f819cb40967ddeaff73c3f30912431127725482c47b48a387a6a4090"), looks := true }, kinds := [], alts := [], laidByText := true, laidKinds := [.data, .data, .data], laidTests := true, laidLooks := .later }
def PatternFindsCardSaid : Prop := Claim7.holds Tryd.pinned (.plain (OpenSpec.ofChange patternFindsSpec)) patternFindsCard

/-- THE TIED CARD OF 'concordlaw05.PatternSpans'. -/
def patternSpansCard : Claim7 := { stood := { row := patternSpansRow, standIns := [], harness := (true, "a2d8ea23f819cb40967ddeaff73c3f30912431127725482c47b48a387a6a4090"), looks := true }, kinds := [], alts := [], laidByText := true, laidKinds := [.data, .data, .data], laidTests := true, laidLooks := .later }
def PatternSpansCardSaid : Prop := Claim7.holds Tryd.pinned (.plain (OpenSpec.ofChange patternSpansSpec)) patternSpansCard

/-- THE SECOND FORM's CARD OF 'concordlaw08.ShapeContains'. -/
def shapeContainsUptoCard : Claim7 := { stood := { row := shapeContainsUptoRow, standIns := [], harness := (true, "a2d8ea23f819cb40967ddeaff73c3f30912431127725482c47b48a387a6a4090"), looks := true }, kinds := [], alts := [], laidByText := true, laidKinds := [.data, .data, .data], laidTests := true, laidLooks := .later }
def ShapeContainsUptoCardSaid : Prop := Claim7.holds Tryd.pinned (.plain (OpenSpec.upto shapeContainsSpec)) shapeContainsUptoCard

/-- THE SECOND FORM's CARD OF 'concordlaw08.ShapeSingle'. -/
def shapeSingleUptoCard : Claim7 := { stood := { row := shapeSingleUptoRow, standIns := [], harness := (true, "a2d8ea23f819cb40967ddeaff73c3f30912431127725482c47b48a387a6a4090"), looks := true }, kinds := [], alts := [], laidByText := true, laidKinds := [.data, .data, .data], laidTests := true, laidLooks := .later }
def ShapeSingleUptoCardSaid : Prop := Claim7.holds Tryd.pinned (.plain (OpenSpec.upto shapeSingleSpec)) shapeSingleUptoCard

/-- THE SECOND FORM's CARD OF 'concordlaw08.ShapeLattice'. -/
def shapeLatticeUptoCard : Claim7 := { stood := { row := shapeLatticeUptoRow, standIns := [], harness := (true, "a2d8ea23f819cb40967ddeaff73c3f30912431127725482c47b48a387a6a4090"), looks := true }, kinds := [], alts := [], laidByText := true, laidKinds := [.data, .data, .data], laidTests := true, laidLooks := .later }
def ShapeLatticeUptoCardSaid : Prop := Claim7.holds Tryd.pinned (.plain (OpenSpec.upto shapeLatticeSpec)) shapeLatticeUptoCard

/-- THE SECOND FORM's CARD OF 'concordlaw08.ShapeSets'. -/
def shapeSetsUptoCard : Claim7 := { stood := { row := shapeSetsUptoRow, standIns := [], harness := (true, "a2d8ea23f819cb40967ddeaff73c3f30912431127725482c47b48a387a6a4090"), looks := true }, kinds := [], alts := [], laidByText := true, laidKinds := [.data, .data, .data], laidTests := true, laidLooks := .later }
def ShapeSetsUptoCardSaid : Prop := Claim7.holds Tryd.pinned (.plain (OpenSpec.upto shapeSetsSpec)) shapeSetsUptoCard

/-- THE SECOND FORM's CARD OF 'concordlaw05.PatternPrints'. -/
def patternPrintsUptoCard : Claim7 := { stood := { row := patternPrintsUptoRow, standIns := [], harness := (true, "a2d8ea23f819cb40967ddeaff73c3f30912431127725482c47b48a387a6a4090"), looks := true }, kinds := [], alts := [], laidByText := true, laidKinds := [.data, .data, .data], laidTests := true, laidLooks := .later }
def PatternPrintsUptoCardSaid : Prop := Claim7.holds Tryd.pinned (.plain (OpenSpec.upto patternPrintsSpec)) patternPrintsUptoCard

/-- THE SECOND FORM's CARD OF 'concordlaw05.PatternMatches'. -/
def patternMatchesUptoCard : Claim7 := { stood := { row := patternMatchesUptoRow, standIns := [], harness := (true, "a2d8ea23f819cb40967ddeaff73c3f30912431127725482c47b48a387a6a4090"), looks := true }, kinds := [], alts := [], laidByText := true, laidKinds := [.data, .data, .data], laidTests := true, laidLooks := .later }
def PatternMatchesUptoCardSaid : Prop := Claim7.holds Tryd.pinned (.plain (OpenSpec.upto patternMatchesSpec)) patternMatchesUptoCard

/-- THE SECOND FORM's CARD OF 'concordlaw05.PatternSamples'. -/
def patternSamplesUptoCard : Claim7 := { stood := { row := patternSamplesUptoRow, standIns := [], harness := (true, "a2d8ea23f819cb40967ddeaff73c3f30912431127725482c47b48a387a6a4090"), looks := true }, kinds := [], alts := [], laidByText := true, laidKinds := [.data, .data, .data], laidTests := true, laidLooks := .later }
def PatternSamplesUptoCardSaid : Prop := Claim7.holds Tryd.pinned (.plain (OpenSpec.upto patternSamplesSpec)) patternSamplesUptoCard

/-- THE SECOND FORM's CARD OF 'concordlaw05.PatternCovers'. -/
def patternCoversUptoCard : Claim7 := { stood := { row := patternCoversUptoRow, standIns := [], harness := (true, "a2d8ea23f819cb40967ddeaff73c3f30912431127725482c47b48a387a6a4090"), looks := true }, kinds := [], alts := [], laidByText := true, laidKinds := [.data, .data, .data], laidTests := true, laidLooks := .later }
def PatternCoversUptoCardSaid : Prop := Claim7.holds Tryd.pinned (.plain (OpenSpec.upto patternCoversSpec)) patternCoversUptoCard

/-- THE SECOND FORM's CARD OF 'concordlaw05.PatternSound'. -/
def patternSoundUptoCard : Claim7 := { stood := { row := patternSoundUptoRow, standIns := [], harness := (true, "a2d8ea23f819cb40967ddeaff73c3f30912431127725482c47b48a387a6a4090"), looks := true }, kinds := [], alts := [], laidByText := true, laidKinds := [.data, .data, .data], laidTests := true, laidLooks := .later }
def PatternSoundUptoCardSaid : Prop := Claim7.holds Tryd.pinned (.plain (OpenSpec.upto patternSoundSpec)) patternSoundUptoCard

/-- THE SECOND FORM's CARD OF 'concordlaw05.PatternClass'. -/
def patternClassUptoCard : Claim7 := { stood := { row := patternClassUptoRow, standIns := [], harness := (true, "a2d8ea23f819cb40967ddeaff73c3f30912431127725482c47b48a387a6a4090"), looks := true }, kinds := [], alts := [], laidByText := true, laidKinds := [.data, .data, .data], laidTests := true, laidLooks := .later }
def PatternClassUptoCardSaid : Prop := Claim7.holds Tryd.pinned (.plain (OpenSpec.upto patternClassSpec)) patternClassUptoCard

/-- THE SECOND FORM's CARD OF 'concordlaw08.ShapePatterns'. -/
def shapePatternsUptoCard : Claim7 := { stood := { row := shapePatternsUptoRow, standIns := [], harness := (true, "a2d8ea23f819cb40967ddeaff73c3f30912431127725482c47b48a387a6a4090"), looks := true }, kinds := [], alts := [], laidByText := true, laidKinds := [.data, .data, .data], laidTests := true, laidLooks := .later }
def ShapePatternsUptoCardSaid : Prop := Claim7.holds Tryd.pinned (.plain (OpenSpec.upto shapePatternsSpec)) shapePatternsUptoCard

/-- THE SECOND FORM's CARD OF 'concordlaw05.PatternFinds'. -/
def patternFindsUptoCard : Claim7 := { stood := { row := patternFindsUptoRow, standIns := [], harness := (true, "a2d8ea23f819cb40967ddeaff73c3f30912431127725482c47b48a387a6a4090"), looks := true }, kinds := [], alts := [], laidByText := true, laidKinds := [.data, .data, .data], laidTests := true, laidLooks := .later }
def PatternFindsUptoCardSaid : Prop := Claim7.holds Tryd.pinned (.plain (OpenSpec.upto patternFindsSpec)) patternFindsUptoCard

/-- THE SECOND FORM's CARD OF 'concordlaw05.PatternSpans'. -/
def patternSpansUptoCard : Claim7 := { stood := { row := patternSpansUptoRow, standIns := [], harness := (true, "a2d8ea23f819cb40967ddeaff73c3f30912431127725482c47b48a387a6a4090"), looks := true }, kinds := [], alts := [], laidByText := true, laidKinds := [.data, .data, .data], laidTests := true, laidLooks := .later }
def PatternSpansUptoCardSaid : Prop := Claim7.holds Tryd.pinned (.plain (OpenSpec.upto patternSpansSpec)) patternSpansUptoCard
end Rows
end Go.Proofs.YtgnjakaamgeibaaDoor
