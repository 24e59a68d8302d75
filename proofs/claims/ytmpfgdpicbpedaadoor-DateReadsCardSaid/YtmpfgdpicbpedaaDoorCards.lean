/-
  DERIVED. GIVEN WITH THE SEED: THE CARDS: each row of YtmpfgdpicbpedaaDoorRows.lean that lists a variable, with what it lists TIED to the program's text (the seventh form; the later family's looks); each row that meets fmt, with fmt's text TOLD by the authors' own Lean function (tested against real Go, not proved from fmt's source: count such statements apart). THE CARD IS WHAT COUNTS. Prove the row's statement (the work); the ties are given (YtmpfgdpicbpedaaDoorTie.lean); close each card by the builder's one call (the guide's Derived/Test/ToyasCard.lean, 'card_holds'). Laid BY PROGRAM, IN A SANDBOX (cutbox-door.mjs). By AI agents, Wed Nov 11 2026. No macro, syntax, notation, axiom, sorry.
-/
import Derived.Test.YtmpfgdpicbpedaaDoorRows
import GoSem.ClaimSeven
namespace Go.Proofs.YtmpfgdpicbpedaaDoor
namespace Rows

/-- THE TIED CARD OF 'concordlaw03.DateNumbers'. -/
def dateNumbersCard : Claim7 := { stood := { row := dateNumbersRow, standIns := [], harness := (true, "4505f946c26db6b0e31c2dad84c4030f6e71844be7bb742d6d7ba22ef2741a11"), looks := false }, kinds := [], alts := [], laidByText := true, laidKinds := [.data, .data, .data, .data], laidTests := true, laidLooks := .later }
def DateNumbersCardSaid : Prop := Claim7.holds Tryd.pinned (.plain (OpenSpec.ofChange dateNumbersSpec)) dateNumbersCard

/-- THE TIED CARD OF 'concordlaw03.DateInverse'. -/
def dateInverseCard : Claim7 := { stood := { row := dateInverseRow, standIns := [], harness := (true, "4505f946c26db6b0e31c2dad84c4030f6e71844be7bb742d6d7ba22ef2741a11"), looks := false }, kinds := [], alts := [], laidByText := true, laidKinds := [.data, .data, .data, .data], laidTests := true, laidLooks := .later }
def DateInverseCardSaid : Prop := Claim7.holds Tryd.pinned (.plain (OpenSpec.ofChange dateInverseSpec)) dateInverseCard

/-- THE TIED CARD OF 'concordlaw03.DateYears'. -/
def dateYearsCard : Claim7 := { stood := { row := dateYearsRow, standIns := [], harness := (true, "4505f946c26db6b0e31c2dad84c4030f6e71844be7bb742d6d7ba22ef2741a11"), looks := false }, kinds := [], alts := [], laidByText := true, laidKinds := [.data, .data, .data, .data], laidTests := true, laidLooks := .later }
def DateYearsCardSaid : Prop := Claim7.holds Tryd.pinned (.plain (OpenSpec.ofChange dateYearsSpec)) dateYearsCard

/-- THE TIED CARD OF 'concordlaw03.DateMonths'. -/
def dateMonthsCard : Claim7 := { stood := { row := dateMonthsRow, standIns := [], harness := (true, "4505f946c26db6b0e31c2dad84c4030f6e71844be7bb742d6d7ba22ef2741a11"), looks := false }, kinds := [], alts := [], laidByText := true, laidKinds := [.data, .data, .data, .data], laidTests := true, laidLooks := .later }
def DateMonthsCardSaid : Prop := Claim7.holds Tryd.pinned (.plain (OpenSpec.ofChange dateMonthsSpec)) dateMonthsCard

/-- THE TIED CARD OF 'concordlaw03.DateBack'. -/
def dateBackCard : Claim7 := { stood := { row := dateBackRow, standIns := [], harness := (true, "4505f946c26db6b0e31c2dad84c4030f6e71844be7bb742d6d7ba22ef2741a11"), looks := false }, kinds := [], alts := [], laidByText := true, laidKinds := [.data, .data, .data, .data], laidTests := true, laidLooks := .later }
def DateBackCardSaid : Prop := Claim7.holds Tryd.pinned (.plain (OpenSpec.ofChange dateBackSpec)) dateBackCard

/-- THE TIED CARD OF 'concordlaw03.DateFormats'. -/
def dateFormatsCard : Claim7 := { stood := { row := dateFormatsRow, standIns := [], harness := (true, "4505f946c26db6b0e31c2dad84c4030f6e71844be7bb742d6d7ba22ef2741a11"), looks := false }, kinds := [], alts := [], laidByText := true, laidKinds := [.data, .data, .data, .data], laidTests := true, laidLooks := .later }
def DateFormatsCardSaid : Prop := Claim7.holds Tryd.pinned (.plain (OpenSpec.ofChange dateFormatsSpec)) dateFormatsCard

/-- THE TIED CARD OF 'concordlaw03.DateReads'. -/
def dateReadsCard : Claim7 := { stood := { row := dateReadsRow, standIns := [], harness := (true, "4505f946c26db6b0e31c2dad84c4030f6e71844be7bb742d6d7ba22ef2741a11"), looks := false }, kinds := [], alts := [], laidByText := true, laidKinds := [.data, .data, .data, .data], laidTests := true, laidLooks := .later }
def DateReadsCardSaid : Prop := Claim7.holds Tryd.pinned (.plain (OpenSpec.ofChange dateReadsSpec)) dateReadsCard

/-- THE TIED CARD OF 'concordlaw03.DateUndo'. -/
def dateUndoCard : Claim7 := { stood := { row := dateUndoRow, standIns := [], harness := (true, "4505f946c26db6b0e31c2dad84c4030f6e71844be7bb742d6d7ba22ef2741a11"), looks := false }, kinds := [], alts := [], laidByText := true, laidKinds := [.data, .data, .data, .data], laidTests := true, laidLooks := .later }
def DateUndoCardSaid : Prop := Claim7.holds Tryd.pinned (.plain (OpenSpec.ofChange dateUndoSpec)) dateUndoCard

/-- THE TIED CARD OF 'concordlaw03.DateTexts'. -/
def dateTextsCard : Claim7 := { stood := { row := dateTextsRow, standIns := [], harness := (true, "4505f946c26db6b0e31c2dad84c4030f6e71844be7bb742d6d7ba22ef2741a11"), looks := false }, kinds := [], alts := [], laidByText := true, laidKinds := [.data, .data, .data, .data], laidTests := true, laidLooks := .later }
def DateTextsCardSaid : Prop := Claim7.holds Tryd.pinned (.plain (OpenSpec.ofChange dateTextsSpec)) dateTextsCard

/-- THE TIED CARD OF 'concordlaw03.DateAdds'. -/
def dateAddsCard : Claim7 := { stood := { row := dateAddsRow, standIns := [], harness := (true, "4505f946c26db6b0e31c2dad84c4030f6e71844be7bb742d6d7ba22ef2741a11"), looks := false }, kinds := [], alts := [], laidByText := true, laidKinds := [.data, .data, .data, .data], laidTests := true, laidLooks := .later }
def DateAddsCardSaid : Prop := Claim7.holds Tryd.pinned (.plain (OpenSpec.ofChange dateAddsSpec)) dateAddsCard

/-- THE SECOND FORM's CARD OF 'concordlaw03.DateNumbers'. -/
def dateNumbersUptoCard : Claim7 := { stood := { row := dateNumbersUptoRow, standIns := [], harness := (true, "4505f946c26db6b0e31c2dad84c4030f6e71844be7bb742d6d7ba22ef2741a11"), looks := false }, kinds := [], alts := [], laidByText := true, laidKinds := [.data, .data, .data, .data], laidTests := true, laidLooks := .later }
def DateNumbersUptoCardSaid : Prop := Claim7.holds Tryd.pinned (.plain (OpenSpec.upto dateNumbersSpec)) dateNumbersUptoCard

/-- THE SECOND FORM's CARD OF 'concordlaw03.DateInverse'. -/
def dateInverseUptoCard : Claim7 := { stood := { row := dateInverseUptoRow, standIns := [], harness := (true, "4505f946c26db6b0e31c2dad84c4030f6e71844be7bb742d6d7ba22ef2741a11"), looks := false }, kinds := [], alts := [], laidByText := true, laidKinds := [.data, .data, .data, .data], laidTests := true, laidLooks := .later }
def DateInverseUptoCardSaid : Prop := Claim7.holds Tryd.pinned (.plain (OpenSpec.upto dateInverseSpec)) dateInverseUptoCard

/-- THE SECOND FORM's CARD OF 'concordlaw03.DateYears'. -/
def dateYearsUptoCard : Claim7 := { stood := { row := dateYearsUptoRow, standIns := [], harness := (true, "4505f946c26db6b0e31c2dad84c4030f6e71844be7bb742d6d7ba22ef2741a11"), looks := false }, kinds := [], alts := [], laidByText := true, laidKinds := [.data, .data, .data, .data], laidTests := true, laidLooks := .later }
def DateYearsUptoCardSaid : Prop := Claim7.holds Tryd.pinned (.plain (OpenSpec.upto dateYearsSpec)) dateYearsUptoCard

/-- THE SECOND FORM's CARD OF 'concordlaw03.DateMonths'. -/
def dateMonthsUptoCard : Claim7 := { stood := { row := dateMonthsUptoRow, standIns := [], harness := (true, "4505f946c26db6b0e31c2dad84c4030f6e71844be7bb742d6d7ba22ef2741a11"), looks := false }, kinds := [], alts := [], laidByText := true, laidKinds := [.data, .data, .data, .data], laidTests := true, laidLooks := .later }
def DateMonthsUptoCardSaid : Prop := Claim7.holds Tryd.pinned (.plain (OpenSpec.upto dateMonthsSpec)) dateMonthsUptoCard

/-- THE SECOND FORM's CARD OF 'concordlaw03.DateBack'. -/
def dateBackUptoCard : Claim7 := { stood := { row := dateBackUptoRow, standIns := [], harness := (true, "4505f946c26db6b0e31c2dad84c4030f6e71844be7bb742d6d7ba22ef2741a11"), looks := false }, kinds := [], alts := [], laidByText := true, laidKinds := [.data, .data, .data, .data], laidTests := true, laidLooks := .later }
def DateBackUptoCardSaid : Prop := Claim7.holds Tryd.pinned (.plain (OpenSpec.upto dateBackSpec)) dateBackUptoCard

/-- THE SECOND FORM's CARD OF 'concordlaw03.DateFormats'. -/
def dateFormatsUptoCard : Claim7 := { stood := { row := dateFormatsUptoRow, standIns := [], harness := (true, "4505f946c26db6b0e31c2dad84c4030f6e71844be7bb742d6d7ba22ef2741a11"), looks := false }, kinds := [], alts := [], laidByText := true, laidKinds := [.data, .data, .data, .data], laidTests := true, laidLooks := .later }
def DateFormatsUptoCardSaid : Prop := Claim7.holds Tryd.pinned (.plain (OpenSpec.upto dateFormatsSpec)) dateFormatsUptoCard

/-- THE SECOND FORM's CARD OF 'concordlaw03.DateReads'. -/
def dateReadsUptoCard : Claim7 := { stood := { row := dateReadsUptoRow, standIns := [], harness := (true, "4505f946c26db6b0e31c2dad84c4030f6e71844be7bb742d6d7ba22ef2741a11"), looks := false }, kinds := [], alts := [], laidByText := true, laidKinds := [.data, .data, .data, .data], laidTests := true, laidLooks := .later }
def DateReadsUptoCardSaid : Prop := Claim7.holds Tryd.pinned (.plain (OpenSpec.upto dateReadsSpec)) dateReadsUptoCard

/-- THE SECOND FORM's CARD OF 'concordlaw03.DateUndo'. -/
def dateUndoUptoCard : Claim7 := { stood := { row := dateUndoUptoRow, standIns := [], harness := (true, "4505f946c26db6b0e31c2dad84c4030f6e71844be7bb742d6d7ba22ef2741a11"), looks := false }, kinds := [], alts := [], laidByText := true, laidKinds := [.data, .data, .data, .data], laidTests := true, laidLooks := .later }
def DateUndoUptoCardSaid : Prop := Claim7.holds Tryd.pinned (.plain (OpenSpec.upto dateUndoSpec)) dateUndoUptoCard

/-- THE SECOND FORM's CARD OF 'concordlaw03.DateTexts'. -/
def dateTextsUptoCard : Claim7 := { stood := { row := dateTextsUptoRow, standIns := [], harness := (true, "4505f946c26db6b0e31c2dad84c4030f6e71844be7bb742d6d7ba22ef2741a11"), looks := false }, kinds := [], alts := [], laidByText := true, laidKinds := [.data, .data, .data, .data], laidTests := true, laidLooks := .later }
def DateTextsUptoCardSaid : Prop := Claim7.holds Tryd.pinned (.plain (OpenSpec.upto dateTextsSpec)) dateTextsUptoCard

/-- THE SECOND FORM's CARD OF 'concordlaw03.DateAdds'. -/
def dateAddsUptoCard : Claim7 := { stood := { row := dateAddsUptoRow, standIns := [], harness := (true, "4505f946c26db6b0e31c2dad84c4030f6e71844be7bb742d6d7ba22ef2741a11"), looks := false }, kinds := [], alts := [], laidByText := true, laidKinds := [.data, .data, .data, .data], laidTests := true, laidLooks := .later }
def DateAddsUptoCardSaid : Prop := Claim7.holds Tryd.pinned (.plain (OpenSpec.upto dateAddsSpec)) dateAddsUptoCard
end Rows
end Go.Proofs.YtmpfgdpicbpedaaDoor
