/-
  DERIVED. GIVEN WITH THE SEED: THE CARDS: each row of YtfiicnajiefiaaaDoorRows.lean that lists a variable, with what it lists TIED to the program's text (the seventh form; the later family's looks); each row that meets fmt, with fmt's text TOLD by the authors' own Lean function (tested against real Go, not proved from fmt's source: count such statements apart). THE CARD IS WHAT COUNTS. Prove the row's statement (the work); the ties are given (YtfiicnajiefiaaaDoorTie.lean); close each card by the builder's one call (the guide's Derived/Test/ToyasCard.lean, 'card_holds'). Laid BY PROGRAM, IN A SANDBOX (cutbox-door.mjs). By AI agents, Wed Nov 11 2026. No macro, syntax, notation, axiom, sorry.
-/
import Derived.Test.YtfiicnajiefiaaaDoorRows
import GoSem.ClaimSeven
namespace Go.Proofs.YtfiicnajiefiaaaDoor
namespace Rows

/-- THE TIED CARD OF 'ambrylaw02.WordsLines'. -/
def wordsLinesCard : Claim7 := { stood := { row := wordsLinesRow, standIns := [], harness := (true, "0f33cc385143196400702272aa8e045625fedbe8c33ca225de0ffc6bec836f3b"), looks := false }, kinds := [], alts := [], laidByText := true, laidKinds := [.data, .pinned], laidTests := true, laidLooks := .later }
def WordsLinesCardSaid : Prop := Claim7.holds Tryd.pinned (.plain (OpenSpec.ofChange wordsLinesSpec)) wordsLinesCard

/-- THE TIED CARD OF 'ambrylaw02.WordsSplits'. -/
def wordsSplitsCard : Claim7 := { stood := { row := wordsSplitsRow, standIns := [], harness := (true, "0f33cc385143196400702272aa8e045625fedbe8c33ca225de0ffc6bec836f3b"), looks := false }, kinds := [], alts := [], laidByText := true, laidKinds := [.data, .pinned], laidTests := true, laidLooks := .later }
def WordsSplitsCardSaid : Prop := Claim7.holds Tryd.pinned (.plain (OpenSpec.ofChange wordsSplitsSpec)) wordsSplitsCard

/-- THE TIED CARD OF 'ambrylaw02.WordsKeys'. -/
def wordsKeysCard : Claim7 := { stood := { row := wordsKeysRow, standIns := [], harness := (true, "0f33cc385143196400702272aa8e045625fedbe8c33ca225de0ffc6bec836f3b"), looks := false }, kinds := [], alts := [], laidByText := true, laidKinds := [.data, .pinned], laidTests := true, laidLooks := .later }
def WordsKeysCardSaid : Prop := Claim7.holds Tryd.pinned (.plain (OpenSpec.ofChange wordsKeysSpec)) wordsKeysCard

/-- THE TIED CARD OF 'ambrylaw02.WordsLong'. -/
def wordsLongCard : Claim7 := { stood := { row := wordsLongRow, standIns := [], harness := (true, "0f33cc385143196400702272aa8e045625fedbe8c33ca225de0ffc6bec836f3b"), looks := false }, kinds := [], alts := [], laidByText := true, laidKinds := [.data, .pinned], laidTests := true, laidLooks := .later }
def WordsLongCardSaid : Prop := Claim7.holds Tryd.pinned (.plain (OpenSpec.ofChange wordsLongSpec)) wordsLongCard

/-- THE TIED CARD OF 'ambrylaw02.WordsGaps'. -/
def wordsGapsCard : Claim7 := { stood := { row := wordsGapsRow, standIns := [], harness := (true, "0f33cc385143196400702272aa8e045625fedbe8c33ca225de0ffc6bec836f3b"), looks := false }, kinds := [], alts := [], laidByText := true, laidKinds := [.data, .pinned], laidTests := true, laidLooks := .later }
def WordsGapsCardSaid : Prop := Claim7.holds Tryd.pinned (.plain (OpenSpec.ofChange wordsGapsSpec)) wordsGapsCard

/-- THE TIED CARD OF 'ambrylaw02.WordsFirst'. -/
def wordsFirstCard : Claim7 := { stood := { row := wordsFirstRow, standIns := [], harness := (true, "0f33cc385143196400702272aa8e045625fedbe8c33ca225de0ffc6bec836f3b"), looks := false }, kinds := [], alts := [], laidByText := true, laidKinds := [.data, .pinned], laidTests := true, laidLooks := .later }
def WordsFirstCardSaid : Prop := Claim7.holds Tryd.pinned (.plain (OpenSpec.ofChange wordsFirstSpec)) wordsFirstCard

/-- THE TIED CARD OF 'ambrylaw02.WordsJoins'. -/
def wordsJoinsCard : Claim7 := { stood := { row := wordsJoinsRow, standIns := [], harness := (true, "0f33cc385143196400702272aa8e045625fedbe8c33ca225de0ffc6bec836f3b"), looks := false }, kinds := [], alts := [], laidByText := true, laidKinds := [.data, .pinned], laidTests := true, laidLooks := .later }
def WordsJoinsCardSaid : Prop := Claim7.holds Tryd.pinned (.plain (OpenSpec.ofChange wordsJoinsSpec)) wordsJoinsCard

/-- THE TIED CARD OF 'ambrylaw02.WordsBack'. -/
def wordsBackCard : Claim7 := { stood := { row := wordsBackRow, standIns := [], harness := (true, "0f33cc385143196400702272aa8e045625fedbe8c33ca225de0ffc6bec836f3b"), looks := false }, kinds := [], alts := [], laidByText := true, laidKinds := [.data, .pinned], laidTests := true, laidLooks := .later }
def WordsBackCardSaid : Prop := Claim7.holds Tryd.pinned (.plain (OpenSpec.ofChange wordsBackSpec)) wordsBackCard

/-- THE SECOND FORM's CARD OF 'ambrylaw02.WordsLines'. -/
def wordsLinesUptoCard : Claim7 := { stood := { row := wordsLinesUptoRow, standIns := [], harness := (true, "0f33cc385143196400702272aa8e045625fedbe8c33ca225de0ffc6bec836f3b"), looks := false }, kinds := [], alts := [], laidByText := true, laidKinds := [.data, .pinned], laidTests := true, laidLooks := .later }
def WordsLinesUptoCardSaid : Prop := Claim7.holds Tryd.pinned (.plain (OpenSpec.upto wordsLinesSpec)) wordsLinesUptoCard

/-- THE SECOND FORM's CARD OF 'ambrylaw02.WordsSplits'. -/
def wordsSplitsUptoCard : Claim7 := { stood := { row := wordsSplitsUptoRow, standIns := [], harness := (true, "0f33cc385143196400702272aa8e045625fedbe8c33ca225de0ffc6bec836f3b"), looks := false }, kinds := [], alts := [], laidByText := true, laidKinds := [.data, .pinned], laidTests := true, laidLooks := .later }
def WordsSplitsUptoCardSaid : Prop := Claim7.holds Tryd.pinned (.plain (OpenSpec.upto wordsSplitsSpec)) wordsSplitsUptoCard

/-- THE SECOND FORM's CARD OF 'ambrylaw02.WordsKeys'. -/
def wordsKeysUptoCard : Claim7 := { stood := { row := wordsKeysUptoRow, standIns := [], harness := (true, "0f33cc385143196400702272aa8e045625fedbe8c33ca225de0ffc6bec836f3b"), looks := false }, kinds := [], alts := [], laidByText := true, laidKinds := [.data, .pinned], laidTests := true, laidLooks := .later }
def WordsKeysUptoCardSaid : Prop := Claim7.holds Tryd.pinned (.plain (OpenSpec.upto wordsKeysSpec)) wordsKeysUptoCard

/-- THE SECOND FORM's CARD OF 'ambrylaw02.WordsLong'. -/
def wordsLongUptoCard : Claim7 := { stood := { row := wordsLongUptoRow, standIns := [], harness := (true, "0f33cc385143196400702272aa8e045625fedbe8c33ca225de0ffc6bec836f3b"), looks := false }, kinds := [], alts := [], laidByText := true, laidKinds := [.data, .pinned], laidTests := true, laidLooks := .later }
def WordsLongUptoCardSaid : Prop := Claim7.holds Tryd.pinned (.plain (OpenSpec.upto wordsLongSpec)) wordsLongUptoCard

/-- THE SECOND FORM's CARD OF 'ambrylaw02.WordsGaps'. -/
def wordsGapsUptoCard : Claim7 := { stood := { row := wordsGapsUptoRow, standIns := [], harness := (true, "0f33cc385143196400702272aa8e045625fedbe8c33ca225de0ffc6bec836f3b"), looks := false }, kinds := [], alts := [], laidByText := true, laidKinds := [.data, .pinned], laidTests := true, laidLooks := .later }
def WordsGapsUptoCardSaid : Prop := Claim7.holds Tryd.pinned (.plain (OpenSpec.upto wordsGapsSpec)) wordsGapsUptoCard

/-- THE SECOND FORM's CARD OF 'ambrylaw02.WordsFirst'. -/
def wordsFirstUptoCard : Claim7 := { stood := { row := wordsFirstUptoRow, standIns := [], harness := (true, "0f33cc385143196400702272aa8e045625fedbe8c33ca225de0ffc6bec836f3b"), looks := false }, kinds := [], alts := [], laidByText := true, laidKinds := [.data, .pinned], laidTests := true, laidLooks := .later }
def WordsFirstUptoCardSaid : Prop := Claim7.holds Tryd.pinned (.plain (OpenSpec.upto wordsFirstSpec)) wordsFirstUptoCard

/-- THE SECOND FORM's CARD OF 'ambrylaw02.WordsJoins'. -/
def wordsJoinsUptoCard : Claim7 := { stood := { row := wordsJoinsUptoRow, standIns := [], harness := (true, "0f33cc385143196400702272aa8e045625fedbe8c33ca225de0ffc6bec836f3b"), looks := false }, kinds := [], alts := [], laidByText := true, laidKinds := [.data, .pinned], laidTests := true, laidLooks := .later }
def WordsJoinsUptoCardSaid : Prop := Claim7.holds Tryd.pinned (.plain (OpenSpec.upto wordsJoinsSpec)) wordsJoinsUptoCard

/-- THE SECOND FORM's CARD OF 'ambrylaw02.WordsBack'. -/
def wordsBackUptoCard : Claim7 := { stood := { row := wordsBackUptoRow, standIns := [], harness := (true, "0f33cc385143196400702272aa8e045625fedbe8c33ca225de0ffc6bec836f3b"), looks := false }, kinds := [], alts := [], laidByText := true, laidKinds := [.data, .pinned], laidTests := true, laidLooks := .later }
def WordsBackUptoCardSaid : Prop := Claim7.holds Tryd.pinned (.plain (OpenSpec.upto wordsBackSpec)) wordsBackUptoCard
end Rows
end Go.Proofs.YtfiicnajiefiaaaDoor
