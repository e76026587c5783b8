/-
  DERIVED. GIVEN WITH THE SEED: THE CARDS: each row of YtkajdnaanipngaaDoorRows.lean that lists a variable, with what it lists TIED to the program's text (the seventh form; the later family's looks); each row that meets fmt, with fmt's text TOLD by the authors' own Lean function (tested against real Go, not proved from fmt's source: count such statements apart). THE CARD IS WHAT COUNTS. Prove the row's statement (the work); the ties are given (YtkajdnaanipngaaDoorTie.lean); close each card by the builder's one call (the guide's Derived/Test/ToyasCard.lean, 'card_holds'). Laid BY PROGRAM, IN A SANDBOX (cutbox-door.mjs). By AI agents, Wed Nov 11 2026. No macro, syntax, notation, axiom, sorry.
-/
import Derived.Test.YtkajdnaanipngaaDoorRows
import GoSem.ClaimSeven
namespace Go.Proofs.YtkajdnaanipngaaDoor
namespace Rows

/-- THE TIED CARD OF 'ambrylaw03.B64Writes'. -/
def b64WritesCard : Claim7 := { stood := { row := b64WritesRow, standIns := [], harness := (true, "9758e368e0d0adc67a7d323fd5b640ab8ae71a088df2cf0140867e9715c6448a"), looks := false }, kinds := [], alts := [], laidByText := true, laidKinds := [.data, .pinned], laidTests := true, laidLooks := .later }
def B64WritesCardSaid : Prop := Claim7.holds Tryd.pinned (.plain (OpenSpec.ofChange b64WritesSpec)) b64WritesCard

/-- THE TIED CARD OF 'ambrylaw03.B64Reads'. -/
def b64ReadsCard : Claim7 := { stood := { row := b64ReadsRow, standIns := [], harness := (true, "9758e368e0d0adc67a7d323fd5b640ab8ae71a088df2cf0140867e9715c6448a"), looks := false }, kinds := [], alts := [], laidByText := true, laidKinds := [.data, .pinned], laidTests := true, laidLooks := .later }
def B64ReadsCardSaid : Prop := Claim7.holds Tryd.pinned (.plain (OpenSpec.ofChange b64ReadsSpec)) b64ReadsCard

/-- THE TIED CARD OF 'ambrylaw03.B64Back'. -/
def b64BackCard : Claim7 := { stood := { row := b64BackRow, standIns := [], harness := (true, "9758e368e0d0adc67a7d323fd5b640ab8ae71a088df2cf0140867e9715c6448a"), looks := false }, kinds := [], alts := [], laidByText := true, laidKinds := [.data, .pinned], laidTests := true, laidLooks := .later }
def B64BackCardSaid : Prop := Claim7.holds Tryd.pinned (.plain (OpenSpec.ofChange b64BackSpec)) b64BackCard

/-- THE TIED CARD OF 'ambrylaw03.B64Joins'. -/
def b64JoinsCard : Claim7 := { stood := { row := b64JoinsRow, standIns := [], harness := (true, "9758e368e0d0adc67a7d323fd5b640ab8ae71a088df2cf0140867e9715c6448a"), looks := false }, kinds := [], alts := [], laidByText := true, laidKinds := [.data, .pinned], laidTests := true, laidLooks := .later }
def B64JoinsCardSaid : Prop := Claim7.holds Tryd.pinned (.plain (OpenSpec.ofChange b64JoinsSpec)) b64JoinsCard

/-- THE TIED CARD OF 'ambrylaw03.B64Letters'. -/
def b64LettersCard : Claim7 := { stood := { row := b64LettersRow, standIns := [], harness := (true, "9758e368e0d0adc67a7d323fd5b640ab8ae71a088df2cf0140867e9715c6448a"), looks := false }, kinds := [], alts := [], laidByText := true, laidKinds := [.data, .pinned], laidTests := true, laidLooks := .later }
def B64LettersCardSaid : Prop := Claim7.holds Tryd.pinned (.plain (OpenSpec.ofChange b64LettersSpec)) b64LettersCard

/-- THE TIED CARD OF 'ambrylaw03.B64Spoils'. -/
def b64SpoilsCard : Claim7 := { stood := { row := b64SpoilsRow, standIns := [], harness := (true, "9758e368e0d0adc67a7d323fd5b640ab8ae71a088df2cf0140867e9715c6448a"), looks := false }, kinds := [], alts := [], laidByText := true, laidKinds := [.data, .pinned], laidTests := true, laidLooks := .later }
def B64SpoilsCardSaid : Prop := Claim7.holds Tryd.pinned (.plain (OpenSpec.ofChange b64SpoilsSpec)) b64SpoilsCard

/-- THE SECOND FORM's CARD OF 'ambrylaw03.B64Writes'. -/
def b64WritesUptoCard : Claim7 := { stood := { row := b64WritesUptoRow, standIns := [], harness := (true, "9758e368e0d0adc67a7d323fd5b640ab8ae71a088df2cf0140867e9715c6448a"), looks := false }, kinds := [], alts := [], laidByText := true, laidKinds := [.data, .pinned], laidTests := true, laidLooks := .later }
def B64WritesUptoCardSaid : Prop := Claim7.holds Tryd.pinned (.plain (OpenSpec.upto b64WritesSpec)) b64WritesUptoCard

/-- THE SECOND FORM's CARD OF 'ambrylaw03.B64Reads'. -/
def b64ReadsUptoCard : Claim7 := { stood := { row := b64ReadsUptoRow, standIns := [], harness := (true, "9758e368e0d0adc67a7d323fd5b640ab8ae71a088df2cf0140867e9715c6448a"), looks := false }, kinds := [], alts := [], laidByText := true, laidKinds := [.data, .pinned], laidTests := true, laidLooks := .later }
def B64ReadsUptoCardSaid : Prop := Claim7.holds Tryd.pinned (.plain (OpenSpec.upto b64ReadsSpec)) b64ReadsUptoCard

/-- THE SECOND FORM's CARD OF 'ambrylaw03.B64Back'. -/
def b64BackUptoCard : Claim7 := { stood := { row := b64BackUptoRow, standIns := [], harness := (true, "9758e368e0d0adc67a7d323fd5b640ab8ae71a088df2cf0140867e9715c6448a"), looks := false }, kinds := [], alts := [], laidByText := true, laidKinds := [.data, .pinned], laidTests := true, laidLooks := .later }
def B64BackUptoCardSaid : Prop := Claim7.holds Tryd.pinned (.plain (OpenSpec.upto b64BackSpec)) b64BackUptoCard

/-- THE SECOND FORM's CARD OF 'ambrylaw03.B64Joins'. -/
def b64JoinsUptoCard : Claim7 := { stood := { row := b64JoinsUptoRow, standIns := [], harness := (true, "9758e368e0d0adc67a7d323fd5b640ab8ae71a088df2cf0140867e9715c6448a"), looks := false }, kinds := [], alts := [], laidByText := true, laidKinds := [.data, .pinned], laidTests := true, laidLooks := .later }
def B64JoinsUptoCardSaid : Prop := Claim7.holds Tryd.pinned (.plain (OpenSpec.upto b64JoinsSpec)) b64JoinsUptoCard

/-- THE SECOND FORM's CARD OF 'ambrylaw03.B64Letters'. -/
def b64LettersUptoCard : Claim7 := { stood := { row := b64LettersUptoRow, standIns := [], harness := (true, "9758e368e0d0adc67a7d323fd5b640ab8ae71a088df2cf0140867e9715c6448a"), looks := false }, kinds := [], alts := [], laidByText := true, laidKinds := [.data, .pinned], laidTests := true, laidLooks := .later }
def B64LettersUptoCardSaid : Prop := Claim7.holds Tryd.pinned (.plain (OpenSpec.upto b64LettersSpec)) b64LettersUptoCard

/-- THE SECOND FORM's CARD OF 'ambrylaw03.B64Spoils'. -/
def b64SpoilsUptoCard : Claim7 := { stood := { row := b64SpoilsUptoRow, standIns := [], harness := (true, "9758e368e0d0adc67a7d323fd5b640ab8ae71a088df2cf0140867e9715c6448a"), looks := false }, kinds := [], alts := [], laidByText := true, laidKinds := [.data, .pinned], laidTests := true, laidLooks := .later }
def B64SpoilsUptoCardSaid : Prop := Claim7.holds Tryd.pinned (.plain (OpenSpec.upto b64SpoilsSpec)) b64SpoilsUptoCard
end Rows
end Go.Proofs.YtkajdnaanipngaaDoor
