/-
  DERIVED. GIVEN WITH THE SEED: THE CARDS: each row of YtboehbfagnocpaaGreatDoorRows.lean that lists a variable, with what it lists TIED to the program's text (the seventh form; the later family's looks); each row that meets fmt, with fmt's text TOLD by the authors' own Lean function (tested against real Go, not proved from fmt's source: count such statements apart). THE CARD IS WHAT COUNTS. Prove the row's statement (the work); the ties are given (YtboehbfagnocpaaGreatDoorTie.lean); close each card by the builder's one call (the guide's Derived/Test/ToyasCard.lean, 'card_holds'). Laid BY PROGRAM, IN A SANDBOX (cutbox-door.mjs). By AI agents, Wed Nov 11 2026. No macro, syntax, notation, axiom, sorry.
-/
import Derived.Test.YtboehbfagnocpaaGreatDoorRows
import GoSem.ClaimSeven
namespace Go.Proofs.YtboehbfagnocpaaGreatDoor
namespace Rows

/-- THE TIED CARD OF 'ambrytop.TopGarbage'. -/
def topGarbageCard : Claim7 := { stood := { row := topGarbageRow, standIns := [], harness := (true, "76e368309952e11987902442375a5b615712ea0cd0d715de066c188f05b1e019"), looks := true }, kinds := [], alts := [], laidByText := true, laidKinds := [.data, .data, .data, .data, .sentinel, .sentinel, .pinned], laidTests := true, laidLooks := .later }
def TopGarbageCardSaid : Prop := Claim7.holds Tryz.pinned (.plain (OpenSpec.ofChange topGarbageSpec)) topGarbageCard

/-- THE TIED CARD OF 'ambrytop.TopVictims'. -/
def topVictimsCard : Claim7 := { stood := { row := topVictimsRow, standIns := [], harness := (true, "76e368309952e11987902442375a5b615712ea0cd0d715de066c188f05b1e019"), looks := true }, kinds := [], alts := [], laidByText := true, laidKinds := [.data, .data, .data, .data, .sentinel, .sentinel, .pinned], laidTests := true, laidLooks := .later }
def TopVictimsCardSaid : Prop := Claim7.holds Tryz.pinned (.plain (OpenSpec.ofChange topVictimsSpec)) topVictimsCard

/-- THE TIED CARD OF 'ambrytop.TopPieces'. -/
def topPiecesCard : Claim7 := { stood := { row := topPiecesRow, standIns := [], harness := (true, "76e368309952e11987902442375a5b615712ea0cd0d715de066c188f05b1e019"), looks := true }, kinds := [], alts := [], laidByText := true, laidKinds := [.data, .data, .data, .data, .sentinel, .sentinel, .pinned], laidTests := true, laidLooks := .later }
def TopPiecesCardSaid : Prop := Claim7.holds Tryz.pinned (.plain (OpenSpec.ofChange topPiecesSpec)) topPiecesCard

/-- THE TIED CARD OF 'ambrytop.TopCounts'. -/
def topCountsCard : Claim7 := { stood := { row := topCountsRow, standIns := [], harness := (true, "76e368309952e11987902442375a5b615712ea0cd0d715de066c188f05b1e019"), looks := true }, kinds := [], alts := [], laidByText := true, laidKinds := [.data, .data, .data, .data, .sentinel, .sentinel, .pinned], laidTests := true, laidLooks := .later }
def TopCountsCardSaid : Prop := Claim7.holds Tryz.pinned (.plain (OpenSpec.ofChange topCountsSpec)) topCountsCard

/-- THE TIED CARD OF 'ambrytop.TopCas'. -/
def topCasCard : Claim7 := { stood := { row := topCasRow, standIns := [], harness := (true, "76e368309952e11987902442375a5b615712ea0cd0d715de066c188f05b1e019"), looks := true }, kinds := [], alts := [], laidByText := true, laidKinds := [.data, .data, .data, .data, .sentinel, .sentinel, .pinned], laidTests := true, laidLooks := .later }
def TopCasCardSaid : Prop := Claim7.holds Tryz.pinned (.plain (OpenSpec.ofChange topCasSpec)) topCasCard

/-- THE SECOND FORM's CARD OF 'ambrytop.TopGarbage'. -/
def topGarbageUptoCard : Claim7 := { stood := { row := topGarbageUptoRow, standIns := [], harness := (true, "76e368309952e11987902442375a5b615712ea0cd0d715de066c188f05b1e019"), looks := true }, kinds := [], alts := [], laidByText := true, laidKinds := [.data, .data, .data, .data, .sentinel, .sentinel, .pinned], laidTests := true, laidLooks := .later }
def TopGarbageUptoCardSaid : Prop := Claim7.holds Tryz.pinned (.plain (OpenSpec.upto topGarbageSpec)) topGarbageUptoCard

/-- THE SECOND FORM's CARD OF 'ambrytop.TopVictims'. -/
def topVictimsUptoCard : Claim7 := { stood := { row := topVictimsUptoRow, standIns := [], harness := (true, "76e368309952e11987902442375a5b615712ea0cd0d715de066c188f05b1e019"), looks := true }, kinds := [], alts := [], laidByText := true, laidKinds := [.data, .data, .data, .data, .sentinel, .sentinel, .pinned], laidTests := true, laidLooks := .later }
def TopVictimsUptoCardSaid : Prop := Claim7.holds Tryz.pinned (.plain (OpenSpec.upto topVictimsSpec)) topVictimsUptoCard

/-- THE SECOND FORM's CARD OF 'ambrytop.TopPieces'. -/
def topPiecesUptoCard : Claim7 := { stood := { row := topPiecesUptoRow, standIns := [], harness := (true, "76e368309952e11987902442375a5b615712ea0cd0d715de066c188f05b1e019"), looks := true }, kinds := [], alts := [], laidByText := true, laidKinds := [.data, .data, .data, .data, .sentinel, .sentinel, .pinned], laidTests := true, laidLooks := .later }
def TopPiecesUptoCardSaid : Prop := Claim7.holds Tryz.pinned (.plain (OpenSpec.upto topPiecesSpec)) topPiecesUptoCard

/-- THE SECOND FORM's CARD OF 'ambrytop.TopCounts'. -/
def topCountsUptoCard : Claim7 := { stood := { row := topCountsUptoRow, standIns := [], harness := (true, "76e368309952e11987902442375a5b615712ea0cd0d715de066c188f05b1e019"), looks := true }, kinds := [], alts := [], laidByText := true, laidKinds := [.data, .data, .data, .data, .sentinel, .sentinel, .pinned], laidTests := true, laidLooks := .later }
def TopCountsUptoCardSaid : Prop := Claim7.holds Tryz.pinned (.plain (OpenSpec.upto topCountsSpec)) topCountsUptoCard

/-- THE SECOND FORM's CARD OF 'ambrytop.TopCas'. -/
def topCasUptoCard : Claim7 := { stood := { row := topCasUptoRow, standIns := [], harness := (true, "76e368309952e11987902442375a5b615712ea0cd0d715de066c188f05b1e019"), looks := true }, kinds := [], alts := [], laidByText := true, laidKinds := [.data, .data, .data, .data, .sentinel, .sentinel, .pinned], laidTests := true, laidLooks := .later }
def TopCasUptoCardSaid : Prop := Claim7.holds Tryz.pinned (.plain (OpenSpec.upto topCasSpec)) topCasUptoCard
end Rows
end Go.Proofs.YtboehbfagnocpaaGreatDoor
