/-
  No cell of these rows narrows 'for every input' (looked for: loops, veiled, ifaces, maps, wideKeys, modest, calm, conditions, laid).
  DERIVED. THE GIVEN ROWS OF THIS SEAT. 5 by the template 'for every input the law returns true; each argument reads behind the call as it read before'; 0 by the template 'total and deterministic' (their statements: YtfmgncajhjkdlaaTotals.lean).
  GIVEN WITH THE SEED: the statements are not yours to turn. If you find one false, say at which input.
  Laid BY PROGRAM, IN A SANDBOX (cutbox-rows.mjs): the forced cells as the released guide's own fill.sh prints them over the translation aed9b3ebe34ad055… (all of the seat's roots in one cut). By AI agents, Wed Nov 11 2026. No macro, syntax, notation, axiom, sorry.
-/
import Derived.Test.YtfmgncajhjkdlaaChecked
import GoSem.Claim
import GoSem.ClaimJoined
import GoSem.ClaimMapViews
import Derived.JoinedTies
import Derived.KernelRfl
namespace Go.Proofs.Ytfmgncajhjkdlaa
/- THE CELL 'sum', in the pinned program and in every row, IS THE sha256 OF THE DUMP (.gsa) THAT YtfmgncajhjkdlaaProg.lean LOADS. Nothing in Lean hashes anything: it is a label: what it is worth is what the hold of that sum in a sandbox is worth. -/
noncomputable def Try.pinned : Pinned := { name := "ytfmgncajhjkdlaa", sum := "aed9b3ebe34ad055574ce5e6eea0f7a08b3ab1a747069d41e74ce09830a8b983", checked := Try.checked }
namespace Rows
def none {H : Type} : Left H := { results := [], args := [] }

/-- 'ambrylaw07.SlabTurns': WHATEVER THE INPUT: true; the input reads as it did. -/
def slabTurnsSpec : ChangeSpec := { name := "slabTurns", fn := fun _ => fun
  | [d] => { results := [.lit (.bool true)], args := [d] }
  | _ => none }
def slabTurnsRow : OpenClaim := { program := "ytfmgncajhjkdlaa", sum := "aed9b3ebe34ad055574ce5e6eea0f7a08b3ab1a747069d41e74ce09830a8b983", func := "ambry/ambrylaw07.SlabTurns", spec := "slabTurns", unfollowed := true, recurses := true, apart := false }
def SlabTurnsSaid : Prop := slabTurnsRow.holds Try.pinned (OpenSpec.ofChange slabTurnsSpec)

/-- ITS FALSE NEIGHBOUR: 'it returns false'. Refute it at one input. -/
def slabTurnsWrong : ChangeSpec := { name := "slabTurns", fn := fun _ => fun
  | [d] => { results := [.lit (.bool false)], args := [d] }
  | _ => none }
def SlabTurnsWrongFalsely : Prop := slabTurnsRow.holds Try.pinned (OpenSpec.ofChange slabTurnsWrong)

/-- 'ambrylaw07.SlabFull': WHATEVER THE INPUT: true; the input reads as it did. -/
def slabFullSpec : ChangeSpec := { name := "slabFull", fn := fun _ => fun
  | [d1, d2] => { results := [.lit (.bool true)], args := [d1, d2] }
  | _ => none }
def slabFullRow : OpenClaim := { program := "ytfmgncajhjkdlaa", sum := "aed9b3ebe34ad055574ce5e6eea0f7a08b3ab1a747069d41e74ce09830a8b983", func := "ambry/ambrylaw07.SlabFull", spec := "slabFull", unfollowed := true, recurses := true, apart := false }
def SlabFullSaid : Prop := slabFullRow.holds Try.pinned (OpenSpec.ofChange slabFullSpec)

/-- ITS FALSE NEIGHBOUR: 'it returns false'. Refute it at one input. -/
def slabFullWrong : ChangeSpec := { name := "slabFull", fn := fun _ => fun
  | [d1, d2] => { results := [.lit (.bool false)], args := [d1, d2] }
  | _ => none }
def SlabFullWrongFalsely : Prop := slabFullRow.holds Try.pinned (OpenSpec.ofChange slabFullWrong)

/-- 'ambrylaw07.SlabMoves': WHATEVER THE INPUT: true; the input reads as it did. -/
def slabMovesSpec : ChangeSpec := { name := "slabMoves", fn := fun _ => fun
  | [d1, d2] => { results := [.lit (.bool true)], args := [d1, d2] }
  | _ => none }
def slabMovesRow : OpenClaim := { program := "ytfmgncajhjkdlaa", sum := "aed9b3ebe34ad055574ce5e6eea0f7a08b3ab1a747069d41e74ce09830a8b983", func := "ambry/ambrylaw07.SlabMoves", spec := "slabMoves", unfollowed := true, recurses := true, apart := false }
def SlabMovesSaid : Prop := slabMovesRow.holds Try.pinned (OpenSpec.ofChange slabMovesSpec)

/-- ITS FALSE NEIGHBOUR: 'it returns false'. Refute it at one input. -/
def slabMovesWrong : ChangeSpec := { name := "slabMoves", fn := fun _ => fun
  | [d1, d2] => { results := [.lit (.bool false)], args := [d1, d2] }
  | _ => none }
def SlabMovesWrongFalsely : Prop := slabMovesRow.holds Try.pinned (OpenSpec.ofChange slabMovesWrong)

/-- 'ambrylaw07.SlabApart': WHATEVER THE INPUT: true; the input reads as it did. -/
def slabApartSpec : ChangeSpec := { name := "slabApart", fn := fun _ => fun
  | [d1, d2, d3] => { results := [.lit (.bool true)], args := [d1, d2, d3] }
  | _ => none }
def slabApartRow : OpenClaim := { program := "ytfmgncajhjkdlaa", sum := "aed9b3ebe34ad055574ce5e6eea0f7a08b3ab1a747069d41e74ce09830a8b983", func := "ambry/ambrylaw07.SlabApart", spec := "slabApart", unfollowed := true, recurses := true, apart := false }
def SlabApartSaid : Prop := slabApartRow.holds Try.pinned (OpenSpec.ofChange slabApartSpec)

/-- ITS FALSE NEIGHBOUR: 'it returns false'. Refute it at one input. -/
def slabApartWrong : ChangeSpec := { name := "slabApart", fn := fun _ => fun
  | [d1, d2, d3] => { results := [.lit (.bool false)], args := [d1, d2, d3] }
  | _ => none }
def SlabApartWrongFalsely : Prop := slabApartRow.holds Try.pinned (OpenSpec.ofChange slabApartWrong)

/-- 'ambrylaw07.SlabPlays': WHATEVER THE INPUT: true; the input reads as it did. -/
def slabPlaysSpec : ChangeSpec := { name := "slabPlays", fn := fun _ => fun
  | [d1, d2, d3] => { results := [.lit (.bool true)], args := [d1, d2, d3] }
  | _ => none }
def slabPlaysRow : OpenClaim := { program := "ytfmgncajhjkdlaa", sum := "aed9b3ebe34ad055574ce5e6eea0f7a08b3ab1a747069d41e74ce09830a8b983", func := "ambry/ambrylaw07.SlabPlays", spec := "slabPlays", unfollowed := true, recurses := true, apart := false }
def SlabPlaysSaid : Prop := slabPlaysRow.holds Try.pinned (OpenSpec.ofChange slabPlaysSpec)

/-- ITS FALSE NEIGHBOUR: 'it returns false'. Refute it at one input. -/
def slabPlaysWrong : ChangeSpec := { name := "slabPlays", fn := fun _ => fun
  | [d1, d2, d3] => { results := [.lit (.bool false)], args := [d1, d2, d3] }
  | _ => none }
def SlabPlaysWrongFalsely : Prop := slabPlaysRow.holds Try.pinned (OpenSpec.ofChange slabPlaysWrong)

/- THE SECOND FORM. 'bulk': how many values and letters a reading holds, each counted each time it is reached (what is shared counts as often as it is met; a slice's spare places count too). A statement '..UptoSaid' is the law's where the arguments, and the package variables that the reading takes, are together of bulk at most 1048576: NARROWER than '..Said'. Prove '..Said' where nothing that the law and all that it calls make is longer than what came in: it says more and counts as full. Else prove '..UptoSaid'. A law counts once. -/
mutual
def uptoBulk {H : Type} : DataW H → Nat
  | .lit (.string bytes) => bytes.length + 1
  | .lit _ => 1
  | .nil => 1
  | .ptr d => uptoBulk d + 1
  | .slice elems spare => uptoBulkAll elems + uptoBulkAll spare + 1
  | .agg parts => uptoBulkAll parts + 1
  | .iface _ d => uptoBulk d + 1
  | .map entries => uptoBulkEntries entries + 1
  | .held _ => 1
def uptoBulkAll {H : Type} : List (DataW H) → Nat
  | [] => 0
  | d :: r => uptoBulk d + uptoBulkAll r
def uptoBulkEntries {H : Type} : List (Lit × DataW H) → Nat
  | [] => 0
  | x :: r => uptoBulkEntry x + uptoBulkEntries r
def uptoBulkEntry {H : Type} : Lit × DataW H → Nat
  | (.string bytes, d) => bytes.length + uptoBulk d + 1
  | (_, d) => uptoBulk d + 1
 end
def uptoSmall : (H : Type) → List (DataW H) → Bool := fun _ ds => decide (uptoBulkAll ds ≤ 1048576)
def OpenSpec.upto (s : _root_.Go.ChangeSpec) : _root_.Go.OpenSpec := { _root_.Go.OpenSpec.ofChange s with cond := some uptoSmall }

/-- 'ambrylaw07.SlabTurns', WHERE WHAT IT READS IS OF BULK AT MOST 1048576: true; the input reads as it did. -/
def slabTurnsUptoRow : OpenClaim := { program := "ytfmgncajhjkdlaa", sum := "aed9b3ebe34ad055574ce5e6eea0f7a08b3ab1a747069d41e74ce09830a8b983", func := "ambry/ambrylaw07.SlabTurns", spec := "slabTurns", unfollowed := true, recurses := true, apart := false, narrowed := true }
def SlabTurnsUptoSaid : Prop := slabTurnsUptoRow.holds Try.pinned (OpenSpec.upto slabTurnsSpec)

/-- 'ambrylaw07.SlabFull', WHERE WHAT IT READS IS OF BULK AT MOST 1048576: true; the input reads as it did. -/
def slabFullUptoRow : OpenClaim := { program := "ytfmgncajhjkdlaa", sum := "aed9b3ebe34ad055574ce5e6eea0f7a08b3ab1a747069d41e74ce09830a8b983", func := "ambry/ambrylaw07.SlabFull", spec := "slabFull", unfollowed := true, recurses := true, apart := false, narrowed := true }
def SlabFullUptoSaid : Prop := slabFullUptoRow.holds Try.pinned (OpenSpec.upto slabFullSpec)

/-- 'ambrylaw07.SlabMoves', WHERE WHAT IT READS IS OF BULK AT MOST 1048576: true; the input reads as it did. -/
def slabMovesUptoRow : OpenClaim := { program := "ytfmgncajhjkdlaa", sum := "aed9b3ebe34ad055574ce5e6eea0f7a08b3ab1a747069d41e74ce09830a8b983", func := "ambry/ambrylaw07.SlabMoves", spec := "slabMoves", unfollowed := true, recurses := true, apart := false, narrowed := true }
def SlabMovesUptoSaid : Prop := slabMovesUptoRow.holds Try.pinned (OpenSpec.upto slabMovesSpec)

/-- 'ambrylaw07.SlabApart', WHERE WHAT IT READS IS OF BULK AT MOST 1048576: true; the input reads as it did. -/
def slabApartUptoRow : OpenClaim := { program := "ytfmgncajhjkdlaa", sum := "aed9b3ebe34ad055574ce5e6eea0f7a08b3ab1a747069d41e74ce09830a8b983", func := "ambry/ambrylaw07.SlabApart", spec := "slabApart", unfollowed := true, recurses := true, apart := false, narrowed := true }
def SlabApartUptoSaid : Prop := slabApartUptoRow.holds Try.pinned (OpenSpec.upto slabApartSpec)

/-- 'ambrylaw07.SlabPlays', WHERE WHAT IT READS IS OF BULK AT MOST 1048576: true; the input reads as it did. -/
def slabPlaysUptoRow : OpenClaim := { program := "ytfmgncajhjkdlaa", sum := "aed9b3ebe34ad055574ce5e6eea0f7a08b3ab1a747069d41e74ce09830a8b983", func := "ambry/ambrylaw07.SlabPlays", spec := "slabPlays", unfollowed := true, recurses := true, apart := false, narrowed := true }
def SlabPlaysUptoSaid : Prop := slabPlaysUptoRow.holds Try.pinned (OpenSpec.upto slabPlaysSpec)

end Rows
end Go.Proofs.Ytfmgncajhjkdlaa
