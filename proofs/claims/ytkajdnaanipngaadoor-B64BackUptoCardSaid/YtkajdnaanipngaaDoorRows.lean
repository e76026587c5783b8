/-
  NARROWER THAN 'FOR EVERY INPUT', by the rows' own cells (each row's printed sentence says how): B64Writes: laid · B64Reads: laid · B64Back: laid · B64Joins: laid · B64Letters: laid · B64Spoils: laid.
  DERIVED. THE GIVEN ROWS OF THIS SEAT. 6 by the template 'for every input the law returns true; each argument reads behind the call as it read before'; 0 by the template 'total and deterministic' (their statements: YtkajdnaanipngaaDoorTotals.lean).
  GIVEN WITH THE SEED: the statements are not yours to turn. If you find one false, say at which input.
  Laid BY PROGRAM, IN A SANDBOX (cutbox-rows.mjs): the forced cells as the released guide's own fill.sh prints them over the translation 206e35fa2e819bf5… (all of the seat's roots in one cut). By AI agents, Wed Nov 11 2026. No macro, syntax, notation, axiom, sorry.
-/
import Derived.Test.YtkajdnaanipngaaDoorChecked
import GoSem.PinnedTables
import GoSem.Claim
import GoSem.ClaimJoined
import GoSem.ClaimMapViews
import Derived.JoinedTies
import Derived.KernelRfl
namespace Go.Proofs.YtkajdnaanipngaaDoor
/- THE CELL 'sum', in the pinned program and in every row, IS THE sha256 OF THE DUMP (.gsa) THAT YtkajdnaanipngaaDoorProg.lean LOADS. Nothing in Lean hashes anything: it is a label: what it is worth is what the hold of that sum in a sandbox is worth. -/
noncomputable def Tryd.pinned : Pinned := { name := "ytkajdnaanipngaadoor", sum := "206e35fa2e819bf5dc2a6ebac7e56674dc42387e27d5a2b2f1c813f1f246f706", checked := Tryd.checked }
namespace Rows
def none {H : Type} : Left H := { results := [], args := [] }

/- WHAT THE LISTED PACKAGE-LEVEL VARIABLES READ AS WHEN THE CALL BEGINS. Each datum BY PROGRAM (the guide's laid-datum.mjs) off the statement by which the dump's own 'gosem.cut.vars' lays the variable. In a bare row this is a premise. The card (YtkajdnaanipngaaDoorCards.lean) ties it to the program's text. -/
def laid_unicode_utf8_acceptRanges {H : Type} : DataW H := .agg [.agg [.lit (.int .u8 128), .lit (.int .u8 191)], .agg [.lit (.int .u8 160), .lit (.int .u8 191)], .agg [.lit (.int .u8 128), .lit (.int .u8 159)], .agg [.lit (.int .u8 144), .lit (.int .u8 191)], .agg [.lit (.int .u8 128), .lit (.int .u8 143)], .agg [.lit (.int .u8 0), .lit (.int .u8 0)], .agg [.lit (.int .u8 0), .lit (.int .u8 0)], .agg [.lit (.int .u8 0), .lit (.int .u8 0)], .agg [.lit (.int .u8 0), .lit (.int .u8 0)], .agg [.lit (.int .u8 0), .lit (.int .u8 0)], .agg [.lit (.int .u8 0), .lit (.int .u8 0)], .agg [.lit (.int .u8 0), .lit (.int .u8 0)], .agg [.lit (.int .u8 0), .lit (.int .u8 0)], .agg [.lit (.int .u8 0), .lit (.int .u8 0)], .agg [.lit (.int .u8 0), .lit (.int .u8 0)], .agg [.lit (.int .u8 0), .lit (.int .u8 0)]]
/-- One of Go's own tables, pinned by name: the form's constant. -/
def laid_unicode_utf8_first : DataW Unit := Go.Pinned.utf8First

/-- 'ambrylaw03.B64Writes': WHATEVER THE INPUT: true; the input reads as it did. -/
def b64WritesSpec : ChangeSpec := { name := "b64Writes", fn := fun _ => fun
  | [d] => { results := [.lit (.bool true)], args := [d] }
  | _ => none }
def b64WritesRow : OpenClaim := { program := "ytkajdnaanipngaadoor", sum := "206e35fa2e819bf5dc2a6ebac7e56674dc42387e27d5a2b2f1c813f1f246f706", func := "ambry/ambrylaw03.B64Writes", spec := "b64Writes", inPlace := ["internal/bytealg.IndexByteString", "internal/bytealg.IndexString", "internal/abi.NoEscape"], named := ["unicode/utf8.first", "unicode/utf8.acceptRanges", "internal/bytealg.MaxLen"], apart := false, laid := [("unicode/utf8.acceptRanges", laid_unicode_utf8_acceptRanges), ("unicode/utf8.first", laid_unicode_utf8_first)] }
def B64WritesSaid : Prop := b64WritesRow.holds Tryd.pinned (OpenSpec.ofChange b64WritesSpec)

/-- ITS FALSE NEIGHBOUR: 'it returns false'. Refute it at one input. -/
def b64WritesWrong : ChangeSpec := { name := "b64Writes", fn := fun _ => fun
  | [d] => { results := [.lit (.bool false)], args := [d] }
  | _ => none }
def B64WritesWrongFalsely : Prop := b64WritesRow.holds Tryd.pinned (OpenSpec.ofChange b64WritesWrong)

/-- 'ambrylaw03.B64Reads': WHATEVER THE INPUT: true; the input reads as it did. -/
def b64ReadsSpec : ChangeSpec := { name := "b64Reads", fn := fun _ => fun
  | [d] => { results := [.lit (.bool true)], args := [d] }
  | _ => none }
def b64ReadsRow : OpenClaim := { program := "ytkajdnaanipngaadoor", sum := "206e35fa2e819bf5dc2a6ebac7e56674dc42387e27d5a2b2f1c813f1f246f706", func := "ambry/ambrylaw03.B64Reads", spec := "b64Reads", inPlace := ["internal/bytealg.IndexByteString", "internal/bytealg.IndexString", "internal/abi.NoEscape"], named := ["unicode/utf8.first", "unicode/utf8.acceptRanges", "internal/bytealg.MaxLen"], apart := false, laid := [("unicode/utf8.acceptRanges", laid_unicode_utf8_acceptRanges), ("unicode/utf8.first", laid_unicode_utf8_first)] }
def B64ReadsSaid : Prop := b64ReadsRow.holds Tryd.pinned (OpenSpec.ofChange b64ReadsSpec)

/-- ITS FALSE NEIGHBOUR: 'it returns false'. Refute it at one input. -/
def b64ReadsWrong : ChangeSpec := { name := "b64Reads", fn := fun _ => fun
  | [d] => { results := [.lit (.bool false)], args := [d] }
  | _ => none }
def B64ReadsWrongFalsely : Prop := b64ReadsRow.holds Tryd.pinned (OpenSpec.ofChange b64ReadsWrong)

/-- 'ambrylaw03.B64Back': WHATEVER THE INPUT: true; the input reads as it did. -/
def b64BackSpec : ChangeSpec := { name := "b64Back", fn := fun _ => fun
  | [d1, d2] => { results := [.lit (.bool true)], args := [d1, d2] }
  | _ => none }
def b64BackRow : OpenClaim := { program := "ytkajdnaanipngaadoor", sum := "206e35fa2e819bf5dc2a6ebac7e56674dc42387e27d5a2b2f1c813f1f246f706", func := "ambry/ambrylaw03.B64Back", spec := "b64Back", inPlace := ["internal/bytealg.IndexByteString", "internal/bytealg.IndexString", "internal/abi.NoEscape"], named := ["unicode/utf8.first", "unicode/utf8.acceptRanges", "internal/bytealg.MaxLen"], apart := false, laid := [("unicode/utf8.acceptRanges", laid_unicode_utf8_acceptRanges), ("unicode/utf8.first", laid_unicode_utf8_first)] }
def B64BackSaid : Prop := b64BackRow.holds Tryd.pinned (OpenSpec.ofChange b64BackSpec)

/-- ITS FALSE NEIGHBOUR: 'it returns false'. Refute it at one input. -/
def b64BackWrong : ChangeSpec := { name := "b64Back", fn := fun _ => fun
  | [d1, d2] => { results := [.lit (.bool false)], args := [d1, d2] }
  | _ => none }
def B64BackWrongFalsely : Prop := b64BackRow.holds Tryd.pinned (OpenSpec.ofChange b64BackWrong)

/-- 'ambrylaw03.B64Joins': WHATEVER THE INPUT: true; the input reads as it did. -/
def b64JoinsSpec : ChangeSpec := { name := "b64Joins", fn := fun _ => fun
  | [d1, d2] => { results := [.lit (.bool true)], args := [d1, d2] }
  | _ => none }
def b64JoinsRow : OpenClaim := { program := "ytkajdnaanipngaadoor", sum := "206e35fa2e819bf5dc2a6ebac7e56674dc42387e27d5a2b2f1c813f1f246f706", func := "ambry/ambrylaw03.B64Joins", spec := "b64Joins", inPlace := ["internal/bytealg.IndexByteString", "internal/bytealg.IndexString", "internal/abi.NoEscape"], named := ["unicode/utf8.first", "unicode/utf8.acceptRanges", "internal/bytealg.MaxLen"], apart := false, laid := [("unicode/utf8.acceptRanges", laid_unicode_utf8_acceptRanges), ("unicode/utf8.first", laid_unicode_utf8_first)] }
def B64JoinsSaid : Prop := b64JoinsRow.holds Tryd.pinned (OpenSpec.ofChange b64JoinsSpec)

/-- ITS FALSE NEIGHBOUR: 'it returns false'. Refute it at one input. -/
def b64JoinsWrong : ChangeSpec := { name := "b64Joins", fn := fun _ => fun
  | [d1, d2] => { results := [.lit (.bool false)], args := [d1, d2] }
  | _ => none }
def B64JoinsWrongFalsely : Prop := b64JoinsRow.holds Tryd.pinned (OpenSpec.ofChange b64JoinsWrong)

/-- 'ambrylaw03.B64Letters': WHATEVER THE INPUT: true; the input reads as it did. -/
def b64LettersSpec : ChangeSpec := { name := "b64Letters", fn := fun _ => fun
  | [d] => { results := [.lit (.bool true)], args := [d] }
  | _ => none }
def b64LettersRow : OpenClaim := { program := "ytkajdnaanipngaadoor", sum := "206e35fa2e819bf5dc2a6ebac7e56674dc42387e27d5a2b2f1c813f1f246f706", func := "ambry/ambrylaw03.B64Letters", spec := "b64Letters", inPlace := ["internal/bytealg.IndexByteString", "internal/bytealg.IndexString", "internal/abi.NoEscape"], named := ["unicode/utf8.first", "unicode/utf8.acceptRanges", "internal/bytealg.MaxLen"], apart := false, laid := [("unicode/utf8.acceptRanges", laid_unicode_utf8_acceptRanges), ("unicode/utf8.first", laid_unicode_utf8_first)] }
def B64LettersSaid : Prop := b64LettersRow.holds Tryd.pinned (OpenSpec.ofChange b64LettersSpec)

/-- ITS FALSE NEIGHBOUR: 'it returns false'. Refute it at one input. -/
def b64LettersWrong : ChangeSpec := { name := "b64Letters", fn := fun _ => fun
  | [d] => { results := [.lit (.bool false)], args := [d] }
  | _ => none }
def B64LettersWrongFalsely : Prop := b64LettersRow.holds Tryd.pinned (OpenSpec.ofChange b64LettersWrong)

/-- 'ambrylaw03.B64Spoils': WHATEVER THE INPUT: true; the input reads as it did. -/
def b64SpoilsSpec : ChangeSpec := { name := "b64Spoils", fn := fun _ => fun
  | [d1, d2, d3] => { results := [.lit (.bool true)], args := [d1, d2, d3] }
  | _ => none }
def b64SpoilsRow : OpenClaim := { program := "ytkajdnaanipngaadoor", sum := "206e35fa2e819bf5dc2a6ebac7e56674dc42387e27d5a2b2f1c813f1f246f706", func := "ambry/ambrylaw03.B64Spoils", spec := "b64Spoils", inPlace := ["internal/bytealg.IndexByteString", "internal/bytealg.IndexString", "internal/abi.NoEscape"], named := ["unicode/utf8.first", "unicode/utf8.acceptRanges", "internal/bytealg.MaxLen"], apart := false, laid := [("unicode/utf8.acceptRanges", laid_unicode_utf8_acceptRanges), ("unicode/utf8.first", laid_unicode_utf8_first)] }
def B64SpoilsSaid : Prop := b64SpoilsRow.holds Tryd.pinned (OpenSpec.ofChange b64SpoilsSpec)

/-- ITS FALSE NEIGHBOUR: 'it returns false'. Refute it at one input. -/
def b64SpoilsWrong : ChangeSpec := { name := "b64Spoils", fn := fun _ => fun
  | [d1, d2, d3] => { results := [.lit (.bool false)], args := [d1, d2, d3] }
  | _ => none }
def B64SpoilsWrongFalsely : Prop := b64SpoilsRow.holds Tryd.pinned (OpenSpec.ofChange b64SpoilsWrong)

/- THE SECOND FORM. 'bulk': how many values and letters a reading holds, each counted each time it is reached (what is shared counts as often as it is met; a slice's spare places count too). A statement '..UptoSaid' is the law's where the arguments, and the package variables that the reading takes, are together of bulk at most 1048576: NARROWER than '..Said'. Prove '..Said' where nothing that the law and all that it calls make is longer than what came in: it says more and counts as full. Else prove '..UptoSaid'. A law counts once. -/
mutual
def uptoBulk {H : Type} : DataW H → Nat
  | .lit (.string bytes) => bytes.length + 1
  | .lit _ => 1
  | .nil => 1
  | .ptr d => uptoBulk d + 1
  | .slice elems spare => uptoBulkAll elems + uptoBulkAll spare + 1
  | .agg parts => uptoBulkAll parts + 1
  | .iface _ d => uptoBulk d + 1
  | .map entries => uptoBulkEntries entries + 1
  | .held _ => 1
def uptoBulkAll {H : Type} : List (DataW H) → Nat
  | [] => 0
  | d :: r => uptoBulk d + uptoBulkAll r
def uptoBulkEntries {H : Type} : List (Lit × DataW H) → Nat
  | [] => 0
  | x :: r => uptoBulkEntry x + uptoBulkEntries r
def uptoBulkEntry {H : Type} : Lit × DataW H → Nat
  | (.string bytes, d) => bytes.length + uptoBulk d + 1
  | (_, d) => uptoBulk d + 1
 end
def uptoSmall : (H : Type) → List (DataW H) → Bool := fun _ ds => decide (uptoBulkAll ds ≤ 1048576)
def OpenSpec.upto (s : _root_.Go.ChangeSpec) : _root_.Go.OpenSpec := { _root_.Go.OpenSpec.ofChange s with cond := some uptoSmall }

/-- 'ambrylaw03.B64Writes', WHERE WHAT IT READS IS OF BULK AT MOST 1048576: true; the input reads as it did. -/
def b64WritesUptoRow : OpenClaim := { program := "ytkajdnaanipngaadoor", sum := "206e35fa2e819bf5dc2a6ebac7e56674dc42387e27d5a2b2f1c813f1f246f706", func := "ambry/ambrylaw03.B64Writes", spec := "b64Writes", inPlace := ["internal/bytealg.IndexByteString", "internal/bytealg.IndexString", "internal/abi.NoEscape"], named := ["unicode/utf8.first", "unicode/utf8.acceptRanges", "internal/bytealg.MaxLen"], apart := false, laid := [("unicode/utf8.acceptRanges", laid_unicode_utf8_acceptRanges), ("unicode/utf8.first", laid_unicode_utf8_first)], narrowed := true }
def B64WritesUptoSaid : Prop := b64WritesUptoRow.holds Tryd.pinned (OpenSpec.upto b64WritesSpec)

/-- 'ambrylaw03.B64Reads', WHERE WHAT IT READS IS OF BULK AT MOST 1048576: true; the input reads as it did. -/
def b64ReadsUptoRow : OpenClaim := { program := "ytkajdnaanipngaadoor", sum := "206e35fa2e819bf5dc2a6ebac7e56674dc42387e27d5a2b2f1c813f1f246f706", func := "ambry/ambrylaw03.B64Reads", spec := "b64Reads", inPlace := ["internal/bytealg.IndexByteString", "internal/bytealg.IndexString", "internal/abi.NoEscape"], named := ["unicode/utf8.first", "unicode/utf8.acceptRanges", "internal/bytealg.MaxLen"], apart := false, laid := [("unicode/utf8.acceptRanges", laid_unicode_utf8_acceptRanges), ("unicode/utf8.first", laid_unicode_utf8_first)], narrowed := true }
def B64ReadsUptoSaid : Prop := b64ReadsUptoRow.holds Tryd.pinned (OpenSpec.upto b64ReadsSpec)

/-- 'ambrylaw03.B64Back', WHERE WHAT IT READS IS OF BULK AT MOST 1048576: true; the input reads as it did. -/
def b64BackUptoRow : OpenClaim := { program := "ytkajdnaanipngaadoor", sum := "206e35fa2e819bf5dc2a6ebac7e56674dc42387e27d5a2b2f1c813f1f246f706", func := "ambry/ambrylaw03.B64Back", spec := "b64Back", inPlace := ["internal/bytealg.IndexByteString", "internal/bytealg.IndexString", "internal/abi.NoEscape"], named := ["unicode/utf8.first", "unicode/utf8.acceptRanges", "internal/bytealg.MaxLen"], apart := false, laid := [("unicode/utf8.acceptRanges", laid_unicode_utf8_acceptRanges), ("unicode/utf8.first", laid_unicode_utf8_first)], narrowed := true }
def B64BackUptoSaid : Prop := b64BackUptoRow.holds Tryd.pinned (OpenSpec.upto b64BackSpec)

/-- 'ambrylaw03.B64Joins', WHERE WHAT IT READS IS OF BULK AT MOST 1048576: true; the input reads as it did. -/
def b64JoinsUptoRow : OpenClaim := { program := "ytkajdnaanipngaadoor", sum := "206e35fa2e819bf5dc2a6ebac7e56674dc42387e27d5a2b2f1c813f1f246f706", func := "ambry/ambrylaw03.B64Joins", spec := "b64Joins", inPlace := ["internal/bytealg.IndexByteString", "internal/bytealg.IndexString", "internal/abi.NoEscape"], named := ["unicode/utf8.first", "unicode/utf8.acceptRanges", "internal/bytealg.MaxLen"], apart := false, laid := [("unicode/utf8.acceptRanges", laid_unicode_utf8_acceptRanges), ("unicode/utf8.first", laid_unicode_utf8_first)], narrowed := true }
def B64JoinsUptoSaid : Prop := b64JoinsUptoRow.holds Tryd.pinned (OpenSpec.upto b64JoinsSpec)

/-- 'ambrylaw03.B64Letters', WHERE WHAT IT READS IS OF BULK AT MOST 1048576: true; the input reads as it did. -/
def b64LettersUptoRow : OpenClaim := { program := "ytkajdnaanipngaadoor", sum := "206e35fa2e819bf5dc2a6ebac7e56674dc42387e27d5a2b2f1c813f1f246f706", func := "ambry/ambrylaw03.B64Letters", spec := "b64Letters", inPlace := ["internal/bytealg.IndexByteString", "internal/bytealg.IndexString", "internal/abi.NoEscape"], named := ["unicode/utf8.first", "unicode/utf8.acceptRanges", "internal/bytealg.MaxLen"], apart := false, laid := [("unicode/utf8.acceptRanges", laid_unicode_utf8_acceptRanges), ("unicode/utf8.first", laid_unicode_utf8_first)], narrowed := true }
def B64LettersUptoSaid : Prop := b64LettersUptoRow.holds Tryd.pinned (OpenSpec.upto b64LettersSpec)

/-- 'ambrylaw03.B64Spoils', WHERE WHAT IT READS IS OF BULK AT MOST 1048576: true; the input reads as it did. -/
def b64SpoilsUptoRow : OpenClaim := { program := "ytkajdnaanipngaadoor", sum := "206e35fa2e819bf5dc2a6ebac7e56674dc42387e27d5a2b2f1c813f1f246f706", func := "ambry/ambrylaw03.B64Spoils", spec := "b64Spoils", inPlace := ["internal/bytealg.IndexByteString", "internal/bytealg.IndexString", "internal/abi.NoEscape"], named := ["unicode/utf8.first", "unicode/utf8.acceptRanges", "internal/bytealg.MaxLen"], apart := false, laid := [("unicode/utf8.acceptRanges", laid_unicode_utf8_acceptRanges), ("unicode/utf8.first", laid_unicode_utf8_first)], narrowed := true }
def B64SpoilsUptoSaid : Prop := b64SpoilsUptoRow.holds Tryd.pinned (OpenSpec.upto b64SpoilsSpec)

end Rows
end Go.Proofs.YtkajdnaanipngaaDoor
