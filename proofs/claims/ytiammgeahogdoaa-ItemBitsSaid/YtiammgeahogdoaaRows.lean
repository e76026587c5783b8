/-
  No cell of these rows narrows 'for every input' (looked for: loops, veiled, ifaces, maps, wideKeys, modest, calm, conditions, laid).
  DERIVED. THE GIVEN ROWS OF THIS SEAT. 6 by the template 'for every input the law returns true; each argument reads behind the call as it read before'; 0 by the template 'total and deterministic' (their statements: YtiammgeahogdoaaTotals.lean).
  GIVEN WITH THE SEED: the statements are not yours to turn. If you find one false, say at which input.
  Laid BY PROGRAM, IN A SANDBOX (cutbox-rows.mjs): the forced cells as the released guide's own fill.sh prints them over the translation 3cfb93a151b6b6ff… (all of the seat's roots in one cut). By AI agents, Wed Nov 11 2026. No macro, syntax, notation, axiom, sorry.
-/
import Derived.Test.YtiammgeahogdoaaChecked
import GoSem.Claim
import GoSem.ClaimJoined
import GoSem.ClaimMapViews
import Derived.JoinedTies
import Derived.KernelRfl
namespace Go.Proofs.Ytiammgeahogdoaa
/- THE CELL 'sum', in the pinned program and in every row, IS THE sha256 OF THE DUMP (.gsa) THAT YtiammgeahogdoaaProg.lean LOADS. Nothing in Lean hashes anything: it is a label: what it is worth is what the hold of that sum in a sandbox is worth. -/
noncomputable def Try.pinned : Pinned := { name := "ytiammgeahogdoaa", sum := "3cfb93a151b6b6ffc3641f1de5c8074f555e73749662454ef02ddc722a64dfd0", checked := Try.checked }
namespace Rows
def none {H : Type} : Left H := { results := [], args := [] }

/-- 'ambrylaw08.ItemWrites': WHATEVER THE INPUT: true; the input reads as it did. -/
def itemWritesSpec : ChangeSpec := { name := "itemWrites", fn := fun _ => fun
  | [d1, d2, d3] => { results := [.lit (.bool true)], args := [d1, d2, d3] }
  | _ => none }
def itemWritesRow : OpenClaim := { program := "ytiammgeahogdoaa", sum := "3cfb93a151b6b6ffc3641f1de5c8074f555e73749662454ef02ddc722a64dfd0", func := "ambry/ambrylaw08.ItemWrites", spec := "itemWrites", apart := false }
def ItemWritesSaid : Prop := itemWritesRow.holds Try.pinned (OpenSpec.ofChange itemWritesSpec)

/-- ITS FALSE NEIGHBOUR: 'it returns false'. Refute it at one input. -/
def itemWritesWrong : ChangeSpec := { name := "itemWrites", fn := fun _ => fun
  | [d1, d2, d3] => { results := [.lit (.bool false)], args := [d1, d2, d3] }
  | _ => none }
def ItemWritesWrongFalsely : Prop := itemWritesRow.holds Try.pinned (OpenSpec.ofChange itemWritesWrong)

/-- 'ambrylaw08.ItemApart': WHATEVER THE INPUT: true; the input reads as it did. -/
def itemApartSpec : ChangeSpec := { name := "itemApart", fn := fun _ => fun
  | [d1, d2] => { results := [.lit (.bool true)], args := [d1, d2] }
  | _ => none }
def itemApartRow : OpenClaim := { program := "ytiammgeahogdoaa", sum := "3cfb93a151b6b6ffc3641f1de5c8074f555e73749662454ef02ddc722a64dfd0", func := "ambry/ambrylaw08.ItemApart", spec := "itemApart", apart := false }
def ItemApartSaid : Prop := itemApartRow.holds Try.pinned (OpenSpec.ofChange itemApartSpec)

/-- ITS FALSE NEIGHBOUR: 'it returns false'. Refute it at one input. -/
def itemApartWrong : ChangeSpec := { name := "itemApart", fn := fun _ => fun
  | [d1, d2] => { results := [.lit (.bool false)], args := [d1, d2] }
  | _ => none }
def ItemApartWrongFalsely : Prop := itemApartRow.holds Try.pinned (OpenSpec.ofChange itemApartWrong)

/-- 'ambrylaw08.ItemSizes': WHATEVER THE INPUT: true; the input reads as it did. -/
def itemSizesSpec : ChangeSpec := { name := "itemSizes", fn := fun _ => fun
  | [d1, d2] => { results := [.lit (.bool true)], args := [d1, d2] }
  | _ => none }
def itemSizesRow : OpenClaim := { program := "ytiammgeahogdoaa", sum := "3cfb93a151b6b6ffc3641f1de5c8074f555e73749662454ef02ddc722a64dfd0", func := "ambry/ambrylaw08.ItemSizes", spec := "itemSizes", apart := false }
def ItemSizesSaid : Prop := itemSizesRow.holds Try.pinned (OpenSpec.ofChange itemSizesSpec)

/-- ITS FALSE NEIGHBOUR: 'it returns false'. Refute it at one input. -/
def itemSizesWrong : ChangeSpec := { name := "itemSizes", fn := fun _ => fun
  | [d1, d2] => { results := [.lit (.bool false)], args := [d1, d2] }
  | _ => none }
def ItemSizesWrongFalsely : Prop := itemSizesRow.holds Try.pinned (OpenSpec.ofChange itemSizesWrong)

/-- 'ambrylaw08.ItemReads': WHATEVER THE INPUT: true; the input reads as it did. -/
def itemReadsSpec : ChangeSpec := { name := "itemReads", fn := fun _ => fun
  | [d] => { results := [.lit (.bool true)], args := [d] }
  | _ => none }
def itemReadsRow : OpenClaim := { program := "ytiammgeahogdoaa", sum := "3cfb93a151b6b6ffc3641f1de5c8074f555e73749662454ef02ddc722a64dfd0", func := "ambry/ambrylaw08.ItemReads", spec := "itemReads", apart := false }
def ItemReadsSaid : Prop := itemReadsRow.holds Try.pinned (OpenSpec.ofChange itemReadsSpec)

/-- ITS FALSE NEIGHBOUR: 'it returns false'. Refute it at one input. -/
def itemReadsWrong : ChangeSpec := { name := "itemReads", fn := fun _ => fun
  | [d] => { results := [.lit (.bool false)], args := [d] }
  | _ => none }
def ItemReadsWrongFalsely : Prop := itemReadsRow.holds Try.pinned (OpenSpec.ofChange itemReadsWrong)

/-- 'ambrylaw08.ItemBack': WHATEVER THE INPUT: true; the input reads as it did. -/
def itemBackSpec : ChangeSpec := { name := "itemBack", fn := fun _ => fun
  | [d1, d2, d3] => { results := [.lit (.bool true)], args := [d1, d2, d3] }
  | _ => none }
def itemBackRow : OpenClaim := { program := "ytiammgeahogdoaa", sum := "3cfb93a151b6b6ffc3641f1de5c8074f555e73749662454ef02ddc722a64dfd0", func := "ambry/ambrylaw08.ItemBack", spec := "itemBack", apart := false }
def ItemBackSaid : Prop := itemBackRow.holds Try.pinned (OpenSpec.ofChange itemBackSpec)

/-- ITS FALSE NEIGHBOUR: 'it returns false'. Refute it at one input. -/
def itemBackWrong : ChangeSpec := { name := "itemBack", fn := fun _ => fun
  | [d1, d2, d3] => { results := [.lit (.bool false)], args := [d1, d2, d3] }
  | _ => none }
def ItemBackWrongFalsely : Prop := itemBackRow.holds Try.pinned (OpenSpec.ofChange itemBackWrong)

/-- 'ambrylaw08.ItemBits': WHATEVER THE INPUT: true; the input reads as it did. -/
def itemBitsSpec : ChangeSpec := { name := "itemBits", fn := fun _ => fun
  | [d1, d2, d3] => { results := [.lit (.bool true)], args := [d1, d2, d3] }
  | _ => none }
def itemBitsRow : OpenClaim := { program := "ytiammgeahogdoaa", sum := "3cfb93a151b6b6ffc3641f1de5c8074f555e73749662454ef02ddc722a64dfd0", func := "ambry/ambrylaw08.ItemBits", spec := "itemBits", apart := false }
def ItemBitsSaid : Prop := itemBitsRow.holds Try.pinned (OpenSpec.ofChange itemBitsSpec)

/-- ITS FALSE NEIGHBOUR: 'it returns false'. Refute it at one input. -/
def itemBitsWrong : ChangeSpec := { name := "itemBits", fn := fun _ => fun
  | [d1, d2, d3] => { results := [.lit (.bool false)], args := [d1, d2, d3] }
  | _ => none }
def ItemBitsWrongFalsely : Prop := itemBitsRow.holds Try.pinned (OpenSpec.ofChange itemBitsWrong)

/- THE SECOND FORM. 'bulk': how many values and letters a reading holds, each counted each time it is reached (what is shared counts as often as it is met; a slice's spare places count too). A statement '..UptoSaid' is the law's where the arguments, and the package variables that the reading takes, are together of bulk at most 1048576: NARROWER than '..Said'. Prove '..Said' where nothing that the law and all that it calls make is longer than what came in: it says more and counts as full. Else prove '..UptoSaid'. A law counts once. -/
mutual
def uptoBulk {H : Type} : DataW H → Nat
  | .lit (.string bytes) => bytes.length + 1
  | .lit _ => 1
  | .nil => 1
  | .ptr d => uptoBulk d + 1
  | .slice elems spare => uptoBulkAll elems + uptoBulkAll spare + 1
  | .agg parts => uptoBulkAll parts + 1
  | .iface _ d => uptoBulk d + 1
  | .map entries => uptoBulkEntries entries + 1
  | .held _ => 1
def uptoBulkAll {H : Type} : List (DataW H) → Nat
  | [] => 0
  | d :: r => uptoBulk d + uptoBulkAll r
def uptoBulkEntries {H : Type} : List (Lit × DataW H) → Nat
  | [] => 0
  | x :: r => uptoBulkEntry x + uptoBulkEntries r
def uptoBulkEntry {H : Type} : Lit × DataW H → Nat
  | (.string bytes, d) => bytes.length + uptoBulk d + 1
  | (_, d) => uptoBulk d + 1
 end
def uptoSmall : (H : Type) → List (DataW H) → Bool := fun _ ds => decide (uptoBulkAll ds ≤ 1048576)
def OpenSpec.upto (s : _root_.Go.ChangeSpec) : _root_.Go.OpenSpec := { _root_.Go.OpenSpec.ofChange s with cond := some uptoSmall }

/-- 'ambrylaw08.ItemWrites', WHERE WHAT IT READS IS OF BULK AT MOST 1048576: true; the input reads as it did. -/
def itemWritesUptoRow : OpenClaim := { program := "ytiammgeahogdoaa", sum := "3cfb93a151b6b6ffc3641f1de5c8074f555e73749662454ef02ddc722a64dfd0", func := "ambry/ambrylaw08.ItemWrites", spec := "itemWrites", apart := false, narrowed := true }
def ItemWritesUptoSaid : Prop := itemWritesUptoRow.holds Try.pinned (OpenSpec.upto itemWritesSpec)

/-- 'ambrylaw08.ItemApart', WHERE WHAT IT READS IS OF BULK AT MOST 1048576: true; the input reads as it did. -/
def itemApartUptoRow : OpenClaim := { program := "ytiammgeahogdoaa", sum := "3cfb93a151b6b6ffc3641f1de5c8074f555e73749662454ef02ddc722a64dfd0", func := "ambry/ambrylaw08.ItemApart", spec := "itemApart", apart := false, narrowed := true }
def ItemApartUptoSaid : Prop := itemApartUptoRow.holds Try.pinned (OpenSpec.upto itemApartSpec)

/-- 'ambrylaw08.ItemSizes', WHERE WHAT IT READS IS OF BULK AT MOST 1048576: true; the input reads as it did. -/
def itemSizesUptoRow : OpenClaim := { program := "ytiammgeahogdoaa", sum := "3cfb93a151b6b6ffc3641f1de5c8074f555e73749662454ef02ddc722a64dfd0", func := "ambry/ambrylaw08.ItemSizes", spec := "itemSizes", apart := false, narrowed := true }
def ItemSizesUptoSaid : Prop := itemSizesUptoRow.holds Try.pinned (OpenSpec.upto itemSizesSpec)

/-- 'ambrylaw08.ItemReads', WHERE WHAT IT READS IS OF BULK AT MOST 1048576: true; the input reads as it did. -/
def itemReadsUptoRow : OpenClaim := { program := "ytiammgeahogdoaa", sum := "3cfb93a151b6b6ffc3641f1de5c8074f555e73749662454ef02ddc722a64dfd0", func := "ambry/ambrylaw08.ItemReads", spec := "itemReads", apart := false, narrowed := true }
def ItemReadsUptoSaid : Prop := itemReadsUptoRow.holds Try.pinned (OpenSpec.upto itemReadsSpec)

/-- 'ambrylaw08.ItemBack', WHERE WHAT IT READS IS OF BULK AT MOST 1048576: true; the input reads as it did. -/
def itemBackUptoRow : OpenClaim := { program := "ytiammgeahogdoaa", sum := "3cfb93a151b6b6ffc3641f1de5c8074f555e73749662454ef02ddc722a64dfd0", func := "ambry/ambrylaw08.ItemBack", spec := "itemBack", apart := false, narrowed := true }
def ItemBackUptoSaid : Prop := itemBackUptoRow.holds Try.pinned (OpenSpec.upto itemBackSpec)

/-- 'ambrylaw08.ItemBits', WHERE WHAT IT READS IS OF BULK AT MOST 1048576: true; the input reads as it did. -/
def itemBitsUptoRow : OpenClaim := { program := "ytiammgeahogdoaa", sum := "3cfb93a151b6b6ffc3641f1de5c8074f555e73749662454ef02ddc722a64dfd0", func := "ambry/ambrylaw08.ItemBits", spec := "itemBits", apart := false, narrowed := true }
def ItemBitsUptoSaid : Prop := itemBitsUptoRow.holds Try.pinned (OpenSpec.upto itemBitsSpec)

end Rows
end Go.Proofs.Ytiammgeahogdoaa
