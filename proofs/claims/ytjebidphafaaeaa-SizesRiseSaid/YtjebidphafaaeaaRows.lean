/-
  No cell of these rows narrows 'for every input' (looked for: loops, veiled, ifaces, maps, wideKeys, modest, calm, conditions, laid).
  DERIVED. THE GIVEN ROWS OF THIS SEAT. 5 by the template 'for every input the law returns true; each argument reads behind the call as it read before'; 0 by the template 'total and deterministic' (their statements: YtjebidphafaaeaaTotals.lean).
  GIVEN WITH THE SEED: the statements are not yours to turn. If you find one false, say at which input.
  Laid BY PROGRAM, IN A SANDBOX (cutbox-rows.mjs): the forced cells as the released guide's own fill.sh prints them over the translation e009ad20f754f514… (all of the seat's roots in one cut). By AI agents, Wed Nov 11 2026. No macro, syntax, notation, axiom, sorry.
-/
import Derived.Test.YtjebidphafaaeaaChecked
import GoSem.Claim
import GoSem.ClaimJoined
import GoSem.ClaimMapViews
import Derived.JoinedTies
import Derived.KernelRfl
namespace Go.Proofs.Ytjebidphafaaeaa
/- THE CELL 'sum', in the pinned program and in every row, IS THE sha256 OF THE DUMP (.gsa) THAT YtjebidphafaaeaaProg.lean LOADS. Nothing in Lean hashes anything: it is a label: what it is worth is what the hold of that sum in a sandbox is worth. -/
noncomputable def Try.pinned : Pinned := { name := "ytjebidphafaaeaa", sum := "e009ad20f754f514bb3e5fa47d3c51c345ea9f5a9d6267ded9f3f97c23586f05", checked := Try.checked }
namespace Rows
def none {H : Type} : Left H := { results := [], args := [] }

/-- 'ambrylaw05.SizesNew': WHATEVER THE INPUT: true; the input reads as it did. -/
def sizesNewSpec : ChangeSpec := { name := "sizesNew", fn := fun _ => fun
  | [d1, d2] => { results := [.lit (.bool true)], args := [d1, d2] }
  | _ => none }
def sizesNewRow : OpenClaim := { program := "ytjebidphafaaeaa", sum := "e009ad20f754f514bb3e5fa47d3c51c345ea9f5a9d6267ded9f3f97c23586f05", func := "ambry/ambrylaw05.SizesNew", spec := "sizesNew", unfollowed := true, recurses := true, apart := false }
def SizesNewSaid : Prop := sizesNewRow.holds Try.pinned (OpenSpec.ofChange sizesNewSpec)

/-- ITS FALSE NEIGHBOUR: 'it returns false'. Refute it at one input. -/
def sizesNewWrong : ChangeSpec := { name := "sizesNew", fn := fun _ => fun
  | [d1, d2] => { results := [.lit (.bool false)], args := [d1, d2] }
  | _ => none }
def SizesNewWrongFalsely : Prop := sizesNewRow.holds Try.pinned (OpenSpec.ofChange sizesNewWrong)

/-- 'ambrylaw05.SizesTell': WHATEVER THE INPUT: true; the input reads as it did. -/
def sizesTellSpec : ChangeSpec := { name := "sizesTell", fn := fun _ => fun
  | [d1, d2, d3, d4] => { results := [.lit (.bool true)], args := [d1, d2, d3, d4] }
  | _ => none }
def sizesTellRow : OpenClaim := { program := "ytjebidphafaaeaa", sum := "e009ad20f754f514bb3e5fa47d3c51c345ea9f5a9d6267ded9f3f97c23586f05", func := "ambry/ambrylaw05.SizesTell", spec := "sizesTell", unfollowed := true, recurses := true, apart := false }
def SizesTellSaid : Prop := sizesTellRow.holds Try.pinned (OpenSpec.ofChange sizesTellSpec)

/-- ITS FALSE NEIGHBOUR: 'it returns false'. Refute it at one input. -/
def sizesTellWrong : ChangeSpec := { name := "sizesTell", fn := fun _ => fun
  | [d1, d2, d3, d4] => { results := [.lit (.bool false)], args := [d1, d2, d3, d4] }
  | _ => none }
def SizesTellWrongFalsely : Prop := sizesTellRow.holds Try.pinned (OpenSpec.ofChange sizesTellWrong)

/-- 'ambrylaw05.SizesRise': WHATEVER THE INPUT: true; the input reads as it did. -/
def sizesRiseSpec : ChangeSpec := { name := "sizesRise", fn := fun _ => fun
  | [d1, d2, d3] => { results := [.lit (.bool true)], args := [d1, d2, d3] }
  | _ => none }
def sizesRiseRow : OpenClaim := { program := "ytjebidphafaaeaa", sum := "e009ad20f754f514bb3e5fa47d3c51c345ea9f5a9d6267ded9f3f97c23586f05", func := "ambry/ambrylaw05.SizesRise", spec := "sizesRise", unfollowed := true, recurses := true, apart := false }
def SizesRiseSaid : Prop := sizesRiseRow.holds Try.pinned (OpenSpec.ofChange sizesRiseSpec)

/-- ITS FALSE NEIGHBOUR: 'it returns false'. Refute it at one input. -/
def sizesRiseWrong : ChangeSpec := { name := "sizesRise", fn := fun _ => fun
  | [d1, d2, d3] => { results := [.lit (.bool false)], args := [d1, d2, d3] }
  | _ => none }
def SizesRiseWrongFalsely : Prop := sizesRiseRow.holds Try.pinned (OpenSpec.ofChange sizesRiseWrong)

/-- 'ambrylaw05.SizesGrow': WHATEVER THE INPUT: true; the input reads as it did. -/
def sizesGrowSpec : ChangeSpec := { name := "sizesGrow", fn := fun _ => fun
  | [d1, d2] => { results := [.lit (.bool true)], args := [d1, d2] }
  | _ => none }
def sizesGrowRow : OpenClaim := { program := "ytjebidphafaaeaa", sum := "e009ad20f754f514bb3e5fa47d3c51c345ea9f5a9d6267ded9f3f97c23586f05", func := "ambry/ambrylaw05.SizesGrow", spec := "sizesGrow", unfollowed := true, recurses := true, apart := false }
def SizesGrowSaid : Prop := sizesGrowRow.holds Try.pinned (OpenSpec.ofChange sizesGrowSpec)

/-- ITS FALSE NEIGHBOUR: 'it returns false'. Refute it at one input. -/
def sizesGrowWrong : ChangeSpec := { name := "sizesGrow", fn := fun _ => fun
  | [d1, d2] => { results := [.lit (.bool false)], args := [d1, d2] }
  | _ => none }
def SizesGrowWrongFalsely : Prop := sizesGrowRow.holds Try.pinned (OpenSpec.ofChange sizesGrowWrong)

/-- 'ambrylaw05.SizesHold': WHATEVER THE INPUT: true; the input reads as it did. -/
def sizesHoldSpec : ChangeSpec := { name := "sizesHold", fn := fun _ => fun
  | [d1, d2] => { results := [.lit (.bool true)], args := [d1, d2] }
  | _ => none }
def sizesHoldRow : OpenClaim := { program := "ytjebidphafaaeaa", sum := "e009ad20f754f514bb3e5fa47d3c51c345ea9f5a9d6267ded9f3f97c23586f05", func := "ambry/ambrylaw05.SizesHold", spec := "sizesHold", unfollowed := true, recurses := true, apart := false }
def SizesHoldSaid : Prop := sizesHoldRow.holds Try.pinned (OpenSpec.ofChange sizesHoldSpec)

/-- ITS FALSE NEIGHBOUR: 'it returns false'. Refute it at one input. -/
def sizesHoldWrong : ChangeSpec := { name := "sizesHold", fn := fun _ => fun
  | [d1, d2] => { results := [.lit (.bool false)], args := [d1, d2] }
  | _ => none }
def SizesHoldWrongFalsely : Prop := sizesHoldRow.holds Try.pinned (OpenSpec.ofChange sizesHoldWrong)

/- THE SECOND FORM. 'bulk': how many values and letters a reading holds, each counted each time it is reached (what is shared counts as often as it is met; a slice's spare places count too). A statement '..UptoSaid' is the law's where the arguments, and the package variables that the reading takes, are together of bulk at most 1048576: NARROWER than '..Said'. Prove '..Said' where nothing that the law and all that it calls make is longer than what came in: it says more and counts as full. Else prove '..UptoSaid'. A law counts once. -/
mutual
def uptoBulk {H : Type} : DataW H → Nat
  | .lit (.string bytes) => bytes.length + 1
  | .lit _ => 1
  | .nil => 1
  | .ptr d => uptoBulk d + 1
  | .slice elems spare => uptoBulkAll elems + uptoBulkAll spare + 1
  | .agg parts => uptoBulkAll parts + 1
  | .iface _ d => uptoBulk d + 1
  | .map entries => uptoBulkEntries entries + 1
  | .held _ => 1
def uptoBulkAll {H : Type} : List (DataW H) → Nat
  | [] => 0
  | d :: r => uptoBulk d + uptoBulkAll r
def uptoBulkEntries {H : Type} : List (Lit × DataW H) → Nat
  | [] => 0
  | x :: r => uptoBulkEntry x + uptoBulkEntries r
def uptoBulkEntry {H : Type} : Lit × DataW H → Nat
  | (.string bytes, d) => bytes.length + uptoBulk d + 1
  | (_, d) => uptoBulk d + 1
 end
def uptoSmall : (H : Type) → List (DataW H) → Bool := fun _ ds => decide (uptoBulkAll ds ≤ 1048576)
def OpenSpec.upto (s : _root_.Go.ChangeSpec) : _root_.Go.OpenSpec := { _root_.Go.OpenSpec.ofChange s with cond := some uptoSmall }

/-- 'ambrylaw05.SizesNew', WHERE WHAT IT READS IS OF BULK AT MOST 1048576: true; the input reads as it did. -/
def sizesNewUptoRow : OpenClaim := { program := "ytjebidphafaaeaa", sum := "e009ad20f754f514bb3e5fa47d3c51c345ea9f5a9d6267ded9f3f97c23586f05", func := "ambry/ambrylaw05.SizesNew", spec := "sizesNew", unfollowed := true, recurses := true, apart := false, narrowed := true }
def SizesNewUptoSaid : Prop := sizesNewUptoRow.holds Try.pinned (OpenSpec.upto sizesNewSpec)

/-- 'ambrylaw05.SizesTell', WHERE WHAT IT READS IS OF BULK AT MOST 1048576: true; the input reads as it did. -/
def sizesTellUptoRow : OpenClaim := { program := "ytjebidphafaaeaa", sum := "e009ad20f754f514bb3e5fa47d3c51c345ea9f5a9d6267ded9f3f97c23586f05", func := "ambry/ambrylaw05.SizesTell", spec := "sizesTell", unfollowed := true, recurses := true, apart := false, narrowed := true }
def SizesTellUptoSaid : Prop := sizesTellUptoRow.holds Try.pinned (OpenSpec.upto sizesTellSpec)

/-- 'ambrylaw05.SizesRise', WHERE WHAT IT READS IS OF BULK AT MOST 1048576: true; the input reads as it did. -/
def sizesRiseUptoRow : OpenClaim := { program := "ytjebidphafaaeaa", sum := "e009ad20f754f514bb3e5fa47d3c51c345ea9f5a9d6267ded9f3f97c23586f05", func := "ambry/ambrylaw05.SizesRise", spec := "sizesRise", unfollowed := true, recurses := true, apart := false, narrowed := true }
def SizesRiseUptoSaid : Prop := sizesRiseUptoRow.holds Try.pinned (OpenSpec.upto sizesRiseSpec)

/-- 'ambrylaw05.SizesGrow', WHERE WHAT IT READS IS OF BULK AT MOST 1048576: true; the input reads as it did. -/
def sizesGrowUptoRow : OpenClaim := { program := "ytjebidphafaaeaa", sum := "e009ad20f754f514bb3e5fa47d3c51c345ea9f5a9d6267ded9f3f97c23586f05", func := "ambry/ambrylaw05.SizesGrow", spec := "sizesGrow", unfollowed := true, recurses := true, apart := false, narrowed := true }
def SizesGrowUptoSaid : Prop := sizesGrowUptoRow.holds Try.pinned (OpenSpec.upto sizesGrowSpec)

/-- 'ambrylaw05.SizesHold', WHERE WHAT IT READS IS OF BULK AT MOST 1048576: true; the input reads as it did. -/
def sizesHoldUptoRow : OpenClaim := { program := "ytjebidphafaaeaa", sum := "e009ad20f754f514bb3e5fa47d3c51c345ea9f5a9d6267ded9f3f97c23586f05", func := "ambry/ambrylaw05.SizesHold", spec := "sizesHold", unfollowed := true, recurses := true, apart := false, narrowed := true }
def SizesHoldUptoSaid : Prop := sizesHoldUptoRow.holds Try.pinned (OpenSpec.upto sizesHoldSpec)

end Rows
end Go.Proofs.Ytjebidphafaaeaa
