/-
  The closed facts of the row of TopCounts, each one by itself (a program of mine, wip/jf.py, wrote this text).
-/
import Derived.Test.YtboehbfagnocpaaGreatDoorCards
import Derived.Test.YtboehbfagnocpaaGreatDoorTie
import Derived.ProofKit
import Derived.SevenTiedAt
namespace Go.Proofs.YtboehbfagnocpaaGreatDoor.lawTopCounts
open Go.ChangeShapes Go.WideShapes Go.ChangeAt Go.RowKit
set_option linter.unusedVariables false
set_option maxRecDepth 100000
theorem j0 : (OpenClaim.wf (OpenSpec.ofChange (OpenSpec.ofChange Rows.topCountsSpec).bare) Rows.topCountsRow) = true := by kernel_rfl
theorem j1 : (laidOutB Tryz.prog) = true := by kernel_rfl
theorem j2 : (mapsRowed Tryz.prog) = true := by kernel_rfl
theorem j3 : (Tryz.f6.params.all fun x => Tryz.prog.readableRec x) = true := by kernel_rfl
theorem j4 : (namedTie Tryz.prog Rows.topCountsRow.named (OpenSpec.ofChange Rows.topCountsSpec).bare.vars) = true := by kernel_rfl
theorem j5 : (Rows.topCountsRow.stops == []) = true := by kernel_rfl
theorem j6 : (Tryz.prog.stops == []) = true := by kernel_rfl
theorem j7 : (Rows.topCountsRow.knobs == []) = true := by kernel_rfl
theorem j8 : (Tryz.prog.stopKnobs == []) = true := by kernel_rfl
theorem j9 : (Rows.topCountsRow.inPlace == Tryz.prog.inPlace 6) = true := by kernel_rfl
theorem j10 : (Rows.topCountsRow.unfollowed == Tryz.prog.unfollowed 6) = true := by kernel_rfl
theorem j11 : (Rows.topCountsRow.recurses == Tryz.prog.recurses 6) = true := by kernel_rfl
theorem j12 : (Rows.topCountsRow.named == Tryz.prog.varsNamed 6) = true := by kernel_rfl
theorem j13 : (Rows.topCountsRow.maps == (Tryz.f6.params.toList ++ DataSpec.varTypes Tryz.prog (OpenSpec.ofChange Rows.topCountsSpec).bare.plain).any fun x => Tryz.prog.mapsRec x) = true := by kernel_rfl
theorem j14 : (Rows.topCountsRow.ifaces == (Tryz.f6.params.toList ++ DataSpec.varTypes Tryz.prog (OpenSpec.ofChange Rows.topCountsSpec).bare.plain).any fun x => Tryz.prog.ifacesRec x) = true := by kernel_rfl
theorem j15 : (Rows.topCountsRow.mapsOut == Tryz.prog.mapsAmong Tryz.f6.resultTypes.toList) = true := by kernel_rfl
theorem j16 : (Rows.topCountsRow.loops == (Tryz.f6.params.toList ++ DataSpec.varTypes Tryz.prog (OpenSpec.ofChange Rows.topCountsSpec).bare.plain).any fun x => Tryz.prog.loopsFrom x) = true := by kernel_rfl
theorem j17 : (Rows.topCountsRow.wideKeys == (Tryz.f6.params.toList ++ DataSpec.varTypes Tryz.prog (OpenSpec.ofChange Rows.topCountsSpec).bare.plain ++ Tryz.f6.resultTypes.toList).any fun x => Tryz.prog.wideKeysFrom x) = true := by kernel_rfl
theorem j18 : ((OpenSpec.ofChange Rows.topCountsSpec).bare.vars.all fun x => Tryz.prog.varReadable x) = true := by kernel_rfl
theorem j19 : (Tryz.f6.resultTypes.all fun t => Tryz.prog.readableRec t && decide (t < Tryz.prog.types.size)) = true := by kernel_rfl
theorem j20 : (Rows.topCountsRow.ifacesOut == Tryz.f6.resultTypes.toList.any fun x => Tryz.prog.ifacesRec x) = true := by kernel_rfl
theorem j21 : (Rows.topCountsRow.loopsOut == Tryz.f6.resultTypes.toList.any fun x => Tryz.prog.loopsFrom x) = true := by kernel_rfl
theorem j22 : (Rows.topCountsRow.plainKeys == Tryz.prog.plainKeys) = true := by kernel_rfl
theorem j23 : (Rows.topCountsRow.shortTexts.isNone) = true := by kernel_rfl
theorem j24 : (Tryz.prog.stopsHeard) = true := by kernel_rfl
theorem j25 : (Tryz.prog.mayEnter) = true := by kernel_rfl
theorem j26 : (Rows.topCountsRow.lifted == Tryz.prog.liftsFinal) = true := by kernel_rfl
theorem j27 : (Tryz.prog.make == some Rows.topCountsRow.make) = true := by kernel_rfl
theorem j28 : (Rows.topCountsRow.kinds == if Rows.topCountsRow.domain.isEmpty = true then [] else List.map (fun t => match Tryz.prog.underlying t with | some (TypeDesc.int k) => some k | x => Option.none) Tryz.f6.params.toList) = true := by kernel_rfl
theorem j29 : (Rows.topCountsRow.pinned == Rows.topCountsRow.pinnedBy) = true := by kernel_rfl
theorem j30 : (Rows.topCountsRow.veiled == (Tryz.f6.params.toList ++ DataSpec.varTypes Tryz.prog (OpenSpec.ofChange Rows.topCountsSpec).bare.plain ++ Tryz.f6.resultTypes.toList).any fun x => Tryz.prog.veiledRec x) = true := by kernel_rfl
theorem j31 : (Rows.topCountsRow.veiledFits Tryz.prog Tryz.f6.params.toList (Tryz.f6.params.toList ++ DataSpec.varTypes Tryz.prog (OpenSpec.ofChange Rows.topCountsSpec).bare.plain ++ Tryz.f6.resultTypes.toList)) = true := by kernel_rfl
theorem and_t {a b : Bool} (h : a = true) (k : b = true) : (a && b) = true := by rw [h, k]; rfl
theorem joined : joinedFacts Tryz.prog 6 Tryz.f6 (OpenSpec.ofChange Rows.topCountsSpec).bare Rows.topCountsRow = true := by
  unfold joinedFacts
  exact and_t (and_t (and_t (and_t (and_t (and_t (and_t (and_t (and_t (and_t (and_t (and_t (and_t (and_t (and_t (and_t (and_t (and_t (and_t (and_t (and_t (and_t (and_t (and_t (and_t (and_t (and_t (and_t (and_t (and_t (and_t j0 j1) j2) j3) j4) j5) j6) j7) j8) j9) j10) j11) j12) j13) j14) j15) j16) j17) j18) j19) j20) j21) j22) j23) j24) j25) j26) j27) j28) j29) j30) j31
theorem jl : Tryz.prog.looks [] = true := by kernel_rfl
theorem jg : Rows.topCountsRow.goesBy Tryz.prog = false := by kernel_rfl
theorem jm : Tryz.prog.mainIs = some (true, "76e368309952e11987902442375a5b615712ea0cd0d715de066c188f05b1e019".toList) := by kernel_rfl
theorem jw : OpenClaim.wfByText (OpenSpec.ofChange Rows.topCountsSpec) Rows.topCountsRow = true := by kernel_rfl
theorem jn : Tryz.prog.funcNamed "ambry/ambrytop.TopCounts" = some 6 := by kernel_rfl
theorem js3 : Tryz.prog.wantsStandIn 3 = false := by kernel_rfl
theorem js39 : Tryz.prog.wantsStandIn 39 = false := by kernel_rfl
theorem js46 : Tryz.prog.wantsStandIn 46 = false := by kernel_rfl
end Go.Proofs.YtboehbfagnocpaaGreatDoor.lawTopCounts
