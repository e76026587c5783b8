/-
  The closed facts of the row of TopCas, each one by itself (a program of mine, wip/jf.py, wrote this text).
-/
import Derived.Test.YtboehbfagnocpaaGreatDoorCards
import Derived.Test.YtboehbfagnocpaaGreatDoorTie
import Derived.ProofKit
import Derived.SevenTiedAt
namespace Go.Proofs.YtboehbfagnocpaaGreatDoor.lawTopCas
open Go.ChangeShapes Go.WideShapes Go.ChangeAt Go.RowKit
set_option linter.unusedVariables false
set_option maxRecDepth 100000
theorem j0 : (OpenClaim.wf (OpenSpec.ofChange (OpenSpec.ofChange Rows.topCasSpec).bare) Rows.topCasRow) = true := by kernel_rfl
theorem j1 : (laidOutB Tryz.prog) = true := by kernel_rfl
theorem j2 : (mapsRowed Tryz.prog) = true := by kernel_rfl
theorem j3 : (Tryz.f7.params.all fun x => Tryz.prog.readableRec x) = true := by kernel_rfl
theorem j4 : (namedTie Tryz.prog Rows.topCasRow.named (OpenSpec.ofChange Rows.topCasSpec).bare.vars) = true := by kernel_rfl
theorem j5 : (Rows.topCasRow.stops == []) = true := by kernel_rfl
theorem j6 : (Tryz.prog.stops == []) = true := by kernel_rfl
theorem j7 : (Rows.topCasRow.knobs == []) = true := by kernel_rfl
theorem j8 : (Tryz.prog.stopKnobs == []) = true := by kernel_rfl
theorem j9 : (Rows.topCasRow.inPlace == Tryz.prog.inPlace 7) = true := by kernel_rfl
theorem j10 : (Rows.topCasRow.unfollowed == Tryz.prog.unfollowed 7) = true := by kernel_rfl
theorem j11 : (Rows.topCasRow.recurses == Tryz.prog.recurses 7) = true := by kernel_rfl
theorem j12 : (Rows.topCasRow.named == Tryz.prog.varsNamed 7) = true := by kernel_rfl
theorem j13 : (Rows.topCasRow.maps == (Tryz.f7.params.toList ++ DataSpec.varTypes Tryz.prog (OpenSpec.ofChange Rows.topCasSpec).bare.plain).any fun x => Tryz.prog.mapsRec x) = true := by kernel_rfl
theorem j14 : (Rows.topCasRow.ifaces == (Tryz.f7.params.toList ++ DataSpec.varTypes Tryz.prog (OpenSpec.ofChange Rows.topCasSpec).bare.plain).any fun x => Tryz.prog.ifacesRec x) = true := by kernel_rfl
theorem j15 : (Rows.topCasRow.mapsOut == Tryz.prog.mapsAmong Tryz.f7.resultTypes.toList) = true := by kernel_rfl
theorem j16 : (Rows.topCasRow.loops == (Tryz.f7.params.toList ++ DataSpec.varTypes Tryz.prog (OpenSpec.ofChange Rows.topCasSpec).bare.plain).any fun x => Tryz.prog.loopsFrom x) = true := by kernel_rfl
theorem j17 : (Rows.topCasRow.wideKeys == (Tryz.f7.params.toList ++ DataSpec.varTypes Tryz.prog (OpenSpec.ofChange Rows.topCasSpec).bare.plain ++ Tryz.f7.resultTypes.toList).any fun x => Tryz.prog.wideKeysFrom x) = true := by kernel_rfl
theorem j18 : ((OpenSpec.ofChange Rows.topCasSpec).bare.vars.all fun x => Tryz.prog.varReadable x) = true := by kernel_rfl
theorem j19 : (Tryz.f7.resultTypes.all fun t => Tryz.prog.readableRec t && decide (t < Tryz.prog.types.size)) = true := by kernel_rfl
theorem j20 : (Rows.topCasRow.ifacesOut == Tryz.f7.resultTypes.toList.any fun x => Tryz.prog.ifacesRec x) = true := by kernel_rfl
theorem j21 : (Rows.topCasRow.loopsOut == Tryz.f7.resultTypes.toList.any fun x => Tryz.prog.loopsFrom x) = true := by kernel_rfl
theorem j22 : (Rows.topCasRow.plainKeys == Tryz.prog.plainKeys) = true := by kernel_rfl
theorem j23 : (Rows.topCasRow.shortTexts.isNone) = true := by kernel_rfl
theorem j24 : (Tryz.prog.stopsHeard) = true := by kernel_rfl
theorem j25 : (Tryz.prog.mayEnter) = true := by kernel_rfl
theorem j26 : (Rows.topCasRow.lifted == Tryz.prog.liftsFinal) = true := by kernel_rfl
theorem j27 : (Tryz.prog.make == some Rows.topCasRow.make) = true := by kernel_rfl
theorem j28 : (Rows.topCasRow.kinds == if Rows.topCasRow.domain.isEmpty = true then [] else List.map (fun t => match Tryz.prog.underlying t with | some (TypeDesc.int k) => some k | x => Option.none) Tryz.f7.params.toList) = true := by kernel_rfl
theorem j29 : (Rows.topCasRow.pinned == Rows.topCasRow.pinnedBy) = true := by kernel_rfl
theorem j30 : (Rows.topCasRow.veiled == (Tryz.f7.params.toList ++ DataSpec.varTypes Tryz.prog (OpenSpec.ofChange Rows.topCasSpec).bare.plain ++ Tryz.f7.resultTypes.toList).any fun x => Tryz.prog.veiledRec x) = true := by kernel_rfl
theorem j31 : (Rows.topCasRow.veiledFits Tryz.prog Tryz.f7.params.toList (Tryz.f7.params.toList ++ DataSpec.varTypes Tryz.prog (OpenSpec.ofChange Rows.topCasSpec).bare.plain ++ Tryz.f7.resultTypes.toList)) = true := by kernel_rfl
theorem and_t {a b : Bool} (h : a = true) (k : b = true) : (a && b) = true := by rw [h, k]; rfl
theorem joined : joinedFacts Tryz.prog 7 Tryz.f7 (OpenSpec.ofChange Rows.topCasSpec).bare Rows.topCasRow = true := by
  unfold joinedFacts
  exact and_t (and_t (and_t (and_t (and_t (and_t (and_t (and_t (and_t (and_t (and_t (and_t (and_t (and_t (and_t (and_t (and_t (and_t (and_t (and_t (and_t (and_t (and_t (and_t (and_t (and_t (and_t (and_t (and_t (and_t (and_t j0 j1) j2) j3) j4) j5) j6) j7) j8) j9) j10) j11) j12) j13) j14) j15) j16) j17) j18) j19) j20) j21) j22) j23) j24) j25) j26) j27) j28) j29) j30) j31
theorem jl : Tryz.prog.looks [] = true := by kernel_rfl
theorem jg : Rows.topCasRow.goesBy Tryz.prog = false := by kernel_rfl
theorem jm : Tryz.prog.mainIs = some (true, "76e368309952e11987902442375a5b615712ea0cd0d715de066c188f05b1e019".toList) := by kernel_rfl
theorem jw : OpenClaim.wfByText (OpenSpec.ofChange Rows.topCasSpec) Rows.topCasRow = true := by kernel_rfl
theorem jn : Tryz.prog.funcNamed "ambry/ambrytop.TopCas" = some 7 := by kernel_rfl
theorem js39 : Tryz.prog.wantsStandIn 39 = false := by kernel_rfl
end Go.Proofs.YtboehbfagnocpaaGreatDoor.lawTopCas
