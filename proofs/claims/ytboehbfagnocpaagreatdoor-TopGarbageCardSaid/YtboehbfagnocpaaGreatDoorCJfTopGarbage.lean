/-
  The closed facts of the row of TopGarbage, each one by itself (a program of mine, wip/jf.py, wrote this text).
-/
import Derived.Test.YtboehbfagnocpaaGreatDoorCards
import Derived.Test.YtboehbfagnocpaaGreatDoorTie
import Derived.ProofKit
import Derived.SevenTiedAt
namespace Go.Proofs.YtboehbfagnocpaaGreatDoor.lawTopGarbage
open Go.ChangeShapes Go.WideShapes Go.ChangeAt Go.RowKit
set_option linter.unusedVariables false
set_option maxRecDepth 100000
theorem j0:(OpenClaim.wf (OpenSpec.ofChange (OpenSpec.ofChange Rows.topGarbageSpec).bare) Rows.topGarbageRow)=true:=by kernel_rfl
theorem j1:(laidOutB Tryz.prog)=true:=by kernel_rfl
theorem j2:(mapsRowed Tryz.prog)=true:=by kernel_rfl
theorem j3:(Tryz.f3.params.all λx=>Tryz.prog.readableRec x)=true:=by kernel_rfl
theorem j4:(namedTie Tryz.prog Rows.topGarbageRow.named (OpenSpec.ofChange Rows.topGarbageSpec).bare.vars)=true:=by kernel_rfl
theorem j5:(Rows.topGarbageRow.stops == [])=true:=by kernel_rfl
theorem j6:(Tryz.prog.stops == [])=true:=by kernel_rfl
theorem j7:(Rows.topGarbageRow.knobs == [])=true:=by kernel_rfl
theorem j8:(Tryz.prog.stopKnobs == [])=true:=by kernel_rfl
theorem j9:(Rows.topGarbageRow.inPlace == Tryz.prog.inPlace 3)=true:=by kernel_rfl
theorem j10:(Rows.topGarbageRow.unfollowed == Tryz.prog.unfollowed 3)=true:=by kernel_rfl
theorem j11:(Rows.topGarbageRow.recurses == Tryz.prog.recurses 3)=true:=by kernel_rfl
theorem j12:(Rows.topGarbageRow.named == Tryz.prog.varsNamed 3)=true:=by kernel_rfl
theorem j13:(Rows.topGarbageRow.maps == (Tryz.f3.params.toList ++ DataSpec.varTypes Tryz.prog (OpenSpec.ofChange Rows.topGarbageSpec).bare.plain).any λx=>Tryz.prog.mapsRec x)=true:=by kernel_rfl
theorem j14:(Rows.topGarbageRow.ifaces == (Tryz.f3.params.toList ++ DataSpec.varTypes Tryz.prog (OpenSpec.ofChange Rows.topGarbageSpec).bare.plain).any λx=>Tryz.prog.ifacesRec x)=true:=by kernel_rfl
theorem j15:(Rows.topGarbageRow.mapsOut == Tryz.prog.mapsAmong Tryz.f3.resultTypes.toList)=true:=by kernel_rfl
theorem j16:(Rows.topGarbageRow.loops == (Tryz.f3.params.toList ++ DataSpec.varTypes Tryz.prog (OpenSpec.ofChange Rows.topGarbageSpec).bare.plain).any λx=>Tryz.prog.loopsFrom x)=true:=by kernel_rfl
theorem j17:(Rows.topGarbageRow.wideKeys == (Tryz.f3.params.toList ++ DataSpec.varTypes Tryz.prog (OpenSpec.ofChange Rows.topGarbageSpec).bare.plain ++ Tryz.f3.resultTypes.toList).any λx=>Tryz.prog.wideKeysFrom x)=true:=by kernel_rfl
theorem j18:((OpenSpec.ofChange Rows.topGarbageSpec).bare.vars.all λx=>Tryz.prog.varReadable x)=true:=by kernel_rfl
theorem j19:(Tryz.f3.resultTypes.all λt=>Tryz.prog.readableRec t && decide (t<Tryz.prog.types.size))=true:=by kernel_rfl
theorem j20:(Rows.topGarbageRow.ifacesOut == Tryz.f3.resultTypes.toList.any λx=>Tryz.prog.ifacesRec x)=true:=by kernel_rfl
theorem j21:(Rows.topGarbageRow.loopsOut == Tryz.f3.resultTypes.toList.any λx=>Tryz.prog.loopsFrom x)=true:=by kernel_rfl
theorem j22:(Rows.topGarbageRow.plainKeys == Tryz.prog.plainKeys)=true:=by kernel_rfl
theorem j23:(Rows.topGarbageRow.shortTexts.isNone)=true:=by kernel_rfl
theorem j24:(Tryz.prog.stopsHeard)=true:=by kernel_rfl
theorem j25:(Tryz.prog.mayEnter)=true:=by kernel_rfl
theorem j26:(Rows.topGarbageRow.lifted == Tryz.prog.liftsFinal)=true:=by kernel_rfl
theorem j27:(Tryz.prog.make == some Rows.topGarbageRow.make)=true:=by kernel_rfl
theorem j28:(Rows.topGarbageRow.kinds == if Rows.topGarbageRow.domain.isEmpty=true then [] else List.map (λt=>match Tryz.prog.underlying t with|some (TypeDesc.int k)=>some k|x=>Option.none) Tryz.f3.params.toList)=true:=by kernel_rfl
theorem j29:(Rows.topGarbageRow.pinned == Rows.topGarbageRow.pinnedBy)=true:=by kernel_rfl
theorem j30:(Rows.topGarbageRow.veiled == (Tryz.f3.params.toList ++ DataSpec.varTypes Tryz.prog (OpenSpec.ofChange Rows.topGarbageSpec).bare.plain ++ Tryz.f3.resultTypes.toList).any λx=>Tryz.prog.veiledRec x)=true:=by kernel_rfl
theorem j31:(Rows.topGarbageRow.veiledFits Tryz.prog Tryz.f3.params.toList (Tryz.f3.params.toList ++ DataSpec.varTypes Tryz.prog (OpenSpec.ofChange Rows.topGarbageSpec).bare.plain ++ Tryz.f3.resultTypes.toList))=true:=by kernel_rfl
theorem and_t{a b:Bool}(h:a=true)(k:b=true):(a && b)=true:=by rw[h,k];rfl
theorem joined:joinedFacts Tryz.prog 3 Tryz.f3 (OpenSpec.ofChange Rows.topGarbageSpec).bare Rows.topGarbageRow=true:=by
 unfold joinedFacts;exact and_t (and_t (and_t (and_t (and_t (and_t (and_t (and_t (and_t (and_t (and_t (and_t (and_t (and_t (and_t (and_t (and_t (and_t (and_t (and_t (and_t (and_t (and_t (and_t (and_t (and_t (and_t (and_t (and_t (and_t (and_t j0 j1) j2) j3) j4) j5) j6) j7) j8) j9) j10) j11) j12) j13) j14) j15) j16) j17) j18) j19) j20) j21) j22) j23) j24) j25) j26) j27) j28) j29) j30) j31
theorem jl:Tryz.prog.looks []=true:=by kernel_rfl
theorem jg:Rows.topGarbageRow.goesBy Tryz.prog=false:=by kernel_rfl
theorem jm:Tryz.prog.mainIs=some (true, "76e368309952e11987902442375a5b615712ea0cd0d715de066c188f05b1e019".toList):=by kernel_rfl
theorem jw:OpenClaim.wfByText (OpenSpec.ofChange Rows.topGarbageSpec) Rows.topGarbageRow=true:=by kernel_rfl
theorem jn:Tryz.prog.funcNamed "ambry/ambrytop.TopGarbage" =some 3:=by kernel_rfl
theorem js9:Tryz.prog.wantsStandIn 9=false:=by kernel_rfl
end Go.Proofs.YtboehbfagnocpaaGreatDoor.lawTopGarbage
