/- a world in which the listed variables lie: what the witnesses of this seat's cards want. -/
import Derived.Test.YtboehbfagnocpaaGreatDoorRows
import Derived.Lay
import Derived.ProofKit
import Derived.OpenShut
import Derived.Deep.DeepHandedRow
namespace Go.Proofs.YtboehbfagnocpaaGreatDoor
open Go.ChangeShapes Go.WideShapes Go.ChangeAt Go.RowKit

noncomputable def laidWorld (os:Os):World:=World.laidAll Tryz.prog os Rows.topCasRow.laid
theorem laidWorld_os(os:Os):(laidWorld os).os=os:=World.laidAll_os _ _ _
set_option maxRecDepth 100000 in
theorem laid_met(os:Os)(args:Array Value):laidMet Tryz.prog Rows.topCasRow.laid ((laidWorld os).forCall (λ_ _=>0) ⟨#[],args,[]⟩).memory:=
 laidMet_laidAll args (by kernel_rfl) (by kernel_rfl)
end Go.Proofs.YtboehbfagnocpaaGreatDoor
