/- What the closed facts of the row LoadFaults come to. Conditions: none. -/
import Derived.Test.YtaioaojfdngfdaaGreatDoorPg51
import Derived.JoinedOf
namespace Go.Proofs.YtaioaojfdngfdaaGreatDoor.loadFaults
open Go.ChangeShapes Go.WideShapes Go.ChangeAt Go.RowKit
theorem facts : joinedFacts Tryz.prog 9 Tryz.f9 Rows.loadFaultsSpec Rows.loadFaultsRow = true := by kernel_rfl
end Go.Proofs.YtaioaojfdngfdaaGreatDoor.loadFaults
