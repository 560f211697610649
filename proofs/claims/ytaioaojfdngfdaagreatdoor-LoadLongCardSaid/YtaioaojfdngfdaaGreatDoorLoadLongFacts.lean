/- What the closed facts of the row LoadLong come to. Conditions: none. -/
import Derived.Test.YtaioaojfdngfdaaGreatDoorNb47
import Derived.JoinedOf
namespace Go.Proofs.YtaioaojfdngfdaaGreatDoor.loadLong
open Go.ChangeShapes Go.WideShapes Go.ChangeAt Go.RowKit
theorem facts : joinedFacts Tryz.prog 7 Tryz.f7 Rows.loadLongSpec Rows.loadLongRow = true := by kernel_rfl
end Go.Proofs.YtaioaojfdngfdaaGreatDoor.loadLong
