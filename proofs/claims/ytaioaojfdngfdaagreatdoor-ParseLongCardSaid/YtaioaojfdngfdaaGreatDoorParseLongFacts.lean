/- What the closed facts of the row ParseLong come to. Conditions: none. -/
import Derived.Test.YtaioaojfdngfdaaGreatDoorPb48
import Derived.JoinedOf
namespace Go.Proofs.YtaioaojfdngfdaaGreatDoor.parseLong
open Go.ChangeShapes Go.WideShapes Go.ChangeAt Go.RowKit
theorem facts : joinedFacts Tryz.prog 5 Tryz.f5 Rows.parseLongSpec Rows.parseLongRow = true := by kernel_rfl
end Go.Proofs.YtaioaojfdngfdaaGreatDoor.parseLong
