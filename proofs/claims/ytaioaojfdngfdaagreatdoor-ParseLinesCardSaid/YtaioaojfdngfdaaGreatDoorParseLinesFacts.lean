/- What the closed facts of the row ParseLines come to. Conditions: none. -/
import Derived.Test.YtaioaojfdngfdaaGreatDoorPb48
import Derived.JoinedOf
namespace Go.Proofs.YtaioaojfdngfdaaGreatDoor.parseLines
open Go.ChangeShapes Go.WideShapes Go.ChangeAt Go.RowKit
theorem facts : joinedFacts Tryz.prog 4 Tryz.f4 Rows.parseLinesSpec Rows.parseLinesRow = true := by kernel_rfl
end Go.Proofs.YtaioaojfdngfdaaGreatDoor.parseLines
