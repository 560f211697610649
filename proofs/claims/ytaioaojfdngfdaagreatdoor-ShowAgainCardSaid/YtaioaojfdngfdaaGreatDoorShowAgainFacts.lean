/- What the closed facts of the row ShowAgain come to. Conditions: none. -/
import Derived.Test.YtaioaojfdngfdaaGreatDoorNb46
import Derived.JoinedOf
namespace Go.Proofs.YtaioaojfdngfdaaGreatDoor.showAgain
open Go.ChangeShapes Go.WideShapes Go.ChangeAt Go.RowKit
theorem facts : joinedFacts Tryz.prog 11 Tryz.f11 Rows.showAgainSpec Rows.showAgainRow = true := by kernel_rfl
end Go.Proofs.YtaioaojfdngfdaaGreatDoor.showAgain
