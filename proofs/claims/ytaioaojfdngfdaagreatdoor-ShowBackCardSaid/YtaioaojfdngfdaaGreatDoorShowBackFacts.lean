/- What the closed facts of the row ShowBack come to. Conditions: none. -/
import Derived.Test.YtaioaojfdngfdaaGreatDoorNb46
import Derived.JoinedOf
namespace Go.Proofs.YtaioaojfdngfdaaGreatDoor.showBack
open Go.ChangeShapes Go.WideShapes Go.ChangeAt Go.RowKit
theorem facts : joinedFacts Tryz.prog 10 Tryz.f10 Rows.showBackSpec Rows.showBackRow = true := by kernel_rfl
end Go.Proofs.YtaioaojfdngfdaaGreatDoor.showBack
