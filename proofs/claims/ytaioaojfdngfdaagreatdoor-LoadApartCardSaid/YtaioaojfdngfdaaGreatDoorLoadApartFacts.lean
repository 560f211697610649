/- What the closed facts of the row LoadApart come to. Conditions: none. -/
import Derived.Test.YtaioaojfdngfdaaGreatDoorNb47
import Derived.JoinedOf
namespace Go.Proofs.YtaioaojfdngfdaaGreatDoor.loadApart
open Go.ChangeShapes Go.WideShapes Go.ChangeAt Go.RowKit
theorem facts : joinedFacts Tryz.prog 6 Tryz.f6 Rows.loadApartSpec Rows.loadApartRow = true := by kernel_rfl
end Go.Proofs.YtaioaojfdngfdaaGreatDoor.loadApart
