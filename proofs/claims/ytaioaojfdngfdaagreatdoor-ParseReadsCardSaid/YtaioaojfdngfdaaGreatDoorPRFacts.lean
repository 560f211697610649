/- facts -/
import Derived.Test.YtaioaojfdngfdaaGreatDoorPb48
import Derived.JoinedOf
namespace Go.Proofs.YtaioaojfdngfdaaGreatDoor.parseReads
open Go.ChangeShapes Go.WideShapes Go.ChangeAt Go.RowKit
theorem facts : joinedFacts Tryz.prog 3 Tryz.f3 Rows.parseReadsSpec Rows.parseReadsRow = true := by kernel_rfl
end Go.Proofs.YtaioaojfdngfdaaGreatDoor.parseReads
