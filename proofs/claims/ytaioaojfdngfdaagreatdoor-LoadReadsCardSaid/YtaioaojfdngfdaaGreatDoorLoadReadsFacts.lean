/- What the closed facts of the row LoadReads come to. Conditions: none. -/
import Derived.Test.YtaioaojfdngfdaaGreatDoorRows
import Derived.Test.YtaioaojfdngfdaaGreatDoorPl01
import Derived.ProofKit
import Derived.JoinedOf
namespace Go.Proofs.YtaioaojfdngfdaaGreatDoor.loadReads
open Go.ChangeShapes Go.WideShapes Go.ChangeAt Go.RowKit
theorem facts : joinedFacts Tryz.prog 8 Tryz.f8 Rows.loadReadsSpec Rows.loadReadsRow = true := by kernel_rfl
end Go.Proofs.YtaioaojfdngfdaaGreatDoor.loadReads
