/- What the laws on texts of scripts share, brought together. Conditions: none. -/
import Derived.Test.YtaioaojfdngfdaaGreatDoorNb37
import Derived.Test.YtaioaojfdngfdaaGreatDoorNb40
import Derived.Test.YtaioaojfdngfdaaGreatDoorNb46
import Derived.Test.YtaioaojfdngfdaaGreatDoorNb23
namespace Go.Proofs.YtaioaojfdngfdaaGreatDoor
end Go.Proofs.YtaioaojfdngfdaaGreatDoor
