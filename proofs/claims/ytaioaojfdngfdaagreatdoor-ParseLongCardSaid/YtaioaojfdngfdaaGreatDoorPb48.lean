/- What the laws on parsing share, brought together. Conditions: none. -/
import Derived.Test.YtaioaojfdngfdaaGreatDoorPb05
import Derived.Test.YtaioaojfdngfdaaGreatDoorPb06
import Derived.Test.YtaioaojfdngfdaaGreatDoorPb44
import Derived.Test.YtaioaojfdngfdaaGreatDoorPb45
import Derived.Test.YtaioaojfdngfdaaGreatDoorPb47
import Derived.Test.YtaioaojfdngfdaaGreatDoorPb02
namespace Go.Proofs.YtaioaojfdngfdaaGreatDoor
end Go.Proofs.YtaioaojfdngfdaaGreatDoor
