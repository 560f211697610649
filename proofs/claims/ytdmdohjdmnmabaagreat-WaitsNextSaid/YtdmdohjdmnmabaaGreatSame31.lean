/- same of layer 31: two lives that read the same. Conditions: those of each theorem. -/
import Derived.Test.YtdmdohjdmnmabaaGreatLives31
namespace Go.Proofs.YtdmdohjdmnmabaaGreat
open Go.RowKit
set_option linter.unusedVariables false

end Go.Proofs.YtdmdohjdmnmabaaGreat
