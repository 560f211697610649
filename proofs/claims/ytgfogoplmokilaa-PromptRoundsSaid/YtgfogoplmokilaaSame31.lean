/- same of layer 31: two lives that read the same. Conditions: those of each theorem. -/
import Derived.Test.YtgfogoplmokilaaLives31
namespace Go.Proofs.Ytgfogoplmokilaa
open Go.RowKit
set_option linter.unusedVariables false

end Go.Proofs.Ytgfogoplmokilaa
