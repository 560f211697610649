/- same of layer 31: two lives that read the same. Conditions: those of each theorem. -/
import Derived.Test.YthnjebpbokmemaaDoorLives31
namespace Go.Proofs.YthnjebpbokmemaaDoor
open Go.RowKit
set_option linter.unusedVariables false

end Go.Proofs.YthnjebpbokmemaaDoor
