/- Births and deaths: the plain law. -/
import Derived.Test.YtjkepihkilnjiaaGreatDoorOf
import Derived.Test.YtjkepihkilnjiaaGreatDoorTd
set_option linter.unusedSimpArgs false
set_option linter.unusedVariables false
set_option linter.unusedSectionVars false
set_option maxRecDepth 100000
namespace Go.Mx.Tryz
open Go.Lib

end Go.Mx.Tryz
