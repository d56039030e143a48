/- Apply of the symmetries, of the program and of the reference. -/
import Derived.Test.YtgljapjkjbmicaaGreatDoorSeav
import Derived.KernelRfl
set_option linter.unusedSimpArgs false
set_option linter.unusedVariables false
set_option linter.unusedSectionVars false
set_option maxRecDepth 100000
namespace Go.Mx.Tryz
open Go.Proofs
end Go.Mx.Tryz
