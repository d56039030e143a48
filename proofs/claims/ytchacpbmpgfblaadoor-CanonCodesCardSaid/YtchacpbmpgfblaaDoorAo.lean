/- Alike of the fixed examples: evaluations of the machine. -/
import Derived.Test.YtchacpbmpgfblaaDoorAk
set_option linter.unusedSimpArgs false
set_option linter.unusedVariables false
set_option linter.unusedSectionVars false
set_option maxRecDepth 100000
namespace Go.Mx.Tryd
open Go.Proofs
theorem alike_1 : callM G 3000 23 [.m (.sl (cells3 pCol)), .m (.sl (cells3 pRow)), .m (.sl (celI [1]))] [] = some (.m (.b true), []) := by kernel_rfl
end Go.Mx.Tryd
