/- Forms of the fixed examples: evaluations of the machine. -/
import Derived.Test.YtchacpbmpgfblaaDoorAk
set_option linter.unusedSimpArgs false
set_option linter.unusedVariables false
set_option linter.unusedSectionVars false
set_option maxRecDepth 100000
namespace Go.Mx.Tryd
open Go.Proofs
theorem form_1 : callM G 3000 14 [.m (.sl (cells3 pCol)), .m (.sl (celI [1, 4]))] [] = some (.tu [.m (.sl (cells3 pRow)), .m (.i .i64 0)], []) := by kernel_rfl
end Go.Mx.Tryd
