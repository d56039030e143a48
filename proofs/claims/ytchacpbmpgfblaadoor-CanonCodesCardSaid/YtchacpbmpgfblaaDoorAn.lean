/- Alike of the fixed examples: evaluations of the machine. -/
import Derived.Test.YtchacpbmpgfblaaDoorAk
set_option linter.unusedSimpArgs false
set_option linter.unusedVariables false
set_option linter.unusedSectionVars false
set_option maxRecDepth 100000
namespace Go.Mx.Tryd
open Go.Proofs
theorem alike_2 : callM G 3000 23 [.m (.sl (cells3 pCol)), .m (.sl (cells3 pRow)), .m (.nl 4)] [] = some (.m (.b false), []) := by kernel_rfl
theorem same_1 : callM G 3000 13 [.m (.sl (cells3 pRow)), .m (.sl (cells3 pRow))] [] = some (.m (.b true), []) := by kernel_rfl
theorem same_2 : callM G 3000 13 [.m (.sl (cells3 pBlock)), .m (.sl (cells3 pBlock))] [] = some (.m (.b true), []) := by kernel_rfl
theorem ints_1 : callM G 3000 21 [.m (.sl (celI [0])), .m (.sl (celI [0]))] [] = some (.m (.b true), []) := by kernel_rfl
theorem ints_2 : callM G 3000 21 [.m (.sl (celI [0, 2, 4, 6])), .m (.sl (celI [0, 2, 4, 6]))] [] = some (.m (.b true), []) := by kernel_rfl
end Go.Mx.Tryd
