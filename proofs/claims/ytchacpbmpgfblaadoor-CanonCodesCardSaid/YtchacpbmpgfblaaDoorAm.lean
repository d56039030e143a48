/- Symmetries of the fixed examples: evaluations of the machine. -/
import Derived.Test.YtchacpbmpgfblaaDoorAk
set_option linter.unusedSimpArgs false
set_option linter.unusedVariables false
set_option linter.unusedSectionVars false
set_option maxRecDepth 100000
namespace Go.Mx.Tryd
open Go.Proofs
def pGlide : List Ce := [⟨1, 0, 1⟩, ⟨2, 1, 1⟩, ⟨0, 2, 1⟩, ⟨1, 2, 1⟩, ⟨2, 2, 1⟩]
theorem syms_3 : callM G 3000 19 [.m (.nl 4)] [] = some (.m (.sl (celI [0, 1, 2, 3, 4, 5, 6, 7])), []) := by kernel_rfl
theorem syms_1 : callM G 3000 19 [.m (.sl (cells3 pGlide))] [] = some (.m (.sl (celI [0])), []) := by kernel_rfl
theorem syms_2 : callM G 3000 19 [.m (.sl (cells3 [⟨0, 0, 1⟩, ⟨1, 0, 1⟩]))] [] = some (.m (.sl (celI [0, 2, 4, 6])), []) := by kernel_rfl
end Go.Mx.Tryd
