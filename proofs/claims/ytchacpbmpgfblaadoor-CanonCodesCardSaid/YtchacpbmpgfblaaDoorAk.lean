/- The codes of the fixed examples: evaluations of the machine. -/
import Derived.Test.YtchacpbmpgfblaaDoorPt
import Derived.KernelRfl
set_option linter.unusedSimpArgs false
set_option linter.unusedVariables false
set_option linter.unusedSectionVars false
set_option maxRecDepth 100000
namespace Go.Mx.Tryd
open Go.Proofs

def pBlock : List Ce := [⟨0, 0, 1⟩, ⟨1, 0, 1⟩, ⟨0, 1, 1⟩, ⟨1, 1, 1⟩]
def pCol : List Ce := [⟨0, 0, 1⟩, ⟨0, 1, 1⟩, ⟨0, 2, 1⟩]
def pRow : List Ce := [⟨0, 0, 1⟩, ⟨1, 0, 1⟩, ⟨2, 0, 1⟩]
def pThree : List Ce := [⟨5, 5, 1⟩, ⟨7, 5, 2⟩, ⟨5, 8, 1⟩]
theorem code_1 : callM G 3000 9 [.m (.sl (cells3 pBlock))] [] = some (.tu [.m (.s [50, 65, 36, 50, 65]), .m (.i .i64 0)], []) := by kernel_rfl
theorem code_2 : callM G 3000 9 [.m (.sl (cells3 pThree))] [] = some (.tu [.m (.s [65, 46, 66, 51, 36, 65]), .m (.i .i64 0)], []) := by kernel_rfl
theorem bad_1 : callM G 3000 22 [.m (.s [65, 65])] [] = some (.m (.b true), []) := by kernel_rfl
theorem bad_2 : callM G 3000 22 [.m (.s [49, 65])] [] = some (.m (.b true), []) := by kernel_rfl
theorem bad_3 : callM G 3000 22 [.m (.s [65, 46])] [] = some (.m (.b true), []) := by kernel_rfl
theorem bad_4 : callM G 3000 22 [.m (.s [65, 36])] [] = some (.m (.b true), []) := by kernel_rfl
theorem bad_5 : callM G 3000 22 [.m (.s [])] [] = some (.m (.b true), []) := by kernel_rfl
theorem dec_1 : callM G 3000 11 [.m (.s [50, 65, 36, 50, 65])] [] = some (.tu [.m (.sl (cells3 pBlock)), .m (.i .i64 0)], []) := by kernel_rfl
end Go.Mx.Tryd
