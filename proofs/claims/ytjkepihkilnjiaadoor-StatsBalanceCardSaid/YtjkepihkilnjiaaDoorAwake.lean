/- The fixed examples of the chapter: one evaluation of the machine. -/
import Derived.Test.YtjkepihkilnjiaaDoorWa
import Derived.Test.YtjkepihkilnjiaaDoorCfg
set_option linter.unusedSimpArgs false
set_option linter.unusedVariables false
set_option linter.unusedSectionVars false
namespace Go.Mx.Tryd
open Go.Proofs
theorem awake_ok : callM G 100000 8 [] [] = some (.m (.b true), []) := by kernel_rfl
theorem gives_awake : Gives G 8 [] [] (.m (.b true)) [] := ⟨_, awake_ok⟩
end Go.Mx.Tryd
