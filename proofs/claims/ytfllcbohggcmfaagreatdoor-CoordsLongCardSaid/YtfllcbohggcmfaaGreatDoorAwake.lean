/- The fixed examples of the chapter: one evaluation of the machine. -/
import Derived.Test.YtfllcbohggcmfaaGreatDoorWa
import Derived.Test.YtfllcbohggcmfaaGreatDoorCfg
set_option linter.unusedSimpArgs false
set_option linter.unusedVariables false
set_option linter.unusedSectionVars false
namespace Go.Mx.Tryz
open Go.Proofs
theorem awake_ok : callM G 100000 9 [] [] = some (.m (.b true), []) := by kernel_rfl
theorem gives_awake : Gives G 9 [] [] (.m (.b true)) [] := ⟨_, awake_ok⟩
end Go.Mx.Tryz
