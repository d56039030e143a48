/- Arguments of the laws of chapter 33. -/
import Derived.Test.YtchacpbmpgfblaaDoorCp
import Derived.Test.YtchacpbmpgfblaaDoorArg
set_option linter.unusedSimpArgs false
set_option linter.unusedVariables false
set_option linter.unusedSectionVars false
set_option maxRecDepth 100000
namespace Go.Mx.Tryd
open Go.Sort Go.Lib Go.Proofs

theorem few_l {v : I} {p : List Ce} (hv : IsSl v (cells3 p)) (H : Hp) : Gives G 7 [.m v] H (.m (.b (decide ((p.length : Int) ≤ 300)))) H := by
 have hr := hv.rules
 simp only [show (cells3 p).length = p.length from by simp [cells3]] at hr
 refine gives_pur rfl rfl rfl rfl rfl ?_
 simp (maxSteps := 2000000) (disch := omega) [gd_in, gd_and, wr_i64, hr]
end Go.Mx.Tryd
