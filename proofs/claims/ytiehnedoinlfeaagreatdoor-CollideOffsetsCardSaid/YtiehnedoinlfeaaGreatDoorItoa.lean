/- strconv.Itoa. -/
import Derived.Test.YtiehnedoinlfeaaGreatDoorIto
import Derived.Test.YtiehnedoinlfeaaGreatDoorDec
set_option linter.unusedSimpArgs false
set_option linter.unusedVariables false
set_option linter.unusedSectionVars false
set_option maxRecDepth 100000
namespace Go.Mx.Tryz
open Go.Lib
theorem Aga (M:Mem)(x:V):readX M .b2s [x]=(elems M.H x).bind fun es=>(Fw es).bind fun l=>some (.m (.s l)):=rfl
end Go.Mx.Tryz
