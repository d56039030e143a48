/- strconv.Itoa. -/
import Derived.Test.YtlhjjcaifenlbaaGreatDoorIto
import Derived.Test.YtlhjjcaifenlbaaGreatDoorDec
set_option linter.unusedSimpArgs false
set_option linter.unusedVariables false
set_option linter.unusedSectionVars false
set_option maxRecDepth 100000
namespace Go.Mx.Tryz
open Go.Lib
theorem AfT (M:Mem)(x:V):readX M .b2s [x]=(elems M.H x).bind fun es=>(Ft es).bind fun l=>some (.m (.s l)):=rfl
end Go.Mx.Tryz
