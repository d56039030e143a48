/- The seat's machine, for walks. -/
import Derived.Test.YtiehnedoinlfeaaGreatDoorWa
import Derived.Test.YtiehnedoinlfeaaGreatDoorCfg
set_option linter.unusedSimpArgs false
set_option linter.unusedVariables false
set_option linter.unusedSectionVars false
namespace Go.Mx.Tryz
@[simp] theorem w_seq (a b:C)(s:St)(k:K):Run G (.seq a b) s k=Run G a s (.seq b k):=WS mono a b s k
theorem Aq (u:List Nat)(c:C)(s:St)(k:K):Run G (.loop u c) s k=Run G c { s with E:=Aw u s.E } (.seq (.loop u c) k):=Td mono u c s k
end Go.Mx.Tryz
