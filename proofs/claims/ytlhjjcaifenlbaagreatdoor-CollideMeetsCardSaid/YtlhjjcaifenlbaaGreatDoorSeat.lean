/- The seat's machine, for walks. -/
import Derived.Test.YtlhjjcaifenlbaaGreatDoorWa
import Derived.Test.YtlhjjcaifenlbaaGreatDoorCfg
set_option linter.unusedSimpArgs false
set_option linter.unusedVariables false
set_option linter.unusedSectionVars false
namespace Go.Mx.Tryz
@[simp] theorem w_seq (a b:C)(s:St)(k:K):Run G (.seq a b) s k=Run G a s (.seq b k):=WW mono a b s k
theorem Ar (u:List Nat)(c:C)(s:St)(k:K):Run G (.loop u c) s k=Run G c { s with E:=Av u s.E } (.seq (.loop u c) k):=Tc mono u c s k
end Go.Mx.Tryz
