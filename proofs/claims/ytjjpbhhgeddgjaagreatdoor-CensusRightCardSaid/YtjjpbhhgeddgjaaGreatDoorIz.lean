/- CensusRight at every argument. -/
import Derived.Test.YtjjpbhhgeddgjaaGreatDoorIj
import Derived.Test.YtjjpbhhgeddgjaaGreatDoorIc
set_option linter.unusedSimpArgs false
set_option linter.unusedVariables false
set_option linter.unusedSectionVars false
namespace Go.Mx.Tryz
open Go.Lib Go.Proofs
theorem RH (us : List V) (h : Dz Go.Proofs.Tryz.prog maxLen 8 Go.Proofs.Tryz.f4.params.toList us) : Gives G 4 us [] (.m (.b true)) []:=KA Rv us h
end Go.Mx.Tryz
