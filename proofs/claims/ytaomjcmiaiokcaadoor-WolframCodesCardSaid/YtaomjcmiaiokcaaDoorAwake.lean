/- The fixed examples of the chapter: one evaluation of the machine. -/
import Derived.Test.YtaomjcmiaiokcaaDoorCfg
namespace Go.Mx.Tryd
open Go.Proofs
theorem awake_ok : callM G 100000 12 [] [] = some (.m (.b true), []) := by kernel_rfl
end Go.Mx.Tryd
