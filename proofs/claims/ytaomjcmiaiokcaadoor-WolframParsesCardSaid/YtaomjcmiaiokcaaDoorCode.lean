/- The functions of this seat by their numbers; which run in shared memory; the package variables that are read. -/
import Derived.Test.YtaomjcmiaiokcaaDoorCode0
set_option maxRecDepth 100000
namespace Go.Mx.Tryd

def tbl : T := (.nd 33 (.nd 21 (.nd 14 (.nd 11 (.nd 9 (.lf 6 c6) (.lf 9 c9)) (.nd 12 (.lf 11 c11) (.lf 12 c12))) (.nd 18 (.nd 15 (.lf 14 c14) (.lf 15 c15)) (.nd 19 (.lf 18 c18) (.nd 20 (.lf 19 c19) (.lf 20 c20))))) (.nd 28 (.nd 25 (.nd 22 (.lf 21 c21) (.lf 22 c22)) (.nd 26 (.lf 25 c25) (.lf 26 c26))) (.nd 30 (.nd 29 (.lf 28 c28) (.lf 29 c29)) (.nd 31 (.lf 30 c30) (.nd 32 (.lf 31 c31) (.lf 32 c32)))))) (.nd 44 (.nd 39 (.nd 36 (.nd 35 (.lf 33 c33) (.lf 35 c35)) (.nd 37 (.lf 36 c36) (.lf 37 c37))) (.nd 41 (.nd 40 (.lf 39 c39) (.lf 40 c40)) (.nd 42 (.lf 41 c41) (.nd 43 (.lf 42 c42) (.lf 43 c43))))) (.nd 50 (.nd 46 (.nd 45 (.lf 44 c44) (.lf 45 c45)) (.nd 47 (.lf 46 c46) (.lf 47 c47))) (.nd 53 (.nd 51 (.lf 50 c50) (.lf 51 c51)) (.nd 65 (.lf 53 c53) (.nd 73 (.lf 65 c65) (.lf 73 c73)))))))

end Go.Mx.Tryd
