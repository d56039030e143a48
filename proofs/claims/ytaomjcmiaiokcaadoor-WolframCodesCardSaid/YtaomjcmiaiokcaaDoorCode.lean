/- The functions of this seat by their numbers; which run in shared memory; the package variables that are read. -/
import Derived.Test.YtaomjcmiaiokcaaDoorCode0
import Derived.Test.YtaomjcmiaiokcaaDoorCode1
set_option maxRecDepth 100000
namespace Go.Mx.Tryd

def sh (n : Nat) : Bool := match Nat.beq n 44 with | true => true | false => match Nat.beq n 45 with | true => true | false => match Nat.beq n 51 with | true => true | false => match Nat.beq n 60 with | true => true | false => false

def gl (n : Nat) : Option (List I) := match Nat.beq n 5 with | true => some g5 | false => match Nat.beq n 6 with | true => some g6 | false => match Nat.beq n 7 with | true => some g7 | false => none

def tbl : T := (.nd 45 (.nd 23 (.nd 12 (.nd 7 (.nd 4 (.nd 3 (.lf 2 c2) (.lf 3 c3)) (.nd 5 (.lf 4 c4) (.nd 6 (.lf 5 c5) (.lf 6 c6)))) (.nd 9 (.nd 8 (.lf 7 c7) (.lf 8 c8)) (.nd 10 (.lf 9 c9) (.nd 11 (.lf 10 c10) (.lf 11 c11))))) (.nd 17 (.nd 14 (.nd 13 (.lf 12 c12) (.lf 13 c13)) (.nd 15 (.lf 14 c14) (.nd 16 (.lf 15 c15) (.lf 16 c16)))) (.nd 20 (.nd 18 (.lf 17 c17) (.nd 19 (.lf 18 c18) (.lf 19 c19))) (.nd 21 (.lf 20 c20) (.nd 22 (.lf 21 c21) (.lf 22 c22)))))) (.nd 34 (.nd 28 (.nd 25 (.nd 24 (.lf 23 c23) (.lf 24 c24)) (.nd 26 (.lf 25 c25) (.nd 27 (.lf 26 c26) (.lf 27 c27)))) (.nd 31 (.nd 29 (.lf 28 c28) (.nd 30 (.lf 29 c29) (.lf 30 c30))) (.nd 32 (.lf 31 c31) (.nd 33 (.lf 32 c32) (.lf 33 c33))))) (.nd 39 (.nd 36 (.nd 35 (.lf 34 c34) (.lf 35 c35)) (.nd 37 (.lf 36 c36) (.nd 38 (.lf 37 c37) (.lf 38 c38)))) (.nd 42 (.nd 40 (.lf 39 c39) (.nd 41 (.lf 40 c40) (.lf 41 c41))) (.nd 43 (.lf 42 c42) (.nd 44 (.lf 43 c43) (.lf 44 c44))))))) (.nd 68 (.nd 55 (.nd 50 (.nd 47 (.nd 46 (.lf 45 c45) (.lf 46 c46)) (.nd 48 (.lf 47 c47) (.nd 49 (.lf 48 c48) (.lf 49 c49)))) (.nd 52 (.nd 51 (.lf 50 c50) (.lf 51 c51)) (.nd 53 (.lf 52 c52) (.nd 54 (.lf 53 c53) (.lf 54 c54))))) (.nd 62 (.nd 57 (.nd 56 (.lf 55 c55) (.lf 56 c56)) (.nd 58 (.lf 57 c57) (.nd 59 (.lf 58 c58) (.lf 59 c59)))) (.nd 65 (.nd 63 (.lf 62 c62) (.nd 64 (.lf 63 c63) (.lf 64 c64))) (.nd 66 (.lf 65 c65) (.nd 67 (.lf 66 c66) (.lf 67 c67)))))) (.nd 80 (.nd 74 (.nd 70 (.nd 69 (.lf 68 c68) (.lf 69 c69)) (.nd 72 (.lf 70 c70) (.nd 73 (.lf 72 c72) (.lf 73 c73)))) (.nd 77 (.nd 75 (.lf 74 c74) (.nd 76 (.lf 75 c75) (.lf 76 c76))) (.nd 78 (.lf 77 c77) (.nd 79 (.lf 78 c78) (.lf 79 c79))))) (.nd 85 (.nd 82 (.nd 81 (.lf 80 c80) (.lf 81 c81)) (.nd 83 (.lf 82 c82) (.nd 84 (.lf 83 c83) (.lf 84 c84)))) (.nd 88 (.nd 86 (.lf 85 c85) (.nd 87 (.lf 86 c86) (.lf 87 c87))) (.nd 89 (.lf 88 c88) (.nd 119 (.lf 89 c89) (.lf 119 c119))))))))

end Go.Mx.Tryd
