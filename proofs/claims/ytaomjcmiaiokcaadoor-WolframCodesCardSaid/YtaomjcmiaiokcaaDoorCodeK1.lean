/- The compact code is what the checked translation makes of the loaded program: each by the kernel. -/
import Derived.Test.YtaomjcmiaiokcaaDoorCode
import Derived.Test.YtaomjcmiaiokcaaDoorSndT
import Derived.Test.YtaomjcmiaiokcaaDoorProg
import Derived.KernelRfl
set_option maxRecDepth 100000
namespace Go.Mx.Tryd
open Go.Proofs

def h64 : Hint := ⟨Nat.testBit 166153182560275531675699597790863360, Nat.testBit 512, fun _ => 0⟩
def d64 : Nat → List Nat := fun _ => []
theorem k64 : Good Tryd.prog gl sh (64, c64) := ⟨Tryd.f64, h64, d64, Tryd.func64, by kernel_rfl, by kernel_rfl⟩

def h65 : Hint := ⟨Nat.testBit 180496244344253943747536743237640285152904322572974292992, Nat.testBit 0, fun _ => 0⟩
def d65 : Nat → List Nat := fun n => match Nat.beq n 38 with | true => [4, 5, 6, 176, 177, 181] | false => []
theorem k65 : Good Tryd.prog gl sh (65, c65) := ⟨Tryd.f65, h65, d65, Tryd.func65, by kernel_rfl, by kernel_rfl⟩

def h66 : Hint := ⟨Nat.testBit 56, Nat.testBit 0, fun _ => 0⟩
def d66 : Nat → List Nat := fun _ => []
theorem k66 : Good Tryd.prog gl sh (66, c66) := ⟨Tryd.f66, h66, d66, Tryd.func66, by kernel_rfl, by kernel_rfl⟩

def h67 : Hint := ⟨Nat.testBit 5237291114413470221964124527562332389312007838629888, Nat.testBit 0, fun _ => 0⟩
def d67 : Nat → List Nat := fun n => match Nat.beq n 36 with | true => [6, 7, 15, 16, 17, 102, 106, 112, 121, 137, 141, 159] | false => []
theorem k67 : Good Tryd.prog gl sh (67, c67) := ⟨Tryd.f67, h67, d67, Tryd.func67, by kernel_rfl, by kernel_rfl⟩

def h68 : Hint := ⟨Nat.testBit 262064, Nat.testBit 0, fun _ => 0⟩
def d68 : Nat → List Nat := fun _ => []
theorem k68 : Good Tryd.prog gl sh (68, c68) := ⟨Tryd.f68, h68, d68, Tryd.func68, by kernel_rfl, by kernel_rfl⟩

def h69 : Hint := ⟨Nat.testBit 88, Nat.testBit 0, fun _ => 0⟩
def d69 : Nat → List Nat := fun _ => []
theorem k69 : Good Tryd.prog gl sh (69, c69) := ⟨Tryd.f69, h69, d69, Tryd.func69, by kernel_rfl, by kernel_rfl⟩

def h70 : Hint := ⟨Nat.testBit 24, Nat.testBit 0, fun _ => 0⟩
def d70 : Nat → List Nat := fun _ => []
theorem k70 : Good Tryd.prog gl sh (70, c70) := ⟨Tryd.f70, h70, d70, Tryd.func70, by kernel_rfl, by kernel_rfl⟩

def h72 : Hint := ⟨Nat.testBit 548648513024, Nat.testBit 0, fun _ => 0⟩
def d72 : Nat → List Nat := fun n => match Nat.beq n 3 with | true => [12] | false => match Nat.beq n 8 with | true => [25, 30] | false => []
theorem k72 : Good Tryd.prog gl sh (72, c72) := ⟨Tryd.f72, h72, d72, Tryd.func72, by kernel_rfl, by kernel_rfl⟩

def h73 : Hint := ⟨Nat.testBit 224, Nat.testBit 0, fun _ => 0⟩
def d73 : Nat → List Nat := fun _ => []
theorem k73 : Good Tryd.prog gl sh (73, c73) := ⟨Tryd.f73, h73, d73, Tryd.func73, by kernel_rfl, by kernel_rfl⟩

def h74 : Hint := ⟨Nat.testBit 130032, Nat.testBit 0, fun _ => 0⟩
def d74 : Nat → List Nat := fun _ => []
theorem k74 : Good Tryd.prog gl sh (74, c74) := ⟨Tryd.f74, h74, d74, Tryd.func74, by kernel_rfl, by kernel_rfl⟩

def h75 : Hint := ⟨Nat.testBit 24, Nat.testBit 0, fun _ => 0⟩
def d75 : Nat → List Nat := fun _ => []
theorem k75 : Good Tryd.prog gl sh (75, c75) := ⟨Tryd.f75, h75, d75, Tryd.func75, by kernel_rfl, by kernel_rfl⟩

def h76 : Hint := ⟨Nat.testBit 16547776618866959376124215232, Nat.testBit 0, fun _ => 0⟩
def d76 : Nat → List Nat := fun n => match Nat.beq n 10 with | true => [2, 54, 83, 87, 89, 91] | false => []
theorem k76 : Good Tryd.prog gl sh (76, c76) := ⟨Tryd.f76, h76, d76, Tryd.func76, by kernel_rfl, by kernel_rfl⟩

def h77 : Hint := ⟨Nat.testBit 24, Nat.testBit 0, fun _ => 0⟩
def d77 : Nat → List Nat := fun _ => []
theorem k77 : Good Tryd.prog gl sh (77, c77) := ⟨Tryd.f77, h77, d77, Tryd.func77, by kernel_rfl, by kernel_rfl⟩

def h78 : Hint := ⟨Nat.testBit 18014381321090304, Nat.testBit 0, fun _ => 0⟩
def d78 : Nat → List Nat := fun _ => []
theorem k78 : Good Tryd.prog gl sh (78, c78) := ⟨Tryd.f78, h78, d78, Tryd.func78, by kernel_rfl, by kernel_rfl⟩

def h79 : Hint := ⟨Nat.testBit 32744, Nat.testBit 0, fun _ => 0⟩
def d79 : Nat → List Nat := fun _ => []
theorem k79 : Good Tryd.prog gl sh (79, c79) := ⟨Tryd.f79, h79, d79, Tryd.func79, by kernel_rfl, by kernel_rfl⟩

def h80 : Hint := ⟨Nat.testBit 32752, Nat.testBit 0, fun _ => 0⟩
def d80 : Nat → List Nat := fun _ => []
theorem k80 : Good Tryd.prog gl sh (80, c80) := ⟨Tryd.f80, h80, d80, Tryd.func80, by kernel_rfl, by kernel_rfl⟩

def h81 : Hint := ⟨Nat.testBit 184149205606795480238948490449146349755637850570752, Nat.testBit 0, fun _ => 0⟩
def d81 : Nat → List Nat := fun n => match Nat.beq n 1 with | true => [5, 6, 7, 8, 9, 10, 11, 20] | false => []
theorem k81 : Good Tryd.prog gl sh (81, c81) := ⟨Tryd.f81, h81, d81, Tryd.func81, by kernel_rfl, by kernel_rfl⟩

def h82 : Hint := ⟨Nat.testBit 5050176389969560855884357697536, Nat.testBit 0, fun _ => 0⟩
def d82 : Nat → List Nat := fun n => match Nat.beq n 11 with | true => [46] | false => match Nat.beq n 18 with | true => [18, 68] | false => []
theorem k82 : Good Tryd.prog gl sh (82, c82) := ⟨Tryd.f82, h82, d82, Tryd.func82, by kernel_rfl, by kernel_rfl⟩

def h83 : Hint := ⟨Nat.testBit 56, Nat.testBit 0, fun _ => 0⟩
def d83 : Nat → List Nat := fun _ => []
theorem k83 : Good Tryd.prog gl sh (83, c83) := ⟨Tryd.f83, h83, d83, Tryd.func83, by kernel_rfl, by kernel_rfl⟩

def h84 : Hint := ⟨Nat.testBit 33537768, Nat.testBit 0, fun _ => 0⟩
def d84 : Nat → List Nat := fun _ => []
theorem k84 : Good Tryd.prog gl sh (84, c84) := ⟨Tryd.f84, h84, d84, Tryd.func84, by kernel_rfl, by kernel_rfl⟩

def h85 : Hint := ⟨Nat.testBit 0, Nat.testBit 0, fun _ => 0⟩
def d85 : Nat → List Nat := fun _ => []
theorem k85 : Good Tryd.prog gl sh (85, c85) := ⟨Tryd.f85, h85, d85, Tryd.func85, by kernel_rfl, by kernel_rfl⟩

def h86 : Hint := ⟨Nat.testBit 248, Nat.testBit 0, fun _ => 0⟩
def d86 : Nat → List Nat := fun _ => []
theorem k86 : Good Tryd.prog gl sh (86, c86) := ⟨Tryd.f86, h86, d86, Tryd.func86, by kernel_rfl, by kernel_rfl⟩

def h87 : Hint := ⟨Nat.testBit 248, Nat.testBit 0, fun _ => 0⟩
def d87 : Nat → List Nat := fun _ => []
theorem k87 : Good Tryd.prog gl sh (87, c87) := ⟨Tryd.f87, h87, d87, Tryd.func87, by kernel_rfl, by kernel_rfl⟩

def h88 : Hint := ⟨Nat.testBit 16360, Nat.testBit 0, fun _ => 0⟩
def d88 : Nat → List Nat := fun _ => []
theorem k88 : Good Tryd.prog gl sh (88, c88) := ⟨Tryd.f88, h88, d88, Tryd.func88, by kernel_rfl, by kernel_rfl⟩

def h89 : Hint := ⟨Nat.testBit 16360, Nat.testBit 0, fun _ => 0⟩
def d89 : Nat → List Nat := fun _ => []
theorem k89 : Good Tryd.prog gl sh (89, c89) := ⟨Tryd.f89, h89, d89, Tryd.func89, by kernel_rfl, by kernel_rfl⟩

def h119 : Hint := ⟨Nat.testBit 2047, Nat.testBit 0, fun _ => 0⟩
def d119 : Nat → List Nat := fun _ => []
theorem k119 : Good Tryd.prog gl sh (119, c119) := ⟨Tryd.f119, h119, d119, Tryd.func119, by kernel_rfl, by kernel_rfl⟩

end Go.Mx.Tryd
