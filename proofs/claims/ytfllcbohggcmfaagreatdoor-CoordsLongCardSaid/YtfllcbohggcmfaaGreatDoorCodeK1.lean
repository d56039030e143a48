/- The compact code is what the checked translation makes of the loaded program: each by the kernel. -/
import Derived.Test.YtfllcbohggcmfaaGreatDoorCode
import Derived.Test.YtfllcbohggcmfaaGreatDoorBd
import Derived.Test.YtfllcbohggcmfaaGreatDoorProg
import Derived.KernelRfl
set_option maxRecDepth 100000
namespace Go.Mx.Tryz
open Go.Proofs

def h87 : Hint := ⟨Nat.testBit 244736, Nat.testBit 0, fun _ => 0⟩
def d87 : Nat → List Nat := fun n => match Nat.beq n 3 with | true => [0, 2, 5, 9, 14] | false => []
theorem k87 : Good Tryz.prog gl sh (87, c87) := ⟨Tryz.f87, h87, d87, Tryz.func87, by kernel_rfl, by kernel_rfl⟩

def h88 : Hint := ⟨Nat.testBit 444288, Nat.testBit 0, fun _ => 0⟩
def d88 : Nat → List Nat := fun _ => []
theorem k88 : Good Tryz.prog gl sh (88, c88) := ⟨Tryz.f88, h88, d88, Tryz.func88, by kernel_rfl, by kernel_rfl⟩

def h89 : Hint := ⟨Nat.testBit 32744, Nat.testBit 0, fun _ => 0⟩
def d89 : Nat → List Nat := fun _ => []
theorem k89 : Good Tryz.prog gl sh (89, c89) := ⟨Tryz.f89, h89, d89, Tryz.func89, by kernel_rfl, by kernel_rfl⟩

def h90 : Hint := ⟨Nat.testBit 32752, Nat.testBit 0, fun _ => 0⟩
def d90 : Nat → List Nat := fun _ => []
theorem k90 : Good Tryz.prog gl sh (90, c90) := ⟨Tryz.f90, h90, d90, Tryz.func90, by kernel_rfl, by kernel_rfl⟩

def h91 : Hint := ⟨Nat.testBit 184149205606795480238948490449146349755637850570752, Nat.testBit 0, fun _ => 0⟩
def d91 : Nat → List Nat := fun n => match Nat.beq n 1 with | true => [5, 6, 7, 8, 9, 10, 11, 20] | false => []
theorem k91 : Good Tryz.prog gl sh (91, c91) := ⟨Tryz.f91, h91, d91, Tryz.func91, by kernel_rfl, by kernel_rfl⟩

def h97 : Hint := ⟨Nat.testBit 992, Nat.testBit 0, fun _ => 0⟩
def d97 : Nat → List Nat := fun _ => []
theorem k97 : Good Tryz.prog gl sh (97, c97) := ⟨Tryz.f97, h97, d97, Tryz.func97, by kernel_rfl, by kernel_rfl⟩

def h99 : Hint := ⟨Nat.testBit 480, Nat.testBit 0, fun _ => 0⟩
def d99 : Nat → List Nat := fun _ => []
theorem k99 : Good Tryz.prog gl sh (99, c99) := ⟨Tryz.f99, h99, d99, Tryz.func99, by kernel_rfl, by kernel_rfl⟩

def h108 : Hint := ⟨Nat.testBit 4835702990227041035218944, Nat.testBit 0, fun _ => 0⟩
def d108 : Nat → List Nat := fun n => match Nat.beq n 1 with | true => [1, 11, 18, 40, 58] | false => []
theorem k108 : Good Tryz.prog gl sh (108, c108) := ⟨Tryz.f108, h108, d108, Tryz.func108, by kernel_rfl, by kernel_rfl⟩

def h109 : Hint := ⟨Nat.testBit 120, Nat.testBit 0, fun _ => 0⟩
def d109 : Nat → List Nat := fun _ => []
theorem k109 : Good Tryz.prog gl sh (109, c109) := ⟨Tryz.f109, h109, d109, Tryz.func109, by kernel_rfl, by kernel_rfl⟩

def h110 : Hint := ⟨Nat.testBit 8589934584, Nat.testBit 0, fun _ => 0⟩
def d110 : Nat → List Nat := fun _ => []
theorem k110 : Good Tryz.prog gl sh (110, c110) := ⟨Tryz.f110, h110, d110, Tryz.func110, by kernel_rfl, by kernel_rfl⟩

def h111 : Hint := ⟨Nat.testBit 261632, Nat.testBit 0, fun _ => 0⟩
def d111 : Nat → List Nat := fun _ => []
theorem k111 : Good Tryz.prog gl sh (111, c111) := ⟨Tryz.f111, h111, d111, Tryz.func111, by kernel_rfl, by kernel_rfl⟩

def h112 : Hint := ⟨Nat.testBit 2199023247360, Nat.testBit 0, fun _ => 0⟩
def d112 : Nat → List Nat := fun _ => []
theorem k112 : Good Tryz.prog gl sh (112, c112) := ⟨Tryz.f112, h112, d112, Tryz.func112, by kernel_rfl, by kernel_rfl⟩

def h113 : Hint := ⟨Nat.testBit 56, Nat.testBit 0, fun _ => 0⟩
def d113 : Nat → List Nat := fun _ => []
theorem k113 : Good Tryz.prog gl sh (113, c113) := ⟨Tryz.f113, h113, d113, Tryz.func113, by kernel_rfl, by kernel_rfl⟩

def h114 : Hint := ⟨Nat.testBit 56, Nat.testBit 0, fun _ => 0⟩
def d114 : Nat → List Nat := fun _ => []
theorem k114 : Good Tryz.prog gl sh (114, c114) := ⟨Tryz.f114, h114, d114, Tryz.func114, by kernel_rfl, by kernel_rfl⟩

def h115 : Hint := ⟨Nat.testBit 0, Nat.testBit 0, fun _ => 0⟩
def d115 : Nat → List Nat := fun _ => []
theorem k115 : Good Tryz.prog gl sh (115, c115) := ⟨Tryz.f115, h115, d115, Tryz.func115, by kernel_rfl, by kernel_rfl⟩

def h121 : Hint := ⟨Nat.testBit 180496245714399881453103536892025912505393257885405675520, Nat.testBit 0, fun _ => 0⟩
def d121 : Nat → List Nat := fun n => match Nat.beq n 38 with | true => [0, 1, 4, 5, 6, 160, 171, 176, 177, 181] | false => match Nat.beq n 5 with | true => [1, 4, 10, 160, 171, 183] | false => match Nat.beq n 12 with | true => [11, 26, 33, 43, 51, 64] | false => match Nat.beq n 25 with | true => [4, 16, 124, 139, 143, 156] | false => match Nat.beq n 29 with | true => [143, 156] | false => []
theorem k121 : Good Tryz.prog gl sh (121, c121) := ⟨Tryz.f121, h121, d121, Tryz.func121, by kernel_rfl, by kernel_rfl⟩

def h126 : Hint := ⟨Nat.testBit 4290768896, Nat.testBit 0, fun _ => 0⟩
def d126 : Nat → List Nat := fun _ => []
theorem k126 : Good Tryz.prog gl sh (126, c126) := ⟨Tryz.f126, h126, d126, Tryz.func126, by kernel_rfl, by kernel_rfl⟩

def h129 : Hint := ⟨Nat.testBit 224, Nat.testBit 0, fun _ => 0⟩
def d129 : Nat → List Nat := fun _ => []
theorem k129 : Good Tryz.prog gl sh (129, c129) := ⟨Tryz.f129, h129, d129, Tryz.func129, by kernel_rfl, by kernel_rfl⟩

end Go.Mx.Tryz
