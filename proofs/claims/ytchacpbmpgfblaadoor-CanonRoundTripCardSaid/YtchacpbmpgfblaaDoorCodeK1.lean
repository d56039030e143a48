/- The compact code is what the checked translation makes of the loaded program: each by the kernel. -/
import Derived.Test.YtchacpbmpgfblaaDoorCode
import Derived.Test.YtchacpbmpgfblaaDoorBd
import Derived.Test.YtchacpbmpgfblaaDoorProg
import Derived.KernelRfl
set_option maxRecDepth 100000
namespace Go.Mx.Tryd
open Go.Proofs

def h63 : Hint := ⟨Nat.testBit 12240, Nat.testBit 2, fun _ => 0⟩
def d63 : Nat → List Nat := fun n => match Nat.beq n 2 with | true => [0, 2, 5, 12] | false => []
theorem k63 : Good Tryd.prog gl sh (63, c63) := ⟨Tryd.f63, h63, d63, Tryd.func63, by kernel_rfl, by kernel_rfl⟩

def h64 : Hint := ⟨Nat.testBit 4329318643456, Nat.testBit 8, fun _ => 0⟩
def d64 : Nat → List Nat := fun n => match Nat.beq n 4 with | true => [1, 4, 11, 23] | false => []
theorem k64 : Good Tryd.prog gl sh (64, c64) := ⟨Tryd.f64, h64, d64, Tryd.func64, by kernel_rfl, by kernel_rfl⟩

def h65 : Hint := ⟨Nat.testBit 50301888, Nat.testBit 0, fun _ => 0⟩
def d65 : Nat → List Nat := fun n => match Nat.beq n 4 with | true => [4, 5, 10, 14, 24] | false => []
theorem k65 : Good Tryd.prog gl sh (65, c65) := ⟨Tryd.f65, h65, d65, Tryd.func65, by kernel_rfl, by kernel_rfl⟩

def h66 : Hint := ⟨Nat.testBit 131040, Nat.testBit 12, fun _ => 0⟩
def d66 : Nat → List Nat := fun _ => []
theorem k66 : Good Tryd.prog gl sh (66, c66) := ⟨Tryd.f66, h66, d66, Tryd.func66, by kernel_rfl, by kernel_rfl⟩

def h68 : Hint := ⟨Nat.testBit 24, Nat.testBit 0, fun _ => 0⟩
def d68 : Nat → List Nat := fun _ => []
theorem k68 : Good Tryd.prog gl sh (68, c68) := ⟨Tryd.f68, h68, d68, Tryd.func68, by kernel_rfl, by kernel_rfl⟩

def h69 : Hint := ⟨Nat.testBit 65512, Nat.testBit 0, fun _ => 0⟩
def d69 : Nat → List Nat := fun _ => []
theorem k69 : Good Tryd.prog gl sh (69, c69) := ⟨Tryd.f69, h69, d69, Tryd.func69, by kernel_rfl, by kernel_rfl⟩

def h71 : Hint := ⟨Nat.testBit 356811880641193946689691826088336933575983104, Nat.testBit 0, fun _ => 0⟩
def d71 : Nat → List Nat := fun n => match Nat.beq n 2 with | true => [12, 13, 14, 15, 16, 17, 18, 19, 20, 25, 32, 39, 56, 75, 80, 97, 125] | false => []
theorem k71 : Good Tryd.prog gl sh (71, c71) := ⟨Tryd.f71, h71, d71, Tryd.func71, by kernel_rfl, by kernel_rfl⟩

def h72 : Hint := ⟨Nat.testBit 248, Nat.testBit 0, fun _ => 0⟩
def d72 : Nat → List Nat := fun _ => []
theorem k72 : Good Tryd.prog gl sh (72, c72) := ⟨Tryd.f72, h72, d72, Tryd.func72, by kernel_rfl, by kernel_rfl⟩

def h73 : Hint := ⟨Nat.testBit 8796092034048, Nat.testBit 768, fun _ => 0⟩
def d73 : Nat → List Nat := fun n => match Nat.beq n 5 with | true => [1, 4, 5, 8, 9, 12, 19] | false => []
theorem k73 : Good Tryd.prog gl sh (73, c73) := ⟨Tryd.f73, h73, d73, Tryd.func73, by kernel_rfl, by kernel_rfl⟩

def h74 : Hint := ⟨Nat.testBit 8589934528, Nat.testBit 56, fun _ => 0⟩
def d74 : Nat → List Nat := fun _ => []
theorem k74 : Good Tryd.prog gl sh (74, c74) := ⟨Tryd.f74, h74, d74, Tryd.func74, by kernel_rfl, by kernel_rfl⟩

def h75 : Hint := ⟨Nat.testBit 457792, Nat.testBit 8, fun _ => 0⟩
def d75 : Nat → List Nat := fun n => match Nat.beq n 2 with | true => [1, 4, 5, 9, 16] | false => []
theorem k75 : Good Tryd.prog gl sh (75, c75) := ⟨Tryd.f75, h75, d75, Tryd.func75, by kernel_rfl, by kernel_rfl⟩

def h76 : Hint := ⟨Nat.testBit 244736, Nat.testBit 0, fun _ => 0⟩
def d76 : Nat → List Nat := fun n => match Nat.beq n 3 with | true => [0, 2, 5, 9, 14] | false => []
theorem k76 : Good Tryd.prog gl sh (76, c76) := ⟨Tryd.f76, h76, d76, Tryd.func76, by kernel_rfl, by kernel_rfl⟩

def h77 : Hint := ⟨Nat.testBit 444288, Nat.testBit 0, fun _ => 0⟩
def d77 : Nat → List Nat := fun _ => []
theorem k77 : Good Tryd.prog gl sh (77, c77) := ⟨Tryd.f77, h77, d77, Tryd.func77, by kernel_rfl, by kernel_rfl⟩

def h79 : Hint := ⟨Nat.testBit 18014381321090304, Nat.testBit 0, fun _ => 0⟩
def d79 : Nat → List Nat := fun _ => []
theorem k79 : Good Tryd.prog gl sh (79, c79) := ⟨Tryd.f79, h79, d79, Tryd.func79, by kernel_rfl, by kernel_rfl⟩

def h81 : Hint := ⟨Nat.testBit 9007182074854400, Nat.testBit 0, fun _ => 0⟩
def d81 : Nat → List Nat := fun n => match Nat.beq n 1 with | true => [9, 34] | false => match Nat.beq n 4 with | true => [14, 34] | false => []
theorem k81 : Good Tryd.prog gl sh (81, c81) := ⟨Tryd.f81, h81, d81, Tryd.func81, by kernel_rfl, by kernel_rfl⟩

def h82 : Hint := ⟨Nat.testBit 1152921496014807040, Nat.testBit 0, fun _ => 0⟩
def d82 : Nat → List Nat := fun n => match Nat.beq n 4 with | true => [1, 2, 21] | false => match Nat.beq n 8 with | true => [10, 11, 21, 33] | false => []
theorem k82 : Good Tryd.prog gl sh (82, c82) := ⟨Tryd.f82, h82, d82, Tryd.func82, by kernel_rfl, by kernel_rfl⟩

def h83 : Hint := ⟨Nat.testBit 147573917370944446464, Nat.testBit 0, fun _ => 0⟩
def d83 : Nat → List Nat := fun n => match Nat.beq n 5 with | true => [2, 3, 12, 17, 35, 45] | false => []
theorem k83 : Good Tryd.prog gl sh (83, c83) := ⟨Tryd.f83, h83, d83, Tryd.func83, by kernel_rfl, by kernel_rfl⟩

def h84 : Hint := ⟨Nat.testBit 7890306461253730304, Nat.testBit 0, fun _ => 0⟩
def d84 : Nat → List Nat := fun _ => []
theorem k84 : Good Tryd.prog gl sh (84, c84) := ⟨Tryd.f84, h84, d84, Tryd.func84, by kernel_rfl, by kernel_rfl⟩

def h85 : Hint := ⟨Nat.testBit 17179835392, Nat.testBit 0, fun _ => 0⟩
def d85 : Nat → List Nat := fun n => match Nat.beq n 2 with | true => [1, 2, 3, 15] | false => []
theorem k85 : Good Tryd.prog gl sh (85, c85) := ⟨Tryd.f85, h85, d85, Tryd.func85, by kernel_rfl, by kernel_rfl⟩

def h86 : Hint := ⟨Nat.testBit 2787571881499075797774052896007796375347200, Nat.testBit 0, fun _ => 0⟩
def d86 : Nat → List Nat := fun n => match Nat.beq n 3 with | true => [8, 11, 12, 36, 41, 45, 65, 69, 84, 104, 109, 124] | false => match Nat.beq n 5 with | true => [16, 36] | false => match Nat.beq n 14 with | true => [36, 41, 45, 65, 69, 84] | false => match Nat.beq n 20 with | true => [11, 36, 41, 45, 65, 69, 84, 104, 109, 124] | false => []
theorem k86 : Good Tryd.prog gl sh (86, c86) := ⟨Tryd.f86, h86, d86, Tryd.func86, by kernel_rfl, by kernel_rfl⟩

def h87 : Hint := ⟨Nat.testBit 1237938821800130672580354048, Nat.testBit 0, fun _ => 0⟩
def d87 : Nat → List Nat := fun n => match Nat.beq n 3 with | true => [2, 3, 10, 47, 65, 70] | false => match Nat.beq n 5 with | true => [47, 65] | false => []
theorem k87 : Good Tryd.prog gl sh (87, c87) := ⟨Tryd.f87, h87, d87, Tryd.func87, by kernel_rfl, by kernel_rfl⟩

def h88 : Hint := ⟨Nat.testBit 383123885193474569774374055887950278561850630313328640, Nat.testBit 0, fun _ => 0⟩
def d88 : Nat → List Nat := fun n => match Nat.beq n 3 with | true => [2, 3, 10, 11, 47] | false => match Nat.beq n 5 with | true => [47, 66] | false => match Nat.beq n 13 with | true => [66, 71, 120, 139, 144] | false => match Nat.beq n 15 with | true => [120, 139] | false => []
theorem k88 : Good Tryd.prog gl sh (88, c88) := ⟨Tryd.f88, h88, d88, Tryd.func88, by kernel_rfl, by kernel_rfl⟩

def h89 : Hint := ⟨Nat.testBit 524008, Nat.testBit 0, fun _ => 0⟩
def d89 : Nat → List Nat := fun _ => []
theorem k89 : Good Tryd.prog gl sh (89, c89) := ⟨Tryd.f89, h89, d89, Tryd.func89, by kernel_rfl, by kernel_rfl⟩

def h90 : Hint := ⟨Nat.testBit 33537768, Nat.testBit 0, fun _ => 0⟩
def d90 : Nat → List Nat := fun _ => []
theorem k90 : Good Tryd.prog gl sh (90, c90) := ⟨Tryd.f90, h90, d90, Tryd.func90, by kernel_rfl, by kernel_rfl⟩

def h91 : Hint := ⟨Nat.testBit 131040, Nat.testBit 12, fun _ => 0⟩
def d91 : Nat → List Nat := fun _ => []
theorem k91 : Good Tryd.prog gl sh (91, c91) := ⟨Tryd.f91, h91, d91, Tryd.func91, by kernel_rfl, by kernel_rfl⟩

def h92 : Hint := ⟨Nat.testBit 56, Nat.testBit 0, fun _ => 0⟩
def d92 : Nat → List Nat := fun _ => []
theorem k92 : Good Tryd.prog gl sh (92, c92) := ⟨Tryd.f92, h92, d92, Tryd.func92, by kernel_rfl, by kernel_rfl⟩

def h93 : Hint := ⟨Nat.testBit 32744, Nat.testBit 0, fun _ => 0⟩
def d93 : Nat → List Nat := fun _ => []
theorem k93 : Good Tryd.prog gl sh (93, c93) := ⟨Tryd.f93, h93, d93, Tryd.func93, by kernel_rfl, by kernel_rfl⟩

def h94 : Hint := ⟨Nat.testBit 32752, Nat.testBit 0, fun _ => 0⟩
def d94 : Nat → List Nat := fun _ => []
theorem k94 : Good Tryd.prog gl sh (94, c94) := ⟨Tryd.f94, h94, d94, Tryd.func94, by kernel_rfl, by kernel_rfl⟩

def h95 : Hint := ⟨Nat.testBit 184149205606795480238948490449146349755637850570752, Nat.testBit 0, fun _ => 0⟩
def d95 : Nat → List Nat := fun n => match Nat.beq n 1 with | true => [5, 6, 7, 8, 9, 10, 11, 20] | false => []
theorem k95 : Good Tryd.prog gl sh (95, c95) := ⟨Tryd.f95, h95, d95, Tryd.func95, by kernel_rfl, by kernel_rfl⟩

def h97 : Hint := ⟨Nat.testBit 4835702990227041035218944, Nat.testBit 0, fun _ => 0⟩
def d97 : Nat → List Nat := fun n => match Nat.beq n 1 with | true => [1, 11, 18, 40, 58] | false => []
theorem k97 : Good Tryd.prog gl sh (97, c97) := ⟨Tryd.f97, h97, d97, Tryd.func97, by kernel_rfl, by kernel_rfl⟩

def h98 : Hint := ⟨Nat.testBit 120, Nat.testBit 0, fun _ => 0⟩
def d98 : Nat → List Nat := fun _ => []
theorem k98 : Good Tryd.prog gl sh (98, c98) := ⟨Tryd.f98, h98, d98, Tryd.func98, by kernel_rfl, by kernel_rfl⟩

def h99 : Hint := ⟨Nat.testBit 8589934584, Nat.testBit 0, fun _ => 0⟩
def d99 : Nat → List Nat := fun _ => []
theorem k99 : Good Tryd.prog gl sh (99, c99) := ⟨Tryd.f99, h99, d99, Tryd.func99, by kernel_rfl, by kernel_rfl⟩

def h100 : Hint := ⟨Nat.testBit 261632, Nat.testBit 0, fun _ => 0⟩
def d100 : Nat → List Nat := fun _ => []
theorem k100 : Good Tryd.prog gl sh (100, c100) := ⟨Tryd.f100, h100, d100, Tryd.func100, by kernel_rfl, by kernel_rfl⟩

def h101 : Hint := ⟨Nat.testBit 2199023247360, Nat.testBit 0, fun _ => 0⟩
def d101 : Nat → List Nat := fun _ => []
theorem k101 : Good Tryd.prog gl sh (101, c101) := ⟨Tryd.f101, h101, d101, Tryd.func101, by kernel_rfl, by kernel_rfl⟩

def h102 : Hint := ⟨Nat.testBit 56, Nat.testBit 0, fun _ => 0⟩
def d102 : Nat → List Nat := fun _ => []
theorem k102 : Good Tryd.prog gl sh (102, c102) := ⟨Tryd.f102, h102, d102, Tryd.func102, by kernel_rfl, by kernel_rfl⟩

def h103 : Hint := ⟨Nat.testBit 0, Nat.testBit 0, fun _ => 0⟩
def d103 : Nat → List Nat := fun _ => []
theorem k103 : Good Tryd.prog gl sh (103, c103) := ⟨Tryd.f103, h103, d103, Tryd.func103, by kernel_rfl, by kernel_rfl⟩

def h106 : Hint := ⟨Nat.testBit 4290768896, Nat.testBit 0, fun _ => 0⟩
def d106 : Nat → List Nat := fun _ => []
theorem k106 : Good Tryd.prog gl sh (106, c106) := ⟨Tryd.f106, h106, d106, Tryd.func106, by kernel_rfl, by kernel_rfl⟩

end Go.Mx.Tryd
