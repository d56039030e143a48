/- The compact code is what the checked translation makes of the loaded program: each by the kernel. -/
import Derived.Test.YtjkepihkilnjiaaGreatDoorCode
import Derived.Test.YtjkepihkilnjiaaGreatDoorBd
import Derived.Test.YtjkepihkilnjiaaGreatDoorProg
import Derived.KernelRfl
set_option maxRecDepth 100000
namespace Go.Mx.Tryz
open Go.Proofs

def h65 : Hint := ⟨Nat.testBit 41528233653786459970852289742110464, Nat.testBit 34, fun _ => 0⟩
def d65 : Nat → List Nat := fun n => match Nat.beq n 5 with | true => [0, 2, 5, 6, 32, 65] | false => match Nat.beq n 11 with | true => [7, 35, 61, 65, 74, 83, 103] | false => []
theorem k65 : Good Tryz.prog gl sh (65, c65) := ⟨Tryz.f65, h65, d65, Tryz.func65, by kernel_rfl, by kernel_rfl⟩

def h66 : Hint := ⟨Nat.testBit 515395517824, Nat.testBit 4, fun _ => 0⟩
def d66 : Nat → List Nat := fun n => match Nat.beq n 6 with | true => [0, 4, 5, 9, 15, 19, 35] | false => []
theorem k66 : Good Tryz.prog gl sh (66, c66) := ⟨Tryz.f66, h66, d66, Tryz.func66, by kernel_rfl, by kernel_rfl⟩

def h67 : Hint := ⟨Nat.testBit 17592186039296, Nat.testBit 40, fun _ => 0⟩
def d67 : Nat → List Nat := fun n => match Nat.beq n 2 with | true => [0, 2, 6, 8, 9, 12, 44] | false => []
theorem k67 : Good Tryz.prog gl sh (67, c67) := ⟨Tryz.f67, h67, d67, Tryz.func67, by kernel_rfl, by kernel_rfl⟩

def h68 : Hint := ⟨Nat.testBit 295147623704376114560, Nat.testBit 8, fun _ => 0⟩
def d68 : Nat → List Nat := fun _ => []
theorem k68 : Good Tryz.prog gl sh (68, c68) := ⟨Tryz.f68, h68, d68, Tryz.func68, by kernel_rfl, by kernel_rfl⟩

def h69 : Hint := ⟨Nat.testBit 1073725312, Nat.testBit 4, fun _ => 0⟩
def d69 : Nat → List Nat := fun n => match Nat.beq n 3 with | true => [0, 4, 14] | false => []
theorem k69 : Good Tryz.prog gl sh (69, c69) := ⟨Tryz.f69, h69, d69, Tryz.func69, by kernel_rfl, by kernel_rfl⟩

def h70 : Hint := ⟨Nat.testBit 4329318643456, Nat.testBit 8, fun _ => 0⟩
def d70 : Nat → List Nat := fun n => match Nat.beq n 4 with | true => [1, 4, 11, 23] | false => []
theorem k70 : Good Tryz.prog gl sh (70, c70) := ⟨Tryz.f70, h70, d70, Tryz.func70, by kernel_rfl, by kernel_rfl⟩

def h71 : Hint := ⟨Nat.testBit 244736, Nat.testBit 0, fun _ => 0⟩
def d71 : Nat → List Nat := fun n => match Nat.beq n 3 with | true => [0, 2, 5, 9, 14] | false => []
theorem k71 : Good Tryz.prog gl sh (71, c71) := ⟨Tryz.f71, h71, d71, Tryz.func71, by kernel_rfl, by kernel_rfl⟩

def h72 : Hint := ⟨Nat.testBit 444288, Nat.testBit 0, fun _ => 0⟩
def d72 : Nat → List Nat := fun _ => []
theorem k72 : Good Tryz.prog gl sh (72, c72) := ⟨Tryz.f72, h72, d72, Tryz.func72, by kernel_rfl, by kernel_rfl⟩

def h73 : Hint := ⟨Nat.testBit 32744, Nat.testBit 0, fun _ => 0⟩
def d73 : Nat → List Nat := fun _ => []
theorem k73 : Good Tryz.prog gl sh (73, c73) := ⟨Tryz.f73, h73, d73, Tryz.func73, by kernel_rfl, by kernel_rfl⟩

def h74 : Hint := ⟨Nat.testBit 32752, Nat.testBit 0, fun _ => 0⟩
def d74 : Nat → List Nat := fun _ => []
theorem k74 : Good Tryz.prog gl sh (74, c74) := ⟨Tryz.f74, h74, d74, Tryz.func74, by kernel_rfl, by kernel_rfl⟩

def h75 : Hint := ⟨Nat.testBit 184149205606795480238948490449146349755637850570752, Nat.testBit 0, fun _ => 0⟩
def d75 : Nat → List Nat := fun n => match Nat.beq n 1 with | true => [5, 6, 7, 8, 9, 10, 11, 20] | false => []
theorem k75 : Good Tryz.prog gl sh (75, c75) := ⟨Tryz.f75, h75, d75, Tryz.func75, by kernel_rfl, by kernel_rfl⟩

def h77 : Hint := ⟨Nat.testBit 6755399440928736, Nat.testBit 16, fun _ => 0⟩
def d77 : Nat → List Nat := fun n => match Nat.beq n 4 with | true => [2, 3, 4, 12, 16, 51] | false => []
theorem k77 : Good Tryz.prog gl sh (77, c77) := ⟨Tryz.f77, h77, d77, Tryz.func77, by kernel_rfl, by kernel_rfl⟩

def h78 : Hint := ⟨Nat.testBit 356811880641193946689691826088336933575983104, Nat.testBit 0, fun _ => 0⟩
def d78 : Nat → List Nat := fun n => match Nat.beq n 2 with | true => [12, 13, 14, 15, 16, 17, 18, 19, 20, 25, 32, 39, 56, 75, 80, 97, 125] | false => []
theorem k78 : Good Tryz.prog gl sh (78, c78) := ⟨Tryz.f78, h78, d78, Tryz.func78, by kernel_rfl, by kernel_rfl⟩

def h79 : Hint := ⟨Nat.testBit 248, Nat.testBit 0, fun _ => 0⟩
def d79 : Nat → List Nat := fun _ => []
theorem k79 : Good Tryz.prog gl sh (79, c79) := ⟨Tryz.f79, h79, d79, Tryz.func79, by kernel_rfl, by kernel_rfl⟩

def h80 : Hint := ⟨Nat.testBit 56, Nat.testBit 0, fun _ => 0⟩
def d80 : Nat → List Nat := fun _ => []
theorem k80 : Good Tryz.prog gl sh (80, c80) := ⟨Tryz.f80, h80, d80, Tryz.func80, by kernel_rfl, by kernel_rfl⟩

def h81 : Hint := ⟨Nat.testBit 56, Nat.testBit 0, fun _ => 0⟩
def d81 : Nat → List Nat := fun _ => []
theorem k81 : Good Tryz.prog gl sh (81, c81) := ⟨Tryz.f81, h81, d81, Tryz.func81, by kernel_rfl, by kernel_rfl⟩

def h82 : Hint := ⟨Nat.testBit 33537768, Nat.testBit 0, fun _ => 0⟩
def d82 : Nat → List Nat := fun _ => []
theorem k82 : Good Tryz.prog gl sh (82, c82) := ⟨Tryz.f82, h82, d82, Tryz.func82, by kernel_rfl, by kernel_rfl⟩

def h83 : Hint := ⟨Nat.testBit 0, Nat.testBit 0, fun _ => 0⟩
def d83 : Nat → List Nat := fun _ => []
theorem k83 : Good Tryz.prog gl sh (83, c83) := ⟨Tryz.f83, h83, d83, Tryz.func83, by kernel_rfl, by kernel_rfl⟩

def h86 : Hint := ⟨Nat.testBit 9007182074854400, Nat.testBit 0, fun _ => 0⟩
def d86 : Nat → List Nat := fun n => match Nat.beq n 1 with | true => [9, 34] | false => match Nat.beq n 4 with | true => [14, 34] | false => []
theorem k86 : Good Tryz.prog gl sh (86, c86) := ⟨Tryz.f86, h86, d86, Tryz.func86, by kernel_rfl, by kernel_rfl⟩

def h87 : Hint := ⟨Nat.testBit 1152921496014807040, Nat.testBit 0, fun _ => 0⟩
def d87 : Nat → List Nat := fun n => match Nat.beq n 4 with | true => [1, 2, 21] | false => match Nat.beq n 8 with | true => [10, 11, 21, 33] | false => []
theorem k87 : Good Tryz.prog gl sh (87, c87) := ⟨Tryz.f87, h87, d87, Tryz.func87, by kernel_rfl, by kernel_rfl⟩

def h88 : Hint := ⟨Nat.testBit 147573917370944446464, Nat.testBit 0, fun _ => 0⟩
def d88 : Nat → List Nat := fun n => match Nat.beq n 5 with | true => [2, 3, 12, 17, 35, 45] | false => []
theorem k88 : Good Tryz.prog gl sh (88, c88) := ⟨Tryz.f88, h88, d88, Tryz.func88, by kernel_rfl, by kernel_rfl⟩

def h89 : Hint := ⟨Nat.testBit 7890306461253730304, Nat.testBit 0, fun _ => 0⟩
def d89 : Nat → List Nat := fun _ => []
theorem k89 : Good Tryz.prog gl sh (89, c89) := ⟨Tryz.f89, h89, d89, Tryz.func89, by kernel_rfl, by kernel_rfl⟩

def h90 : Hint := ⟨Nat.testBit 17179835392, Nat.testBit 0, fun _ => 0⟩
def d90 : Nat → List Nat := fun n => match Nat.beq n 2 with | true => [1, 2, 3, 15] | false => []
theorem k90 : Good Tryz.prog gl sh (90, c90) := ⟨Tryz.f90, h90, d90, Tryz.func90, by kernel_rfl, by kernel_rfl⟩

def h91 : Hint := ⟨Nat.testBit 2787571881499075797774052896007796375347200, Nat.testBit 0, fun _ => 0⟩
def d91 : Nat → List Nat := fun n => match Nat.beq n 3 with | true => [8, 11, 12, 36, 41, 45, 65, 69, 84, 104, 109, 124] | false => match Nat.beq n 5 with | true => [16, 36] | false => match Nat.beq n 14 with | true => [36, 41, 45, 65, 69, 84] | false => match Nat.beq n 20 with | true => [11, 36, 41, 45, 65, 69, 84, 104, 109, 124] | false => []
theorem k91 : Good Tryz.prog gl sh (91, c91) := ⟨Tryz.f91, h91, d91, Tryz.func91, by kernel_rfl, by kernel_rfl⟩

def h92 : Hint := ⟨Nat.testBit 1237938821800130672580354048, Nat.testBit 0, fun _ => 0⟩
def d92 : Nat → List Nat := fun n => match Nat.beq n 3 with | true => [2, 3, 10, 47, 65, 70] | false => match Nat.beq n 5 with | true => [47, 65] | false => []
theorem k92 : Good Tryz.prog gl sh (92, c92) := ⟨Tryz.f92, h92, d92, Tryz.func92, by kernel_rfl, by kernel_rfl⟩

def h93 : Hint := ⟨Nat.testBit 383123885193474569774374055887950278561850630313328640, Nat.testBit 0, fun _ => 0⟩
def d93 : Nat → List Nat := fun n => match Nat.beq n 3 with | true => [2, 3, 10, 11, 47] | false => match Nat.beq n 5 with | true => [47, 66] | false => match Nat.beq n 13 with | true => [66, 71, 120, 139, 144] | false => match Nat.beq n 15 with | true => [120, 139] | false => []
theorem k93 : Good Tryz.prog gl sh (93, c93) := ⟨Tryz.f93, h93, d93, Tryz.func93, by kernel_rfl, by kernel_rfl⟩

def h94 : Hint := ⟨Nat.testBit 524008, Nat.testBit 0, fun _ => 0⟩
def d94 : Nat → List Nat := fun _ => []
theorem k94 : Good Tryz.prog gl sh (94, c94) := ⟨Tryz.f94, h94, d94, Tryz.func94, by kernel_rfl, by kernel_rfl⟩

def h97 : Hint := ⟨Nat.testBit 4835702990227041035218944, Nat.testBit 0, fun _ => 0⟩
def d97 : Nat → List Nat := fun n => match Nat.beq n 1 with | true => [1, 11, 18, 40, 58] | false => []
theorem k97 : Good Tryz.prog gl sh (97, c97) := ⟨Tryz.f97, h97, d97, Tryz.func97, by kernel_rfl, by kernel_rfl⟩

def h98 : Hint := ⟨Nat.testBit 120, Nat.testBit 0, fun _ => 0⟩
def d98 : Nat → List Nat := fun _ => []
theorem k98 : Good Tryz.prog gl sh (98, c98) := ⟨Tryz.f98, h98, d98, Tryz.func98, by kernel_rfl, by kernel_rfl⟩

def h99 : Hint := ⟨Nat.testBit 8589934584, Nat.testBit 0, fun _ => 0⟩
def d99 : Nat → List Nat := fun _ => []
theorem k99 : Good Tryz.prog gl sh (99, c99) := ⟨Tryz.f99, h99, d99, Tryz.func99, by kernel_rfl, by kernel_rfl⟩

def h100 : Hint := ⟨Nat.testBit 261632, Nat.testBit 0, fun _ => 0⟩
def d100 : Nat → List Nat := fun _ => []
theorem k100 : Good Tryz.prog gl sh (100, c100) := ⟨Tryz.f100, h100, d100, Tryz.func100, by kernel_rfl, by kernel_rfl⟩

def h101 : Hint := ⟨Nat.testBit 2199023247360, Nat.testBit 0, fun _ => 0⟩
def d101 : Nat → List Nat := fun _ => []
theorem k101 : Good Tryz.prog gl sh (101, c101) := ⟨Tryz.f101, h101, d101, Tryz.func101, by kernel_rfl, by kernel_rfl⟩

def h102 : Hint := ⟨Nat.testBit 4290768896, Nat.testBit 0, fun _ => 0⟩
def d102 : Nat → List Nat := fun _ => []
theorem k102 : Good Tryz.prog gl sh (102, c102) := ⟨Tryz.f102, h102, d102, Tryz.func102, by kernel_rfl, by kernel_rfl⟩

end Go.Mx.Tryz
