/- The compact code is what the checked translation makes of the loaded program: each by the kernel. -/
import Derived.Test.YtcdcepfigjohfaaGreatDoorCode
import Derived.Test.YtcdcepfigjohfaaGreatDoorBd
import Derived.Test.YtcdcepfigjohfaaGreatDoorProg
import Derived.KernelRfl
set_option maxRecDepth 100000
namespace Go.Mx.Tryz
open Go.Proofs

def h62 : Hint := ⟨Nat.testBit 244736, Nat.testBit 0, fun _ => 0⟩
def d62 : Nat → List Nat := fun n => match Nat.beq n 3 with | true => [0, 2, 5, 9, 14] | false => []
theorem k62 : Good Tryz.prog gl sh (62, c62) := ⟨Tryz.f62, h62, d62, Tryz.func62, by kernel_rfl, by kernel_rfl⟩

def h63 : Hint := ⟨Nat.testBit 444288, Nat.testBit 0, fun _ => 0⟩
def d63 : Nat → List Nat := fun _ => []
theorem k63 : Good Tryz.prog gl sh (63, c63) := ⟨Tryz.f63, h63, d63, Tryz.func63, by kernel_rfl, by kernel_rfl⟩

def h64 : Hint := ⟨Nat.testBit 356811880641193946689691826088336933575983104, Nat.testBit 0, fun _ => 0⟩
def d64 : Nat → List Nat := fun n => match Nat.beq n 2 with | true => [12, 13, 14, 15, 16, 17, 18, 19, 20, 25, 32, 39, 56, 75, 80, 97, 125] | false => []
theorem k64 : Good Tryz.prog gl sh (64, c64) := ⟨Tryz.f64, h64, d64, Tryz.func64, by kernel_rfl, by kernel_rfl⟩

def h65 : Hint := ⟨Nat.testBit 130496, Nat.testBit 0, fun _ => 0⟩
def d65 : Nat → List Nat := fun n => match Nat.beq n 2 with | true => [4, 9, 17] | false => []
theorem k65 : Good Tryz.prog gl sh (65, c65) := ⟨Tryz.f65, h65, d65, Tryz.func65, by kernel_rfl, by kernel_rfl⟩

def h66 : Hint := ⟨Nat.testBit 268435328, Nat.testBit 0, fun _ => 0⟩
def d66 : Nat → List Nat := fun _ => []
theorem k66 : Good Tryz.prog gl sh (66, c66) := ⟨Tryz.f66, h66, d66, Tryz.func66, by kernel_rfl, by kernel_rfl⟩

def h67 : Hint := ⟨Nat.testBit 21778061098346189844478291628122334298112, Nat.testBit 0, fun _ => 0⟩
def d67 : Nat → List Nat := fun n => match Nat.beq n 2 with | true => [10, 11, 12, 13, 14, 15, 16, 17, 18, 23, 29, 35, 50, 68, 72, 87, 113] | false => []
theorem k67 : Good Tryz.prog gl sh (67, c67) := ⟨Tryz.f67, h67, d67, Tryz.func67, by kernel_rfl, by kernel_rfl⟩

def h68 : Hint := ⟨Nat.testBit 24, Nat.testBit 0, fun _ => 0⟩
def d68 : Nat → List Nat := fun _ => []
theorem k68 : Good Tryz.prog gl sh (68, c68) := ⟨Tryz.f68, h68, d68, Tryz.func68, by kernel_rfl, by kernel_rfl⟩

def h69 : Hint := ⟨Nat.testBit 2094848, Nat.testBit 0, fun _ => 0⟩
def d69 : Nat → List Nat := fun _ => []
theorem k69 : Good Tryz.prog gl sh (69, c69) := ⟨Tryz.f69, h69, d69, Tryz.func69, by kernel_rfl, by kernel_rfl⟩

def h70 : Hint := ⟨Nat.testBit 224, Nat.testBit 0, fun _ => 0⟩
def d70 : Nat → List Nat := fun _ => []
theorem k70 : Good Tryz.prog gl sh (70, c70) := ⟨Tryz.f70, h70, d70, Tryz.func70, by kernel_rfl, by kernel_rfl⟩

def h71 : Hint := ⟨Nat.testBit 224, Nat.testBit 0, fun _ => 0⟩
def d71 : Nat → List Nat := fun _ => []
theorem k71 : Good Tryz.prog gl sh (71, c71) := ⟨Tryz.f71, h71, d71, Tryz.func71, by kernel_rfl, by kernel_rfl⟩

def h72 : Hint := ⟨Nat.testBit 224, Nat.testBit 0, fun _ => 0⟩
def d72 : Nat → List Nat := fun _ => []
theorem k72 : Good Tryz.prog gl sh (72, c72) := ⟨Tryz.f72, h72, d72, Tryz.func72, by kernel_rfl, by kernel_rfl⟩

def h73 : Hint := ⟨Nat.testBit 257984, Nat.testBit 0, fun _ => 0⟩
def d73 : Nat → List Nat := fun _ => []
theorem k73 : Good Tryz.prog gl sh (73, c73) := ⟨Tryz.f73, h73, d73, Tryz.func73, by kernel_rfl, by kernel_rfl⟩

def h74 : Hint := ⟨Nat.testBit 9007182074854400, Nat.testBit 0, fun _ => 0⟩
def d74 : Nat → List Nat := fun n => match Nat.beq n 1 with | true => [9, 34] | false => match Nat.beq n 4 with | true => [14, 34] | false => []
theorem k74 : Good Tryz.prog gl sh (74, c74) := ⟨Tryz.f74, h74, d74, Tryz.func74, by kernel_rfl, by kernel_rfl⟩

def h75 : Hint := ⟨Nat.testBit 1152921496014807040, Nat.testBit 0, fun _ => 0⟩
def d75 : Nat → List Nat := fun n => match Nat.beq n 4 with | true => [1, 2, 21] | false => match Nat.beq n 8 with | true => [10, 11, 21, 33] | false => []
theorem k75 : Good Tryz.prog gl sh (75, c75) := ⟨Tryz.f75, h75, d75, Tryz.func75, by kernel_rfl, by kernel_rfl⟩

def h76 : Hint := ⟨Nat.testBit 147573917370944446464, Nat.testBit 0, fun _ => 0⟩
def d76 : Nat → List Nat := fun n => match Nat.beq n 5 with | true => [2, 3, 12, 17, 35, 45] | false => []
theorem k76 : Good Tryz.prog gl sh (76, c76) := ⟨Tryz.f76, h76, d76, Tryz.func76, by kernel_rfl, by kernel_rfl⟩

def h77 : Hint := ⟨Nat.testBit 7890306461253730304, Nat.testBit 0, fun _ => 0⟩
def d77 : Nat → List Nat := fun _ => []
theorem k77 : Good Tryz.prog gl sh (77, c77) := ⟨Tryz.f77, h77, d77, Tryz.func77, by kernel_rfl, by kernel_rfl⟩

def h78 : Hint := ⟨Nat.testBit 17179835392, Nat.testBit 0, fun _ => 0⟩
def d78 : Nat → List Nat := fun n => match Nat.beq n 2 with | true => [1, 2, 3, 15] | false => []
theorem k78 : Good Tryz.prog gl sh (78, c78) := ⟨Tryz.f78, h78, d78, Tryz.func78, by kernel_rfl, by kernel_rfl⟩

def h79 : Hint := ⟨Nat.testBit 2787571881499075797774052896007796375347200, Nat.testBit 0, fun _ => 0⟩
def d79 : Nat → List Nat := fun n => match Nat.beq n 3 with | true => [8, 11, 12, 36, 41, 45, 65, 69, 84, 104, 109, 124] | false => match Nat.beq n 5 with | true => [16, 36] | false => match Nat.beq n 14 with | true => [36, 41, 45, 65, 69, 84] | false => match Nat.beq n 20 with | true => [11, 36, 41, 45, 65, 69, 84, 104, 109, 124] | false => []
theorem k79 : Good Tryz.prog gl sh (79, c79) := ⟨Tryz.f79, h79, d79, Tryz.func79, by kernel_rfl, by kernel_rfl⟩

def h80 : Hint := ⟨Nat.testBit 1237938821800130672580354048, Nat.testBit 0, fun _ => 0⟩
def d80 : Nat → List Nat := fun n => match Nat.beq n 3 with | true => [2, 3, 10, 47, 65, 70] | false => match Nat.beq n 5 with | true => [47, 65] | false => []
theorem k80 : Good Tryz.prog gl sh (80, c80) := ⟨Tryz.f80, h80, d80, Tryz.func80, by kernel_rfl, by kernel_rfl⟩

def h81 : Hint := ⟨Nat.testBit 383123885193474569774374055887950278561850630313328640, Nat.testBit 0, fun _ => 0⟩
def d81 : Nat → List Nat := fun n => match Nat.beq n 3 with | true => [2, 3, 10, 11, 47] | false => match Nat.beq n 5 with | true => [47, 66] | false => match Nat.beq n 13 with | true => [66, 71, 120, 139, 144] | false => match Nat.beq n 15 with | true => [120, 139] | false => []
theorem k81 : Good Tryz.prog gl sh (81, c81) := ⟨Tryz.f81, h81, d81, Tryz.func81, by kernel_rfl, by kernel_rfl⟩

def h82 : Hint := ⟨Nat.testBit 524008, Nat.testBit 0, fun _ => 0⟩
def d82 : Nat → List Nat := fun _ => []
theorem k82 : Good Tryz.prog gl sh (82, c82) := ⟨Tryz.f82, h82, d82, Tryz.func82, by kernel_rfl, by kernel_rfl⟩

def h83 : Hint := ⟨Nat.testBit 33537768, Nat.testBit 0, fun _ => 0⟩
def d83 : Nat → List Nat := fun _ => []
theorem k83 : Good Tryz.prog gl sh (83, c83) := ⟨Tryz.f83, h83, d83, Tryz.func83, by kernel_rfl, by kernel_rfl⟩

def h84 : Hint := ⟨Nat.testBit 56, Nat.testBit 0, fun _ => 0⟩
def d84 : Nat → List Nat := fun _ => []
theorem k84 : Good Tryz.prog gl sh (84, c84) := ⟨Tryz.f84, h84, d84, Tryz.func84, by kernel_rfl, by kernel_rfl⟩

def h85 : Hint := ⟨Nat.testBit 9007182074854400, Nat.testBit 0, fun _ => 0⟩
def d85 : Nat → List Nat := fun n => match Nat.beq n 1 with | true => [9, 34] | false => match Nat.beq n 4 with | true => [14, 34] | false => []
theorem k85 : Good Tryz.prog gl sh (85, c85) := ⟨Tryz.f85, h85, d85, Tryz.func85, by kernel_rfl, by kernel_rfl⟩

def h86 : Hint := ⟨Nat.testBit 1152921496014807040, Nat.testBit 0, fun _ => 0⟩
def d86 : Nat → List Nat := fun n => match Nat.beq n 4 with | true => [1, 2, 21] | false => match Nat.beq n 8 with | true => [10, 11, 21, 33] | false => []
theorem k86 : Good Tryz.prog gl sh (86, c86) := ⟨Tryz.f86, h86, d86, Tryz.func86, by kernel_rfl, by kernel_rfl⟩

def h87 : Hint := ⟨Nat.testBit 147573917370944446464, Nat.testBit 0, fun _ => 0⟩
def d87 : Nat → List Nat := fun n => match Nat.beq n 5 with | true => [2, 3, 12, 17, 35, 45] | false => []
theorem k87 : Good Tryz.prog gl sh (87, c87) := ⟨Tryz.f87, h87, d87, Tryz.func87, by kernel_rfl, by kernel_rfl⟩

def h88 : Hint := ⟨Nat.testBit 7890306461253730304, Nat.testBit 0, fun _ => 0⟩
def d88 : Nat → List Nat := fun _ => []
theorem k88 : Good Tryz.prog gl sh (88, c88) := ⟨Tryz.f88, h88, d88, Tryz.func88, by kernel_rfl, by kernel_rfl⟩

def h89 : Hint := ⟨Nat.testBit 17179835392, Nat.testBit 0, fun _ => 0⟩
def d89 : Nat → List Nat := fun n => match Nat.beq n 2 with | true => [1, 2, 3, 15] | false => []
theorem k89 : Good Tryz.prog gl sh (89, c89) := ⟨Tryz.f89, h89, d89, Tryz.func89, by kernel_rfl, by kernel_rfl⟩

def h90 : Hint := ⟨Nat.testBit 2787571881499075797774052896007796375347200, Nat.testBit 0, fun _ => 0⟩
def d90 : Nat → List Nat := fun n => match Nat.beq n 3 with | true => [8, 11, 12, 36, 41, 45, 65, 69, 84, 104, 109, 124] | false => match Nat.beq n 5 with | true => [16, 36] | false => match Nat.beq n 14 with | true => [36, 41, 45, 65, 69, 84] | false => match Nat.beq n 20 with | true => [11, 36, 41, 45, 65, 69, 84, 104, 109, 124] | false => []
theorem k90 : Good Tryz.prog gl sh (90, c90) := ⟨Tryz.f90, h90, d90, Tryz.func90, by kernel_rfl, by kernel_rfl⟩

def h91 : Hint := ⟨Nat.testBit 1237938821800130672580354048, Nat.testBit 0, fun _ => 0⟩
def d91 : Nat → List Nat := fun n => match Nat.beq n 3 with | true => [2, 3, 10, 47, 65, 70] | false => match Nat.beq n 5 with | true => [47, 65] | false => []
theorem k91 : Good Tryz.prog gl sh (91, c91) := ⟨Tryz.f91, h91, d91, Tryz.func91, by kernel_rfl, by kernel_rfl⟩

def h92 : Hint := ⟨Nat.testBit 383123885193474569774374055887950278561850630313328640, Nat.testBit 0, fun _ => 0⟩
def d92 : Nat → List Nat := fun n => match Nat.beq n 3 with | true => [2, 3, 10, 11, 47] | false => match Nat.beq n 5 with | true => [47, 66] | false => match Nat.beq n 13 with | true => [66, 71, 120, 139, 144] | false => match Nat.beq n 15 with | true => [120, 139] | false => []
theorem k92 : Good Tryz.prog gl sh (92, c92) := ⟨Tryz.f92, h92, d92, Tryz.func92, by kernel_rfl, by kernel_rfl⟩

def h93 : Hint := ⟨Nat.testBit 562948879675136, Nat.testBit 0, fun _ => 0⟩
def d93 : Nat → List Nat := fun n => match Nat.beq n 1 with | true => [7, 30] | false => match Nat.beq n 4 with | true => [12, 30] | false => []
theorem k93 : Good Tryz.prog gl sh (93, c93) := ⟨Tryz.f93, h93, d93, Tryz.func93, by kernel_rfl, by kernel_rfl⟩

def h94 : Hint := ⟨Nat.testBit 72057592963659776, Nat.testBit 0, fun _ => 0⟩
def d94 : Nat → List Nat := fun n => match Nat.beq n 4 with | true => [1, 2, 19] | false => match Nat.beq n 8 with | true => [8, 9, 19, 30] | false => []
theorem k94 : Good Tryz.prog gl sh (94, c94) := ⟨Tryz.f94, h94, d94, Tryz.func94, by kernel_rfl, by kernel_rfl⟩

def h95 : Hint := ⟨Nat.testBit 36893479342736111616, Nat.testBit 0, fun _ => 0⟩
def d95 : Nat → List Nat := fun n => match Nat.beq n 5 with | true => [2, 10, 15, 33, 43] | false => []
theorem k95 : Good Tryz.prog gl sh (95, c95) := ⟨Tryz.f95, h95, d95, Tryz.func95, by kernel_rfl, by kernel_rfl⟩

def h96 : Hint := ⟨Nat.testBit 123286018324422656, Nat.testBit 0, fun _ => 0⟩
def d96 : Nat → List Nat := fun _ => []
theorem k96 : Good Tryz.prog gl sh (96, c96) := ⟨Tryz.f96, h96, d96, Tryz.func96, by kernel_rfl, by kernel_rfl⟩

def h97 : Hint := ⟨Nat.testBit 4294958848, Nat.testBit 0, fun _ => 0⟩
def d97 : Nat → List Nat := fun n => match Nat.beq n 2 with | true => [1, 2, 13] | false => []
theorem k97 : Good Tryz.prog gl sh (97, c97) := ⟨Tryz.f97, h97, d97, Tryz.func97, by kernel_rfl, by kernel_rfl⟩

def h98 : Hint := ⟨Nat.testBit 10888952654262176519432384150372830132224, Nat.testBit 0, fun _ => 0⟩
def d98 : Nat → List Nat := fun n => match Nat.beq n 3 with | true => [6, 9, 10, 32, 37, 41, 61, 65, 78, 98, 103, 116] | false => match Nat.beq n 5 with | true => [14, 32] | false => match Nat.beq n 14 with | true => [32, 37, 41, 61, 65, 78] | false => match Nat.beq n 20 with | true => [9, 32, 37, 41, 61, 65, 78, 98, 103, 116] | false => []
theorem k98 : Good Tryz.prog gl sh (98, c98) := ⟨Tryz.f98, h98, d98, Tryz.func98, by kernel_rfl, by kernel_rfl⟩

def h99 : Hint := ⟨Nat.testBit 131040, Nat.testBit 0, fun _ => 0⟩
def d99 : Nat → List Nat := fun _ => []
theorem k99 : Good Tryz.prog gl sh (99, c99) := ⟨Tryz.f99, h99, d99, Tryz.func99, by kernel_rfl, by kernel_rfl⟩

def h100 : Hint := ⟨Nat.testBit 19342794090620444689299456, Nat.testBit 0, fun _ => 0⟩
def d100 : Nat → List Nat := fun n => match Nat.beq n 3 with | true => [2, 3, 8, 43, 59, 64] | false => match Nat.beq n 5 with | true => [43, 59] | false => []
theorem k100 : Good Tryz.prog gl sh (100, c100) := ⟨Tryz.f100, h100, d100, Tryz.func100, by kernel_rfl, by kernel_rfl⟩

def h101 : Hint := ⟨Nat.testBit 374144419134252505651064520051920053992477580849152, Nat.testBit 0, fun _ => 0⟩
def d101 : Nat → List Nat := fun n => match Nat.beq n 3 with | true => [2, 3, 8, 9, 43] | false => match Nat.beq n 5 with | true => [43, 60] | false => match Nat.beq n 13 with | true => [60, 65, 112, 129, 134] | false => match Nat.beq n 15 with | true => [112, 129] | false => []
theorem k101 : Good Tryz.prog gl sh (101, c101) := ⟨Tryz.f101, h101, d101, Tryz.func101, by kernel_rfl, by kernel_rfl⟩

def h102 : Hint := ⟨Nat.testBit 18014381321090304, Nat.testBit 0, fun _ => 0⟩
def d102 : Nat → List Nat := fun _ => []
theorem k102 : Good Tryz.prog gl sh (102, c102) := ⟨Tryz.f102, h102, d102, Tryz.func102, by kernel_rfl, by kernel_rfl⟩

def h103 : Hint := ⟨Nat.testBit 68719471104, Nat.testBit 0, fun _ => 0⟩
def d103 : Nat → List Nat := fun _ => []
theorem k103 : Good Tryz.prog gl sh (103, c103) := ⟨Tryz.f103, h103, d103, Tryz.func103, by kernel_rfl, by kernel_rfl⟩

def h104 : Hint := ⟨Nat.testBit 128, Nat.testBit 0, fun _ => 0⟩
def d104 : Nat → List Nat := fun _ => []
theorem k104 : Good Tryz.prog gl sh (104, c104) := ⟨Tryz.f104, h104, d104, Tryz.func104, by kernel_rfl, by kernel_rfl⟩

def h105 : Hint := ⟨Nat.testBit 262112, Nat.testBit 0, fun _ => 0⟩
def d105 : Nat → List Nat := fun _ => []
theorem k105 : Good Tryz.prog gl sh (105, c105) := ⟨Tryz.f105, h105, d105, Tryz.func105, by kernel_rfl, by kernel_rfl⟩

def h106 : Hint := ⟨Nat.testBit 8032, Nat.testBit 0, fun _ => 0⟩
def d106 : Nat → List Nat := fun _ => []
theorem k106 : Good Tryz.prog gl sh (106, c106) := ⟨Tryz.f106, h106, d106, Tryz.func106, by kernel_rfl, by kernel_rfl⟩

def h107 : Hint := ⟨Nat.testBit 151041866288734429771776, Nat.testBit 0, fun _ => 0⟩
def d107 : Nat → List Nat := fun n => match Nat.beq n 10 with | true => [0, 2, 3, 4, 8, 30, 39, 44, 50, 56] | false => []
theorem k107 : Good Tryz.prog gl sh (107, c107) := ⟨Tryz.f107, h107, d107, Tryz.func107, by kernel_rfl, by kernel_rfl⟩

def h108 : Hint := ⟨Nat.testBit 8778845511680, Nat.testBit 0, fun _ => 0⟩
def d108 : Nat → List Nat := fun _ => []
theorem k108 : Good Tryz.prog gl sh (108, c108) := ⟨Tryz.f108, h108, d108, Tryz.func108, by kernel_rfl, by kernel_rfl⟩

def h109 : Hint := ⟨Nat.testBit 4835702990227041035218944, Nat.testBit 0, fun _ => 0⟩
def d109 : Nat → List Nat := fun n => match Nat.beq n 1 with | true => [1, 11, 18, 40, 58] | false => []
theorem k109 : Good Tryz.prog gl sh (109, c109) := ⟨Tryz.f109, h109, d109, Tryz.func109, by kernel_rfl, by kernel_rfl⟩

def h110 : Hint := ⟨Nat.testBit 120, Nat.testBit 0, fun _ => 0⟩
def d110 : Nat → List Nat := fun _ => []
theorem k110 : Good Tryz.prog gl sh (110, c110) := ⟨Tryz.f110, h110, d110, Tryz.func110, by kernel_rfl, by kernel_rfl⟩

def h111 : Hint := ⟨Nat.testBit 8589934584, Nat.testBit 0, fun _ => 0⟩
def d111 : Nat → List Nat := fun _ => []
theorem k111 : Good Tryz.prog gl sh (111, c111) := ⟨Tryz.f111, h111, d111, Tryz.func111, by kernel_rfl, by kernel_rfl⟩

def h112 : Hint := ⟨Nat.testBit 261632, Nat.testBit 0, fun _ => 0⟩
def d112 : Nat → List Nat := fun _ => []
theorem k112 : Good Tryz.prog gl sh (112, c112) := ⟨Tryz.f112, h112, d112, Tryz.func112, by kernel_rfl, by kernel_rfl⟩

def h113 : Hint := ⟨Nat.testBit 2199023247360, Nat.testBit 0, fun _ => 0⟩
def d113 : Nat → List Nat := fun _ => []
theorem k113 : Good Tryz.prog gl sh (113, c113) := ⟨Tryz.f113, h113, d113, Tryz.func113, by kernel_rfl, by kernel_rfl⟩

def h114 : Hint := ⟨Nat.testBit 4835702990227041035218944, Nat.testBit 0, fun _ => 0⟩
def d114 : Nat → List Nat := fun n => match Nat.beq n 1 with | true => [1, 11, 18, 40, 58] | false => []
theorem k114 : Good Tryz.prog gl sh (114, c114) := ⟨Tryz.f114, h114, d114, Tryz.func114, by kernel_rfl, by kernel_rfl⟩

def h115 : Hint := ⟨Nat.testBit 261632, Nat.testBit 0, fun _ => 0⟩
def d115 : Nat → List Nat := fun _ => []
theorem k115 : Good Tryz.prog gl sh (115, c115) := ⟨Tryz.f115, h115, d115, Tryz.func115, by kernel_rfl, by kernel_rfl⟩

def h116 : Hint := ⟨Nat.testBit 2199023247360, Nat.testBit 0, fun _ => 0⟩
def d116 : Nat → List Nat := fun _ => []
theorem k116 : Good Tryz.prog gl sh (116, c116) := ⟨Tryz.f116, h116, d116, Tryz.func116, by kernel_rfl, by kernel_rfl⟩

def h117 : Hint := ⟨Nat.testBit 75557859222245976505344, Nat.testBit 0, fun _ => 0⟩
def d117 : Nat → List Nat := fun n => match Nat.beq n 1 with | true => [1, 9, 16, 36, 52] | false => []
theorem k117 : Good Tryz.prog gl sh (117, c117) := ⟨Tryz.f117, h117, d117, Tryz.func117, by kernel_rfl, by kernel_rfl⟩

def h118 : Hint := ⟨Nat.testBit 32640, Nat.testBit 0, fun _ => 0⟩
def d118 : Nat → List Nat := fun _ => []
theorem k118 : Good Tryz.prog gl sh (118, c118) := ⟨Tryz.f118, h118, d118, Tryz.func118, by kernel_rfl, by kernel_rfl⟩

def h119 : Hint := ⟨Nat.testBit 68719474688, Nat.testBit 0, fun _ => 0⟩
def d119 : Nat → List Nat := fun _ => []
theorem k119 : Good Tryz.prog gl sh (119, c119) := ⟨Tryz.f119, h119, d119, Tryz.func119, by kernel_rfl, by kernel_rfl⟩

def h120 : Hint := ⟨Nat.testBit 32744, Nat.testBit 0, fun _ => 0⟩
def d120 : Nat → List Nat := fun _ => []
theorem k120 : Good Tryz.prog gl sh (120, c120) := ⟨Tryz.f120, h120, d120, Tryz.func120, by kernel_rfl, by kernel_rfl⟩

def h121 : Hint := ⟨Nat.testBit 32752, Nat.testBit 0, fun _ => 0⟩
def d121 : Nat → List Nat := fun _ => []
theorem k121 : Good Tryz.prog gl sh (121, c121) := ⟨Tryz.f121, h121, d121, Tryz.func121, by kernel_rfl, by kernel_rfl⟩

end Go.Mx.Tryz
