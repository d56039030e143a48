/- The compact code is what the checked translation makes of the loaded program: each by the kernel. -/
import Derived.Test.YtcdcepfigjohfaaGreatDoorCode
import Derived.Test.YtcdcepfigjohfaaGreatDoorBd
import Derived.Test.YtcdcepfigjohfaaGreatDoorProg
import Derived.KernelRfl
set_option maxRecDepth 100000
namespace Go.Mx.Tryz
open Go.Proofs

def h62 : Hint := ⟨Nat.testBit 244736, Nat.testBit 0, fun _ => 0⟩
def d62 : Nat → List Nat := fun n => match Nat.beq n 3 with | true => [0, 2, 5, 9, 14] | false => []
theorem k62 : Good Tryz.prog gl sh (62, c62) := ⟨Tryz.f62, h62, d62, Tryz.func62, by kernel_rfl, by kernel_rfl⟩

def h63 : Hint := ⟨Nat.testBit 444288, Nat.testBit 0, fun _ => 0⟩
def d63 : Nat → List Nat := fun _ => []
theorem k63 : Good Tryz.prog gl sh (63, c63) := ⟨Tryz.f63, h63, d63, Tryz.func63, by kernel_rfl, by kernel_rfl⟩

def h64 : Hint := ⟨Nat.testBit 356811880641193946689691826088336933575983104, Nat.testBit 0, fun _ => 0⟩
def d64 : Nat → List Nat := fun n => match Nat.beq n 2 with | true => [12, 13, 14, 15, 16, 17, 18, 19, 20, 25, 32, 39, 56, 75, 80, 97, 125] | false => []
theorem k64 : Good Tryz.prog gl sh (64, c64) := ⟨Tryz.f64, h64, d64, Tryz.func64, by kernel_rfl, by kernel_rfl⟩

def h65 : Hint := ⟨Nat.testBit 130496, Nat.testBit 0, fun _ => 0⟩
def d65 : Nat → List Nat := fun n => match Nat.beq n 2 with | true => [4, 9, 17] | false => []
theorem k65 : Good Tryz.prog gl sh (65, c65) := ⟨Tryz.f65, h65, d65, Tryz.func65, by kernel_rfl, by kernel_rfl⟩

def h66 : Hint := ⟨Nat.testBit 268435328, Nat.testBit 0, fun _ => 0⟩
def d66 : Nat → List Nat := fun _ => []
theorem k66 : Good Tryz.prog gl sh (66, c66) := ⟨Tryz.f66, h66, d66, Tryz.func66, by kernel_rfl, by kernel_rfl⟩

def h67 : Hint := ⟨Nat.testBit 21778061098346189844478291628122334298112, Nat.testBit 0, fun _ => 0⟩
def d67 : Nat → List Nat := fun n => match Nat.beq n 2 with | true => [10, 11, 12, 13, 14, 15, 16, 17, 18, 23, 29, 35, 50, 68, 72, 87, 113] | false => []
theorem k67 : Good Tryz.prog gl sh (67, c67) := ⟨Tryz.f67, h67, d67, Tryz.func67, by kernel_rfl, by kernel_rfl⟩

def h68 : Hint := ⟨Nat.testBit 24, Nat.testBit 0, fun _ => 0⟩
def d68 : Nat → List Nat := fun _ => []
theorem k68 : Good Tryz.prog gl sh (68, c68) := ⟨Tryz.f68, h68, d68, Tryz.func68, by kernel_rfl, by kernel_rfl⟩

def h69 : Hint := ⟨Nat.testBit 2094848, Nat.testBit 0, fun _ => 0⟩
def d69 : Nat → List Nat := fun _ => []
theorem k69 : Good Tryz.prog gl sh (69, c69) := ⟨Tryz.f69, h69, d69, Tryz.func69, by kernel_rfl, by kernel_rfl⟩

def h70 : Hint := ⟨Nat.testBit 224, Nat.testBit 0, fun _ => 0⟩
def d70 : Nat → List Nat := fun _ => []
theorem k70 : Good Tryz.prog gl sh (70, c70) := ⟨Tryz.f70, h70, d70, Tryz.func70, by kernel_rfl, by kernel_rfl⟩

def h71 : Hint := ⟨Nat.testBit 224, Nat.testBit 0, fun _ => 0⟩
def d71 : Nat → List Nat := fun _ => []
theorem k71 : Good Tryz.prog gl sh (71, c71) := ⟨Tryz.f71, h71, d71, Tryz.func71, by kernel_rfl, by kernel_rfl⟩

def h72 : Hint := ⟨Nat.testBit 224, Nat.testBit 0, fun _ => 0⟩
def d72 : Nat → List Nat := fun _ => []
theorem k72 : Good Tryz.prog gl sh (72, c72) := ⟨Tryz.f72, h72, d72, Tryz.func72, by kernel_rfl, by kernel_rfl⟩

def h73 : Hint := ⟨Nat.testBit 257984, Nat.testBit 0, fun _ => 0⟩
def d73 : Nat → List Nat := fun _ => []
theorem k73 : Good Tryz.prog gl sh (73, c73) := ⟨Tryz.f73, h73, d73, Tryz.func73, by kernel_rfl, by kernel_rfl⟩

def h74 : Hint := ⟨Nat.testBit 9007182074854400, Nat.testBit 0, fun _ => 0⟩
def d74 : Nat → List Nat := fun n => match Nat.beq n 1 with | true => [9, 34] | false => match Nat.beq n 4 with | true => [14, 34] | false => []
theorem k74 : Good Tryz.prog gl sh (74, c74) := ⟨Tryz.f74, h74, d74, Tryz.func74, by kernel_rfl, by kernel_rfl⟩

def h82 : Hint := ⟨Nat.testBit 524008, Nat.testBit 0, fun _ => 0⟩
def d82 : Nat → List Nat := fun _ => []
theorem k82 : Good Tryz.prog gl sh (82, c82) := ⟨Tryz.f82, h82, d82, Tryz.func82, by kernel_rfl, by kernel_rfl⟩

def h83 : Hint := ⟨Nat.testBit 33537768, Nat.testBit 0, fun _ => 0⟩
def d83 : Nat → List Nat := fun _ => []
theorem k83 : Good Tryz.prog gl sh (83, c83) := ⟨Tryz.f83, h83, d83, Tryz.func83, by kernel_rfl, by kernel_rfl⟩

def h84 : Hint := ⟨Nat.testBit 56, Nat.testBit 0, fun _ => 0⟩
def d84 : Nat → List Nat := fun _ => []
theorem k84 : Good Tryz.prog gl sh (84, c84) := ⟨Tryz.f84, h84, d84, Tryz.func84, by kernel_rfl, by kernel_rfl⟩

def h85 : Hint := ⟨Nat.testBit 9007182074854400, Nat.testBit 0, fun _ => 0⟩
def d85 : Nat → List Nat := fun n => match Nat.beq n 1 with | true => [9, 34] | false => match Nat.beq n 4 with | true => [14, 34] | false => []
theorem k85 : Good Tryz.prog gl sh (85, c85) := ⟨Tryz.f85, h85, d85, Tryz.func85, by kernel_rfl, by kernel_rfl⟩

def h93 : Hint := ⟨Nat.testBit 562948879675136, Nat.testBit 0, fun _ => 0⟩
def d93 : Nat → List Nat := fun n => match Nat.beq n 1 with | true => [7, 30] | false => match Nat.beq n 4 with | true => [12, 30] | false => []
theorem k93 : Good Tryz.prog gl sh (93, c93) := ⟨Tryz.f93, h93, d93, Tryz.func93, by kernel_rfl, by kernel_rfl⟩

def h99 : Hint := ⟨Nat.testBit 131040, Nat.testBit 0, fun _ => 0⟩
def d99 : Nat → List Nat := fun _ => []
theorem k99 : Good Tryz.prog gl sh (99, c99) := ⟨Tryz.f99, h99, d99, Tryz.func99, by kernel_rfl, by kernel_rfl⟩

def h102 : Hint := ⟨Nat.testBit 18014381321090304, Nat.testBit 0, fun _ => 0⟩
def d102 : Nat → List Nat := fun _ => []
theorem k102 : Good Tryz.prog gl sh (102, c102) := ⟨Tryz.f102, h102, d102, Tryz.func102, by kernel_rfl, by kernel_rfl⟩

def h103 : Hint := ⟨Nat.testBit 68719471104, Nat.testBit 0, fun _ => 0⟩
def d103 : Nat → List Nat := fun _ => []
theorem k103 : Good Tryz.prog gl sh (103, c103) := ⟨Tryz.f103, h103, d103, Tryz.func103, by kernel_rfl, by kernel_rfl⟩

def h104 : Hint := ⟨Nat.testBit 128, Nat.testBit 0, fun _ => 0⟩
def d104 : Nat → List Nat := fun _ => []
theorem k104 : Good Tryz.prog gl sh (104, c104) := ⟨Tryz.f104, h104, d104, Tryz.func104, by kernel_rfl, by kernel_rfl⟩

def h105 : Hint := ⟨Nat.testBit 262112, Nat.testBit 0, fun _ => 0⟩
def d105 : Nat → List Nat := fun _ => []
theorem k105 : Good Tryz.prog gl sh (105, c105) := ⟨Tryz.f105, h105, d105, Tryz.func105, by kernel_rfl, by kernel_rfl⟩

def h106 : Hint := ⟨Nat.testBit 8032, Nat.testBit 0, fun _ => 0⟩
def d106 : Nat → List Nat := fun _ => []
theorem k106 : Good Tryz.prog gl sh (106, c106) := ⟨Tryz.f106, h106, d106, Tryz.func106, by kernel_rfl, by kernel_rfl⟩

def h107 : Hint := ⟨Nat.testBit 151041866288734429771776, Nat.testBit 0, fun _ => 0⟩
def d107 : Nat → List Nat := fun n => match Nat.beq n 10 with | true => [0, 2, 3, 4, 8, 30, 39, 44, 50, 56] | false => []
theorem k107 : Good Tryz.prog gl sh (107, c107) := ⟨Tryz.f107, h107, d107, Tryz.func107, by kernel_rfl, by kernel_rfl⟩

def h108 : Hint := ⟨Nat.testBit 8778845511680, Nat.testBit 0, fun _ => 0⟩
def d108 : Nat → List Nat := fun _ => []
theorem k108 : Good Tryz.prog gl sh (108, c108) := ⟨Tryz.f108, h108, d108, Tryz.func108, by kernel_rfl, by kernel_rfl⟩

def h120 : Hint := ⟨Nat.testBit 32744, Nat.testBit 0, fun _ => 0⟩
def d120 : Nat → List Nat := fun _ => []
theorem k120 : Good Tryz.prog gl sh (120, c120) := ⟨Tryz.f120, h120, d120, Tryz.func120, by kernel_rfl, by kernel_rfl⟩

def h121 : Hint := ⟨Nat.testBit 32752, Nat.testBit 0, fun _ => 0⟩
def d121 : Nat → List Nat := fun _ => []
theorem k121 : Good Tryz.prog gl sh (121, c121) := ⟨Tryz.f121, h121, d121, Tryz.func121, by kernel_rfl, by kernel_rfl⟩

def h122 : Hint := ⟨Nat.testBit 184149205606795480238948490449146349755637850570752, Nat.testBit 0, fun _ => 0⟩
def d122 : Nat → List Nat := fun n => match Nat.beq n 1 with | true => [5, 6, 7, 8, 9, 10, 11, 20] | false => []
theorem k122 : Good Tryz.prog gl sh (122, c122) := ⟨Tryz.f122, h122, d122, Tryz.func122, by kernel_rfl, by kernel_rfl⟩

def h124 : Hint := ⟨Nat.testBit 4499192957351456, Nat.testBit 0, fun _ => 0⟩
def d124 : Nat → List Nat := fun n => match Nat.beq n 1 with | true => [1, 3, 6, 11, 14, 25] | false => match Nat.beq n 5 with | true => [7, 8, 11, 33, 42] | false => []
theorem k124 : Good Tryz.prog gl sh (124, c124) := ⟨Tryz.f124, h124, d124, Tryz.func124, by kernel_rfl, by kernel_rfl⟩

def h126 : Hint := ⟨Nat.testBit 224, Nat.testBit 0, fun _ => 0⟩
def d126 : Nat → List Nat := fun _ => []
theorem k126 : Good Tryz.prog gl sh (126, c126) := ⟨Tryz.f126, h126, d126, Tryz.func126, by kernel_rfl, by kernel_rfl⟩

def h128 : Hint := ⟨Nat.testBit 992, Nat.testBit 0, fun _ => 0⟩
def d128 : Nat → List Nat := fun _ => []
theorem k128 : Good Tryz.prog gl sh (128, c128) := ⟨Tryz.f128, h128, d128, Tryz.func128, by kernel_rfl, by kernel_rfl⟩

def h129 : Hint := ⟨Nat.testBit 992, Nat.testBit 0, fun _ => 0⟩
def d129 : Nat → List Nat := fun _ => []
theorem k129 : Good Tryz.prog gl sh (129, c129) := ⟨Tryz.f129, h129, d129, Tryz.func129, by kernel_rfl, by kernel_rfl⟩

def h130 : Hint := ⟨Nat.testBit 32640, Nat.testBit 0, fun _ => 0⟩
def d130 : Nat → List Nat := fun _ => []
theorem k130 : Good Tryz.prog gl sh (130, c130) := ⟨Tryz.f130, h130, d130, Tryz.func130, by kernel_rfl, by kernel_rfl⟩

def h131 : Hint := ⟨Nat.testBit 32640, Nat.testBit 0, fun _ => 0⟩
def d131 : Nat → List Nat := fun _ => []
theorem k131 : Good Tryz.prog gl sh (131, c131) := ⟨Tryz.f131, h131, d131, Tryz.func131, by kernel_rfl, by kernel_rfl⟩

def h135 : Hint := ⟨Nat.testBit 56, Nat.testBit 0, fun _ => 0⟩
def d135 : Nat → List Nat := fun _ => []
theorem k135 : Good Tryz.prog gl sh (135, c135) := ⟨Tryz.f135, h135, d135, Tryz.func135, by kernel_rfl, by kernel_rfl⟩

def h136 : Hint := ⟨Nat.testBit 0, Nat.testBit 0, fun _ => 0⟩
def d136 : Nat → List Nat := fun _ => []
theorem k136 : Good Tryz.prog gl sh (136, c136) := ⟨Tryz.f136, h136, d136, Tryz.func136, by kernel_rfl, by kernel_rfl⟩

def h137 : Hint := ⟨Nat.testBit 248, Nat.testBit 0, fun _ => 0⟩
def d137 : Nat → List Nat := fun _ => []
theorem k137 : Good Tryz.prog gl sh (137, c137) := ⟨Tryz.f137, h137, d137, Tryz.func137, by kernel_rfl, by kernel_rfl⟩

def h138 : Hint := ⟨Nat.testBit 248, Nat.testBit 0, fun _ => 0⟩
def d138 : Nat → List Nat := fun _ => []
theorem k138 : Good Tryz.prog gl sh (138, c138) := ⟨Tryz.f138, h138, d138, Tryz.func138, by kernel_rfl, by kernel_rfl⟩

def h140 : Hint := ⟨Nat.testBit 10448029773009037967681152029858612457160704, Nat.testBit 0, fun _ => 0⟩
def d140 : Nat → List Nat := fun n => match Nat.beq n 15 with | true => [4, 11, 16, 24, 31, 36, 59, 64, 73, 93, 107, 132] | false => []
theorem k140 : Good Tryz.prog gl sh (140, c140) := ⟨Tryz.f140, h140, d140, Tryz.func140, by kernel_rfl, by kernel_rfl⟩

def h142 : Hint := ⟨Nat.testBit 262064, Nat.testBit 0, fun _ => 0⟩
def d142 : Nat → List Nat := fun _ => []
theorem k142 : Good Tryz.prog gl sh (142, c142) := ⟨Tryz.f142, h142, d142, Tryz.func142, by kernel_rfl, by kernel_rfl⟩

def h143 : Hint := ⟨Nat.testBit 88, Nat.testBit 0, fun _ => 0⟩
def d143 : Nat → List Nat := fun _ => []
theorem k143 : Good Tryz.prog gl sh (143, c143) := ⟨Tryz.f143, h143, d143, Tryz.func143, by kernel_rfl, by kernel_rfl⟩

def h144 : Hint := ⟨Nat.testBit 16360, Nat.testBit 0, fun _ => 0⟩
def d144 : Nat → List Nat := fun _ => []
theorem k144 : Good Tryz.prog gl sh (144, c144) := ⟨Tryz.f144, h144, d144, Tryz.func144, by kernel_rfl, by kernel_rfl⟩

def h145 : Hint := ⟨Nat.testBit 16360, Nat.testBit 0, fun _ => 0⟩
def d145 : Nat → List Nat := fun _ => []
theorem k145 : Good Tryz.prog gl sh (145, c145) := ⟨Tryz.f145, h145, d145, Tryz.func145, by kernel_rfl, by kernel_rfl⟩

def h150 : Hint := ⟨Nat.testBit 24, Nat.testBit 0, fun _ => 0⟩
def d150 : Nat → List Nat := fun _ => []
theorem k150 : Good Tryz.prog gl sh (150, c150) := ⟨Tryz.f150, h150, d150, Tryz.func150, by kernel_rfl, by kernel_rfl⟩

def h153 : Hint := ⟨Nat.testBit 548648513024, Nat.testBit 0, fun _ => 0⟩
def d153 : Nat → List Nat := fun n => match Nat.beq n 3 with | true => [2, 3, 12] | false => match Nat.beq n 8 with | true => [0, 5, 12, 25, 30] | false => []
theorem k153 : Good Tryz.prog gl sh (153, c153) := ⟨Tryz.f153, h153, d153, Tryz.func153, by kernel_rfl, by kernel_rfl⟩

def h183 : Hint := ⟨Nat.testBit 2047, Nat.testBit 0, fun _ => 0⟩
def d183 : Nat → List Nat := fun _ => []
theorem k183 : Good Tryz.prog gl sh (183, c183) := ⟨Tryz.f183, h183, d183, Tryz.func183, by kernel_rfl, by kernel_rfl⟩

end Go.Mx.Tryz
