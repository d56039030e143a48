/- The compact code is what the checked translation makes of the loaded program: each by the kernel. -/
import Derived.Test.YtbpkmkgnkpeefaaGreatDoorCode
import Derived.Test.YtbpkmkgnkpeefaaGreatDoorBd
import Derived.Test.YtbpkmkgnkpeefaaGreatDoorProg
import Derived.KernelRfl
set_option maxRecDepth 100000
namespace Go.Mx.Tryz
open Go.Proofs

def h100 : Hint := ⟨Nat.testBit 5192296858532447980529488833282048, Nat.testBit 12288, fun _ => 0⟩
def d100 : Nat → List Nat := fun n => match Nat.beq n 6 with | true => [1, 2, 3, 4, 10, 11, 14, 15, 21, 29, 40] | false => []
theorem k100 : Good Tryz.prog gl sh (100, c100) := ⟨Tryz.f100, h100, d100, Tryz.func100, by kernel_rfl, by kernel_rfl⟩

def h101 : Hint := ⟨Nat.testBit 244736, Nat.testBit 0, fun _ => 0⟩
def d101 : Nat → List Nat := fun n => match Nat.beq n 3 with | true => [0, 2, 5, 9, 14] | false => []
theorem k101 : Good Tryz.prog gl sh (101, c101) := ⟨Tryz.f101, h101, d101, Tryz.func101, by kernel_rfl, by kernel_rfl⟩

def h102 : Hint := ⟨Nat.testBit 444288, Nat.testBit 0, fun _ => 0⟩
def d102 : Nat → List Nat := fun _ => []
theorem k102 : Good Tryz.prog gl sh (102, c102) := ⟨Tryz.f102, h102, d102, Tryz.func102, by kernel_rfl, by kernel_rfl⟩

def h103 : Hint := ⟨Nat.testBit 50301888, Nat.testBit 0, fun _ => 0⟩
def d103 : Nat → List Nat := fun n => match Nat.beq n 4 with | true => [4, 5, 10, 14, 24] | false => []
theorem k103 : Good Tryz.prog gl sh (103, c103) := ⟨Tryz.f103, h103, d103, Tryz.func103, by kernel_rfl, by kernel_rfl⟩

def h104 : Hint := ⟨Nat.testBit 232, Nat.testBit 0, fun _ => 0⟩
def d104 : Nat → List Nat := fun _ => []
theorem k104 : Good Tryz.prog gl sh (104, c104) := ⟨Tryz.f104, h104, d104, Tryz.func104, by kernel_rfl, by kernel_rfl⟩

def h105 : Hint := ⟨Nat.testBit 295147905110633099264, Nat.testBit 0, fun n => match Nat.beq n 46 with | true => 1 | false => 0⟩
def d105 : Nat → List Nat := fun n => match Nat.beq n 3 with | true => [6, 9, 17] | false => []
theorem k105 : Good Tryz.prog gl sh (105, c105) := ⟨Tryz.f105, h105, d105, Tryz.func105, by kernel_rfl, by kernel_rfl⟩

def h106 : Hint := ⟨Nat.testBit 232, Nat.testBit 0, fun _ => 0⟩
def d106 : Nat → List Nat := fun _ => []
theorem k106 : Good Tryz.prog gl sh (106, c106) := ⟨Tryz.f106, h106, d106, Tryz.func106, by kernel_rfl, by kernel_rfl⟩

def h107 : Hint := ⟨Nat.testBit 65280, Nat.testBit 0, fun _ => 0⟩
def d107 : Nat → List Nat := fun _ => []
theorem k107 : Good Tryz.prog gl sh (107, c107) := ⟨Tryz.f107, h107, d107, Tryz.func107, by kernel_rfl, by kernel_rfl⟩

def h109 : Hint := ⟨Nat.testBit 131064, Nat.testBit 2, fun _ => 0⟩
def d109 : Nat → List Nat := fun _ => []
theorem k109 : Good Tryz.prog gl sh (109, c109) := ⟨Tryz.f109, h109, d109, Tryz.func109, by kernel_rfl, by kernel_rfl⟩

def h110 : Hint := ⟨Nat.testBit 248, Nat.testBit 6, fun _ => 0⟩
def d110 : Nat → List Nat := fun _ => []
theorem k110 : Good Tryz.prog gl sh (110, c110) := ⟨Tryz.f110, h110, d110, Tryz.func110, by kernel_rfl, by kernel_rfl⟩

def h111 : Hint := ⟨Nat.testBit 992, Nat.testBit 12, fun _ => 0⟩
def d111 : Nat → List Nat := fun _ => []
theorem k111 : Good Tryz.prog gl sh (111, c111) := ⟨Tryz.f111, h111, d111, Tryz.func111, by kernel_rfl, by kernel_rfl⟩

def h112 : Hint := ⟨Nat.testBit 504, Nat.testBit 0, fun _ => 0⟩
def d112 : Nat → List Nat := fun _ => []
theorem k112 : Good Tryz.prog gl sh (112, c112) := ⟨Tryz.f112, h112, d112, Tryz.func112, by kernel_rfl, by kernel_rfl⟩

def h113 : Hint := ⟨Nat.testBit 992, Nat.testBit 12, fun _ => 0⟩
def d113 : Nat → List Nat := fun _ => []
theorem k113 : Good Tryz.prog gl sh (113, c113) := ⟨Tryz.f113, h113, d113, Tryz.func113, by kernel_rfl, by kernel_rfl⟩

def h114 : Hint := ⟨Nat.testBit 33546688, Nat.testBit 32, fun _ => 0⟩
def d114 : Nat → List Nat := fun n => match Nat.beq n 3 with | true => [0, 2, 5, 12] | false => []
theorem k114 : Good Tryz.prog gl sh (114, c114) := ⟨Tryz.f114, h114, d114, Tryz.func114, by kernel_rfl, by kernel_rfl⟩

def h115 : Hint := ⟨Nat.testBit 248, Nat.testBit 6, fun _ => 0⟩
def d115 : Nat → List Nat := fun _ => []
theorem k115 : Good Tryz.prog gl sh (115, c115) := ⟨Tryz.f115, h115, d115, Tryz.func115, by kernel_rfl, by kernel_rfl⟩

def h116 : Hint := ⟨Nat.testBit 457792, Nat.testBit 0, fun _ => 0⟩
def d116 : Nat → List Nat := fun n => match Nat.beq n 2 with | true => [4, 5, 9, 16] | false => []
theorem k116 : Good Tryz.prog gl sh (116, c116) := ⟨Tryz.f116, h116, d116, Tryz.func116, by kernel_rfl, by kernel_rfl⟩

def h117 : Hint := ⟨Nat.testBit 515520, Nat.testBit 4, fun _ => 0⟩
def d117 : Nat → List Nat := fun _ => []
theorem k117 : Good Tryz.prog gl sh (117, c117) := ⟨Tryz.f117, h117, d117, Tryz.func117, by kernel_rfl, by kernel_rfl⟩

def h118 : Hint := ⟨Nat.testBit 2361142691445482946560, Nat.testBit 13316, fun _ => 0⟩
def d118 : Nat → List Nat := fun n => match Nat.beq n 5 with | true => [0, 1, 4, 5, 10, 25, 26, 27, 28] | false => match Nat.beq n 8 with | true => [12, 13, 14, 21, 28, 44, 52, 55] | false => []
theorem k118 : Good Tryz.prog gl sh (118, c118) := ⟨Tryz.f118, h118, d118, Tryz.func118, by kernel_rfl, by kernel_rfl⟩

def h119 : Hint := ⟨Nat.testBit 50301888, Nat.testBit 0, fun _ => 0⟩
def d119 : Nat → List Nat := fun n => match Nat.beq n 4 with | true => [4, 5, 10, 14, 24] | false => []
theorem k119 : Good Tryz.prog gl sh (119, c119) := ⟨Tryz.f119, h119, d119, Tryz.func119, by kernel_rfl, by kernel_rfl⟩

def h124 : Hint := ⟨Nat.testBit 2198956146176, Nat.testBit 44, fun _ => 0⟩
def d124 : Nat → List Nat := fun _ => []
theorem k124 : Good Tryz.prog gl sh (124, c124) := ⟨Tryz.f124, h124, d124, Tryz.func124, by kernel_rfl, by kernel_rfl⟩

def h125 : Hint := ⟨Nat.testBit 262112, Nat.testBit 0, fun _ => 0⟩
def d125 : Nat → List Nat := fun _ => []
theorem k125 : Good Tryz.prog gl sh (125, c125) := ⟨Tryz.f125, h125, d125, Tryz.func125, by kernel_rfl, by kernel_rfl⟩

def h126 : Hint := ⟨Nat.testBit 16352, Nat.testBit 0, fun _ => 0⟩
def d126 : Nat → List Nat := fun _ => []
theorem k126 : Good Tryz.prog gl sh (126, c126) := ⟨Tryz.f126, h126, d126, Tryz.func126, by kernel_rfl, by kernel_rfl⟩

def h127 : Hint := ⟨Nat.testBit 8589934528, Nat.testBit 56, fun _ => 0⟩
def d127 : Nat → List Nat := fun _ => []
theorem k127 : Good Tryz.prog gl sh (127, c127) := ⟨Tryz.f127, h127, d127, Tryz.func127, by kernel_rfl, by kernel_rfl⟩

def h128 : Hint := ⟨Nat.testBit 131040, Nat.testBit 12, fun _ => 0⟩
def d128 : Nat → List Nat := fun _ => []
theorem k128 : Good Tryz.prog gl sh (128, c128) := ⟨Tryz.f128, h128, d128, Tryz.func128, by kernel_rfl, by kernel_rfl⟩

def h129 : Hint := ⟨Nat.testBit 232, Nat.testBit 0, fun _ => 0⟩
def d129 : Nat → List Nat := fun _ => []
theorem k129 : Good Tryz.prog gl sh (129, c129) := ⟨Tryz.f129, h129, d129, Tryz.func129, by kernel_rfl, by kernel_rfl⟩

def h130 : Hint := ⟨Nat.testBit 4611686017420688896, Nat.testBit 132, fun _ => 0⟩
def d130 : Nat → List Nat := fun n => match Nat.beq n 5 with | true => [3, 7, 16, 29] | false => []
theorem k130 : Good Tryz.prog gl sh (130, c130) := ⟨Tryz.f130, h130, d130, Tryz.func130, by kernel_rfl, by kernel_rfl⟩

def h131 : Hint := ⟨Nat.testBit 35184304979904, Nat.testBit 0, fun _ => 0⟩
def d131 : Nat → List Nat := fun _ => []
theorem k131 : Good Tryz.prog gl sh (131, c131) := ⟨Tryz.f131, h131, d131, Tryz.func131, by kernel_rfl, by kernel_rfl⟩

def h132 : Hint := ⟨Nat.testBit 56, Nat.testBit 0, fun _ => 0⟩
def d132 : Nat → List Nat := fun _ => []
theorem k132 : Good Tryz.prog gl sh (132, c132) := ⟨Tryz.f132, h132, d132, Tryz.func132, by kernel_rfl, by kernel_rfl⟩

def h133 : Hint := ⟨Nat.testBit 1920, Nat.testBit 0, fun _ => 0⟩
def d133 : Nat → List Nat := fun _ => []
theorem k133 : Good Tryz.prog gl sh (133, c133) := ⟨Tryz.f133, h133, d133, Tryz.func133, by kernel_rfl, by kernel_rfl⟩

def h134 : Hint := ⟨Nat.testBit 9223367509959228416, Nat.testBit 0, fun n => match Nat.beq n 53 with | true => 1 | false => 0⟩
def d134 : Nat → List Nat := fun n => match Nat.beq n 5 with | true => [2, 6, 8, 9, 14, 36, 42] | false => []
theorem k134 : Good Tryz.prog gl sh (134, c134) := ⟨Tryz.f134, h134, d134, Tryz.func134, by kernel_rfl, by kernel_rfl⟩

def h135 : Hint := ⟨Nat.testBit 8386624, Nat.testBit 32, fun _ => 0⟩
def d135 : Nat → List Nat := fun n => match Nat.beq n 3 with | true => [0, 2, 5, 10] | false => []
theorem k135 : Good Tryz.prog gl sh (135, c135) := ⟨Tryz.f135, h135, d135, Tryz.func135, by kernel_rfl, by kernel_rfl⟩

def h136 : Hint := ⟨Nat.testBit 17592185551872, Nat.testBit 560, fun _ => 0⟩
def d136 : Nat → List Nat := fun n => match Nat.beq n 3 with | true => [1, 2, 6, 9, 18] | false => []
theorem k136 : Good Tryz.prog gl sh (136, c136) := ⟨Tryz.f136, h136, d136, Tryz.func136, by kernel_rfl, by kernel_rfl⟩

def h137 : Hint := ⟨Nat.testBit 131064, Nat.testBit 2, fun _ => 0⟩
def d137 : Nat → List Nat := fun _ => []
theorem k137 : Good Tryz.prog gl sh (137, c137) := ⟨Tryz.f137, h137, d137, Tryz.func137, by kernel_rfl, by kernel_rfl⟩

def h142 : Hint := ⟨Nat.testBit 134215680, Nat.testBit 296, fun _ => 0⟩
def d142 : Nat → List Nat := fun _ => []
theorem k142 : Good Tryz.prog gl sh (142, c142) := ⟨Tryz.f142, h142, d142, Tryz.func142, by kernel_rfl, by kernel_rfl⟩

def h143 : Hint := ⟨Nat.testBit 224, Nat.testBit 0, fun _ => 0⟩
def d143 : Nat → List Nat := fun _ => []
theorem k143 : Good Tryz.prog gl sh (143, c143) := ⟨Tryz.f143, h143, d143, Tryz.func143, by kernel_rfl, by kernel_rfl⟩

def h144 : Hint := ⟨Nat.testBit 356811880641193946689691826088336933575983104, Nat.testBit 0, fun _ => 0⟩
def d144 : Nat → List Nat := fun n => match Nat.beq n 2 with | true => [12, 13, 14, 15, 16, 17, 18, 19, 20, 25, 32, 39, 56, 75, 80, 97, 125] | false => []
theorem k144 : Good Tryz.prog gl sh (144, c144) := ⟨Tryz.f144, h144, d144, Tryz.func144, by kernel_rfl, by kernel_rfl⟩

def h145 : Hint := ⟨Nat.testBit 248, Nat.testBit 0, fun _ => 0⟩
def d145 : Nat → List Nat := fun _ => []
theorem k145 : Good Tryz.prog gl sh (145, c145) := ⟨Tryz.f145, h145, d145, Tryz.func145, by kernel_rfl, by kernel_rfl⟩

def h146 : Hint := ⟨Nat.testBit 2094848, Nat.testBit 0, fun _ => 0⟩
def d146 : Nat → List Nat := fun _ => []
theorem k146 : Good Tryz.prog gl sh (146, c146) := ⟨Tryz.f146, h146, d146, Tryz.func146, by kernel_rfl, by kernel_rfl⟩

def h150 : Hint := ⟨Nat.testBit 145266982579936690688, Nat.testBit 72, fun _ => 0⟩
def d150 : Nat → List Nat := fun n => match Nat.beq n 8 with | true => [0, 7, 8, 10, 13, 14, 15, 16, 17, 25, 30, 40, 50, 61] | false => []
theorem k150 : Good Tryz.prog gl sh (150, c150) := ⟨Tryz.f150, h150, d150, Tryz.func150, by kernel_rfl, by kernel_rfl⟩

def h151 : Hint := ⟨Nat.testBit 2064128, Nat.testBit 0, fun _ => 0⟩
def d151 : Nat → List Nat := fun _ => []
theorem k151 : Good Tryz.prog gl sh (151, c151) := ⟨Tryz.f151, h151, d151, Tryz.func151, by kernel_rfl, by kernel_rfl⟩

def h152 : Hint := ⟨Nat.testBit 9007182074854400, Nat.testBit 0, fun _ => 0⟩
def d152 : Nat → List Nat := fun n => match Nat.beq n 1 with | true => [9, 34] | false => match Nat.beq n 4 with | true => [14, 34] | false => []
theorem k152 : Good Tryz.prog gl sh (152, c152) := ⟨Tryz.f152, h152, d152, Tryz.func152, by kernel_rfl, by kernel_rfl⟩

def h153 : Hint := ⟨Nat.testBit 1152921496014807040, Nat.testBit 0, fun _ => 0⟩
def d153 : Nat → List Nat := fun n => match Nat.beq n 4 with | true => [1, 2, 21] | false => match Nat.beq n 8 with | true => [10, 11, 21, 33] | false => []
theorem k153 : Good Tryz.prog gl sh (153, c153) := ⟨Tryz.f153, h153, d153, Tryz.func153, by kernel_rfl, by kernel_rfl⟩

def h154 : Hint := ⟨Nat.testBit 147573917370944446464, Nat.testBit 0, fun _ => 0⟩
def d154 : Nat → List Nat := fun n => match Nat.beq n 5 with | true => [2, 3, 12, 17, 35, 45] | false => []
theorem k154 : Good Tryz.prog gl sh (154, c154) := ⟨Tryz.f154, h154, d154, Tryz.func154, by kernel_rfl, by kernel_rfl⟩

def h155 : Hint := ⟨Nat.testBit 7890306461253730304, Nat.testBit 0, fun _ => 0⟩
def d155 : Nat → List Nat := fun _ => []
theorem k155 : Good Tryz.prog gl sh (155, c155) := ⟨Tryz.f155, h155, d155, Tryz.func155, by kernel_rfl, by kernel_rfl⟩

def h156 : Hint := ⟨Nat.testBit 17179835392, Nat.testBit 0, fun _ => 0⟩
def d156 : Nat → List Nat := fun n => match Nat.beq n 2 with | true => [1, 2, 3, 15] | false => []
theorem k156 : Good Tryz.prog gl sh (156, c156) := ⟨Tryz.f156, h156, d156, Tryz.func156, by kernel_rfl, by kernel_rfl⟩

def h157 : Hint := ⟨Nat.testBit 2787571881499075797774052896007796375347200, Nat.testBit 0, fun _ => 0⟩
def d157 : Nat → List Nat := fun n => match Nat.beq n 3 with | true => [8, 11, 12, 36, 41, 45, 65, 69, 84, 104, 109, 124] | false => match Nat.beq n 5 with | true => [16, 36] | false => match Nat.beq n 14 with | true => [36, 41, 45, 65, 69, 84] | false => match Nat.beq n 20 with | true => [11, 36, 41, 45, 65, 69, 84, 104, 109, 124] | false => []
theorem k157 : Good Tryz.prog gl sh (157, c157) := ⟨Tryz.f157, h157, d157, Tryz.func157, by kernel_rfl, by kernel_rfl⟩

def h158 : Hint := ⟨Nat.testBit 1237938821800130672580354048, Nat.testBit 0, fun _ => 0⟩
def d158 : Nat → List Nat := fun n => match Nat.beq n 3 with | true => [2, 3, 10, 47, 65, 70] | false => match Nat.beq n 5 with | true => [47, 65] | false => []
theorem k158 : Good Tryz.prog gl sh (158, c158) := ⟨Tryz.f158, h158, d158, Tryz.func158, by kernel_rfl, by kernel_rfl⟩

def h159 : Hint := ⟨Nat.testBit 383123885193474569774374055887950278561850630313328640, Nat.testBit 0, fun _ => 0⟩
def d159 : Nat → List Nat := fun n => match Nat.beq n 3 with | true => [2, 3, 10, 11, 47] | false => match Nat.beq n 5 with | true => [47, 66] | false => match Nat.beq n 13 with | true => [66, 71, 120, 139, 144] | false => match Nat.beq n 15 with | true => [120, 139] | false => []
theorem k159 : Good Tryz.prog gl sh (159, c159) := ⟨Tryz.f159, h159, d159, Tryz.func159, by kernel_rfl, by kernel_rfl⟩

def h160 : Hint := ⟨Nat.testBit 524008, Nat.testBit 0, fun _ => 0⟩
def d160 : Nat → List Nat := fun _ => []
theorem k160 : Good Tryz.prog gl sh (160, c160) := ⟨Tryz.f160, h160, d160, Tryz.func160, by kernel_rfl, by kernel_rfl⟩

def h161 : Hint := ⟨Nat.testBit 33537768, Nat.testBit 0, fun _ => 0⟩
def d161 : Nat → List Nat := fun _ => []
theorem k161 : Good Tryz.prog gl sh (161, c161) := ⟨Tryz.f161, h161, d161, Tryz.func161, by kernel_rfl, by kernel_rfl⟩

def h162 : Hint := ⟨Nat.testBit 68719471104, Nat.testBit 0, fun _ => 0⟩
def d162 : Nat → List Nat := fun _ => []
theorem k162 : Good Tryz.prog gl sh (162, c162) := ⟨Tryz.f162, h162, d162, Tryz.func162, by kernel_rfl, by kernel_rfl⟩

def h163 : Hint := ⟨Nat.testBit 504, Nat.testBit 0, fun _ => 0⟩
def d163 : Nat → List Nat := fun _ => []
theorem k163 : Good Tryz.prog gl sh (163, c163) := ⟨Tryz.f163, h163, d163, Tryz.func163, by kernel_rfl, by kernel_rfl⟩

def h164 : Hint := ⟨Nat.testBit 259968, Nat.testBit 4, fun _ => 0⟩
def d164 : Nat → List Nat := fun _ => []
theorem k164 : Good Tryz.prog gl sh (164, c164) := ⟨Tryz.f164, h164, d164, Tryz.func164, by kernel_rfl, by kernel_rfl⟩

def h165 : Hint := ⟨Nat.testBit 553402321249213742848, Nat.testBit 0, fun _ => 0⟩
def d165 : Nat → List Nat := fun n => match Nat.beq n 5 with | true => [6, 7, 17, 39, 65] | false => []
theorem k165 : Good Tryz.prog gl sh (165, c165) := ⟨Tryz.f165, h165, d165, Tryz.func165, by kernel_rfl, by kernel_rfl⟩

def h166 : Hint := ⟨Nat.testBit 18437732476336979840, Nat.testBit 0, fun _ => 0⟩
def d166 : Nat → List Nat := fun n => match Nat.beq n 0 with | true => [6, 14, 22, 26, 42, 53] | false => []
theorem k166 : Good Tryz.prog gl sh (166, c166) := ⟨Tryz.f166, h166, d166, Tryz.func166, by kernel_rfl, by kernel_rfl⟩

def h167 : Hint := ⟨Nat.testBit 1014784, Nat.testBit 192, fun _ => 0⟩
def d167 : Nat → List Nat := fun _ => []
theorem k167 : Good Tryz.prog gl sh (167, c167) := ⟨Tryz.f167, h167, d167, Tryz.func167, by kernel_rfl, by kernel_rfl⟩

def h168 : Hint := ⟨Nat.testBit 4835702990227041035218944, Nat.testBit 0, fun _ => 0⟩
def d168 : Nat → List Nat := fun n => match Nat.beq n 1 with | true => [1, 11, 18, 40, 58] | false => []
theorem k168 : Good Tryz.prog gl sh (168, c168) := ⟨Tryz.f168, h168, d168, Tryz.func168, by kernel_rfl, by kernel_rfl⟩

def h169 : Hint := ⟨Nat.testBit 120, Nat.testBit 0, fun _ => 0⟩
def d169 : Nat → List Nat := fun _ => []
theorem k169 : Good Tryz.prog gl sh (169, c169) := ⟨Tryz.f169, h169, d169, Tryz.func169, by kernel_rfl, by kernel_rfl⟩

def h170 : Hint := ⟨Nat.testBit 8589934584, Nat.testBit 0, fun _ => 0⟩
def d170 : Nat → List Nat := fun _ => []
theorem k170 : Good Tryz.prog gl sh (170, c170) := ⟨Tryz.f170, h170, d170, Tryz.func170, by kernel_rfl, by kernel_rfl⟩

def h171 : Hint := ⟨Nat.testBit 261632, Nat.testBit 0, fun _ => 0⟩
def d171 : Nat → List Nat := fun _ => []
theorem k171 : Good Tryz.prog gl sh (171, c171) := ⟨Tryz.f171, h171, d171, Tryz.func171, by kernel_rfl, by kernel_rfl⟩

end Go.Mx.Tryz
