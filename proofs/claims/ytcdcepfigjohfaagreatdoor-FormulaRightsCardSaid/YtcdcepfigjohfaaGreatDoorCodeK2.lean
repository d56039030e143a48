/- The compact code is what the checked translation makes of the loaded program: each by the kernel. -/
import Derived.Test.YtcdcepfigjohfaaGreatDoorCode
import Derived.Test.YtcdcepfigjohfaaGreatDoorBd
import Derived.Test.YtcdcepfigjohfaaGreatDoorProg
import Derived.KernelRfl
set_option maxRecDepth 100000
namespace Go.Mx.Tryz
open Go.Proofs

def h122 : Hint := ⟨Nat.testBit 184149205606795480238948490449146349755637850570752, Nat.testBit 0, fun _ => 0⟩
def d122 : Nat → List Nat := fun n => match Nat.beq n 1 with | true => [5, 6, 7, 8, 9, 10, 11, 20] | false => []
theorem k122 : Good Tryz.prog gl sh (122, c122) := ⟨Tryz.f122, h122, d122, Tryz.func122, by kernel_rfl, by kernel_rfl⟩

def h123 : Hint := ⟨Nat.testBit 5050176389969560855884357697536, Nat.testBit 0, fun _ => 0⟩
def d123 : Nat → List Nat := fun n => match Nat.beq n 11 with | true => [2, 28, 30, 34, 46] | false => match Nat.beq n 18 with | true => [2, 18, 28, 30, 34, 68] | false => []
theorem k123 : Good Tryz.prog gl sh (123, c123) := ⟨Tryz.f123, h123, d123, Tryz.func123, by kernel_rfl, by kernel_rfl⟩

def h124 : Hint := ⟨Nat.testBit 4499192957351456, Nat.testBit 0, fun _ => 0⟩
def d124 : Nat → List Nat := fun n => match Nat.beq n 1 with | true => [1, 3, 6, 11, 14, 25] | false => match Nat.beq n 5 with | true => [7, 8, 11, 33, 42] | false => []
theorem k124 : Good Tryz.prog gl sh (124, c124) := ⟨Tryz.f124, h124, d124, Tryz.func124, by kernel_rfl, by kernel_rfl⟩

def h125 : Hint := ⟨Nat.testBit 523248, Nat.testBit 0, fun _ => 0⟩
def d125 : Nat → List Nat := fun _ => []
theorem k125 : Good Tryz.prog gl sh (125, c125) := ⟨Tryz.f125, h125, d125, Tryz.func125, by kernel_rfl, by kernel_rfl⟩

def h126 : Hint := ⟨Nat.testBit 224, Nat.testBit 0, fun _ => 0⟩
def d126 : Nat → List Nat := fun _ => []
theorem k126 : Good Tryz.prog gl sh (126, c126) := ⟨Tryz.f126, h126, d126, Tryz.func126, by kernel_rfl, by kernel_rfl⟩

def h127 : Hint := ⟨Nat.testBit 8849820963288626548736, Nat.testBit 0, fun _ => 0⟩
def d127 : Nat → List Nat := fun _ => []
theorem k127 : Good Tryz.prog gl sh (127, c127) := ⟨Tryz.f127, h127, d127, Tryz.func127, by kernel_rfl, by kernel_rfl⟩

def h128 : Hint := ⟨Nat.testBit 992, Nat.testBit 0, fun _ => 0⟩
def d128 : Nat → List Nat := fun _ => []
theorem k128 : Good Tryz.prog gl sh (128, c128) := ⟨Tryz.f128, h128, d128, Tryz.func128, by kernel_rfl, by kernel_rfl⟩

def h129 : Hint := ⟨Nat.testBit 992, Nat.testBit 0, fun _ => 0⟩
def d129 : Nat → List Nat := fun _ => []
theorem k129 : Good Tryz.prog gl sh (129, c129) := ⟨Tryz.f129, h129, d129, Tryz.func129, by kernel_rfl, by kernel_rfl⟩

def h130 : Hint := ⟨Nat.testBit 32640, Nat.testBit 0, fun _ => 0⟩
def d130 : Nat → List Nat := fun _ => []
theorem k130 : Good Tryz.prog gl sh (130, c130) := ⟨Tryz.f130, h130, d130, Tryz.func130, by kernel_rfl, by kernel_rfl⟩

def h131 : Hint := ⟨Nat.testBit 32640, Nat.testBit 0, fun _ => 0⟩
def d131 : Nat → List Nat := fun _ => []
theorem k131 : Good Tryz.prog gl sh (131, c131) := ⟨Tryz.f131, h131, d131, Tryz.func131, by kernel_rfl, by kernel_rfl⟩

def h132 : Hint := ⟨Nat.testBit 4290768896, Nat.testBit 0, fun _ => 0⟩
def d132 : Nat → List Nat := fun _ => []
theorem k132 : Good Tryz.prog gl sh (132, c132) := ⟨Tryz.f132, h132, d132, Tryz.func132, by kernel_rfl, by kernel_rfl⟩

def h133 : Hint := ⟨Nat.testBit 4290768896, Nat.testBit 0, fun _ => 0⟩
def d133 : Nat → List Nat := fun _ => []
theorem k133 : Good Tryz.prog gl sh (133, c133) := ⟨Tryz.f133, h133, d133, Tryz.func133, by kernel_rfl, by kernel_rfl⟩

def h134 : Hint := ⟨Nat.testBit 268172288, Nat.testBit 0, fun _ => 0⟩
def d134 : Nat → List Nat := fun _ => []
theorem k134 : Good Tryz.prog gl sh (134, c134) := ⟨Tryz.f134, h134, d134, Tryz.func134, by kernel_rfl, by kernel_rfl⟩

def h135 : Hint := ⟨Nat.testBit 56, Nat.testBit 0, fun _ => 0⟩
def d135 : Nat → List Nat := fun _ => []
theorem k135 : Good Tryz.prog gl sh (135, c135) := ⟨Tryz.f135, h135, d135, Tryz.func135, by kernel_rfl, by kernel_rfl⟩

def h136 : Hint := ⟨Nat.testBit 0, Nat.testBit 0, fun _ => 0⟩
def d136 : Nat → List Nat := fun _ => []
theorem k136 : Good Tryz.prog gl sh (136, c136) := ⟨Tryz.f136, h136, d136, Tryz.func136, by kernel_rfl, by kernel_rfl⟩

def h137 : Hint := ⟨Nat.testBit 248, Nat.testBit 0, fun _ => 0⟩
def d137 : Nat → List Nat := fun _ => []
theorem k137 : Good Tryz.prog gl sh (137, c137) := ⟨Tryz.f137, h137, d137, Tryz.func137, by kernel_rfl, by kernel_rfl⟩

def h138 : Hint := ⟨Nat.testBit 248, Nat.testBit 0, fun _ => 0⟩
def d138 : Nat → List Nat := fun _ => []
theorem k138 : Good Tryz.prog gl sh (138, c138) := ⟨Tryz.f138, h138, d138, Tryz.func138, by kernel_rfl, by kernel_rfl⟩

def h139 : Hint := ⟨Nat.testBit 166153182560275531675699597790863360, Nat.testBit 512, fun _ => 0⟩
def d139 : Nat → List Nat := fun _ => []
theorem k139 : Good Tryz.prog gl sh (139, c139) := ⟨Tryz.f139, h139, d139, Tryz.func139, by kernel_rfl, by kernel_rfl⟩

def h140 : Hint := ⟨Nat.testBit 10448029773009037967681152029858612457160704, Nat.testBit 0, fun _ => 0⟩
def d140 : Nat → List Nat := fun n => match Nat.beq n 15 with | true => [4, 11, 16, 24, 31, 36, 59, 64, 73, 93, 107, 132] | false => []
theorem k140 : Good Tryz.prog gl sh (140, c140) := ⟨Tryz.f140, h140, d140, Tryz.func140, by kernel_rfl, by kernel_rfl⟩

def h141 : Hint := ⟨Nat.testBit 5237291114413470221964124527562332389312007838629888, Nat.testBit 0, fun _ => 0⟩
def d141 : Nat → List Nat := fun n => match Nat.beq n 36 with | true => [0, 2, 6, 7, 15, 16, 17, 19, 25, 32, 37, 40, 52, 64, 77, 83, 85, 90, 92, 102, 106, 112, 121, 137, 141, 159] | false => []
theorem k141 : Good Tryz.prog gl sh (141, c141) := ⟨Tryz.f141, h141, d141, Tryz.func141, by kernel_rfl, by kernel_rfl⟩

def h142 : Hint := ⟨Nat.testBit 262064, Nat.testBit 0, fun _ => 0⟩
def d142 : Nat → List Nat := fun _ => []
theorem k142 : Good Tryz.prog gl sh (142, c142) := ⟨Tryz.f142, h142, d142, Tryz.func142, by kernel_rfl, by kernel_rfl⟩

def h143 : Hint := ⟨Nat.testBit 88, Nat.testBit 0, fun _ => 0⟩
def d143 : Nat → List Nat := fun _ => []
theorem k143 : Good Tryz.prog gl sh (143, c143) := ⟨Tryz.f143, h143, d143, Tryz.func143, by kernel_rfl, by kernel_rfl⟩

def h144 : Hint := ⟨Nat.testBit 16360, Nat.testBit 0, fun _ => 0⟩
def d144 : Nat → List Nat := fun _ => []
theorem k144 : Good Tryz.prog gl sh (144, c144) := ⟨Tryz.f144, h144, d144, Tryz.func144, by kernel_rfl, by kernel_rfl⟩

def h145 : Hint := ⟨Nat.testBit 16360, Nat.testBit 0, fun _ => 0⟩
def d145 : Nat → List Nat := fun _ => []
theorem k145 : Good Tryz.prog gl sh (145, c145) := ⟨Tryz.f145, h145, d145, Tryz.func145, by kernel_rfl, by kernel_rfl⟩

def h148 : Hint := ⟨Nat.testBit 56, Nat.testBit 0, fun _ => 0⟩
def d148 : Nat → List Nat := fun _ => []
theorem k148 : Good Tryz.prog gl sh (148, c148) := ⟨Tryz.f148, h148, d148, Tryz.func148, by kernel_rfl, by kernel_rfl⟩

def h149 : Hint := ⟨Nat.testBit 2266735911759287759665152, Nat.testBit 0, fun _ => 0⟩
def d149 : Nat → List Nat := fun n => match Nat.beq n 5 with | true => [4, 20] | false => match Nat.beq n 11 with | true => [9, 20, 39, 44, 77] | false => []
theorem k149 : Good Tryz.prog gl sh (149, c149) := ⟨Tryz.f149, h149, d149, Tryz.func149, by kernel_rfl, by kernel_rfl⟩

def h150 : Hint := ⟨Nat.testBit 24, Nat.testBit 0, fun _ => 0⟩
def d150 : Nat → List Nat := fun _ => []
theorem k150 : Good Tryz.prog gl sh (150, c150) := ⟨Tryz.f150, h150, d150, Tryz.func150, by kernel_rfl, by kernel_rfl⟩

def h151 : Hint := ⟨Nat.testBit 16547776618866959376124215232, Nat.testBit 0, fun _ => 0⟩
def d151 : Nat → List Nat := fun n => match Nat.beq n 10 with | true => [2, 18, 46, 54, 83, 87, 89, 91] | false => []
theorem k151 : Good Tryz.prog gl sh (151, c151) := ⟨Tryz.f151, h151, d151, Tryz.func151, by kernel_rfl, by kernel_rfl⟩

def h153 : Hint := ⟨Nat.testBit 548648513024, Nat.testBit 0, fun _ => 0⟩
def d153 : Nat → List Nat := fun n => match Nat.beq n 3 with | true => [2, 3, 12] | false => match Nat.beq n 8 with | true => [0, 5, 12, 25, 30] | false => []
theorem k153 : Good Tryz.prog gl sh (153, c153) := ⟨Tryz.f153, h153, d153, Tryz.func153, by kernel_rfl, by kernel_rfl⟩

def h183 : Hint := ⟨Nat.testBit 2047, Nat.testBit 0, fun _ => 0⟩
def d183 : Nat → List Nat := fun _ => []
theorem k183 : Good Tryz.prog gl sh (183, c183) := ⟨Tryz.f183, h183, d183, Tryz.func183, by kernel_rfl, by kernel_rfl⟩

end Go.Mx.Tryz
