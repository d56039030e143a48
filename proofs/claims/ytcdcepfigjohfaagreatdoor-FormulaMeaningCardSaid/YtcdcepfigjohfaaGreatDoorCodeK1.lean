/- The compact code is what the checked translation makes of the loaded program: each by the kernel. -/
import Derived.Test.YtcdcepfigjohfaaGreatDoorCode
import Derived.Test.YtcdcepfigjohfaaGreatDoorBd
import Derived.Test.YtcdcepfigjohfaaGreatDoorProg
import Derived.KernelRfl
set_option maxRecDepth 100000
namespace Go.Mx.Tryz
open Go.Proofs

def h105 : Hint := ⟨Nat.testBit 262112, Nat.testBit 0, fun _ => 0⟩
def d105 : Nat → List Nat := fun _ => []
theorem k105 : Good Tryz.prog gl sh (105, c105) := ⟨Tryz.f105, h105, d105, Tryz.func105, by kernel_rfl, by kernel_rfl⟩

def h106 : Hint := ⟨Nat.testBit 8032, Nat.testBit 0, fun _ => 0⟩
def d106 : Nat → List Nat := fun _ => []
theorem k106 : Good Tryz.prog gl sh (106, c106) := ⟨Tryz.f106, h106, d106, Tryz.func106, by kernel_rfl, by kernel_rfl⟩

def h107 : Hint := ⟨Nat.testBit 151041866288734429771776, Nat.testBit 0, fun _ => 0⟩
def d107 : Nat → List Nat := fun n => match Nat.beq n 10 with | true => [0, 2, 3, 4, 8, 30, 39, 44, 50, 56] | false => []
theorem k107 : Good Tryz.prog gl sh (107, c107) := ⟨Tryz.f107, h107, d107, Tryz.func107, by kernel_rfl, by kernel_rfl⟩

def h108 : Hint := ⟨Nat.testBit 8778845511680, Nat.testBit 0, fun _ => 0⟩
def d108 : Nat → List Nat := fun _ => []
theorem k108 : Good Tryz.prog gl sh (108, c108) := ⟨Tryz.f108, h108, d108, Tryz.func108, by kernel_rfl, by kernel_rfl⟩

def h120 : Hint := ⟨Nat.testBit 32744, Nat.testBit 0, fun _ => 0⟩
def d120 : Nat → List Nat := fun _ => []
theorem k120 : Good Tryz.prog gl sh (120, c120) := ⟨Tryz.f120, h120, d120, Tryz.func120, by kernel_rfl, by kernel_rfl⟩

def h121 : Hint := ⟨Nat.testBit 32752, Nat.testBit 0, fun _ => 0⟩
def d121 : Nat → List Nat := fun _ => []
theorem k121 : Good Tryz.prog gl sh (121, c121) := ⟨Tryz.f121, h121, d121, Tryz.func121, by kernel_rfl, by kernel_rfl⟩

def h122 : Hint := ⟨Nat.testBit 184149205606795480238948490449146349755637850570752, Nat.testBit 0, fun _ => 0⟩
def d122 : Nat → List Nat := fun n => match Nat.beq n 1 with | true => [5, 6, 7, 8, 9, 10, 11, 20] | false => []
theorem k122 : Good Tryz.prog gl sh (122, c122) := ⟨Tryz.f122, h122, d122, Tryz.func122, by kernel_rfl, by kernel_rfl⟩

def h124 : Hint := ⟨Nat.testBit 4499192957351456, Nat.testBit 0, fun _ => 0⟩
def d124 : Nat → List Nat := fun n => match Nat.beq n 1 with | true => [1, 3, 6, 11, 14, 25] | false => match Nat.beq n 5 with | true => [7, 8, 11, 33, 42] | false => []
theorem k124 : Good Tryz.prog gl sh (124, c124) := ⟨Tryz.f124, h124, d124, Tryz.func124, by kernel_rfl, by kernel_rfl⟩

def h126 : Hint := ⟨Nat.testBit 224, Nat.testBit 0, fun _ => 0⟩
def d126 : Nat → List Nat := fun _ => []
theorem k126 : Good Tryz.prog gl sh (126, c126) := ⟨Tryz.f126, h126, d126, Tryz.func126, by kernel_rfl, by kernel_rfl⟩

def h128 : Hint := ⟨Nat.testBit 992, Nat.testBit 0, fun _ => 0⟩
def d128 : Nat → List Nat := fun _ => []
theorem k128 : Good Tryz.prog gl sh (128, c128) := ⟨Tryz.f128, h128, d128, Tryz.func128, by kernel_rfl, by kernel_rfl⟩

def h129 : Hint := ⟨Nat.testBit 992, Nat.testBit 0, fun _ => 0⟩
def d129 : Nat → List Nat := fun _ => []
theorem k129 : Good Tryz.prog gl sh (129, c129) := ⟨Tryz.f129, h129, d129, Tryz.func129, by kernel_rfl, by kernel_rfl⟩

def h130 : Hint := ⟨Nat.testBit 32640, Nat.testBit 0, fun _ => 0⟩
def d130 : Nat → List Nat := fun _ => []
theorem k130 : Good Tryz.prog gl sh (130, c130) := ⟨Tryz.f130, h130, d130, Tryz.func130, by kernel_rfl, by kernel_rfl⟩

def h131 : Hint := ⟨Nat.testBit 32640, Nat.testBit 0, fun _ => 0⟩
def d131 : Nat → List Nat := fun _ => []
theorem k131 : Good Tryz.prog gl sh (131, c131) := ⟨Tryz.f131, h131, d131, Tryz.func131, by kernel_rfl, by kernel_rfl⟩

def h135 : Hint := ⟨Nat.testBit 56, Nat.testBit 0, fun _ => 0⟩
def d135 : Nat → List Nat := fun _ => []
theorem k135 : Good Tryz.prog gl sh (135, c135) := ⟨Tryz.f135, h135, d135, Tryz.func135, by kernel_rfl, by kernel_rfl⟩

def h136 : Hint := ⟨Nat.testBit 0, Nat.testBit 0, fun _ => 0⟩
def d136 : Nat → List Nat := fun _ => []
theorem k136 : Good Tryz.prog gl sh (136, c136) := ⟨Tryz.f136, h136, d136, Tryz.func136, by kernel_rfl, by kernel_rfl⟩

def h140 : Hint := ⟨Nat.testBit 10448029773009037967681152029858612457160704, Nat.testBit 0, fun _ => 0⟩
def d140 : Nat → List Nat := fun n => match Nat.beq n 15 with | true => [4, 11, 16, 24, 31, 36, 59, 64, 73, 93, 107, 132] | false => []
theorem k140 : Good Tryz.prog gl sh (140, c140) := ⟨Tryz.f140, h140, d140, Tryz.func140, by kernel_rfl, by kernel_rfl⟩

def h142 : Hint := ⟨Nat.testBit 262064, Nat.testBit 0, fun _ => 0⟩
def d142 : Nat → List Nat := fun _ => []
theorem k142 : Good Tryz.prog gl sh (142, c142) := ⟨Tryz.f142, h142, d142, Tryz.func142, by kernel_rfl, by kernel_rfl⟩

def h143 : Hint := ⟨Nat.testBit 88, Nat.testBit 0, fun _ => 0⟩
def d143 : Nat → List Nat := fun _ => []
theorem k143 : Good Tryz.prog gl sh (143, c143) := ⟨Tryz.f143, h143, d143, Tryz.func143, by kernel_rfl, by kernel_rfl⟩

end Go.Mx.Tryz
