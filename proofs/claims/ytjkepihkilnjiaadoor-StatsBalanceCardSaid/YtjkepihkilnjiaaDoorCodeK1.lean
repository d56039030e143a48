/- The compact code is what the checked translation makes of the loaded program: each by the kernel. -/
import Derived.Test.YtjkepihkilnjiaaDoorCode
import Derived.Test.YtjkepihkilnjiaaDoorBd
import Derived.Test.YtjkepihkilnjiaaDoorProg
import Derived.KernelRfl
set_option maxRecDepth 100000
namespace Go.Mx.Tryd
open Go.Proofs

def h88 : Hint := ⟨Nat.testBit 1152921496014807040, Nat.testBit 0, fun _ => 0⟩
def d88 : Nat → List Nat := fun n => match Nat.beq n 4 with | true => [1, 2, 21] | false => match Nat.beq n 8 with | true => [10, 11, 21, 33] | false => []
theorem k88 : Good Tryd.prog gl sh (88, c88) := ⟨Tryd.f88, h88, d88, Tryd.func88, by kernel_rfl, by kernel_rfl⟩

def h89 : Hint := ⟨Nat.testBit 147573917370944446464, Nat.testBit 0, fun _ => 0⟩
def d89 : Nat → List Nat := fun n => match Nat.beq n 5 with | true => [2, 3, 12, 17, 35, 45] | false => []
theorem k89 : Good Tryd.prog gl sh (89, c89) := ⟨Tryd.f89, h89, d89, Tryd.func89, by kernel_rfl, by kernel_rfl⟩

def h90 : Hint := ⟨Nat.testBit 7890306461253730304, Nat.testBit 0, fun _ => 0⟩
def d90 : Nat → List Nat := fun _ => []
theorem k90 : Good Tryd.prog gl sh (90, c90) := ⟨Tryd.f90, h90, d90, Tryd.func90, by kernel_rfl, by kernel_rfl⟩

def h91 : Hint := ⟨Nat.testBit 17179835392, Nat.testBit 0, fun _ => 0⟩
def d91 : Nat → List Nat := fun n => match Nat.beq n 2 with | true => [1, 2, 3, 15] | false => []
theorem k91 : Good Tryd.prog gl sh (91, c91) := ⟨Tryd.f91, h91, d91, Tryd.func91, by kernel_rfl, by kernel_rfl⟩

def h92 : Hint := ⟨Nat.testBit 2787571881499075797774052896007796375347200, Nat.testBit 0, fun _ => 0⟩
def d92 : Nat → List Nat := fun n => match Nat.beq n 3 with | true => [8, 11, 12, 36, 41, 45, 65, 69, 84, 104, 109, 124] | false => match Nat.beq n 5 with | true => [16, 36] | false => match Nat.beq n 14 with | true => [36, 41, 45, 65, 69, 84] | false => match Nat.beq n 20 with | true => [11, 36, 41, 45, 65, 69, 84, 104, 109, 124] | false => []
theorem k92 : Good Tryd.prog gl sh (92, c92) := ⟨Tryd.f92, h92, d92, Tryd.func92, by kernel_rfl, by kernel_rfl⟩

def h93 : Hint := ⟨Nat.testBit 1237938821800130672580354048, Nat.testBit 0, fun _ => 0⟩
def d93 : Nat → List Nat := fun n => match Nat.beq n 3 with | true => [2, 3, 10, 47, 65, 70] | false => match Nat.beq n 5 with | true => [47, 65] | false => []
theorem k93 : Good Tryd.prog gl sh (93, c93) := ⟨Tryd.f93, h93, d93, Tryd.func93, by kernel_rfl, by kernel_rfl⟩

def h94 : Hint := ⟨Nat.testBit 383123885193474569774374055887950278561850630313328640, Nat.testBit 0, fun _ => 0⟩
def d94 : Nat → List Nat := fun n => match Nat.beq n 3 with | true => [2, 3, 10, 11, 47] | false => match Nat.beq n 5 with | true => [47, 66] | false => match Nat.beq n 13 with | true => [66, 71, 120, 139, 144] | false => match Nat.beq n 15 with | true => [120, 139] | false => []
theorem k94 : Good Tryd.prog gl sh (94, c94) := ⟨Tryd.f94, h94, d94, Tryd.func94, by kernel_rfl, by kernel_rfl⟩

def h95 : Hint := ⟨Nat.testBit 524008, Nat.testBit 0, fun _ => 0⟩
def d95 : Nat → List Nat := fun _ => []
theorem k95 : Good Tryd.prog gl sh (95, c95) := ⟨Tryd.f95, h95, d95, Tryd.func95, by kernel_rfl, by kernel_rfl⟩

def h96 : Hint := ⟨Nat.testBit 4835702990227041035218944, Nat.testBit 0, fun _ => 0⟩
def d96 : Nat → List Nat := fun n => match Nat.beq n 1 with | true => [1, 11, 18, 40, 58] | false => []
theorem k96 : Good Tryd.prog gl sh (96, c96) := ⟨Tryd.f96, h96, d96, Tryd.func96, by kernel_rfl, by kernel_rfl⟩

def h97 : Hint := ⟨Nat.testBit 120, Nat.testBit 0, fun _ => 0⟩
def d97 : Nat → List Nat := fun _ => []
theorem k97 : Good Tryd.prog gl sh (97, c97) := ⟨Tryd.f97, h97, d97, Tryd.func97, by kernel_rfl, by kernel_rfl⟩

def h98 : Hint := ⟨Nat.testBit 8589934584, Nat.testBit 0, fun _ => 0⟩
def d98 : Nat → List Nat := fun _ => []
theorem k98 : Good Tryd.prog gl sh (98, c98) := ⟨Tryd.f98, h98, d98, Tryd.func98, by kernel_rfl, by kernel_rfl⟩

def h99 : Hint := ⟨Nat.testBit 261632, Nat.testBit 0, fun _ => 0⟩
def d99 : Nat → List Nat := fun _ => []
theorem k99 : Good Tryd.prog gl sh (99, c99) := ⟨Tryd.f99, h99, d99, Tryd.func99, by kernel_rfl, by kernel_rfl⟩

def h100 : Hint := ⟨Nat.testBit 2199023247360, Nat.testBit 0, fun _ => 0⟩
def d100 : Nat → List Nat := fun _ => []
theorem k100 : Good Tryd.prog gl sh (100, c100) := ⟨Tryd.f100, h100, d100, Tryd.func100, by kernel_rfl, by kernel_rfl⟩

def h101 : Hint := ⟨Nat.testBit 4290768896, Nat.testBit 0, fun _ => 0⟩
def d101 : Nat → List Nat := fun _ => []
theorem k101 : Good Tryd.prog gl sh (101, c101) := ⟨Tryd.f101, h101, d101, Tryd.func101, by kernel_rfl, by kernel_rfl⟩

end Go.Mx.Tryd
