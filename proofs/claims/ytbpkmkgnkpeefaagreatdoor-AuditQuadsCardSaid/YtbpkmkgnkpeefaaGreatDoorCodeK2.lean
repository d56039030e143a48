/- The compact code is what the checked translation makes of the loaded program: each by the kernel. -/
import Derived.Test.YtbpkmkgnkpeefaaGreatDoorCode
import Derived.Test.YtbpkmkgnkpeefaaGreatDoorBd
import Derived.Test.YtbpkmkgnkpeefaaGreatDoorProg
import Derived.KernelRfl
set_option maxRecDepth 100000
namespace Go.Mx.Tryz
open Go.Proofs

def h172 : Hint := ⟨Nat.testBit 2199023247360, Nat.testBit 0, fun _ => 0⟩
def d172 : Nat → List Nat := fun _ => []
theorem k172 : Good Tryz.prog gl sh (172, c172) := ⟨Tryz.f172, h172, d172, Tryz.func172, by kernel_rfl, by kernel_rfl⟩

def h173 : Hint := ⟨Nat.testBit 32744, Nat.testBit 0, fun _ => 0⟩
def d173 : Nat → List Nat := fun _ => []
theorem k173 : Good Tryz.prog gl sh (173, c173) := ⟨Tryz.f173, h173, d173, Tryz.func173, by kernel_rfl, by kernel_rfl⟩

def h174 : Hint := ⟨Nat.testBit 32752, Nat.testBit 0, fun _ => 0⟩
def d174 : Nat → List Nat := fun _ => []
theorem k174 : Good Tryz.prog gl sh (174, c174) := ⟨Tryz.f174, h174, d174, Tryz.func174, by kernel_rfl, by kernel_rfl⟩

def h175 : Hint := ⟨Nat.testBit 184149205606795480238948490449146349755637850570752, Nat.testBit 0, fun _ => 0⟩
def d175 : Nat → List Nat := fun n => match Nat.beq n 1 with | true => [5, 6, 7, 8, 9, 10, 11, 20] | false => []
theorem k175 : Good Tryz.prog gl sh (175, c175) := ⟨Tryz.f175, h175, d175, Tryz.func175, by kernel_rfl, by kernel_rfl⟩

def h176 : Hint := ⟨Nat.testBit 5050176389969560855884357697536, Nat.testBit 0, fun _ => 0⟩
def d176 : Nat → List Nat := fun n => match Nat.beq n 11 with | true => [2, 28, 30, 34, 46] | false => match Nat.beq n 18 with | true => [2, 18, 28, 30, 34, 68] | false => []
theorem k176 : Good Tryz.prog gl sh (176, c176) := ⟨Tryz.f176, h176, d176, Tryz.func176, by kernel_rfl, by kernel_rfl⟩

def h177 : Hint := ⟨Nat.testBit 4290768896, Nat.testBit 0, fun _ => 0⟩
def d177 : Nat → List Nat := fun _ => []
theorem k177 : Good Tryz.prog gl sh (177, c177) := ⟨Tryz.f177, h177, d177, Tryz.func177, by kernel_rfl, by kernel_rfl⟩

def h178 : Hint := ⟨Nat.testBit 56, Nat.testBit 0, fun _ => 0⟩
def d178 : Nat → List Nat := fun _ => []
theorem k178 : Good Tryz.prog gl sh (178, c178) := ⟨Tryz.f178, h178, d178, Tryz.func178, by kernel_rfl, by kernel_rfl⟩

def h179 : Hint := ⟨Nat.testBit 0, Nat.testBit 0, fun _ => 0⟩
def d179 : Nat → List Nat := fun _ => []
theorem k179 : Good Tryz.prog gl sh (179, c179) := ⟨Tryz.f179, h179, d179, Tryz.func179, by kernel_rfl, by kernel_rfl⟩

def h180 : Hint := ⟨Nat.testBit 248, Nat.testBit 0, fun _ => 0⟩
def d180 : Nat → List Nat := fun _ => []
theorem k180 : Good Tryz.prog gl sh (180, c180) := ⟨Tryz.f180, h180, d180, Tryz.func180, by kernel_rfl, by kernel_rfl⟩

def h181 : Hint := ⟨Nat.testBit 248, Nat.testBit 0, fun _ => 0⟩
def d181 : Nat → List Nat := fun _ => []
theorem k181 : Good Tryz.prog gl sh (181, c181) := ⟨Tryz.f181, h181, d181, Tryz.func181, by kernel_rfl, by kernel_rfl⟩

def h182 : Hint := ⟨Nat.testBit 16360, Nat.testBit 0, fun _ => 0⟩
def d182 : Nat → List Nat := fun _ => []
theorem k182 : Good Tryz.prog gl sh (182, c182) := ⟨Tryz.f182, h182, d182, Tryz.func182, by kernel_rfl, by kernel_rfl⟩

def h183 : Hint := ⟨Nat.testBit 16360, Nat.testBit 0, fun _ => 0⟩
def d183 : Nat → List Nat := fun _ => []
theorem k183 : Good Tryz.prog gl sh (183, c183) := ⟨Tryz.f183, h183, d183, Tryz.func183, by kernel_rfl, by kernel_rfl⟩

end Go.Mx.Tryz
