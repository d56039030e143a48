/- The compact code is what the checked translation makes of the loaded program: each by the kernel. -/
import Derived.Test.YtfllcbohggcmfaaGreatDoorCode
import Derived.Test.YtfllcbohggcmfaaGreatDoorBd
import Derived.Test.YtfllcbohggcmfaaGreatDoorProg
import Derived.KernelRfl
set_option maxRecDepth 100000
namespace Go.Mx.Tryz
open Go.Proofs

def h129 : Hint := ⟨Nat.testBit 224, Nat.testBit 0, fun _ => 0⟩
def d129 : Nat → List Nat := fun _ => []
theorem k129 : Good Tryz.prog gl sh (129, c129) := ⟨Tryz.f129, h129, d129, Tryz.func129, by kernel_rfl, by kernel_rfl⟩

def h130 : Hint := ⟨Nat.testBit 130032, Nat.testBit 0, fun _ => 0⟩
def d130 : Nat → List Nat := fun _ => []
theorem k130 : Good Tryz.prog gl sh (130, c130) := ⟨Tryz.f130, h130, d130, Tryz.func130, by kernel_rfl, by kernel_rfl⟩

def h131 : Hint := ⟨Nat.testBit 24, Nat.testBit 0, fun _ => 0⟩
def d131 : Nat → List Nat := fun _ => []
theorem k131 : Good Tryz.prog gl sh (131, c131) := ⟨Tryz.f131, h131, d131, Tryz.func131, by kernel_rfl, by kernel_rfl⟩

def h132 : Hint := ⟨Nat.testBit 16547776618866959376124215232, Nat.testBit 0, fun _ => 0⟩
def d132 : Nat → List Nat := fun n => match Nat.beq n 10 with | true => [2, 18, 46, 54, 83, 87, 89, 91] | false => []
theorem k132 : Good Tryz.prog gl sh (132, c132) := ⟨Tryz.f132, h132, d132, Tryz.func132, by kernel_rfl, by kernel_rfl⟩

def h163 : Hint := ⟨Nat.testBit 2047, Nat.testBit 0, fun _ => 0⟩
def d163 : Nat → List Nat := fun _ => []
theorem k163 : Good Tryz.prog gl sh (163, c163) := ⟨Tryz.f163, h163, d163, Tryz.func163, by kernel_rfl, by kernel_rfl⟩

end Go.Mx.Tryz
