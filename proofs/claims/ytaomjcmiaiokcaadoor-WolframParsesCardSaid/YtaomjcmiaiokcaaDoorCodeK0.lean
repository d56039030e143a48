/- The compact code is what the checked translation makes of the loaded program: each by the kernel. -/
import Derived.Test.YtaomjcmiaiokcaaDoorCode
import Derived.Test.YtaomjcmiaiokcaaDoorBd
import Derived.Test.YtaomjcmiaiokcaaDoorProg
import Derived.KernelRfl
set_option maxRecDepth 100000
namespace Go.Mx.Tryd
open Go.Proofs

def h6 : Hint := ⟨Nat.testBit 1125899906832384, Nat.testBit 0, fun _ => 0⟩
def d6 : Nat → List Nat := fun _ => []
theorem k6 : Good Tryd.prog gl sh (6, c6) := ⟨Tryd.f6, h6, d6, Tryd.func6, by kernel_rfl, by kernel_rfl⟩

def h9 : Hint := ⟨Nat.testBit 16750528, Nat.testBit 20, fun _ => 0⟩
def d9 : Nat → List Nat := fun n => match Nat.beq n 5 with | true => [3, 5, 11, 14] | false => []
theorem k9 : Good Tryd.prog gl sh (9, c9) := ⟨Tryd.f9, h9, d9, Tryd.func9, by kernel_rfl, by kernel_rfl⟩

def h11 : Hint := ⟨Nat.testBit 1047616, Nat.testBit 0, fun _ => 0⟩
def d11 : Nat → List Nat := fun n => match Nat.beq n 5 with | true => [0, 2, 3, 5, 7, 9] | false => []
theorem k11 : Good Tryd.prog gl sh (11, c11) := ⟨Tryd.f11, h11, d11, Tryd.func11, by kernel_rfl, by kernel_rfl⟩

def h12 : Hint := ⟨Nat.testBit 1298074214633706907132624081182720, Nat.testBit 2, fun _ => 0⟩
def d12 : Nat → List Nat := fun _ => []
theorem k12 : Good Tryd.prog gl sh (12, c12) := ⟨Tryd.f12, h12, d12, Tryd.func12, by kernel_rfl, by kernel_rfl⟩

def h14 : Hint := ⟨Nat.testBit 137438740224, Nat.testBit 80, fun _ => 0⟩
def d14 : Nat → List Nat := fun n => match Nat.beq n 6 with | true => [0, 2, 3, 5, 7, 14, 17] | false => []
theorem k14 : Good Tryd.prog gl sh (14, c14) := ⟨Tryd.f14, h14, d14, Tryd.func14, by kernel_rfl, by kernel_rfl⟩

def h15 : Hint := ⟨Nat.testBit 2147270400, Nat.testBit 80, fun _ => 0⟩
def d15 : Nat → List Nat := fun n => match Nat.beq n 6 with | true => [0, 2, 3, 5, 7, 14, 17] | false => []
theorem k15 : Good Tryd.prog gl sh (15, c15) := ⟨Tryd.f15, h15, d15, Tryd.func15, by kernel_rfl, by kernel_rfl⟩

def h18 : Hint := ⟨Nat.testBit 4436738413991983615768434573312, Nat.testBit 0, fun _ => 0⟩
def d18 : Nat → List Nat := fun _ => []
theorem k18 : Good Tryd.prog gl sh (18, c18) := ⟨Tryd.f18, h18, d18, Tryd.func18, by kernel_rfl, by kernel_rfl⟩

def h19 : Hint := ⟨Nat.testBit 70948819512634246095456060784640, Nat.testBit 0, fun _ => 0⟩
def d19 : Nat → List Nat := fun n => match Nat.beq n 8 with | true => [2, 3, 4, 5, 28, 45, 51] | false => []
theorem k19 : Good Tryd.prog gl sh (19, c19) := ⟨Tryd.f19, h19, d19, Tryd.func19, by kernel_rfl, by kernel_rfl⟩

def h20 : Hint := ⟨Nat.testBit 3220746112, Nat.testBit 0, fun _ => 0⟩
def d20 : Nat → List Nat := fun n => match Nat.beq n 7 with | true => [4, 5, 12, 14, 18] | false => []
theorem k20 : Good Tryd.prog gl sh (20, c20) := ⟨Tryd.f20, h20, d20, Tryd.func20, by kernel_rfl, by kernel_rfl⟩

def h21 : Hint := ⟨Nat.testBit 25768713984, Nat.testBit 0, fun _ => 0⟩
def d21 : Nat → List Nat := fun n => match Nat.beq n 7 with | true => [4, 5, 13, 15, 20] | false => []
theorem k21 : Good Tryd.prog gl sh (21, c21) := ⟨Tryd.f21, h21, d21, Tryd.func21, by kernel_rfl, by kernel_rfl⟩

def h22 : Hint := ⟨Nat.testBit 33536960, Nat.testBit 0, fun _ => 0⟩
def d22 : Nat → List Nat := fun n => match Nat.beq n 4 with | true => [4, 10, 14, 25] | false => []
theorem k22 : Good Tryd.prog gl sh (22, c22) := ⟨Tryd.f22, h22, d22, Tryd.func22, by kernel_rfl, by kernel_rfl⟩

def h25 : Hint := ⟨Nat.testBit 480, Nat.testBit 0, fun _ => 0⟩
def d25 : Nat → List Nat := fun _ => []
theorem k25 : Good Tryd.prog gl sh (25, c25) := ⟨Tryd.f25, h25, d25, Tryd.func25, by kernel_rfl, by kernel_rfl⟩

def h26 : Hint := ⟨Nat.testBit 504, Nat.testBit 0, fun _ => 0⟩
def d26 : Nat → List Nat := fun _ => []
theorem k26 : Good Tryd.prog gl sh (26, c26) := ⟨Tryd.f26, h26, d26, Tryd.func26, by kernel_rfl, by kernel_rfl⟩

def h28 : Hint := ⟨Nat.testBit 1984, Nat.testBit 0, fun _ => 0⟩
def d28 : Nat → List Nat := fun _ => []
theorem k28 : Good Tryd.prog gl sh (28, c28) := ⟨Tryd.f28, h28, d28, Tryd.func28, by kernel_rfl, by kernel_rfl⟩

def h29 : Hint := ⟨Nat.testBit 2143289280, Nat.testBit 0, fun _ => 0⟩
def d29 : Nat → List Nat := fun _ => []
theorem k29 : Good Tryd.prog gl sh (29, c29) := ⟨Tryd.f29, h29, d29, Tryd.func29, by kernel_rfl, by kernel_rfl⟩

def h30 : Hint := ⟨Nat.testBit 8064, Nat.testBit 0, fun _ => 0⟩
def d30 : Nat → List Nat := fun _ => []
theorem k30 : Good Tryd.prog gl sh (30, c30) := ⟨Tryd.f30, h30, d30, Tryd.func30, by kernel_rfl, by kernel_rfl⟩

def h31 : Hint := ⟨Nat.testBit 4293853168, Nat.testBit 0, fun _ => 0⟩
def d31 : Nat → List Nat := fun n => match Nat.beq n 4 with | true => [2, 16, 20, 32] | false => []
theorem k31 : Good Tryd.prog gl sh (31, c31) := ⟨Tryd.f31, h31, d31, Tryd.func31, by kernel_rfl, by kernel_rfl⟩

def h32 : Hint := ⟨Nat.testBit 264240000, Nat.testBit 0, fun _ => 0⟩
def d32 : Nat → List Nat := fun n => match Nat.beq n 3 with | true => [2, 3, 6, 10, 22] | false => []
theorem k32 : Good Tryd.prog gl sh (32, c32) := ⟨Tryd.f32, h32, d32, Tryd.func32, by kernel_rfl, by kernel_rfl⟩

def h33 : Hint := ⟨Nat.testBit 56, Nat.testBit 0, fun _ => 0⟩
def d33 : Nat → List Nat := fun _ => []
theorem k33 : Good Tryd.prog gl sh (33, c33) := ⟨Tryd.f33, h33, d33, Tryd.func33, by kernel_rfl, by kernel_rfl⟩

def h35 : Hint := ⟨Nat.testBit 457792, Nat.testBit 0, fun _ => 0⟩
def d35 : Nat → List Nat := fun n => match Nat.beq n 2 with | true => [4, 5, 9, 16] | false => []
theorem k35 : Good Tryd.prog gl sh (35, c35) := ⟨Tryd.f35, h35, d35, Tryd.func35, by kernel_rfl, by kernel_rfl⟩

def h36 : Hint := ⟨Nat.testBit 32192, Nat.testBit 0, fun _ => 0⟩
def d36 : Nat → List Nat := fun _ => []
theorem k36 : Good Tryd.prog gl sh (36, c36) := ⟨Tryd.f36, h36, d36, Tryd.func36, by kernel_rfl, by kernel_rfl⟩

def h37 : Hint := ⟨Nat.testBit 8778911051648, Nat.testBit 0, fun _ => 0⟩
def d37 : Nat → List Nat := fun _ => []
theorem k37 : Good Tryd.prog gl sh (37, c37) := ⟨Tryd.f37, h37, d37, Tryd.func37, by kernel_rfl, by kernel_rfl⟩

def h39 : Hint := ⟨Nat.testBit 8384256, Nat.testBit 0, fun _ => 0⟩
def d39 : Nat → List Nat := fun _ => []
theorem k39 : Good Tryd.prog gl sh (39, c39) := ⟨Tryd.f39, h39, d39, Tryd.func39, by kernel_rfl, by kernel_rfl⟩

def h40 : Hint := ⟨Nat.testBit 262112, Nat.testBit 0, fun _ => 0⟩
def d40 : Nat → List Nat := fun _ => []
theorem k40 : Good Tryd.prog gl sh (40, c40) := ⟨Tryd.f40, h40, d40, Tryd.func40, by kernel_rfl, by kernel_rfl⟩

def h41 : Hint := ⟨Nat.testBit 122848, Nat.testBit 0, fun _ => 0⟩
def d41 : Nat → List Nat := fun n => match Nat.beq n 1 with | true => [4, 13] | false => []
theorem k41 : Good Tryd.prog gl sh (41, c41) := ⟨Tryd.f41, h41, d41, Tryd.func41, by kernel_rfl, by kernel_rfl⟩

def h42 : Hint := ⟨Nat.testBit 8323040, Nat.testBit 0, fun _ => 0⟩
def d42 : Nat → List Nat := fun n => match Nat.beq n 1 with | true => [4, 16] | false => []
theorem k42 : Good Tryd.prog gl sh (42, c42) := ⟨Tryd.f42, h42, d42, Tryd.func42, by kernel_rfl, by kernel_rfl⟩

def h43 : Hint := ⟨Nat.testBit 2031040, Nat.testBit 4, fun _ => 0⟩
def d43 : Nat → List Nat := fun n => match Nat.beq n 2 with | true => [3, 5, 9, 16] | false => []
theorem k43 : Good Tryd.prog gl sh (43, c43) := ⟨Tryd.f43, h43, d43, Tryd.func43, by kernel_rfl, by kernel_rfl⟩

def h44 : Hint := ⟨Nat.testBit 61280, Nat.testBit 0, fun _ => 0⟩
def d44 : Nat → List Nat := fun n => match Nat.beq n 1 with | true => [4, 7, 12] | false => []
theorem k44 : Good Tryd.prog gl sh (44, c44) := ⟨Tryd.f44, h44, d44, Tryd.func44, by kernel_rfl, by kernel_rfl⟩

def h45 : Hint := ⟨Nat.testBit 4161376, Nat.testBit 0, fun _ => 0⟩
def d45 : Nat → List Nat := fun n => match Nat.beq n 1 with | true => [4, 7, 15] | false => []
theorem k45 : Good Tryd.prog gl sh (45, c45) := ⟨Tryd.f45, h45, d45, Tryd.func45, by kernel_rfl, by kernel_rfl⟩

def h46 : Hint := ⟨Nat.testBit 8125824, Nat.testBit 0, fun _ => 0⟩
def d46 : Nat → List Nat := fun n => match Nat.beq n 1 with | true => [4, 5, 6, 9, 18] | false => []
theorem k46 : Good Tryd.prog gl sh (46, c46) := ⟨Tryd.f46, h46, d46, Tryd.func46, by kernel_rfl, by kernel_rfl⟩

def h47 : Hint := ⟨Nat.testBit 17112628608, Nat.testBit 0, fun _ => 0⟩
def d47 : Nat → List Nat := fun n => match Nat.beq n 1 with | true => [4, 5, 6, 9, 17, 26] | false => []
theorem k47 : Good Tryd.prog gl sh (47, c47) := ⟨Tryd.f47, h47, d47, Tryd.func47, by kernel_rfl, by kernel_rfl⟩

def h50 : Hint := ⟨Nat.testBit 10448029773009037967681152029858612457160704, Nat.testBit 0, fun _ => 0⟩
def d50 : Nat → List Nat := fun n => match Nat.beq n 15 with | true => [4, 11, 16, 24, 31, 36, 59, 64, 73, 93, 107, 132] | false => []
theorem k50 : Good Tryd.prog gl sh (50, c50) := ⟨Tryd.f50, h50, d50, Tryd.func50, by kernel_rfl, by kernel_rfl⟩

def h51 : Hint := ⟨Nat.testBit 992, Nat.testBit 0, fun _ => 0⟩
def d51 : Nat → List Nat := fun _ => []
theorem k51 : Good Tryd.prog gl sh (51, c51) := ⟨Tryd.f51, h51, d51, Tryd.func51, by kernel_rfl, by kernel_rfl⟩

def h53 : Hint := ⟨Nat.testBit 480, Nat.testBit 0, fun _ => 0⟩
def d53 : Nat → List Nat := fun _ => []
theorem k53 : Good Tryd.prog gl sh (53, c53) := ⟨Tryd.f53, h53, d53, Tryd.func53, by kernel_rfl, by kernel_rfl⟩

def h65 : Hint := ⟨Nat.testBit 180496245714399881453103536892025912505393257885405675520, Nat.testBit 0, fun _ => 0⟩
def d65 : Nat → List Nat := fun n => match Nat.beq n 38 with | true => [0, 1, 4, 5, 6, 160, 171, 176, 177, 181] | false => match Nat.beq n 5 with | true => [1, 4, 10, 160, 171, 183] | false => match Nat.beq n 12 with | true => [11, 26, 33, 43, 51, 64] | false => match Nat.beq n 25 with | true => [4, 16, 124, 139, 143, 156] | false => match Nat.beq n 29 with | true => [143, 156] | false => []
theorem k65 : Good Tryd.prog gl sh (65, c65) := ⟨Tryd.f65, h65, d65, Tryd.func65, by kernel_rfl, by kernel_rfl⟩

def h73 : Hint := ⟨Nat.testBit 224, Nat.testBit 0, fun _ => 0⟩
def d73 : Nat → List Nat := fun _ => []
theorem k73 : Good Tryd.prog gl sh (73, c73) := ⟨Tryd.f73, h73, d73, Tryd.func73, by kernel_rfl, by kernel_rfl⟩

end Go.Mx.Tryd
