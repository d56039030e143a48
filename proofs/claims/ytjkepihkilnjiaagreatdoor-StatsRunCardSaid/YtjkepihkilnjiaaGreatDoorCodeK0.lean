/- The compact code is what the checked translation makes of the loaded program: each by the kernel. -/
import Derived.Test.YtjkepihkilnjiaaGreatDoorCode
import Derived.Test.YtjkepihkilnjiaaGreatDoorBd
import Derived.Test.YtjkepihkilnjiaaGreatDoorProg
import Derived.KernelRfl
set_option maxRecDepth 100000
namespace Go.Mx.Tryz
open Go.Proofs

def h3 : Hint := ⟨Nat.testBit 562949949224960, Nat.testBit 8, fun _ => 0⟩
def d3 : Nat → List Nat := fun _ => []
theorem k3 : Good Tryz.prog gl sh (3, c3) := ⟨Tryz.f3, h3, d3, Tryz.func3, by kernel_rfl, by kernel_rfl⟩

def h4 : Hint := ⟨Nat.testBit 4064, Nat.testBit 4, fun _ => 0⟩
def d4 : Nat → List Nat := fun _ => []
theorem k4 : Good Tryz.prog gl sh (4, c4) := ⟨Tryz.f4, h4, d4, Tryz.func4, by kernel_rfl, by kernel_rfl⟩

def h5 : Hint := ⟨Nat.testBit 1461501637330902918203684832716283019655915790340, Nat.testBit 2, fun _ => 0⟩
def d5 : Nat → List Nat := fun _ => []
theorem k5 : Good Tryz.prog gl sh (5, c5) := ⟨Tryz.f5, h5, d5, Tryz.func5, by kernel_rfl, by kernel_rfl⟩

def h6 : Hint := ⟨Nat.testBit 17592126271488, Nat.testBit 8, fun _ => 0⟩
def d6 : Nat → List Nat := fun n => match Nat.beq n 6 with | true => [0, 1, 2, 3, 6, 7, 9, 11, 20, 25] | false => []
theorem k6 : Good Tryz.prog gl sh (6, c6) := ⟨Tryz.f6, h6, d6, Tryz.func6, by kernel_rfl, by kernel_rfl⟩

def h7 : Hint := ⟨Nat.testBit 17592151437312, Nat.testBit 8, fun _ => 0⟩
def d7 : Nat → List Nat := fun n => match Nat.beq n 6 with | true => [0, 1, 2, 3, 6, 7, 9, 20, 25] | false => []
theorem k7 : Good Tryz.prog gl sh (7, c7) := ⟨Tryz.f7, h7, d7, Tryz.func7, by kernel_rfl, by kernel_rfl⟩

def h8 : Hint := ⟨Nat.testBit 50301888, Nat.testBit 0, fun _ => 0⟩
def d8 : Nat → List Nat := fun n => match Nat.beq n 4 with | true => [4, 5, 10, 14, 24] | false => []
theorem k8 : Good Tryz.prog gl sh (8, c8) := ⟨Tryz.f8, h8, d8, Tryz.func8, by kernel_rfl, by kernel_rfl⟩

def h9 : Hint := ⟨Nat.testBit 402186224, Nat.testBit 2, fun _ => 0⟩
def d9 : Nat → List Nat := fun n => match Nat.beq n 4 with | true => [0, 2, 3, 13, 18, 27] | false => []
theorem k9 : Good Tryz.prog gl sh (9, c9) := ⟨Tryz.f9, h9, d9, Tryz.func9, by kernel_rfl, by kernel_rfl⟩

def h10 : Hint := ⟨Nat.testBit 10141050059320906243531417288704, Nat.testBit 1344, fun n => match Nat.beq n 58 with | true => 5 | false => match Nat.beq n 63 with | true => 1 | false => match Nat.beq n 79 with | true => 1 | false => match Nat.beq n 91 with | true => 5 | false => match Nat.beq n 99 with | true => 1 | false => 0⟩
def d10 : Nat → List Nat := fun n => match Nat.beq n 7 with | true => [2, 7, 12, 13, 35, 54] | false => match Nat.beq n 11 with | true => [48, 54] | false => match Nat.beq n 18 with | true => [9, 10, 11, 48, 87] | false => []
theorem k10 : Good Tryz.prog gl sh (10, c10) := ⟨Tryz.f10, h10, d10, Tryz.func10, by kernel_rfl, by kernel_rfl⟩

def h11 : Hint := ⟨Nat.testBit 576178727568756736, Nat.testBit 0, fun _ => 0⟩
def d11 : Nat → List Nat := fun n => match Nat.beq n 6 with | true => [4, 5, 6, 13, 15, 21] | false => []
theorem k11 : Good Tryz.prog gl sh (11, c11) := ⟨Tryz.f11, h11, d11, Tryz.func11, by kernel_rfl, by kernel_rfl⟩

def h12 : Hint := ⟨Nat.testBit 8795554119168, Nat.testBit 264, fun _ => 0⟩
def d12 : Nat → List Nat := fun n => match Nat.beq n 4 with | true => [0, 1, 5, 6, 8, 16, 20, 29] | false => []
theorem k12 : Good Tryz.prog gl sh (12, c12) := ⟨Tryz.f12, h12, d12, Tryz.func12, by kernel_rfl, by kernel_rfl⟩

def h13 : Hint := ⟨Nat.testBit 2198007709184, Nat.testBit 256, fun _ => 0⟩
def d13 : Nat → List Nat := fun n => match Nat.beq n 7 with | true => [0, 1, 4, 5, 8, 19, 23, 29] | false => []
theorem k13 : Good Tryz.prog gl sh (13, c13) := ⟨Tryz.f13, h13, d13, Tryz.func13, by kernel_rfl, by kernel_rfl⟩

def h14 : Hint := ⟨Nat.testBit 50301888, Nat.testBit 0, fun _ => 0⟩
def d14 : Nat → List Nat := fun n => match Nat.beq n 4 with | true => [4, 5, 10, 14, 24] | false => []
theorem k14 : Good Tryz.prog gl sh (14, c14) := ⟨Tryz.f14, h14, d14, Tryz.func14, by kernel_rfl, by kernel_rfl⟩

def h15 : Hint := ⟨Nat.testBit 2246920730832896, Nat.testBit 32, fun _ => 0⟩
def d15 : Nat → List Nat := fun n => match Nat.beq n 3 with | true => [0, 2, 36, 37, 38] | false => match Nat.beq n 6 with | true => [5, 6, 7, 11, 38, 42] | false => []
theorem k15 : Good Tryz.prog gl sh (15, c15) := ⟨Tryz.f15, h15, d15, Tryz.func15, by kernel_rfl, by kernel_rfl⟩

def h16 : Hint := ⟨Nat.testBit 9903368017828857541136678912, Nat.testBit 13504, fun _ => 0⟩
def d16 : Nat → List Nat := fun n => match Nat.beq n 7 with | true => [0, 1, 10, 23, 41] | false => match Nat.beq n 12 with | true => [2, 12, 13, 14, 15, 38, 39, 40, 41, 56, 70, 77] | false => []
theorem k16 : Good Tryz.prog gl sh (16, c16) := ⟨Tryz.f16, h16, d16, Tryz.func16, by kernel_rfl, by kernel_rfl⟩

def h17 : Hint := ⟨Nat.testBit 560750451945472, Nat.testBit 8, fun n => match Nat.beq n 25 with | true => 1 | false => match Nat.beq n 45 with | true => 1 | false => 0⟩
def d17 : Nat → List Nat := fun n => match Nat.beq n 8 with | true => [0, 1, 2, 6, 7, 8, 10, 11, 16, 23, 28, 41] | false => []
theorem k17 : Good Tryz.prog gl sh (17, c17) := ⟨Tryz.f17, h17, d17, Tryz.func17, by kernel_rfl, by kernel_rfl⟩

def h18 : Hint := ⟨Nat.testBit 558551353122816, Nat.testBit 8, fun n => match Nat.beq n 26 with | true => 1 | false => match Nat.beq n 46 with | true => 1 | false => 0⟩
def d18 : Nat → List Nat := fun n => match Nat.beq n 8 with | true => [0, 1, 6, 7, 8, 11, 12, 17, 24, 29, 42] | false => []
theorem k18 : Good Tryz.prog gl sh (18, c18) := ⟨Tryz.f18, h18, d18, Tryz.func18, by kernel_rfl, by kernel_rfl⟩

def h19 : Hint := ⟨Nat.testBit 2437193267137533846194479360, Nat.testBit 704, fun _ => 0⟩
def d19 : Nat → List Nat := fun n => match Nat.beq n 6 with | true => [0, 7, 11, 20, 35, 51, 62] | false => match Nat.beq n 14 with | true => [10, 35, 70, 85] | false => []
theorem k19 : Good Tryz.prog gl sh (19, c19) := ⟨Tryz.f19, h19, d19, Tryz.func19, by kernel_rfl, by kernel_rfl⟩

def h20 : Hint := ⟨Nat.testBit 18014398509412320, Nat.testBit 16, fun _ => 0⟩
def d20 : Nat → List Nat := fun n => match Nat.beq n 4 with | true => [2, 4, 12, 16, 54] | false => []
theorem k20 : Good Tryz.prog gl sh (20, c20) := ⟨Tryz.f20, h20, d20, Tryz.func20, by kernel_rfl, by kernel_rfl⟩

def h21 : Hint := ⟨Nat.testBit 8379904, Nat.testBit 192, fun _ => 0⟩
def d21 : Nat → List Nat := fun n => match Nat.beq n 3 with | true => [0, 13] | false => []
theorem k21 : Good Tryz.prog gl sh (21, c21) := ⟨Tryz.f21, h21, d21, Tryz.func21, by kernel_rfl, by kernel_rfl⟩

def h22 : Hint := ⟨Nat.testBit 1000, Nat.testBit 0, fun _ => 0⟩
def d22 : Nat → List Nat := fun _ => []
theorem k22 : Good Tryz.prog gl sh (22, c22) := ⟨Tryz.f22, h22, d22, Tryz.func22, by kernel_rfl, by kernel_rfl⟩

def h23 : Hint := ⟨Nat.testBit 13194139529312, Nat.testBit 16, fun _ => 0⟩
def d23 : Nat → List Nat := fun n => match Nat.beq n 4 with | true => [2, 3, 4, 7, 11, 42] | false => []
theorem k23 : Good Tryz.prog gl sh (23, c23) := ⟨Tryz.f23, h23, d23, Tryz.func23, by kernel_rfl, by kernel_rfl⟩

def h24 : Hint := ⟨Nat.testBit 562949953421304, Nat.testBit 2, fun _ => 0⟩
def d24 : Nat → List Nat := fun _ => []
theorem k24 : Good Tryz.prog gl sh (24, c24) := ⟨Tryz.f24, h24, d24, Tryz.func24, by kernel_rfl, by kernel_rfl⟩

def h25 : Hint := ⟨Nat.testBit 2199023255520, Nat.testBit 12, fun _ => 0⟩
def d25 : Nat → List Nat := fun _ => []
theorem k25 : Good Tryz.prog gl sh (25, c25) := ⟨Tryz.f25, h25, d25, Tryz.func25, by kernel_rfl, by kernel_rfl⟩

def h26 : Hint := ⟨Nat.testBit 523808, Nat.testBit 0, fun _ => 0⟩
def d26 : Nat → List Nat := fun n => match Nat.beq n 3 with | true => [2, 4, 8] | false => []
theorem k26 : Good Tryz.prog gl sh (26, c26) := ⟨Tryz.f26, h26, d26, Tryz.func26, by kernel_rfl, by kernel_rfl⟩

def h27 : Hint := ⟨Nat.testBit 131040, Nat.testBit 0, fun _ => 0⟩
def d27 : Nat → List Nat := fun _ => []
theorem k27 : Good Tryz.prog gl sh (27, c27) := ⟨Tryz.f27, h27, d27, Tryz.func27, by kernel_rfl, by kernel_rfl⟩

def h28 : Hint := ⟨Nat.testBit 524224, Nat.testBit 0, fun _ => 0⟩
def d28 : Nat → List Nat := fun _ => []
theorem k28 : Good Tryz.prog gl sh (28, c28) := ⟨Tryz.f28, h28, d28, Tryz.func28, by kernel_rfl, by kernel_rfl⟩

def h29 : Hint := ⟨Nat.testBit 24, Nat.testBit 0, fun _ => 0⟩
def d29 : Nat → List Nat := fun _ => []
theorem k29 : Good Tryz.prog gl sh (29, c29) := ⟨Tryz.f29, h29, d29, Tryz.func29, by kernel_rfl, by kernel_rfl⟩

def h30 : Hint := ⟨Nat.testBit 16376, Nat.testBit 0, fun _ => 0⟩
def d30 : Nat → List Nat := fun _ => []
theorem k30 : Good Tryz.prog gl sh (30, c30) := ⟨Tryz.f30, h30, d30, Tryz.func30, by kernel_rfl, by kernel_rfl⟩

def h31 : Hint := ⟨Nat.testBit 4611686017420688896, Nat.testBit 132, fun _ => 0⟩
def d31 : Nat → List Nat := fun n => match Nat.beq n 5 with | true => [3, 7, 16, 29] | false => []
theorem k31 : Good Tryz.prog gl sh (31, c31) := ⟨Tryz.f31, h31, d31, Tryz.func31, by kernel_rfl, by kernel_rfl⟩

def h32 : Hint := ⟨Nat.testBit 515520, Nat.testBit 4, fun _ => 0⟩
def d32 : Nat → List Nat := fun _ => []
theorem k32 : Good Tryz.prog gl sh (32, c32) := ⟨Tryz.f32, h32, d32, Tryz.func32, by kernel_rfl, by kernel_rfl⟩

def h33 : Hint := ⟨Nat.testBit 2361142691445482946560, Nat.testBit 13316, fun _ => 0⟩
def d33 : Nat → List Nat := fun n => match Nat.beq n 5 with | true => [0, 1, 4, 5, 10, 25, 26, 27, 28] | false => match Nat.beq n 8 with | true => [12, 13, 14, 21, 28, 44, 52, 55] | false => []
theorem k33 : Good Tryz.prog gl sh (33, c33) := ⟨Tryz.f33, h33, d33, Tryz.func33, by kernel_rfl, by kernel_rfl⟩

def h34 : Hint := ⟨Nat.testBit 33519296, Nat.testBit 4, fun _ => 0⟩
def d34 : Nat → List Nat := fun n => match Nat.beq n 6 with | true => [0, 4, 8, 11, 15, 25] | false => []
theorem k34 : Good Tryz.prog gl sh (34, c34) := ⟨Tryz.f34, h34, d34, Tryz.func34, by kernel_rfl, by kernel_rfl⟩

def h35 : Hint := ⟨Nat.testBit 569543218877601398784, Nat.testBit 4228, fun _ => 0⟩
def d35 : Nat → List Nat := fun n => match Nat.beq n 9 with | true => [0, 1, 4, 5, 6, 12, 13, 18, 27, 42] | false => []
theorem k35 : Good Tryz.prog gl sh (35, c35) := ⟨Tryz.f35, h35, d35, Tryz.func35, by kernel_rfl, by kernel_rfl⟩

def h36 : Hint := ⟨Nat.testBit 270215977642229616, Nat.testBit 0, fun _ => 0⟩
def d36 : Nat → List Nat := fun n => match Nat.beq n 2 with | true => [2, 7, 54] | false => []
theorem k36 : Good Tryz.prog gl sh (36, c36) := ⟨Tryz.f36, h36, d36, Tryz.func36, by kernel_rfl, by kernel_rfl⟩

def h37 : Hint := ⟨Nat.testBit 604462909807177148333568, Nat.testBit 4, fun _ => 0⟩
def d37 : Nat → List Nat := fun n => match Nat.beq n 5 with | true => [3, 16, 37] | false => []
theorem k37 : Good Tryz.prog gl sh (37, c37) := ⟨Tryz.f37, h37, d37, Tryz.func37, by kernel_rfl, by kernel_rfl⟩

def h38 : Hint := ⟨Nat.testBit 33822865152, Nat.testBit 0, fun _ => 0⟩
def d38 : Nat → List Nat := fun n => match Nat.beq n 2 with | true => [6, 11, 29] | false => []
theorem k38 : Good Tryz.prog gl sh (38, c38) := ⟨Tryz.f38, h38, d38, Tryz.func38, by kernel_rfl, by kernel_rfl⟩

def h39 : Hint := ⟨Nat.testBit 16777184, Nat.testBit 12, fun _ => 0⟩
def d39 : Nat → List Nat := fun _ => []
theorem k39 : Good Tryz.prog gl sh (39, c39) := ⟨Tryz.f39, h39, d39, Tryz.func39, by kernel_rfl, by kernel_rfl⟩

def h40 : Hint := ⟨Nat.testBit 131064, Nat.testBit 2, fun _ => 0⟩
def d40 : Nat → List Nat := fun _ => []
theorem k40 : Good Tryz.prog gl sh (40, c40) := ⟨Tryz.f40, h40, d40, Tryz.func40, by kernel_rfl, by kernel_rfl⟩

def h41 : Hint := ⟨Nat.testBit 248, Nat.testBit 6, fun _ => 0⟩
def d41 : Nat → List Nat := fun _ => []
theorem k41 : Good Tryz.prog gl sh (41, c41) := ⟨Tryz.f41, h41, d41, Tryz.func41, by kernel_rfl, by kernel_rfl⟩

def h42 : Hint := ⟨Nat.testBit 992, Nat.testBit 12, fun _ => 0⟩
def d42 : Nat → List Nat := fun _ => []
theorem k42 : Good Tryz.prog gl sh (42, c42) := ⟨Tryz.f42, h42, d42, Tryz.func42, by kernel_rfl, by kernel_rfl⟩

def h43 : Hint := ⟨Nat.testBit 504, Nat.testBit 0, fun _ => 0⟩
def d43 : Nat → List Nat := fun _ => []
theorem k43 : Good Tryz.prog gl sh (43, c43) := ⟨Tryz.f43, h43, d43, Tryz.func43, by kernel_rfl, by kernel_rfl⟩

def h45 : Hint := ⟨Nat.testBit 24, Nat.testBit 0, fun _ => 0⟩
def d45 : Nat → List Nat := fun _ => []
theorem k45 : Good Tryz.prog gl sh (45, c45) := ⟨Tryz.f45, h45, d45, Tryz.func45, by kernel_rfl, by kernel_rfl⟩

def h46 : Hint := ⟨Nat.testBit 16376, Nat.testBit 2, fun _ => 0⟩
def d46 : Nat → List Nat := fun _ => []
theorem k46 : Good Tryz.prog gl sh (46, c46) := ⟨Tryz.f46, h46, d46, Tryz.func46, by kernel_rfl, by kernel_rfl⟩

def h47 : Hint := ⟨Nat.testBit 8386624, Nat.testBit 32, fun _ => 0⟩
def d47 : Nat → List Nat := fun n => match Nat.beq n 3 with | true => [0, 2, 5, 10] | false => []
theorem k47 : Good Tryz.prog gl sh (47, c47) := ⟨Tryz.f47, h47, d47, Tryz.func47, by kernel_rfl, by kernel_rfl⟩

def h48 : Hint := ⟨Nat.testBit 17592185551872, Nat.testBit 560, fun _ => 0⟩
def d48 : Nat → List Nat := fun n => match Nat.beq n 3 with | true => [1, 2, 6, 9, 18] | false => []
theorem k48 : Good Tryz.prog gl sh (48, c48) := ⟨Tryz.f48, h48, d48, Tryz.func48, by kernel_rfl, by kernel_rfl⟩

def h49 : Hint := ⟨Nat.testBit 131064, Nat.testBit 2, fun _ => 0⟩
def d49 : Nat → List Nat := fun _ => []
theorem k49 : Good Tryz.prog gl sh (49, c49) := ⟨Tryz.f49, h49, d49, Tryz.func49, by kernel_rfl, by kernel_rfl⟩

def h50 : Hint := ⟨Nat.testBit 1657320264556851200, Nat.testBit 64, fun _ => 0⟩
def d50 : Nat → List Nat := fun n => match Nat.beq n 3 with | true => [0, 2, 3, 6, 11, 14, 19, 28] | false => match Nat.beq n 14 with | true => [8, 9, 10, 11, 42, 56] | false => []
theorem k50 : Good Tryz.prog gl sh (50, c50) := ⟨Tryz.f50, h50, d50, Tryz.func50, by kernel_rfl, by kernel_rfl⟩

def h51 : Hint := ⟨Nat.testBit 524144, Nat.testBit 2, fun _ => 0⟩
def d51 : Nat → List Nat := fun _ => []
theorem k51 : Good Tryz.prog gl sh (51, c51) := ⟨Tryz.f51, h51, d51, Tryz.func51, by kernel_rfl, by kernel_rfl⟩

def h52 : Hint := ⟨Nat.testBit 147573952555308285840, Nat.testBit 44, fun _ => 0⟩
def d52 : Nat → List Nat := fun n => match Nat.beq n 7 with | true => [23, 35] | false => []
theorem k52 : Good Tryz.prog gl sh (52, c52) := ⟨Tryz.f52, h52, d52, Tryz.func52, by kernel_rfl, by kernel_rfl⟩

def h53 : Hint := ⟨Nat.testBit 9748777799536505879596626944, Nat.testBit 2, fun _ => 0⟩
def d53 : Nat → List Nat := fun n => match Nat.beq n 4 with | true => [0, 2, 5, 11, 41] | false => match Nat.beq n 7 with | true => [25, 41] | false => match Nat.beq n 12 with | true => [0, 2, 7, 11, 59] | false => match Nat.beq n 15 with | true => [8, 55, 63] | false => match Nat.beq n 18 with | true => [9, 59, 63, 87] | false => []
theorem k53 : Good Tryz.prog gl sh (53, c53) := ⟨Tryz.f53, h53, d53, Tryz.func53, by kernel_rfl, by kernel_rfl⟩

def h54 : Hint := ⟨Nat.testBit 4398046476288, Nat.testBit 48, fun _ => 0⟩
def d54 : Nat → List Nat := fun n => match Nat.beq n 3 with | true => [0, 1, 8, 15] | false => []
theorem k54 : Good Tryz.prog gl sh (54, c54) := ⟨Tryz.f54, h54, d54, Tryz.func54, by kernel_rfl, by kernel_rfl⟩

def h55 : Hint := ⟨Nat.testBit 524256, Nat.testBit 0, fun _ => 0⟩
def d55 : Nat → List Nat := fun _ => []
theorem k55 : Good Tryz.prog gl sh (55, c55) := ⟨Tryz.f55, h55, d55, Tryz.func55, by kernel_rfl, by kernel_rfl⟩

def h56 : Hint := ⟨Nat.testBit 434455408319852449888000, Nat.testBit 0, fun _ => 0⟩
def d56 : Nat → List Nat := fun n => match Nat.beq n 3 with | true => [2, 3, 11, 25, 39] | false => match Nat.beq n 10 with | true => [5, 11, 43, 51] | false => match Nat.beq n 15 with | true => [0, 6, 43, 61, 74] | false => []
theorem k56 : Good Tryz.prog gl sh (56, c56) := ⟨Tryz.f56, h56, d56, Tryz.func56, by kernel_rfl, by kernel_rfl⟩

def h57 : Hint := ⟨Nat.testBit 524256, Nat.testBit 0, fun _ => 0⟩
def d57 : Nat → List Nat := fun _ => []
theorem k57 : Good Tryz.prog gl sh (57, c57) := ⟨Tryz.f57, h57, d57, Tryz.func57, by kernel_rfl, by kernel_rfl⟩

def h58 : Hint := ⟨Nat.testBit 16777184, Nat.testBit 12, fun _ => 0⟩
def d58 : Nat → List Nat := fun _ => []
theorem k58 : Good Tryz.prog gl sh (58, c58) := ⟨Tryz.f58, h58, d58, Tryz.func58, by kernel_rfl, by kernel_rfl⟩

def h59 : Hint := ⟨Nat.testBit 131040, Nat.testBit 12, fun _ => 0⟩
def d59 : Nat → List Nat := fun _ => []
theorem k59 : Good Tryz.prog gl sh (59, c59) := ⟨Tryz.f59, h59, d59, Tryz.func59, by kernel_rfl, by kernel_rfl⟩

def h61 : Hint := ⟨Nat.testBit 18014381321090304, Nat.testBit 0, fun _ => 0⟩
def d61 : Nat → List Nat := fun _ => []
theorem k61 : Good Tryz.prog gl sh (61, c61) := ⟨Tryz.f61, h61, d61, Tryz.func61, by kernel_rfl, by kernel_rfl⟩

def h62 : Hint := ⟨Nat.testBit 145384312038687109241252602162708224, Nat.testBit 34, fun _ => 0⟩
def d62 : Nat → List Nat := fun n => match Nat.beq n 5 with | true => [0, 2, 3, 4, 5, 45, 74, 75, 76, 77] | false => match Nat.beq n 10 with | true => [7, 50, 72, 77, 114] | false => []
theorem k62 : Good Tryz.prog gl sh (62, c62) := ⟨Tryz.f62, h62, d62, Tryz.func62, by kernel_rfl, by kernel_rfl⟩

def h63 : Hint := ⟨Nat.testBit 536809216, Nat.testBit 4, fun _ => 0⟩
def d63 : Nat → List Nat := fun n => match Nat.beq n 3 with | true => [0, 1, 4, 7, 15] | false => []
theorem k63 : Good Tryz.prog gl sh (63, c63) := ⟨Tryz.f63, h63, d63, Tryz.func63, by kernel_rfl, by kernel_rfl⟩

def h64 : Hint := ⟨Nat.testBit 16352, Nat.testBit 0, fun _ => 0⟩
def d64 : Nat → List Nat := fun _ => []
theorem k64 : Good Tryz.prog gl sh (64, c64) := ⟨Tryz.f64, h64, d64, Tryz.func64, by kernel_rfl, by kernel_rfl⟩

end Go.Mx.Tryz
