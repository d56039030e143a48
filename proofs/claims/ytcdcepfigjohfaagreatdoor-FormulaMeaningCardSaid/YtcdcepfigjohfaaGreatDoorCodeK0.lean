/- The compact code is what the checked translation makes of the loaded program: each by the kernel. -/
import Derived.Test.YtcdcepfigjohfaaGreatDoorCode
import Derived.Test.YtcdcepfigjohfaaGreatDoorBd
import Derived.Test.YtcdcepfigjohfaaGreatDoorProg
import Derived.KernelRfl
set_option maxRecDepth 100000
namespace Go.Mx.Tryz
open Go.Proofs

def h4 : Hint := ⟨Nat.testBit 9903520314279101377720311808, Nat.testBit 2730, fun n => match Nat.beq n 65 with | true => 1 | false => 0⟩
def d4 : Nat → List Nat := fun n => match Nat.beq n 12 with | true => [0, 2, 4, 5, 6, 10, 15, 35, 37, 51] | false => []
theorem k4 : Good Tryz.prog gl sh (4, c4) := ⟨Tryz.f4, h4, d4, Tryz.func4, by kernel_rfl, by kernel_rfl⟩

def h5 : Hint := ⟨Nat.testBit 75557863725914319192064, Nat.testBit 164, fun _ => 0⟩
def d5 : Nat → List Nat := fun _ => []
theorem k5 : Good Tryz.prog gl sh (5, c5) := ⟨Tryz.f5, h5, d5, Tryz.func5, by kernel_rfl, by kernel_rfl⟩

def h8 : Hint := ⟨Nat.testBit 2658293732292997514929832290233090048, Nat.testBit 8712, fun _ => 0⟩
def d8 : Nat → List Nat := fun _ => []
theorem k8 : Good Tryz.prog gl sh (8, c8) := ⟨Tryz.f8, h8, d8, Tryz.func8, by kernel_rfl, by kernel_rfl⟩

def h9 : Hint := ⟨Nat.testBit 3138416, Nat.testBit 2, fun _ => 0⟩
def d9 : Nat → List Nat := fun n => match Nat.beq n 4 with | true => [0, 2, 3, 7, 12, 20] | false => []
theorem k9 : Good Tryz.prog gl sh (9, c9) := ⟨Tryz.f9, h9, d9, Tryz.func9, by kernel_rfl, by kernel_rfl⟩

def h10 : Hint := ⟨Nat.testBit 93536104789177745226660961015221085014009044799488, Nat.testBit 294938, fun n => match Nat.beq n 27 with | true => 1 | false => match Nat.beq n 35 with | true => 1 | false => match Nat.beq n 60 with | true => 1 | false => match Nat.beq n 68 with | true => 1 | false => match Nat.beq n 119 with | true => 1 | false => match Nat.beq n 126 with | true => 1 | false => 0⟩
def d10 : Nat → List Nat := fun _ => []
theorem k10 : Good Tryz.prog gl sh (10, c10) := ⟨Tryz.f10, h10, d10, Tryz.func10, by kernel_rfl, by kernel_rfl⟩

def h11 : Hint := ⟨Nat.testBit 797310720, Nat.testBit 4, fun _ => 0⟩
def d11 : Nat → List Nat := fun n => match Nat.beq n 4 with | true => [0, 1, 2, 4, 5, 7, 17, 22, 28] | false => []
theorem k11 : Good Tryz.prog gl sh (11, c11) := ⟨Tryz.f11, h11, d11, Tryz.func11, by kernel_rfl, by kernel_rfl⟩

def h13 : Hint := ⟨Nat.testBit 3205234656, Nat.testBit 2, fun _ => 0⟩
def d13 : Nat → List Nat := fun n => match Nat.beq n 4 with | true => [0, 2, 4, 18, 23, 30] | false => []
theorem k13 : Good Tryz.prog gl sh (13, c13) := ⟨Tryz.f13, h13, d13, Tryz.func13, by kernel_rfl, by kernel_rfl⟩

def h14 : Hint := ⟨Nat.testBit 140728889769952, Nat.testBit 2, fun _ => 0⟩
def d14 : Nat → List Nat := fun n => match Nat.beq n 4 with | true => [0, 2, 4, 18, 33] | false => match Nat.beq n 7 with | true => [23, 33, 47] | false => []
theorem k14 : Good Tryz.prog gl sh (14, c14) := ⟨Tryz.f14, h14, d14, Tryz.func14, by kernel_rfl, by kernel_rfl⟩

def h15 : Hint := ⟨Nat.testBit 18446673696371502080, Nat.testBit 22, fun n => match Nat.beq n 50 with | true => 1 | false => 0⟩
def d15 : Nat → List Nat := fun n => match Nat.beq n 5 with | true => [0, 1, 3, 7, 8, 12, 33, 46] | false => match Nat.beq n 11 with | true => [6, 21, 33, 46] | false => []
theorem k15 : Good Tryz.prog gl sh (15, c15) := ⟨Tryz.f15, h15, d15, Tryz.func15, by kernel_rfl, by kernel_rfl⟩

def h16 : Hint := ⟨Nat.testBit 19341632522178163937113600, Nat.testBit 22, fun n => match Nat.beq n 52 with | true => 1 | false => match Nat.beq n 73 with | true => 1 | false => 0⟩
def d16 : Nat → List Nat := fun n => match Nat.beq n 5 with | true => [0, 3, 6, 7, 8, 11, 20, 30, 45, 70] | false => match Nat.beq n 11 with | true => [20, 30, 45] | false => []
theorem k16 : Good Tryz.prog gl sh (16, c16) := ⟨Tryz.f16, h16, d16, Tryz.func16, by kernel_rfl, by kernel_rfl⟩

def h17 : Hint := ⟨Nat.testBit 274860605376, Nat.testBit 12, fun _ => 0⟩
def d17 : Nat → List Nat := fun n => match Nat.beq n 4 with | true => [0, 1, 4, 19, 24, 38] | false => []
theorem k17 : Good Tryz.prog gl sh (17, c17) := ⟨Tryz.f17, h17, d17, Tryz.func17, by kernel_rfl, by kernel_rfl⟩

def h18 : Hint := ⟨Nat.testBit 1180518470344098430976, Nat.testBit 276, fun n => match Nat.beq n 65 with | true => 1 | false => 0⟩
def d18 : Nat → List Nat := fun n => match Nat.beq n 8 with | true => [0, 1, 2, 5, 7, 10, 11, 23, 31, 40, 45, 46, 47, 48, 49] | false => match Nat.beq n 13 with | true => [10, 13, 40, 45, 49, 56] | false => []
theorem k18 : Good Tryz.prog gl sh (18, c18) := ⟨Tryz.f18, h18, d18, Tryz.func18, by kernel_rfl, by kernel_rfl⟩

def h19 : Hint := ⟨Nat.testBit 8972012730973184, Nat.testBit 84, fun n => match Nat.beq n 49 with | true => 1 | false => 0⟩
def d19 : Nat → List Nat := fun n => match Nat.beq n 5 with | true => [0, 5, 8, 9, 22, 31, 45] | false => []
theorem k19 : Good Tryz.prog gl sh (19, c19) := ⟨Tryz.f19, h19, d19, Tryz.func19, by kernel_rfl, by kernel_rfl⟩

def h20 : Hint := ⟨Nat.testBit 10878362973988694280780303957082446495744, Nat.testBit 4, fun n => match Nat.beq n 64 with | true => 1 | false => match Nat.beq n 74 with | true => 3 | false => 0⟩
def d20 : Nat → List Nat := fun n => match Nat.beq n 5 with | true => [0, 1, 4, 5, 6, 9, 30, 37, 42] | false => match Nat.beq n 12 with | true => [2, 11, 34, 35, 36, 37, 67, 68, 69, 70] | false => match Nat.beq n 19 with | true => [12, 14, 51, 70] | false => match Nat.beq n 25 with | true => [16, 48, 49, 50, 51, 89, 94] | false => match Nat.beq n 31 with | true => [86, 87, 88, 89, 111, 112, 113, 114] | false => match Nat.beq n 34 with | true => [19, 100, 114, 123] | false => []
theorem k20 : Good Tryz.prog gl sh (20, c20) := ⟨Tryz.f20, h20, d20, Tryz.func20, by kernel_rfl, by kernel_rfl⟩

def h21 : Hint := ⟨Nat.testBit 2324144512198866104320, Nat.testBit 4, fun _ => 0⟩
def d21 : Nat → List Nat := fun n => match Nat.beq n 6 with | true => [0, 4, 5, 6, 9, 20, 29] | false => match Nat.beq n 9 with | true => [10, 11, 24, 29, 50, 57] | false => []
theorem k21 : Good Tryz.prog gl sh (21, c21) := ⟨Tryz.f21, h21, d21, Tryz.func21, by kernel_rfl, by kernel_rfl⟩

def h22 : Hint := ⟨Nat.testBit 33536960, Nat.testBit 0, fun _ => 0⟩
def d22 : Nat → List Nat := fun n => match Nat.beq n 4 with | true => [4, 10, 14, 25] | false => []
theorem k22 : Good Tryz.prog gl sh (22, c22) := ⟨Tryz.f22, h22, d22, Tryz.func22, by kernel_rfl, by kernel_rfl⟩

def h23 : Hint := ⟨Nat.testBit 2111029609756160, Nat.testBit 2, fun n => match Nat.beq n 23 with | true => 4 | false => 0⟩
def d23 : Nat → List Nat := fun n => match Nat.beq n 5 with | true => [0, 1, 2, 3, 11, 31, 32, 33, 34, 47] | false => match Nat.beq n 8 with | true => [6, 8, 28, 34] | false => []
theorem k23 : Good Tryz.prog gl sh (23, c23) := ⟨Tryz.f23, h23, d23, Tryz.func23, by kernel_rfl, by kernel_rfl⟩

def h25 : Hint := ⟨Nat.testBit 148873445440533486454454303044635656192, Nat.testBit 16388, fun n => match Nat.beq n 109 with | true => 5 | false => match Nat.beq n 114 with | true => 1 | false => 0⟩
def d25 : Nat → List Nat := fun n => match Nat.beq n 8 with | true => [0, 3, 4, 7, 8, 9, 18, 36, 42, 51] | false => match Nat.beq n 22 with | true => [13, 39, 40, 41, 42, 66, 74, 81, 92] | false => match Nat.beq n 31 with | true => [10, 11, 15, 78, 79, 80, 81, 96, 102, 106] | false => []
theorem k25 : Good Tryz.prog gl sh (25, c25) := ⟨Tryz.f25, h25, d25, Tryz.func25, by kernel_rfl, by kernel_rfl⟩

def h27 : Hint := ⟨Nat.testBit 13194139531392, Nat.testBit 0, fun _ => 0⟩
def d27 : Nat → List Nat := fun n => match Nat.beq n 2 with | true => [4, 5, 6, 10, 42] | false => []
theorem k27 : Good Tryz.prog gl sh (27, c27) := ⟨Tryz.f27, h27, d27, Tryz.func27, by kernel_rfl, by kernel_rfl⟩

def h28 : Hint := ⟨Nat.testBit 480, Nat.testBit 0, fun _ => 0⟩
def d28 : Nat → List Nat := fun _ => []
theorem k28 : Good Tryz.prog gl sh (28, c28) := ⟨Tryz.f28, h28, d28, Tryz.func28, by kernel_rfl, by kernel_rfl⟩

def h29 : Hint := ⟨Nat.testBit 32752, Nat.testBit 0, fun _ => 0⟩
def d29 : Nat → List Nat := fun _ => []
theorem k29 : Good Tryz.prog gl sh (29, c29) := ⟨Tryz.f29, h29, d29, Tryz.func29, by kernel_rfl, by kernel_rfl⟩

def h30 : Hint := ⟨Nat.testBit 100661248, Nat.testBit 0, fun _ => 0⟩
def d30 : Nat → List Nat := fun n => match Nat.beq n 2 with | true => [1, 4, 6, 10, 25] | false => []
theorem k30 : Good Tryz.prog gl sh (30, c30) := ⟨Tryz.f30, h30, d30, Tryz.func30, by kernel_rfl, by kernel_rfl⟩

def h31 : Hint := ⟨Nat.testBit 262112, Nat.testBit 0, fun _ => 0⟩
def d31 : Nat → List Nat := fun _ => []
theorem k31 : Good Tryz.prog gl sh (31, c31) := ⟨Tryz.f31, h31, d31, Tryz.func31, by kernel_rfl, by kernel_rfl⟩

def h32 : Hint := ⟨Nat.testBit 232, Nat.testBit 0, fun _ => 0⟩
def d32 : Nat → List Nat := fun _ => []
theorem k32 : Good Tryz.prog gl sh (32, c32) := ⟨Tryz.f32, h32, d32, Tryz.func32, by kernel_rfl, by kernel_rfl⟩

def h34 : Hint := ⟨Nat.testBit 524256, Nat.testBit 0, fun _ => 0⟩
def d34 : Nat → List Nat := fun _ => []
theorem k34 : Good Tryz.prog gl sh (34, c34) := ⟨Tryz.f34, h34, d34, Tryz.func34, by kernel_rfl, by kernel_rfl⟩

def h35 : Hint := ⟨Nat.testBit 2305825412699119296, Nat.testBit 0, fun _ => 0⟩
def d35 : Nat → List Nat := fun n => match Nat.beq n 4 with | true => [2, 8, 13, 25] | false => match Nat.beq n 9 with | true => [13, 25, 32, 44] | false => []
theorem k35 : Good Tryz.prog gl sh (35, c35) := ⟨Tryz.f35, h35, d35, Tryz.func35, by kernel_rfl, by kernel_rfl⟩

def h36 : Hint := ⟨Nat.testBit 224, Nat.testBit 0, fun _ => 0⟩
def d36 : Nat → List Nat := fun _ => []
theorem k36 : Good Tryz.prog gl sh (36, c36) := ⟨Tryz.f36, h36, d36, Tryz.func36, by kernel_rfl, by kernel_rfl⟩

def h37 : Hint := ⟨Nat.testBit 272728293376, Nat.testBit 0, fun _ => 0⟩
def d37 : Nat → List Nat := fun n => match Nat.beq n 2 with | true => [6, 7, 8, 9, 10, 14, 21, 31] | false => []
theorem k37 : Good Tryz.prog gl sh (37, c37) := ⟨Tryz.f37, h37, d37, Tryz.func37, by kernel_rfl, by kernel_rfl⟩

def h39 : Hint := ⟨Nat.testBit 73786413310256577280, Nat.testBit 0, fun _ => 0⟩
def d39 : Nat → List Nat := fun n => match Nat.beq n 4 with | true => [4, 10, 15, 28] | false => match Nat.beq n 9 with | true => [15, 28, 35, 49] | false => []
theorem k39 : Good Tryz.prog gl sh (39, c39) := ⟨Tryz.f39, h39, d39, Tryz.func39, by kernel_rfl, by kernel_rfl⟩

def h40 : Hint := ⟨Nat.testBit 1984, Nat.testBit 0, fun _ => 0⟩
def d40 : Nat → List Nat := fun _ => []
theorem k40 : Good Tryz.prog gl sh (40, c40) := ⟨Tryz.f40, h40, d40, Tryz.func40, by kernel_rfl, by kernel_rfl⟩

def h41 : Hint := ⟨Nat.testBit 144115179485657984, Nat.testBit 0, fun _ => 0⟩
def d41 : Nat → List Nat := fun n => match Nat.beq n 3 with | true => [2, 5, 6, 10, 18, 33] | false => match Nat.beq n 8 with | true => [10, 18, 33] | false => []
theorem k41 : Good Tryz.prog gl sh (41, c41) := ⟨Tryz.f41, h41, d41, Tryz.func41, by kernel_rfl, by kernel_rfl⟩

def h42 : Hint := ⟨Nat.testBit 65392, Nat.testBit 0, fun _ => 0⟩
def d42 : Nat → List Nat := fun n => match Nat.beq n 2 with | true => [2, 7, 16] | false => []
theorem k42 : Good Tryz.prog gl sh (42, c42) := ⟨Tryz.f42, h42, d42, Tryz.func42, by kernel_rfl, by kernel_rfl⟩

def h43 : Hint := ⟨Nat.testBit 34050433580992, Nat.testBit 0, fun _ => 0⟩
def d43 : Nat → List Nat := fun n => match Nat.beq n 2 with | true => [4, 15, 26, 35] | false => []
theorem k43 : Good Tryz.prog gl sh (43, c43) := ⟨Tryz.f43, h43, d43, Tryz.func43, by kernel_rfl, by kernel_rfl⟩

def h44 : Hint := ⟨Nat.testBit 3666048, Nat.testBit 0, fun _ => 0⟩
def d44 : Nat → List Nat := fun n => match Nat.beq n 3 with | true => [0, 2, 3, 6, 11, 19] | false => []
theorem k44 : Good Tryz.prog gl sh (44, c44) := ⟨Tryz.f44, h44, d44, Tryz.func44, by kernel_rfl, by kernel_rfl⟩

def h45 : Hint := ⟨Nat.testBit 112, Nat.testBit 0, fun _ => 0⟩
def d45 : Nat → List Nat := fun _ => []
theorem k45 : Good Tryz.prog gl sh (45, c45) := ⟨Tryz.f45, h45, d45, Tryz.func45, by kernel_rfl, by kernel_rfl⟩

def h46 : Hint := ⟨Nat.testBit 523712, Nat.testBit 4, fun _ => 0⟩
def d46 : Nat → List Nat := fun n => match Nat.beq n 2 with | true => [0, 4, 9, 19] | false => []
theorem k46 : Good Tryz.prog gl sh (46, c46) := ⟨Tryz.f46, h46, d46, Tryz.func46, by kernel_rfl, by kernel_rfl⟩

def h47 : Hint := ⟨Nat.testBit 137169465088, Nat.testBit 0, fun _ => 0⟩
def d47 : Nat → List Nat := fun n => match Nat.beq n 3 with | true => [4, 5, 12, 20, 28] | false => []
theorem k47 : Good Tryz.prog gl sh (47, c47) := ⟨Tryz.f47, h47, d47, Tryz.func47, by kernel_rfl, by kernel_rfl⟩

def h48 : Hint := ⟨Nat.testBit 17179604960, Nat.testBit 0, fun _ => 0⟩
def d48 : Nat → List Nat := fun _ => []
theorem k48 : Good Tryz.prog gl sh (48, c48) := ⟨Tryz.f48, h48, d48, Tryz.func48, by kernel_rfl, by kernel_rfl⟩

def h50 : Hint := ⟨Nat.testBit 70368739942400, Nat.testBit 0, fun _ => 0⟩
def d50 : Nat → List Nat := fun n => match Nat.beq n 3 with | true => [1, 4, 8, 12, 15, 22] | false => []
theorem k50 : Good Tryz.prog gl sh (50, c50) := ⟨Tryz.f50, h50, d50, Tryz.func50, by kernel_rfl, by kernel_rfl⟩

def h51 : Hint := ⟨Nat.testBit 24, Nat.testBit 0, fun _ => 0⟩
def d51 : Nat → List Nat := fun _ => []
theorem k51 : Good Tryz.prog gl sh (51, c51) := ⟨Tryz.f51, h51, d51, Tryz.func51, by kernel_rfl, by kernel_rfl⟩

def h52 : Hint := ⟨Nat.testBit 1920, Nat.testBit 0, fun _ => 0⟩
def d52 : Nat → List Nat := fun _ => []
theorem k52 : Good Tryz.prog gl sh (52, c52) := ⟨Tryz.f52, h52, d52, Tryz.func52, by kernel_rfl, by kernel_rfl⟩

def h54 : Hint := ⟨Nat.testBit 2050624, Nat.testBit 0, fun _ => 0⟩
def d54 : Nat → List Nat := fun n => match Nat.beq n 1000004 with | true => [0, 2, 7] | false => match Nat.beq n 1000007 with | true => [4, 8, 10, 12] | false => []
theorem k54 : Good Tryz.prog gl sh (54, c54) := ⟨Tryz.f54, h54, d54, Tryz.func54, by kernel_rfl, by kernel_rfl⟩

def h55 : Hint := ⟨Nat.testBit 1123700875136512, Nat.testBit 0, fun _ => 0⟩
def d55 : Nat → List Nat := fun n => match Nat.beq n 3 with | true => [2, 3, 6, 15, 23] | false => []
theorem k55 : Good Tryz.prog gl sh (55, c55) := ⟨Tryz.f55, h55, d55, Tryz.func55, by kernel_rfl, by kernel_rfl⟩

def h56 : Hint := ⟨Nat.testBit 457792, Nat.testBit 0, fun _ => 0⟩
def d56 : Nat → List Nat := fun n => match Nat.beq n 2 with | true => [4, 5, 9, 16] | false => []
theorem k56 : Good Tryz.prog gl sh (56, c56) := ⟨Tryz.f56, h56, d56, Tryz.func56, by kernel_rfl, by kernel_rfl⟩

def h59 : Hint := ⟨Nat.testBit 457792, Nat.testBit 0, fun _ => 0⟩
def d59 : Nat → List Nat := fun n => match Nat.beq n 2 with | true => [4, 5, 9, 16] | false => []
theorem k59 : Good Tryz.prog gl sh (59, c59) := ⟨Tryz.f59, h59, d59, Tryz.func59, by kernel_rfl, by kernel_rfl⟩

def h62 : Hint := ⟨Nat.testBit 244736, Nat.testBit 0, fun _ => 0⟩
def d62 : Nat → List Nat := fun n => match Nat.beq n 3 with | true => [0, 2, 5, 9, 14] | false => []
theorem k62 : Good Tryz.prog gl sh (62, c62) := ⟨Tryz.f62, h62, d62, Tryz.func62, by kernel_rfl, by kernel_rfl⟩

def h63 : Hint := ⟨Nat.testBit 444288, Nat.testBit 0, fun _ => 0⟩
def d63 : Nat → List Nat := fun _ => []
theorem k63 : Good Tryz.prog gl sh (63, c63) := ⟨Tryz.f63, h63, d63, Tryz.func63, by kernel_rfl, by kernel_rfl⟩

def h65 : Hint := ⟨Nat.testBit 130496, Nat.testBit 0, fun _ => 0⟩
def d65 : Nat → List Nat := fun n => match Nat.beq n 2 with | true => [4, 9, 17] | false => []
theorem k65 : Good Tryz.prog gl sh (65, c65) := ⟨Tryz.f65, h65, d65, Tryz.func65, by kernel_rfl, by kernel_rfl⟩

def h66 : Hint := ⟨Nat.testBit 268435328, Nat.testBit 0, fun _ => 0⟩
def d66 : Nat → List Nat := fun _ => []
theorem k66 : Good Tryz.prog gl sh (66, c66) := ⟨Tryz.f66, h66, d66, Tryz.func66, by kernel_rfl, by kernel_rfl⟩

def h68 : Hint := ⟨Nat.testBit 24, Nat.testBit 0, fun _ => 0⟩
def d68 : Nat → List Nat := fun _ => []
theorem k68 : Good Tryz.prog gl sh (68, c68) := ⟨Tryz.f68, h68, d68, Tryz.func68, by kernel_rfl, by kernel_rfl⟩

def h69 : Hint := ⟨Nat.testBit 2094848, Nat.testBit 0, fun _ => 0⟩
def d69 : Nat → List Nat := fun _ => []
theorem k69 : Good Tryz.prog gl sh (69, c69) := ⟨Tryz.f69, h69, d69, Tryz.func69, by kernel_rfl, by kernel_rfl⟩

def h70 : Hint := ⟨Nat.testBit 224, Nat.testBit 0, fun _ => 0⟩
def d70 : Nat → List Nat := fun _ => []
theorem k70 : Good Tryz.prog gl sh (70, c70) := ⟨Tryz.f70, h70, d70, Tryz.func70, by kernel_rfl, by kernel_rfl⟩

def h71 : Hint := ⟨Nat.testBit 224, Nat.testBit 0, fun _ => 0⟩
def d71 : Nat → List Nat := fun _ => []
theorem k71 : Good Tryz.prog gl sh (71, c71) := ⟨Tryz.f71, h71, d71, Tryz.func71, by kernel_rfl, by kernel_rfl⟩

def h72 : Hint := ⟨Nat.testBit 224, Nat.testBit 0, fun _ => 0⟩
def d72 : Nat → List Nat := fun _ => []
theorem k72 : Good Tryz.prog gl sh (72, c72) := ⟨Tryz.f72, h72, d72, Tryz.func72, by kernel_rfl, by kernel_rfl⟩

def h73 : Hint := ⟨Nat.testBit 257984, Nat.testBit 0, fun _ => 0⟩
def d73 : Nat → List Nat := fun _ => []
theorem k73 : Good Tryz.prog gl sh (73, c73) := ⟨Tryz.f73, h73, d73, Tryz.func73, by kernel_rfl, by kernel_rfl⟩

def h83 : Hint := ⟨Nat.testBit 33537768, Nat.testBit 0, fun _ => 0⟩
def d83 : Nat → List Nat := fun _ => []
theorem k83 : Good Tryz.prog gl sh (83, c83) := ⟨Tryz.f83, h83, d83, Tryz.func83, by kernel_rfl, by kernel_rfl⟩

def h84 : Hint := ⟨Nat.testBit 56, Nat.testBit 0, fun _ => 0⟩
def d84 : Nat → List Nat := fun _ => []
theorem k84 : Good Tryz.prog gl sh (84, c84) := ⟨Tryz.f84, h84, d84, Tryz.func84, by kernel_rfl, by kernel_rfl⟩

def h102 : Hint := ⟨Nat.testBit 18014381321090304, Nat.testBit 0, fun _ => 0⟩
def d102 : Nat → List Nat := fun _ => []
theorem k102 : Good Tryz.prog gl sh (102, c102) := ⟨Tryz.f102, h102, d102, Tryz.func102, by kernel_rfl, by kernel_rfl⟩

def h103 : Hint := ⟨Nat.testBit 68719471104, Nat.testBit 0, fun _ => 0⟩
def d103 : Nat → List Nat := fun _ => []
theorem k103 : Good Tryz.prog gl sh (103, c103) := ⟨Tryz.f103, h103, d103, Tryz.func103, by kernel_rfl, by kernel_rfl⟩

def h104 : Hint := ⟨Nat.testBit 128, Nat.testBit 0, fun _ => 0⟩
def d104 : Nat → List Nat := fun _ => []
theorem k104 : Good Tryz.prog gl sh (104, c104) := ⟨Tryz.f104, h104, d104, Tryz.func104, by kernel_rfl, by kernel_rfl⟩

end Go.Mx.Tryz
