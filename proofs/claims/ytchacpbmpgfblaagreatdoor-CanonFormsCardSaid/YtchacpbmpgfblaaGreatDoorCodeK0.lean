/- The compact code is what the checked translation makes of the loaded program: each by the kernel. -/
import Derived.Test.YtchacpbmpgfblaaGreatDoorCode
import Derived.Test.YtchacpbmpgfblaaGreatDoorBd
import Derived.Test.YtchacpbmpgfblaaGreatDoorProg
import Derived.KernelRfl
set_option maxRecDepth 100000
namespace Go.Mx.Tryz
open Go.Proofs

def h3 : Hint := ⟨Nat.testBit 281474976644608, Nat.testBit 0, fun _ => 0⟩
def d3 : Nat → List Nat := fun _ => []
theorem k3 : Good Tryz.prog gl sh (3, c3) := ⟨Tryz.f3, h3, d3, Tryz.func3, by kernel_rfl, by kernel_rfl⟩

def h4 : Hint := ⟨Nat.testBit 8589410176, Nat.testBit 0, fun _ => 0⟩
def d4 : Nat → List Nat := fun _ => []
theorem k4 : Good Tryz.prog gl sh (4, c4) := ⟨Tryz.f4, h4, d4, Tryz.func4, by kernel_rfl, by kernel_rfl⟩

def h5 : Hint := ⟨Nat.testBit 56, Nat.testBit 0, fun _ => 0⟩
def d5 : Nat → List Nat := fun _ => []
theorem k5 : Good Tryz.prog gl sh (5, c5) := ⟨Tryz.f5, h5, d5, Tryz.func5, by kernel_rfl, by kernel_rfl⟩

def h6 : Hint := ⟨Nat.testBit 5444517870735015415413993718908291375104, Nat.testBit 0, fun _ => 0⟩
def d6 : Nat → List Nat := fun _ => []
theorem k6 : Good Tryz.prog gl sh (6, c6) := ⟨Tryz.f6, h6, d6, Tryz.func6, by kernel_rfl, by kernel_rfl⟩

def h7 : Hint := ⟨Nat.testBit 231200256, Nat.testBit 0, fun _ => 0⟩
def d7 : Nat → List Nat := fun n => match Nat.beq n 1000008 with | true => [0, 1, 4, 5, 11, 13, 19] | false => []
theorem k7 : Good Tryz.prog gl sh (7, c7) := ⟨Tryz.f7, h7, d7, Tryz.func7, by kernel_rfl, by kernel_rfl⟩

def h8 : Hint := ⟨Nat.testBit 120254868480, Nat.testBit 0, fun _ => 0⟩
def d8 : Nat → List Nat := fun n => match Nat.beq n 8 with | true => [1, 4, 5, 9, 12, 14, 22, 34] | false => []
theorem k8 : Good Tryz.prog gl sh (8, c8) := ⟨Tryz.f8, h8, d8, Tryz.func8, by kernel_rfl, by kernel_rfl⟩

def h9 : Hint := ⟨Nat.testBit 480, Nat.testBit 0, fun _ => 0⟩
def d9 : Nat → List Nat := fun _ => []
theorem k9 : Good Tryz.prog gl sh (9, c9) := ⟨Tryz.f9, h9, d9, Tryz.func9, by kernel_rfl, by kernel_rfl⟩

def h10 : Hint := ⟨Nat.testBit 50301888, Nat.testBit 0, fun _ => 0⟩
def d10 : Nat → List Nat := fun n => match Nat.beq n 4 with | true => [4, 5, 10, 14, 24] | false => []
theorem k10 : Good Tryz.prog gl sh (10, c10) := ⟨Tryz.f10, h10, d10, Tryz.func10, by kernel_rfl, by kernel_rfl⟩

def h11 : Hint := ⟨Nat.testBit 526638976, Nat.testBit 0, fun _ => 0⟩
def d11 : Nat → List Nat := fun n => match Nat.beq n 1000008 with | true => [0, 2, 13, 18] | false => []
theorem k11 : Good Tryz.prog gl sh (11, c11) := ⟨Tryz.f11, h11, d11, Tryz.func11, by kernel_rfl, by kernel_rfl⟩

def h12 : Hint := ⟨Nat.testBit 132110304, Nat.testBit 0, fun _ => 0⟩
def d12 : Nat → List Nat := fun n => match Nat.beq n 5 with | true => [2, 11, 13, 21] | false => []
theorem k12 : Good Tryz.prog gl sh (12, c12) := ⟨Tryz.f12, h12, d12, Tryz.func12, by kernel_rfl, by kernel_rfl⟩

def h13 : Hint := ⟨Nat.testBit 17179867136, Nat.testBit 0, fun _ => 0⟩
def d13 : Nat → List Nat := fun _ => []
theorem k13 : Good Tryz.prog gl sh (13, c13) := ⟨Tryz.f13, h13, d13, Tryz.func13, by kernel_rfl, by kernel_rfl⟩

def h14 : Hint := ⟨Nat.testBit 17179867136, Nat.testBit 0, fun _ => 0⟩
def d14 : Nat → List Nat := fun _ => []
theorem k14 : Good Tryz.prog gl sh (14, c14) := ⟨Tryz.f14, h14, d14, Tryz.func14, by kernel_rfl, by kernel_rfl⟩

def h15 : Hint := ⟨Nat.testBit 781664, Nat.testBit 0, fun _ => 0⟩
def d15 : Nat → List Nat := fun _ => []
theorem k15 : Good Tryz.prog gl sh (15, c15) := ⟨Tryz.f15, h15, d15, Tryz.func15, by kernel_rfl, by kernel_rfl⟩

def h16 : Hint := ⟨Nat.testBit 211088985533440, Nat.testBit 0, fun _ => 0⟩
def d16 : Nat → List Nat := fun _ => []
theorem k16 : Good Tryz.prog gl sh (16, c16) := ⟨Tryz.f16, h16, d16, Tryz.func16, by kernel_rfl, by kernel_rfl⟩

def h17 : Hint := ⟨Nat.testBit 4072, Nat.testBit 0, fun _ => 0⟩
def d17 : Nat → List Nat := fun _ => []
theorem k17 : Good Tryz.prog gl sh (17, c17) := ⟨Tryz.f17, h17, d17, Tryz.func17, by kernel_rfl, by kernel_rfl⟩

def h18 : Hint := ⟨Nat.testBit 13194139529312, Nat.testBit 16, fun _ => 0⟩
def d18 : Nat → List Nat := fun n => match Nat.beq n 4 with | true => [2, 3, 4, 7, 11, 42] | false => []
theorem k18 : Good Tryz.prog gl sh (18, c18) := ⟨Tryz.f18, h18, d18, Tryz.func18, by kernel_rfl, by kernel_rfl⟩

def h19 : Hint := ⟨Nat.testBit 65520, Nat.testBit 8, fun _ => 0⟩
def d19 : Nat → List Nat := fun _ => []
theorem k19 : Good Tryz.prog gl sh (19, c19) := ⟨Tryz.f19, h19, d19, Tryz.func19, by kernel_rfl, by kernel_rfl⟩

def h20 : Hint := ⟨Nat.testBit 281474724527872, Nat.testBit 136, fun _ => 0⟩
def d20 : Nat → List Nat := fun n => match Nat.beq n 6 with | true => [0, 2, 4, 7, 19, 27] | false => []
theorem k20 : Good Tryz.prog gl sh (20, c20) := ⟨Tryz.f20, h20, d20, Tryz.func20, by kernel_rfl, by kernel_rfl⟩

def h21 : Hint := ⟨Nat.testBit 32, Nat.testBit 0, fun _ => 0⟩
def d21 : Nat → List Nat := fun _ => []
theorem k21 : Good Tryz.prog gl sh (21, c21) := ⟨Tryz.f21, h21, d21, Tryz.func21, by kernel_rfl, by kernel_rfl⟩

def h22 : Hint := ⟨Nat.testBit 18270962949830746112, Nat.testBit 8, fun _ => 0⟩
def d22 : Nat → List Nat := fun n => match Nat.beq n 4 with | true => [0, 2, 5, 17] | false => match Nat.beq n 9 with | true => [14, 15, 16, 17, 25, 26] | false => match Nat.beq n 12 with | true => [7, 24, 28, 29] | false => match Nat.beq n 15 with | true => [8, 9, 26, 29, 47] | false => match Nat.beq n 24 with | true => [3, 6, 11, 12, 24, 54, 57] | false => []
theorem k22 : Good Tryz.prog gl sh (22, c22) := ⟨Tryz.f22, h22, d22, Tryz.func22, by kernel_rfl, by kernel_rfl⟩

def h23 : Hint := ⟨Nat.testBit 224, Nat.testBit 0, fun _ => 0⟩
def d23 : Nat → List Nat := fun _ => []
theorem k23 : Good Tryz.prog gl sh (23, c23) := ⟨Tryz.f23, h23, d23, Tryz.func23, by kernel_rfl, by kernel_rfl⟩

def h24 : Hint := ⟨Nat.testBit 270215977642229616, Nat.testBit 0, fun _ => 0⟩
def d24 : Nat → List Nat := fun n => match Nat.beq n 2 with | true => [2, 7, 54] | false => []
theorem k24 : Good Tryz.prog gl sh (24, c24) := ⟨Tryz.f24, h24, d24, Tryz.func24, by kernel_rfl, by kernel_rfl⟩

def h25 : Hint := ⟨Nat.testBit 262128, Nat.testBit 8, fun _ => 0⟩
def d25 : Nat → List Nat := fun _ => []
theorem k25 : Good Tryz.prog gl sh (25, c25) := ⟨Tryz.f25, h25, d25, Tryz.func25, by kernel_rfl, by kernel_rfl⟩

def h26 : Hint := ⟨Nat.testBit 19030989347504065647441920, Nat.testBit 0, fun _ => 0⟩
def d26 : Nat → List Nat := fun n => match Nat.beq n 3 with | true => [2, 15, 25] | false => match Nat.beq n 8 with | true => [0, 4, 6, 15, 42] | false => match Nat.beq n 11 with | true => [7, 34, 52] | false => match Nat.beq n 14 with | true => [8, 42, 52, 67] | false => match Nat.beq n 22 with | true => [5, 34, 73, 78] | false => []
theorem k26 : Good Tryz.prog gl sh (26, c26) := ⟨Tryz.f26, h26, d26, Tryz.func26, by kernel_rfl, by kernel_rfl⟩

def h27 : Hint := ⟨Nat.testBit 633825299818966232069289472000, Nat.testBit 0, fun _ => 0⟩
def d27 : Nat → List Nat := fun n => match Nat.beq n 4 with | true => [4, 9, 16, 39, 49] | false => match Nat.beq n 13 with | true => [0, 1, 8, 16, 68] | false => []
theorem k27 : Good Tryz.prog gl sh (27, c27) := ⟨Tryz.f27, h27, d27, Tryz.func27, by kernel_rfl, by kernel_rfl⟩

def h28 : Hint := ⟨Nat.testBit 618965297275081367629037504, Nat.testBit 0, fun _ => 0⟩
def d28 : Nat → List Nat := fun n => match Nat.beq n 2 with | true => [4, 15, 28, 50, 72] | false => []
theorem k28 : Good Tryz.prog gl sh (28, c28) := ⟨Tryz.f28, h28, d28, Tryz.func28, by kernel_rfl, by kernel_rfl⟩

def h29 : Hint := ⟨Nat.testBit 224, Nat.testBit 0, fun _ => 0⟩
def d29 : Nat → List Nat := fun _ => []
theorem k29 : Good Tryz.prog gl sh (29, c29) := ⟨Tryz.f29, h29, d29, Tryz.func29, by kernel_rfl, by kernel_rfl⟩

def h30 : Hint := ⟨Nat.testBit 2251791221590016, Nat.testBit 1024, fun _ => 0⟩
def d30 : Nat → List Nat := fun n => match Nat.beq n 6 with | true => [0, 2, 4, 5, 10, 15, 21, 33] | false => []
theorem k30 : Good Tryz.prog gl sh (30, c30) := ⟨Tryz.f30, h30, d30, Tryz.func30, by kernel_rfl, by kernel_rfl⟩

def h31 : Hint := ⟨Nat.testBit 299812404225494727908007936, Nat.testBit 0, fun _ => 0⟩
def d31 : Nat → List Nat := fun n => match Nat.beq n 4 with | true => [2, 3, 9, 10, 11, 12, 16, 26, 36, 40, 42, 49, 64, 83] | false => match Nat.beq n 18 with | true => [8, 9, 10, 16, 26, 40, 42, 49, 64, 70] | false => []
theorem k31 : Good Tryz.prog gl sh (31, c31) := ⟨Tryz.f31, h31, d31, Tryz.func31, by kernel_rfl, by kernel_rfl⟩

def h32 : Hint := ⟨Nat.testBit 1657320264556851200, Nat.testBit 64, fun _ => 0⟩
def d32 : Nat → List Nat := fun n => match Nat.beq n 3 with | true => [0, 2, 3, 6, 11, 14, 19, 28] | false => match Nat.beq n 14 with | true => [8, 9, 10, 11, 42, 56] | false => []
theorem k32 : Good Tryz.prog gl sh (32, c32) := ⟨Tryz.f32, h32, d32, Tryz.func32, by kernel_rfl, by kernel_rfl⟩

def h33 : Hint := ⟨Nat.testBit 232, Nat.testBit 0, fun _ => 0⟩
def d33 : Nat → List Nat := fun _ => []
theorem k33 : Good Tryz.prog gl sh (33, c33) := ⟨Tryz.f33, h33, d33, Tryz.func33, by kernel_rfl, by kernel_rfl⟩

def h34 : Hint := ⟨Nat.testBit 131064, Nat.testBit 2, fun _ => 0⟩
def d34 : Nat → List Nat := fun _ => []
theorem k34 : Good Tryz.prog gl sh (34, c34) := ⟨Tryz.f34, h34, d34, Tryz.func34, by kernel_rfl, by kernel_rfl⟩

def h35 : Hint := ⟨Nat.testBit 248, Nat.testBit 6, fun _ => 0⟩
def d35 : Nat → List Nat := fun _ => []
theorem k35 : Good Tryz.prog gl sh (35, c35) := ⟨Tryz.f35, h35, d35, Tryz.func35, by kernel_rfl, by kernel_rfl⟩

def h36 : Hint := ⟨Nat.testBit 992, Nat.testBit 12, fun _ => 0⟩
def d36 : Nat → List Nat := fun _ => []
theorem k36 : Good Tryz.prog gl sh (36, c36) := ⟨Tryz.f36, h36, d36, Tryz.func36, by kernel_rfl, by kernel_rfl⟩

def h37 : Hint := ⟨Nat.testBit 4611686017420688896, Nat.testBit 132, fun _ => 0⟩
def d37 : Nat → List Nat := fun n => match Nat.beq n 5 with | true => [3, 7, 16, 29] | false => []
theorem k37 : Good Tryz.prog gl sh (37, c37) := ⟨Tryz.f37, h37, d37, Tryz.func37, by kernel_rfl, by kernel_rfl⟩

def h38 : Hint := ⟨Nat.testBit 785408, Nat.testBit 0, fun _ => 0⟩
def d38 : Nat → List Nat := fun n => match Nat.beq n 1 with | true => [1, 5, 9, 18] | false => []
theorem k38 : Good Tryz.prog gl sh (38, c38) := ⟨Tryz.f38, h38, d38, Tryz.func38, by kernel_rfl, by kernel_rfl⟩

def h39 : Hint := ⟨Nat.testBit 32704, Nat.testBit 0, fun _ => 0⟩
def d39 : Nat → List Nat := fun _ => []
theorem k39 : Good Tryz.prog gl sh (39, c39) := ⟨Tryz.f39, h39, d39, Tryz.func39, by kernel_rfl, by kernel_rfl⟩

def h40 : Hint := ⟨Nat.testBit 268435328, Nat.testBit 96, fun _ => 0⟩
def d40 : Nat → List Nat := fun _ => []
theorem k40 : Good Tryz.prog gl sh (40, c40) := ⟨Tryz.f40, h40, d40, Tryz.func40, by kernel_rfl, by kernel_rfl⟩

def h41 : Hint := ⟨Nat.testBit 272728293376, Nat.testBit 768, fun _ => 0⟩
def d41 : Nat → List Nat := fun n => match Nat.beq n 2 with | true => [6, 7, 8, 9, 10, 14, 21, 31] | false => []
theorem k41 : Good Tryz.prog gl sh (41, c41) := ⟨Tryz.f41, h41, d41, Tryz.func41, by kernel_rfl, by kernel_rfl⟩

def h42 : Hint := ⟨Nat.testBit 261984, Nat.testBit 12, fun _ => 0⟩
def d42 : Nat → List Nat := fun _ => []
theorem k42 : Good Tryz.prog gl sh (42, c42) := ⟨Tryz.f42, h42, d42, Tryz.func42, by kernel_rfl, by kernel_rfl⟩

def h43 : Hint := ⟨Nat.testBit 524256, Nat.testBit 0, fun _ => 0⟩
def d43 : Nat → List Nat := fun _ => []
theorem k43 : Good Tryz.prog gl sh (43, c43) := ⟨Tryz.f43, h43, d43, Tryz.func43, by kernel_rfl, by kernel_rfl⟩

def h44 : Hint := ⟨Nat.testBit 16777184, Nat.testBit 12, fun _ => 0⟩
def d44 : Nat → List Nat := fun _ => []
theorem k44 : Good Tryz.prog gl sh (44, c44) := ⟨Tryz.f44, h44, d44, Tryz.func44, by kernel_rfl, by kernel_rfl⟩

def h45 : Hint := ⟨Nat.testBit 604462909807177148333568, Nat.testBit 4, fun _ => 0⟩
def d45 : Nat → List Nat := fun n => match Nat.beq n 5 with | true => [3, 16, 37] | false => []
theorem k45 : Good Tryz.prog gl sh (45, c45) := ⟨Tryz.f45, h45, d45, Tryz.func45, by kernel_rfl, by kernel_rfl⟩

def h46 : Hint := ⟨Nat.testBit 130496, Nat.testBit 0, fun _ => 0⟩
def d46 : Nat → List Nat := fun n => match Nat.beq n 2 with | true => [4, 9, 17] | false => []
theorem k46 : Good Tryz.prog gl sh (46, c46) := ⟨Tryz.f46, h46, d46, Tryz.func46, by kernel_rfl, by kernel_rfl⟩

def h47 : Hint := ⟨Nat.testBit 120, Nat.testBit 0, fun _ => 0⟩
def d47 : Nat → List Nat := fun _ => []
theorem k47 : Good Tryz.prog gl sh (47, c47) := ⟨Tryz.f47, h47, d47, Tryz.func47, by kernel_rfl, by kernel_rfl⟩

def h48 : Hint := ⟨Nat.testBit 2016, Nat.testBit 0, fun _ => 0⟩
def d48 : Nat → List Nat := fun _ => []
theorem k48 : Good Tryz.prog gl sh (48, c48) := ⟨Tryz.f48, h48, d48, Tryz.func48, by kernel_rfl, by kernel_rfl⟩

def h49 : Hint := ⟨Nat.testBit 1072692672, Nat.testBit 24, fun _ => 0⟩
def d49 : Nat → List Nat := fun n => match Nat.beq n 6 with | true => [1, 9, 20] | false => []
theorem k49 : Good Tryz.prog gl sh (49, c49) := ⟨Tryz.f49, h49, d49, Tryz.func49, by kernel_rfl, by kernel_rfl⟩

def h50 : Hint := ⟨Nat.testBit 434455408319852449888000, Nat.testBit 0, fun _ => 0⟩
def d50 : Nat → List Nat := fun n => match Nat.beq n 3 with | true => [2, 3, 11, 25, 39] | false => match Nat.beq n 10 with | true => [5, 11, 43, 51] | false => match Nat.beq n 15 with | true => [0, 6, 43, 61, 74] | false => []
theorem k50 : Good Tryz.prog gl sh (50, c50) := ⟨Tryz.f50, h50, d50, Tryz.func50, by kernel_rfl, by kernel_rfl⟩

def h51 : Hint := ⟨Nat.testBit 864, Nat.testBit 0, fun _ => 0⟩
def d51 : Nat → List Nat := fun _ => []
theorem k51 : Good Tryz.prog gl sh (51, c51) := ⟨Tryz.f51, h51, d51, Tryz.func51, by kernel_rfl, by kernel_rfl⟩

def h52 : Hint := ⟨Nat.testBit 50301888, Nat.testBit 0, fun _ => 0⟩
def d52 : Nat → List Nat := fun n => match Nat.beq n 4 with | true => [4, 5, 10, 14, 24] | false => []
theorem k52 : Good Tryz.prog gl sh (52, c52) := ⟨Tryz.f52, h52, d52, Tryz.func52, by kernel_rfl, by kernel_rfl⟩

def h53 : Hint := ⟨Nat.testBit 33471872, Nat.testBit 0, fun _ => 0⟩
def d53 : Nat → List Nat := fun _ => []
theorem k53 : Good Tryz.prog gl sh (53, c53) := ⟨Tryz.f53, h53, d53, Tryz.func53, by kernel_rfl, by kernel_rfl⟩

def h54 : Hint := ⟨Nat.testBit 524224, Nat.testBit 0, fun _ => 0⟩
def d54 : Nat → List Nat := fun _ => []
theorem k54 : Good Tryz.prog gl sh (54, c54) := ⟨Tryz.f54, h54, d54, Tryz.func54, by kernel_rfl, by kernel_rfl⟩

def h55 : Hint := ⟨Nat.testBit 24, Nat.testBit 0, fun _ => 0⟩
def d55 : Nat → List Nat := fun _ => []
theorem k55 : Good Tryz.prog gl sh (55, c55) := ⟨Tryz.f55, h55, d55, Tryz.func55, by kernel_rfl, by kernel_rfl⟩

def h56 : Hint := ⟨Nat.testBit 131040, Nat.testBit 0, fun _ => 0⟩
def d56 : Nat → List Nat := fun _ => []
theorem k56 : Good Tryz.prog gl sh (56, c56) := ⟨Tryz.f56, h56, d56, Tryz.func56, by kernel_rfl, by kernel_rfl⟩

def h57 : Hint := ⟨Nat.testBit 16376, Nat.testBit 0, fun _ => 0⟩
def d57 : Nat → List Nat := fun _ => []
theorem k57 : Good Tryz.prog gl sh (57, c57) := ⟨Tryz.f57, h57, d57, Tryz.func57, by kernel_rfl, by kernel_rfl⟩

def h58 : Hint := ⟨Nat.testBit 224, Nat.testBit 0, fun _ => 0⟩
def d58 : Nat → List Nat := fun _ => []
theorem k58 : Good Tryz.prog gl sh (58, c58) := ⟨Tryz.f58, h58, d58, Tryz.func58, by kernel_rfl, by kernel_rfl⟩

def h59 : Hint := ⟨Nat.testBit 16352, Nat.testBit 0, fun _ => 0⟩
def d59 : Nat → List Nat := fun _ => []
theorem k59 : Good Tryz.prog gl sh (59, c59) := ⟨Tryz.f59, h59, d59, Tryz.func59, by kernel_rfl, by kernel_rfl⟩

def h60 : Hint := ⟨Nat.testBit 131040, Nat.testBit 12, fun _ => 0⟩
def d60 : Nat → List Nat := fun _ => []
theorem k60 : Good Tryz.prog gl sh (60, c60) := ⟨Tryz.f60, h60, d60, Tryz.func60, by kernel_rfl, by kernel_rfl⟩

def h61 : Hint := ⟨Nat.testBit 8796092034048, Nat.testBit 768, fun _ => 0⟩
def d61 : Nat → List Nat := fun n => match Nat.beq n 5 with | true => [1, 4, 5, 8, 9, 12, 19] | false => []
theorem k61 : Good Tryz.prog gl sh (61, c61) := ⟨Tryz.f61, h61, d61, Tryz.func61, by kernel_rfl, by kernel_rfl⟩

def h62 : Hint := ⟨Nat.testBit 8589934528, Nat.testBit 56, fun _ => 0⟩
def d62 : Nat → List Nat := fun _ => []
theorem k62 : Good Tryz.prog gl sh (62, c62) := ⟨Tryz.f62, h62, d62, Tryz.func62, by kernel_rfl, by kernel_rfl⟩

end Go.Mx.Tryz
