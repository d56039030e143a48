/- The compact code is what the checked translation makes of the loaded program: each by the kernel. -/
import Derived.Test.YtchacpbmpgfblaaDoorCode
import Derived.Test.YtchacpbmpgfblaaDoorBd
import Derived.Test.YtchacpbmpgfblaaDoorProg
import Derived.KernelRfl
set_option maxRecDepth 100000
namespace Go.Mx.Tryd
open Go.Proofs

def h3 : Hint := ⟨Nat.testBit 9223372036853719040, Nat.testBit 0, fun _ => 0⟩
def d3 : Nat → List Nat := fun _ => []
theorem k3 : Good Tryd.prog gl sh (3, c3) := ⟨Tryd.f3, h3, d3, Tryd.func3, by kernel_rfl, by kernel_rfl⟩

def h4 : Hint := ⟨Nat.testBit 5070602400322621795348925843456, Nat.testBit 0, fun _ => 0⟩
def d4 : Nat → List Nat := fun _ => []
theorem k4 : Good Tryd.prog gl sh (4, c4) := ⟨Tryd.f4, h4, d4, Tryd.func4, by kernel_rfl, by kernel_rfl⟩

def h5 : Hint := ⟨Nat.testBit 158455106657904032826001326080, Nat.testBit 0, fun _ => 0⟩
def d5 : Nat → List Nat := fun _ => []
theorem k5 : Good Tryd.prog gl sh (5, c5) := ⟨Tryd.f5, h5, d5, Tryd.func5, by kernel_rfl, by kernel_rfl⟩

def h6 : Hint := ⟨Nat.testBit 1073737648, Nat.testBit 0, fun _ => 0⟩
def d6 : Nat → List Nat := fun _ => []
theorem k6 : Good Tryd.prog gl sh (6, c6) := ⟨Tryd.f6, h6, d6, Tryd.func6, by kernel_rfl, by kernel_rfl⟩

def h7 : Hint := ⟨Nat.testBit 56, Nat.testBit 0, fun _ => 0⟩
def d7 : Nat → List Nat := fun _ => []
theorem k7 : Good Tryd.prog gl sh (7, c7) := ⟨Tryd.f7, h7, d7, Tryd.func7, by kernel_rfl, by kernel_rfl⟩

def h8 : Hint := ⟨Nat.testBit 5444517870735015415413993718908291375104, Nat.testBit 0, fun _ => 0⟩
def d8 : Nat → List Nat := fun _ => []
theorem k8 : Good Tryd.prog gl sh (8, c8) := ⟨Tryd.f8, h8, d8, Tryd.func8, by kernel_rfl, by kernel_rfl⟩

def h9 : Hint := ⟨Nat.testBit 781664, Nat.testBit 0, fun _ => 0⟩
def d9 : Nat → List Nat := fun _ => []
theorem k9 : Good Tryd.prog gl sh (9, c9) := ⟨Tryd.f9, h9, d9, Tryd.func9, by kernel_rfl, by kernel_rfl⟩

def h10 : Hint := ⟨Nat.testBit 97632, Nat.testBit 0, fun _ => 0⟩
def d10 : Nat → List Nat := fun _ => []
theorem k10 : Good Tryd.prog gl sh (10, c10) := ⟨Tryd.f10, h10, d10, Tryd.func10, by kernel_rfl, by kernel_rfl⟩

def h11 : Hint := ⟨Nat.testBit 211088985533440, Nat.testBit 0, fun _ => 0⟩
def d11 : Nat → List Nat := fun _ => []
theorem k11 : Good Tryd.prog gl sh (11, c11) := ⟨Tryd.f11, h11, d11, Tryd.func11, by kernel_rfl, by kernel_rfl⟩

def h12 : Hint := ⟨Nat.testBit 70985957732370233748292860993536, Nat.testBit 0, fun _ => 0⟩
def d12 : Nat → List Nat := fun n => match Nat.beq n 8 with | true => [2, 3, 9, 10, 15, 17, 21, 32, 40, 44, 49, 68, 91] | false => match Nat.beq n 23 with | true => [21, 32, 44, 49, 65, 68] | false => []
theorem k12 : Good Tryd.prog gl sh (12, c12) := ⟨Tryd.f12, h12, d12, Tryd.func12, by kernel_rfl, by kernel_rfl⟩

def h13 : Hint := ⟨Nat.testBit 480, Nat.testBit 0, fun _ => 0⟩
def d13 : Nat → List Nat := fun _ => []
theorem k13 : Good Tryd.prog gl sh (13, c13) := ⟨Tryd.f13, h13, d13, Tryd.func13, by kernel_rfl, by kernel_rfl⟩

def h14 : Hint := ⟨Nat.testBit 231200256, Nat.testBit 0, fun _ => 0⟩
def d14 : Nat → List Nat := fun n => match Nat.beq n 1000008 with | true => [0, 1, 4, 5, 11, 13, 19] | false => []
theorem k14 : Good Tryd.prog gl sh (14, c14) := ⟨Tryd.f14, h14, d14, Tryd.func14, by kernel_rfl, by kernel_rfl⟩

def h15 : Hint := ⟨Nat.testBit 19030989347504065647441920, Nat.testBit 0, fun _ => 0⟩
def d15 : Nat → List Nat := fun n => match Nat.beq n 3 with | true => [2, 15, 25] | false => match Nat.beq n 8 with | true => [0, 4, 6, 15, 42] | false => match Nat.beq n 11 with | true => [7, 34, 52] | false => match Nat.beq n 14 with | true => [8, 42, 52, 67] | false => match Nat.beq n 22 with | true => [5, 34, 73, 78] | false => []
theorem k15 : Good Tryd.prog gl sh (15, c15) := ⟨Tryd.f15, h15, d15, Tryd.func15, by kernel_rfl, by kernel_rfl⟩

def h16 : Hint := ⟨Nat.testBit 9444732684263172860928, Nat.testBit 0, fun _ => 0⟩
def d16 : Nat → List Nat := fun n => match Nat.beq n 7 with | true => [6, 7, 12, 26, 30, 48] | false => []
theorem k16 : Good Tryd.prog gl sh (16, c16) := ⟨Tryd.f16, h16, d16, Tryd.func16, by kernel_rfl, by kernel_rfl⟩

def h17 : Hint := ⟨Nat.testBit 633825299818966232069289472000, Nat.testBit 0, fun _ => 0⟩
def d17 : Nat → List Nat := fun n => match Nat.beq n 4 with | true => [4, 9, 16, 39, 49] | false => match Nat.beq n 13 with | true => [0, 1, 8, 16, 68] | false => []
theorem k17 : Good Tryd.prog gl sh (17, c17) := ⟨Tryd.f17, h17, d17, Tryd.func17, by kernel_rfl, by kernel_rfl⟩

def h18 : Hint := ⟨Nat.testBit 270215977642229616, Nat.testBit 0, fun _ => 0⟩
def d18 : Nat → List Nat := fun n => match Nat.beq n 2 with | true => [2, 7, 54] | false => []
theorem k18 : Good Tryd.prog gl sh (18, c18) := ⟨Tryd.f18, h18, d18, Tryd.func18, by kernel_rfl, by kernel_rfl⟩

def h19 : Hint := ⟨Nat.testBit 526638976, Nat.testBit 0, fun _ => 0⟩
def d19 : Nat → List Nat := fun n => match Nat.beq n 1000008 with | true => [0, 2, 13, 18] | false => []
theorem k19 : Good Tryd.prog gl sh (19, c19) := ⟨Tryd.f19, h19, d19, Tryd.func19, by kernel_rfl, by kernel_rfl⟩

def h20 : Hint := ⟨Nat.testBit 262128, Nat.testBit 8, fun _ => 0⟩
def d20 : Nat → List Nat := fun _ => []
theorem k20 : Good Tryd.prog gl sh (20, c20) := ⟨Tryd.f20, h20, d20, Tryd.func20, by kernel_rfl, by kernel_rfl⟩

def h21 : Hint := ⟨Nat.testBit 50301888, Nat.testBit 0, fun _ => 0⟩
def d21 : Nat → List Nat := fun n => match Nat.beq n 4 with | true => [4, 5, 10, 14, 24] | false => []
theorem k21 : Good Tryd.prog gl sh (21, c21) := ⟨Tryd.f21, h21, d21, Tryd.func21, by kernel_rfl, by kernel_rfl⟩

def h22 : Hint := ⟨Nat.testBit 4072, Nat.testBit 0, fun _ => 0⟩
def d22 : Nat → List Nat := fun _ => []
theorem k22 : Good Tryd.prog gl sh (22, c22) := ⟨Tryd.f22, h22, d22, Tryd.func22, by kernel_rfl, by kernel_rfl⟩

def h23 : Hint := ⟨Nat.testBit 17179867136, Nat.testBit 0, fun _ => 0⟩
def d23 : Nat → List Nat := fun _ => []
theorem k23 : Good Tryd.prog gl sh (23, c23) := ⟨Tryd.f23, h23, d23, Tryd.func23, by kernel_rfl, by kernel_rfl⟩

def h24 : Hint := ⟨Nat.testBit 13194139529312, Nat.testBit 16, fun _ => 0⟩
def d24 : Nat → List Nat := fun n => match Nat.beq n 4 with | true => [2, 3, 4, 7, 11, 42] | false => []
theorem k24 : Good Tryd.prog gl sh (24, c24) := ⟨Tryd.f24, h24, d24, Tryd.func24, by kernel_rfl, by kernel_rfl⟩

def h25 : Hint := ⟨Nat.testBit 65520, Nat.testBit 8, fun _ => 0⟩
def d25 : Nat → List Nat := fun _ => []
theorem k25 : Good Tryd.prog gl sh (25, c25) := ⟨Tryd.f25, h25, d25, Tryd.func25, by kernel_rfl, by kernel_rfl⟩

def h26 : Hint := ⟨Nat.testBit 2251791221590016, Nat.testBit 1024, fun _ => 0⟩
def d26 : Nat → List Nat := fun n => match Nat.beq n 6 with | true => [0, 2, 4, 5, 10, 15, 21, 33] | false => []
theorem k26 : Good Tryd.prog gl sh (26, c26) := ⟨Tryd.f26, h26, d26, Tryd.func26, by kernel_rfl, by kernel_rfl⟩

def h27 : Hint := ⟨Nat.testBit 281474724527872, Nat.testBit 136, fun _ => 0⟩
def d27 : Nat → List Nat := fun n => match Nat.beq n 6 with | true => [0, 2, 4, 7, 19, 27] | false => []
theorem k27 : Good Tryd.prog gl sh (27, c27) := ⟨Tryd.f27, h27, d27, Tryd.func27, by kernel_rfl, by kernel_rfl⟩

def h28 : Hint := ⟨Nat.testBit 324518398915921816110552930285056, Nat.testBit 128, fun _ => 0⟩
def d28 : Nat → List Nat := fun n => match Nat.beq n 6 with | true => [2, 7, 8, 11, 87] | false => match Nat.beq n 15 with | true => [4, 15, 23, 36, 87] | false => []
theorem k28 : Good Tryd.prog gl sh (28, c28) := ⟨Tryd.f28, h28, d28, Tryd.func28, by kernel_rfl, by kernel_rfl⟩

def h29 : Hint := ⟨Nat.testBit 299812404225494727908007936, Nat.testBit 0, fun _ => 0⟩
def d29 : Nat → List Nat := fun n => match Nat.beq n 4 with | true => [2, 3, 9, 10, 11, 12, 16, 26, 36, 40, 42, 49, 64, 83] | false => match Nat.beq n 18 with | true => [8, 9, 10, 16, 26, 40, 42, 49, 64, 70] | false => []
theorem k29 : Good Tryd.prog gl sh (29, c29) := ⟨Tryd.f29, h29, d29, Tryd.func29, by kernel_rfl, by kernel_rfl⟩

def h30 : Hint := ⟨Nat.testBit 1657320264556851200, Nat.testBit 64, fun _ => 0⟩
def d30 : Nat → List Nat := fun n => match Nat.beq n 3 with | true => [0, 2, 3, 6, 11, 14, 19, 28] | false => match Nat.beq n 14 with | true => [8, 9, 10, 11, 42, 56] | false => []
theorem k30 : Good Tryd.prog gl sh (30, c30) := ⟨Tryd.f30, h30, d30, Tryd.func30, by kernel_rfl, by kernel_rfl⟩

def h31 : Hint := ⟨Nat.testBit 232, Nat.testBit 0, fun _ => 0⟩
def d31 : Nat → List Nat := fun _ => []
theorem k31 : Good Tryd.prog gl sh (31, c31) := ⟨Tryd.f31, h31, d31, Tryd.func31, by kernel_rfl, by kernel_rfl⟩

def h32 : Hint := ⟨Nat.testBit 618965297275081367629037504, Nat.testBit 0, fun _ => 0⟩
def d32 : Nat → List Nat := fun n => match Nat.beq n 2 with | true => [4, 15, 28, 50, 72] | false => []
theorem k32 : Good Tryd.prog gl sh (32, c32) := ⟨Tryd.f32, h32, d32, Tryd.func32, by kernel_rfl, by kernel_rfl⟩

def h33 : Hint := ⟨Nat.testBit 32, Nat.testBit 0, fun _ => 0⟩
def d33 : Nat → List Nat := fun _ => []
theorem k33 : Good Tryd.prog gl sh (33, c33) := ⟨Tryd.f33, h33, d33, Tryd.func33, by kernel_rfl, by kernel_rfl⟩

def h34 : Hint := ⟨Nat.testBit 18270962949830746112, Nat.testBit 8, fun _ => 0⟩
def d34 : Nat → List Nat := fun n => match Nat.beq n 4 with | true => [0, 2, 5, 17] | false => match Nat.beq n 9 with | true => [14, 15, 16, 17, 25, 26] | false => match Nat.beq n 12 with | true => [7, 24, 28, 29] | false => match Nat.beq n 15 with | true => [8, 9, 26, 29, 47] | false => match Nat.beq n 24 with | true => [3, 6, 11, 12, 24, 54, 57] | false => []
theorem k34 : Good Tryd.prog gl sh (34, c34) := ⟨Tryd.f34, h34, d34, Tryd.func34, by kernel_rfl, by kernel_rfl⟩

def h35 : Hint := ⟨Nat.testBit 224, Nat.testBit 0, fun _ => 0⟩
def d35 : Nat → List Nat := fun _ => []
theorem k35 : Good Tryd.prog gl sh (35, c35) := ⟨Tryd.f35, h35, d35, Tryd.func35, by kernel_rfl, by kernel_rfl⟩

def h36 : Hint := ⟨Nat.testBit 130496, Nat.testBit 0, fun _ => 0⟩
def d36 : Nat → List Nat := fun n => match Nat.beq n 2 with | true => [4, 9, 17] | false => []
theorem k36 : Good Tryd.prog gl sh (36, c36) := ⟨Tryd.f36, h36, d36, Tryd.func36, by kernel_rfl, by kernel_rfl⟩

def h37 : Hint := ⟨Nat.testBit 120, Nat.testBit 0, fun _ => 0⟩
def d37 : Nat → List Nat := fun _ => []
theorem k37 : Good Tryd.prog gl sh (37, c37) := ⟨Tryd.f37, h37, d37, Tryd.func37, by kernel_rfl, by kernel_rfl⟩

def h38 : Hint := ⟨Nat.testBit 2016, Nat.testBit 0, fun _ => 0⟩
def d38 : Nat → List Nat := fun _ => []
theorem k38 : Good Tryd.prog gl sh (38, c38) := ⟨Tryd.f38, h38, d38, Tryd.func38, by kernel_rfl, by kernel_rfl⟩

def h39 : Hint := ⟨Nat.testBit 524256, Nat.testBit 0, fun _ => 0⟩
def d39 : Nat → List Nat := fun _ => []
theorem k39 : Good Tryd.prog gl sh (39, c39) := ⟨Tryd.f39, h39, d39, Tryd.func39, by kernel_rfl, by kernel_rfl⟩

def h40 : Hint := ⟨Nat.testBit 1072692672, Nat.testBit 24, fun _ => 0⟩
def d40 : Nat → List Nat := fun n => match Nat.beq n 6 with | true => [1, 9, 20] | false => []
theorem k40 : Good Tryd.prog gl sh (40, c40) := ⟨Tryd.f40, h40, d40, Tryd.func40, by kernel_rfl, by kernel_rfl⟩

def h41 : Hint := ⟨Nat.testBit 434455408319852449888000, Nat.testBit 0, fun _ => 0⟩
def d41 : Nat → List Nat := fun n => match Nat.beq n 3 with | true => [2, 3, 11, 25, 39] | false => match Nat.beq n 10 with | true => [5, 11, 43, 51] | false => match Nat.beq n 15 with | true => [0, 6, 43, 61, 74] | false => []
theorem k41 : Good Tryd.prog gl sh (41, c41) := ⟨Tryd.f41, h41, d41, Tryd.func41, by kernel_rfl, by kernel_rfl⟩

def h42 : Hint := ⟨Nat.testBit 16777184, Nat.testBit 12, fun _ => 0⟩
def d42 : Nat → List Nat := fun _ => []
theorem k42 : Good Tryd.prog gl sh (42, c42) := ⟨Tryd.f42, h42, d42, Tryd.func42, by kernel_rfl, by kernel_rfl⟩

def h43 : Hint := ⟨Nat.testBit 224, Nat.testBit 0, fun _ => 0⟩
def d43 : Nat → List Nat := fun _ => []
theorem k43 : Good Tryd.prog gl sh (43, c43) := ⟨Tryd.f43, h43, d43, Tryd.func43, by kernel_rfl, by kernel_rfl⟩

def h44 : Hint := ⟨Nat.testBit 604462909807177148333568, Nat.testBit 4, fun _ => 0⟩
def d44 : Nat → List Nat := fun n => match Nat.beq n 5 with | true => [3, 16, 37] | false => []
theorem k44 : Good Tryd.prog gl sh (44, c44) := ⟨Tryd.f44, h44, d44, Tryd.func44, by kernel_rfl, by kernel_rfl⟩

def h45 : Hint := ⟨Nat.testBit 131064, Nat.testBit 2, fun _ => 0⟩
def d45 : Nat → List Nat := fun _ => []
theorem k45 : Good Tryd.prog gl sh (45, c45) := ⟨Tryd.f45, h45, d45, Tryd.func45, by kernel_rfl, by kernel_rfl⟩

def h46 : Hint := ⟨Nat.testBit 248, Nat.testBit 6, fun _ => 0⟩
def d46 : Nat → List Nat := fun _ => []
theorem k46 : Good Tryd.prog gl sh (46, c46) := ⟨Tryd.f46, h46, d46, Tryd.func46, by kernel_rfl, by kernel_rfl⟩

def h47 : Hint := ⟨Nat.testBit 992, Nat.testBit 12, fun _ => 0⟩
def d47 : Nat → List Nat := fun _ => []
theorem k47 : Good Tryd.prog gl sh (47, c47) := ⟨Tryd.f47, h47, d47, Tryd.func47, by kernel_rfl, by kernel_rfl⟩

def h48 : Hint := ⟨Nat.testBit 4611686017420688896, Nat.testBit 132, fun _ => 0⟩
def d48 : Nat → List Nat := fun n => match Nat.beq n 5 with | true => [3, 7, 16, 29] | false => []
theorem k48 : Good Tryd.prog gl sh (48, c48) := ⟨Tryd.f48, h48, d48, Tryd.func48, by kernel_rfl, by kernel_rfl⟩

def h49 : Hint := ⟨Nat.testBit 33471872, Nat.testBit 0, fun _ => 0⟩
def d49 : Nat → List Nat := fun _ => []
theorem k49 : Good Tryd.prog gl sh (49, c49) := ⟨Tryd.f49, h49, d49, Tryd.func49, by kernel_rfl, by kernel_rfl⟩

def h50 : Hint := ⟨Nat.testBit 524224, Nat.testBit 0, fun _ => 0⟩
def d50 : Nat → List Nat := fun _ => []
theorem k50 : Good Tryd.prog gl sh (50, c50) := ⟨Tryd.f50, h50, d50, Tryd.func50, by kernel_rfl, by kernel_rfl⟩

def h51 : Hint := ⟨Nat.testBit 24, Nat.testBit 0, fun _ => 0⟩
def d51 : Nat → List Nat := fun _ => []
theorem k51 : Good Tryd.prog gl sh (51, c51) := ⟨Tryd.f51, h51, d51, Tryd.func51, by kernel_rfl, by kernel_rfl⟩

def h52 : Hint := ⟨Nat.testBit 131040, Nat.testBit 0, fun _ => 0⟩
def d52 : Nat → List Nat := fun _ => []
theorem k52 : Good Tryd.prog gl sh (52, c52) := ⟨Tryd.f52, h52, d52, Tryd.func52, by kernel_rfl, by kernel_rfl⟩

def h53 : Hint := ⟨Nat.testBit 16376, Nat.testBit 0, fun _ => 0⟩
def d53 : Nat → List Nat := fun _ => []
theorem k53 : Good Tryd.prog gl sh (53, c53) := ⟨Tryd.f53, h53, d53, Tryd.func53, by kernel_rfl, by kernel_rfl⟩

def h54 : Hint := ⟨Nat.testBit 4000, Nat.testBit 0, fun _ => 0⟩
def d54 : Nat → List Nat := fun _ => []
theorem k54 : Good Tryd.prog gl sh (54, c54) := ⟨Tryd.f54, h54, d54, Tryd.func54, by kernel_rfl, by kernel_rfl⟩

def h55 : Hint := ⟨Nat.testBit 224, Nat.testBit 0, fun _ => 0⟩
def d55 : Nat → List Nat := fun _ => []
theorem k55 : Good Tryd.prog gl sh (55, c55) := ⟨Tryd.f55, h55, d55, Tryd.func55, by kernel_rfl, by kernel_rfl⟩

def h56 : Hint := ⟨Nat.testBit 16352, Nat.testBit 0, fun _ => 0⟩
def d56 : Nat → List Nat := fun _ => []
theorem k56 : Good Tryd.prog gl sh (56, c56) := ⟨Tryd.f56, h56, d56, Tryd.func56, by kernel_rfl, by kernel_rfl⟩

def h57 : Hint := ⟨Nat.testBit 864, Nat.testBit 0, fun _ => 0⟩
def d57 : Nat → List Nat := fun _ => []
theorem k57 : Good Tryd.prog gl sh (57, c57) := ⟨Tryd.f57, h57, d57, Tryd.func57, by kernel_rfl, by kernel_rfl⟩

def h58 : Hint := ⟨Nat.testBit 785408, Nat.testBit 0, fun _ => 0⟩
def d58 : Nat → List Nat := fun n => match Nat.beq n 1 with | true => [1, 5, 9, 18] | false => []
theorem k58 : Good Tryd.prog gl sh (58, c58) := ⟨Tryd.f58, h58, d58, Tryd.func58, by kernel_rfl, by kernel_rfl⟩

def h59 : Hint := ⟨Nat.testBit 32704, Nat.testBit 0, fun _ => 0⟩
def d59 : Nat → List Nat := fun _ => []
theorem k59 : Good Tryd.prog gl sh (59, c59) := ⟨Tryd.f59, h59, d59, Tryd.func59, by kernel_rfl, by kernel_rfl⟩

def h60 : Hint := ⟨Nat.testBit 268435328, Nat.testBit 96, fun _ => 0⟩
def d60 : Nat → List Nat := fun _ => []
theorem k60 : Good Tryd.prog gl sh (60, c60) := ⟨Tryd.f60, h60, d60, Tryd.func60, by kernel_rfl, by kernel_rfl⟩

def h61 : Hint := ⟨Nat.testBit 272728293376, Nat.testBit 768, fun _ => 0⟩
def d61 : Nat → List Nat := fun n => match Nat.beq n 2 with | true => [6, 7, 8, 9, 10, 14, 21, 31] | false => []
theorem k61 : Good Tryd.prog gl sh (61, c61) := ⟨Tryd.f61, h61, d61, Tryd.func61, by kernel_rfl, by kernel_rfl⟩

def h62 : Hint := ⟨Nat.testBit 261984, Nat.testBit 12, fun _ => 0⟩
def d62 : Nat → List Nat := fun _ => []
theorem k62 : Good Tryd.prog gl sh (62, c62) := ⟨Tryd.f62, h62, d62, Tryd.func62, by kernel_rfl, by kernel_rfl⟩

end Go.Mx.Tryd
