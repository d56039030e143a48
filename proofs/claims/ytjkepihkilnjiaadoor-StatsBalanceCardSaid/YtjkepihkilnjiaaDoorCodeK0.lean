/- The compact code is what the checked translation makes of the loaded program: each by the kernel. -/
import Derived.Test.YtjkepihkilnjiaaDoorCode
import Derived.Test.YtjkepihkilnjiaaDoorBd
import Derived.Test.YtjkepihkilnjiaaDoorProg
import Derived.KernelRfl
set_option maxRecDepth 100000
namespace Go.Mx.Tryd
open Go.Proofs

def h7 : Hint := ⟨Nat.testBit 152324653271368509188725760, Nat.testBit 8, fun _ => 0⟩
def d7 : Nat → List Nat := fun n => match Nat.beq n 9 with | true => [0, 2, 3, 6, 8, 13, 25, 42, 46, 81] | false => []
theorem k7 : Good Tryd.prog gl sh (7, c7) := ⟨Tryd.f7, h7, d7, Tryd.func7, by kernel_rfl, by kernel_rfl⟩

def h8 : Hint := ⟨Nat.testBit 1461501637330902918203684832716283019655915790340, Nat.testBit 2, fun _ => 0⟩
def d8 : Nat → List Nat := fun _ => []
theorem k8 : Good Tryd.prog gl sh (8, c8) := ⟨Tryd.f8, h8, d8, Tryd.func8, by kernel_rfl, by kernel_rfl⟩

def h9 : Hint := ⟨Nat.testBit 9903368017828857541136678912, Nat.testBit 13504, fun _ => 0⟩
def d9 : Nat → List Nat := fun n => match Nat.beq n 7 with | true => [0, 1, 10, 23, 41] | false => match Nat.beq n 12 with | true => [2, 12, 13, 14, 15, 38, 39, 40, 41, 56, 70, 77] | false => []
theorem k9 : Good Tryd.prog gl sh (9, c9) := ⟨Tryd.f9, h9, d9, Tryd.func9, by kernel_rfl, by kernel_rfl⟩

def h11 : Hint := ⟨Nat.testBit 2198007709184, Nat.testBit 256, fun _ => 0⟩
def d11 : Nat → List Nat := fun n => match Nat.beq n 7 with | true => [0, 1, 4, 5, 8, 19, 23, 29] | false => []
theorem k11 : Good Tryd.prog gl sh (11, c11) := ⟨Tryd.f11, h11, d11, Tryd.func11, by kernel_rfl, by kernel_rfl⟩

def h13 : Hint := ⟨Nat.testBit 8795554119168, Nat.testBit 264, fun _ => 0⟩
def d13 : Nat → List Nat := fun n => match Nat.beq n 4 with | true => [0, 1, 5, 6, 8, 16, 20, 29] | false => []
theorem k13 : Good Tryd.prog gl sh (13, c13) := ⟨Tryd.f13, h13, d13, Tryd.func13, by kernel_rfl, by kernel_rfl⟩

def h15 : Hint := ⟨Nat.testBit 50301888, Nat.testBit 0, fun _ => 0⟩
def d15 : Nat → List Nat := fun n => match Nat.beq n 4 with | true => [4, 5, 10, 14, 24] | false => []
theorem k15 : Good Tryd.prog gl sh (15, c15) := ⟨Tryd.f15, h15, d15, Tryd.func15, by kernel_rfl, by kernel_rfl⟩

def h16 : Hint := ⟨Nat.testBit 576178727568756736, Nat.testBit 0, fun _ => 0⟩
def d16 : Nat → List Nat := fun n => match Nat.beq n 6 with | true => [4, 5, 6, 13, 15, 21] | false => []
theorem k16 : Good Tryd.prog gl sh (16, c16) := ⟨Tryd.f16, h16, d16, Tryd.func16, by kernel_rfl, by kernel_rfl⟩

def h18 : Hint := ⟨Nat.testBit 2246920730832896, Nat.testBit 32, fun _ => 0⟩
def d18 : Nat → List Nat := fun n => match Nat.beq n 3 with | true => [0, 2, 36, 37, 38] | false => match Nat.beq n 6 with | true => [5, 6, 7, 11, 38, 42] | false => []
theorem k18 : Good Tryd.prog gl sh (18, c18) := ⟨Tryd.f18, h18, d18, Tryd.func18, by kernel_rfl, by kernel_rfl⟩

def h20 : Hint := ⟨Nat.testBit 4064, Nat.testBit 4, fun _ => 0⟩
def d20 : Nat → List Nat := fun _ => []
theorem k20 : Good Tryd.prog gl sh (20, c20) := ⟨Tryd.f20, h20, d20, Tryd.func20, by kernel_rfl, by kernel_rfl⟩

def h21 : Hint := ⟨Nat.testBit 17592126271488, Nat.testBit 8, fun _ => 0⟩
def d21 : Nat → List Nat := fun n => match Nat.beq n 6 with | true => [0, 1, 2, 3, 6, 7, 9, 11, 20, 25] | false => []
theorem k21 : Good Tryd.prog gl sh (21, c21) := ⟨Tryd.f21, h21, d21, Tryd.func21, by kernel_rfl, by kernel_rfl⟩

def h22 : Hint := ⟨Nat.testBit 270215977642229616, Nat.testBit 0, fun _ => 0⟩
def d22 : Nat → List Nat := fun n => match Nat.beq n 2 with | true => [2, 7, 54] | false => []
theorem k22 : Good Tryd.prog gl sh (22, c22) := ⟨Tryd.f22, h22, d22, Tryd.func22, by kernel_rfl, by kernel_rfl⟩

def h23 : Hint := ⟨Nat.testBit 10141050059320906243531417288704, Nat.testBit 1344, fun n => match Nat.beq n 58 with | true => 5 | false => match Nat.beq n 63 with | true => 1 | false => match Nat.beq n 79 with | true => 1 | false => match Nat.beq n 91 with | true => 5 | false => match Nat.beq n 99 with | true => 1 | false => 0⟩
def d23 : Nat → List Nat := fun n => match Nat.beq n 7 with | true => [2, 7, 12, 13, 35, 54] | false => match Nat.beq n 11 with | true => [48, 54] | false => match Nat.beq n 18 with | true => [9, 10, 11, 48, 87] | false => []
theorem k23 : Good Tryd.prog gl sh (23, c23) := ⟨Tryd.f23, h23, d23, Tryd.func23, by kernel_rfl, by kernel_rfl⟩

def h24 : Hint := ⟨Nat.testBit 50301888, Nat.testBit 0, fun _ => 0⟩
def d24 : Nat → List Nat := fun n => match Nat.beq n 4 with | true => [4, 5, 10, 14, 24] | false => []
theorem k24 : Good Tryd.prog gl sh (24, c24) := ⟨Tryd.f24, h24, d24, Tryd.func24, by kernel_rfl, by kernel_rfl⟩

def h25 : Hint := ⟨Nat.testBit 13194139529312, Nat.testBit 16, fun _ => 0⟩
def d25 : Nat → List Nat := fun n => match Nat.beq n 4 with | true => [2, 3, 4, 7, 11, 42] | false => []
theorem k25 : Good Tryd.prog gl sh (25, c25) := ⟨Tryd.f25, h25, d25, Tryd.func25, by kernel_rfl, by kernel_rfl⟩

def h26 : Hint := ⟨Nat.testBit 4611686017420688896, Nat.testBit 132, fun _ => 0⟩
def d26 : Nat → List Nat := fun n => match Nat.beq n 5 with | true => [3, 7, 16, 29] | false => []
theorem k26 : Good Tryd.prog gl sh (26, c26) := ⟨Tryd.f26, h26, d26, Tryd.func26, by kernel_rfl, by kernel_rfl⟩

def h29 : Hint := ⟨Nat.testBit 523808, Nat.testBit 0, fun _ => 0⟩
def d29 : Nat → List Nat := fun n => match Nat.beq n 3 with | true => [2, 4, 8] | false => []
theorem k29 : Good Tryd.prog gl sh (29, c29) := ⟨Tryd.f29, h29, d29, Tryd.func29, by kernel_rfl, by kernel_rfl⟩

def h31 : Hint := ⟨Nat.testBit 562949953421304, Nat.testBit 2, fun _ => 0⟩
def d31 : Nat → List Nat := fun _ => []
theorem k31 : Good Tryd.prog gl sh (31, c31) := ⟨Tryd.f31, h31, d31, Tryd.func31, by kernel_rfl, by kernel_rfl⟩

def h32 : Hint := ⟨Nat.testBit 2199023255520, Nat.testBit 12, fun _ => 0⟩
def d32 : Nat → List Nat := fun _ => []
theorem k32 : Good Tryd.prog gl sh (32, c32) := ⟨Tryd.f32, h32, d32, Tryd.func32, by kernel_rfl, by kernel_rfl⟩

def h35 : Hint := ⟨Nat.testBit 1000, Nat.testBit 0, fun _ => 0⟩
def d35 : Nat → List Nat := fun _ => []
theorem k35 : Good Tryd.prog gl sh (35, c35) := ⟨Tryd.f35, h35, d35, Tryd.func35, by kernel_rfl, by kernel_rfl⟩

def h37 : Hint := ⟨Nat.testBit 131040, Nat.testBit 0, fun _ => 0⟩
def d37 : Nat → List Nat := fun _ => []
theorem k37 : Good Tryd.prog gl sh (37, c37) := ⟨Tryd.f37, h37, d37, Tryd.func37, by kernel_rfl, by kernel_rfl⟩

def h38 : Hint := ⟨Nat.testBit 524224, Nat.testBit 0, fun _ => 0⟩
def d38 : Nat → List Nat := fun _ => []
theorem k38 : Good Tryd.prog gl sh (38, c38) := ⟨Tryd.f38, h38, d38, Tryd.func38, by kernel_rfl, by kernel_rfl⟩

def h39 : Hint := ⟨Nat.testBit 24, Nat.testBit 0, fun _ => 0⟩
def d39 : Nat → List Nat := fun _ => []
theorem k39 : Good Tryd.prog gl sh (39, c39) := ⟨Tryd.f39, h39, d39, Tryd.func39, by kernel_rfl, by kernel_rfl⟩

def h40 : Hint := ⟨Nat.testBit 16376, Nat.testBit 0, fun _ => 0⟩
def d40 : Nat → List Nat := fun _ => []
theorem k40 : Good Tryd.prog gl sh (40, c40) := ⟨Tryd.f40, h40, d40, Tryd.func40, by kernel_rfl, by kernel_rfl⟩

def h42 : Hint := ⟨Nat.testBit 402186224, Nat.testBit 2, fun _ => 0⟩
def d42 : Nat → List Nat := fun n => match Nat.beq n 4 with | true => [0, 2, 3, 13, 18, 27] | false => []
theorem k42 : Good Tryd.prog gl sh (42, c42) := ⟨Tryd.f42, h42, d42, Tryd.func42, by kernel_rfl, by kernel_rfl⟩

def h43 : Hint := ⟨Nat.testBit 560750451945472, Nat.testBit 8, fun n => match Nat.beq n 25 with | true => 1 | false => match Nat.beq n 45 with | true => 1 | false => 0⟩
def d43 : Nat → List Nat := fun n => match Nat.beq n 8 with | true => [0, 1, 2, 6, 7, 8, 10, 11, 16, 23, 28, 41] | false => []
theorem k43 : Good Tryd.prog gl sh (43, c43) := ⟨Tryd.f43, h43, d43, Tryd.func43, by kernel_rfl, by kernel_rfl⟩

def h44 : Hint := ⟨Nat.testBit 524256, Nat.testBit 0, fun _ => 0⟩
def d44 : Nat → List Nat := fun _ => []
theorem k44 : Good Tryd.prog gl sh (44, c44) := ⟨Tryd.f44, h44, d44, Tryd.func44, by kernel_rfl, by kernel_rfl⟩

def h45 : Hint := ⟨Nat.testBit 16777184, Nat.testBit 12, fun _ => 0⟩
def d45 : Nat → List Nat := fun _ => []
theorem k45 : Good Tryd.prog gl sh (45, c45) := ⟨Tryd.f45, h45, d45, Tryd.func45, by kernel_rfl, by kernel_rfl⟩

def h46 : Hint := ⟨Nat.testBit 18014398509412320, Nat.testBit 16, fun _ => 0⟩
def d46 : Nat → List Nat := fun n => match Nat.beq n 4 with | true => [2, 4, 12, 16, 54] | false => []
theorem k46 : Good Tryd.prog gl sh (46, c46) := ⟨Tryd.f46, h46, d46, Tryd.func46, by kernel_rfl, by kernel_rfl⟩

def h47 : Hint := ⟨Nat.testBit 8379904, Nat.testBit 192, fun _ => 0⟩
def d47 : Nat → List Nat := fun n => match Nat.beq n 3 with | true => [0, 13] | false => []
theorem k47 : Good Tryd.prog gl sh (47, c47) := ⟨Tryd.f47, h47, d47, Tryd.func47, by kernel_rfl, by kernel_rfl⟩

def h48 : Hint := ⟨Nat.testBit 131064, Nat.testBit 2, fun _ => 0⟩
def d48 : Nat → List Nat := fun _ => []
theorem k48 : Good Tryd.prog gl sh (48, c48) := ⟨Tryd.f48, h48, d48, Tryd.func48, by kernel_rfl, by kernel_rfl⟩

def h49 : Hint := ⟨Nat.testBit 248, Nat.testBit 6, fun _ => 0⟩
def d49 : Nat → List Nat := fun _ => []
theorem k49 : Good Tryd.prog gl sh (49, c49) := ⟨Tryd.f49, h49, d49, Tryd.func49, by kernel_rfl, by kernel_rfl⟩

def h50 : Hint := ⟨Nat.testBit 992, Nat.testBit 12, fun _ => 0⟩
def d50 : Nat → List Nat := fun _ => []
theorem k50 : Good Tryd.prog gl sh (50, c50) := ⟨Tryd.f50, h50, d50, Tryd.func50, by kernel_rfl, by kernel_rfl⟩

def h51 : Hint := ⟨Nat.testBit 504, Nat.testBit 0, fun _ => 0⟩
def d51 : Nat → List Nat := fun _ => []
theorem k51 : Good Tryd.prog gl sh (51, c51) := ⟨Tryd.f51, h51, d51, Tryd.func51, by kernel_rfl, by kernel_rfl⟩

def h54 : Hint := ⟨Nat.testBit 24, Nat.testBit 0, fun _ => 0⟩
def d54 : Nat → List Nat := fun _ => []
theorem k54 : Good Tryd.prog gl sh (54, c54) := ⟨Tryd.f54, h54, d54, Tryd.func54, by kernel_rfl, by kernel_rfl⟩

def h56 : Hint := ⟨Nat.testBit 515520, Nat.testBit 4, fun _ => 0⟩
def d56 : Nat → List Nat := fun _ => []
theorem k56 : Good Tryd.prog gl sh (56, c56) := ⟨Tryd.f56, h56, d56, Tryd.func56, by kernel_rfl, by kernel_rfl⟩

def h57 : Hint := ⟨Nat.testBit 2361142691445482946560, Nat.testBit 13316, fun _ => 0⟩
def d57 : Nat → List Nat := fun n => match Nat.beq n 5 with | true => [0, 1, 4, 5, 10, 25, 26, 27, 28] | false => match Nat.beq n 8 with | true => [12, 13, 14, 21, 28, 44, 52, 55] | false => []
theorem k57 : Good Tryd.prog gl sh (57, c57) := ⟨Tryd.f57, h57, d57, Tryd.func57, by kernel_rfl, by kernel_rfl⟩

def h58 : Hint := ⟨Nat.testBit 16777184, Nat.testBit 12, fun _ => 0⟩
def d58 : Nat → List Nat := fun _ => []
theorem k58 : Good Tryd.prog gl sh (58, c58) := ⟨Tryd.f58, h58, d58, Tryd.func58, by kernel_rfl, by kernel_rfl⟩

def h59 : Hint := ⟨Nat.testBit 131040, Nat.testBit 12, fun _ => 0⟩
def d59 : Nat → List Nat := fun _ => []
theorem k59 : Good Tryd.prog gl sh (59, c59) := ⟨Tryd.f59, h59, d59, Tryd.func59, by kernel_rfl, by kernel_rfl⟩

def h61 : Hint := ⟨Nat.testBit 18014381321090304, Nat.testBit 0, fun _ => 0⟩
def d61 : Nat → List Nat := fun _ => []
theorem k61 : Good Tryd.prog gl sh (61, c61) := ⟨Tryd.f61, h61, d61, Tryd.func61, by kernel_rfl, by kernel_rfl⟩

def h62 : Hint := ⟨Nat.testBit 16376, Nat.testBit 2, fun _ => 0⟩
def d62 : Nat → List Nat := fun _ => []
theorem k62 : Good Tryd.prog gl sh (62, c62) := ⟨Tryd.f62, h62, d62, Tryd.func62, by kernel_rfl, by kernel_rfl⟩

def h63 : Hint := ⟨Nat.testBit 8386624, Nat.testBit 32, fun _ => 0⟩
def d63 : Nat → List Nat := fun n => match Nat.beq n 3 with | true => [0, 2, 5, 10] | false => []
theorem k63 : Good Tryd.prog gl sh (63, c63) := ⟨Tryd.f63, h63, d63, Tryd.func63, by kernel_rfl, by kernel_rfl⟩

def h64 : Hint := ⟨Nat.testBit 17592185551872, Nat.testBit 560, fun _ => 0⟩
def d64 : Nat → List Nat := fun n => match Nat.beq n 3 with | true => [1, 2, 6, 9, 18] | false => []
theorem k64 : Good Tryd.prog gl sh (64, c64) := ⟨Tryd.f64, h64, d64, Tryd.func64, by kernel_rfl, by kernel_rfl⟩

def h65 : Hint := ⟨Nat.testBit 131064, Nat.testBit 2, fun _ => 0⟩
def d65 : Nat → List Nat := fun _ => []
theorem k65 : Good Tryd.prog gl sh (65, c65) := ⟨Tryd.f65, h65, d65, Tryd.func65, by kernel_rfl, by kernel_rfl⟩

def h66 : Hint := ⟨Nat.testBit 1657320264556851200, Nat.testBit 64, fun _ => 0⟩
def d66 : Nat → List Nat := fun n => match Nat.beq n 3 with | true => [0, 2, 3, 6, 11, 14, 19, 28] | false => match Nat.beq n 14 with | true => [8, 9, 10, 11, 42, 56] | false => []
theorem k66 : Good Tryd.prog gl sh (66, c66) := ⟨Tryd.f66, h66, d66, Tryd.func66, by kernel_rfl, by kernel_rfl⟩

def h67 : Hint := ⟨Nat.testBit 244736, Nat.testBit 0, fun _ => 0⟩
def d67 : Nat → List Nat := fun n => match Nat.beq n 3 with | true => [0, 2, 5, 9, 14] | false => []
theorem k67 : Good Tryd.prog gl sh (67, c67) := ⟨Tryd.f67, h67, d67, Tryd.func67, by kernel_rfl, by kernel_rfl⟩

def h68 : Hint := ⟨Nat.testBit 444288, Nat.testBit 0, fun _ => 0⟩
def d68 : Nat → List Nat := fun _ => []
theorem k68 : Good Tryd.prog gl sh (68, c68) := ⟨Tryd.f68, h68, d68, Tryd.func68, by kernel_rfl, by kernel_rfl⟩

def h69 : Hint := ⟨Nat.testBit 32744, Nat.testBit 0, fun _ => 0⟩
def d69 : Nat → List Nat := fun _ => []
theorem k69 : Good Tryd.prog gl sh (69, c69) := ⟨Tryd.f69, h69, d69, Tryd.func69, by kernel_rfl, by kernel_rfl⟩

def h70 : Hint := ⟨Nat.testBit 32752, Nat.testBit 0, fun _ => 0⟩
def d70 : Nat → List Nat := fun _ => []
theorem k70 : Good Tryd.prog gl sh (70, c70) := ⟨Tryd.f70, h70, d70, Tryd.func70, by kernel_rfl, by kernel_rfl⟩

def h71 : Hint := ⟨Nat.testBit 184149205606795480238948490449146349755637850570752, Nat.testBit 0, fun _ => 0⟩
def d71 : Nat → List Nat := fun n => match Nat.beq n 1 with | true => [5, 6, 7, 8, 9, 10, 11, 20] | false => []
theorem k71 : Good Tryd.prog gl sh (71, c71) := ⟨Tryd.f71, h71, d71, Tryd.func71, by kernel_rfl, by kernel_rfl⟩

def h73 : Hint := ⟨Nat.testBit 145384312038687109241252602162708224, Nat.testBit 34, fun _ => 0⟩
def d73 : Nat → List Nat := fun n => match Nat.beq n 5 with | true => [0, 2, 3, 4, 5, 45, 74, 75, 76, 77] | false => match Nat.beq n 10 with | true => [7, 50, 72, 77, 114] | false => []
theorem k73 : Good Tryd.prog gl sh (73, c73) := ⟨Tryd.f73, h73, d73, Tryd.func73, by kernel_rfl, by kernel_rfl⟩

def h74 : Hint := ⟨Nat.testBit 536809216, Nat.testBit 4, fun _ => 0⟩
def d74 : Nat → List Nat := fun n => match Nat.beq n 3 with | true => [0, 1, 4, 7, 15] | false => []
theorem k74 : Good Tryd.prog gl sh (74, c74) := ⟨Tryd.f74, h74, d74, Tryd.func74, by kernel_rfl, by kernel_rfl⟩

def h75 : Hint := ⟨Nat.testBit 16352, Nat.testBit 0, fun _ => 0⟩
def d75 : Nat → List Nat := fun _ => []
theorem k75 : Good Tryd.prog gl sh (75, c75) := ⟨Tryd.f75, h75, d75, Tryd.func75, by kernel_rfl, by kernel_rfl⟩

def h76 : Hint := ⟨Nat.testBit 56, Nat.testBit 0, fun _ => 0⟩
def d76 : Nat → List Nat := fun _ => []
theorem k76 : Good Tryd.prog gl sh (76, c76) := ⟨Tryd.f76, h76, d76, Tryd.func76, by kernel_rfl, by kernel_rfl⟩

def h77 : Hint := ⟨Nat.testBit 56, Nat.testBit 0, fun _ => 0⟩
def d77 : Nat → List Nat := fun _ => []
theorem k77 : Good Tryd.prog gl sh (77, c77) := ⟨Tryd.f77, h77, d77, Tryd.func77, by kernel_rfl, by kernel_rfl⟩

def h78 : Hint := ⟨Nat.testBit 33537768, Nat.testBit 0, fun _ => 0⟩
def d78 : Nat → List Nat := fun _ => []
theorem k78 : Good Tryd.prog gl sh (78, c78) := ⟨Tryd.f78, h78, d78, Tryd.func78, by kernel_rfl, by kernel_rfl⟩

def h79 : Hint := ⟨Nat.testBit 0, Nat.testBit 0, fun _ => 0⟩
def d79 : Nat → List Nat := fun _ => []
theorem k79 : Good Tryd.prog gl sh (79, c79) := ⟨Tryd.f79, h79, d79, Tryd.func79, by kernel_rfl, by kernel_rfl⟩

def h82 : Hint := ⟨Nat.testBit 6755399440928736, Nat.testBit 16, fun _ => 0⟩
def d82 : Nat → List Nat := fun n => match Nat.beq n 4 with | true => [2, 3, 4, 12, 16, 51] | false => []
theorem k82 : Good Tryd.prog gl sh (82, c82) := ⟨Tryd.f82, h82, d82, Tryd.func82, by kernel_rfl, by kernel_rfl⟩

def h83 : Hint := ⟨Nat.testBit 356811880641193946689691826088336933575983104, Nat.testBit 0, fun _ => 0⟩
def d83 : Nat → List Nat := fun n => match Nat.beq n 2 with | true => [12, 13, 14, 15, 16, 17, 18, 19, 20, 25, 32, 39, 56, 75, 80, 97, 125] | false => []
theorem k83 : Good Tryd.prog gl sh (83, c83) := ⟨Tryd.f83, h83, d83, Tryd.func83, by kernel_rfl, by kernel_rfl⟩

def h84 : Hint := ⟨Nat.testBit 248, Nat.testBit 0, fun _ => 0⟩
def d84 : Nat → List Nat := fun _ => []
theorem k84 : Good Tryd.prog gl sh (84, c84) := ⟨Tryd.f84, h84, d84, Tryd.func84, by kernel_rfl, by kernel_rfl⟩

def h87 : Hint := ⟨Nat.testBit 9007182074854400, Nat.testBit 0, fun _ => 0⟩
def d87 : Nat → List Nat := fun n => match Nat.beq n 1 with | true => [9, 34] | false => match Nat.beq n 4 with | true => [14, 34] | false => []
theorem k87 : Good Tryd.prog gl sh (87, c87) := ⟨Tryd.f87, h87, d87, Tryd.func87, by kernel_rfl, by kernel_rfl⟩

end Go.Mx.Tryd
