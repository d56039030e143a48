/- The compact code is what the checked translation makes of the loaded program: each by the kernel. -/
import Derived.Test.YtbpkmkgnkpeefaaGreatDoorCode
import Derived.Test.YtbpkmkgnkpeefaaGreatDoorBd
import Derived.Test.YtbpkmkgnkpeefaaGreatDoorProg
import Derived.KernelRfl
set_option maxRecDepth 100000
namespace Go.Mx.Tryz
open Go.Proofs

def h3 : Hint := ⟨Nat.testBit 33554288, Nat.testBit 2, fun _ => 0⟩
def d3 : Nat → List Nat := fun _ => []
theorem k3 : Good Tryz.prog gl sh (3, c3) := ⟨Tryz.f3, h3, d3, Tryz.func3, by kernel_rfl, by kernel_rfl⟩

def h6 : Hint := ⟨Nat.testBit 2251799813685240, Nat.testBit 4, fun n => match Nat.beq n 25 with | true => 1 | false => match Nat.beq n 34 with | true => 1 | false => 0⟩
def d6 : Nat → List Nat := fun _ => []
theorem k6 : Good Tryz.prog gl sh (6, c6) := ⟨Tryz.f6, h6, d6, Tryz.func6, by kernel_rfl, by kernel_rfl⟩

def h7 : Hint := ⟨Nat.testBit 158436717693715384227720028160, Nat.testBit 258, fun _ => 0⟩
def d7 : Nat → List Nat := fun n => match Nat.beq n 8 with | true => [0, 2, 3, 4, 12, 15, 24, 33, 50] | false => match Nat.beq n 16 with | true => [1, 9, 30, 31, 32, 33, 75, 76, 77] | false => match Nat.beq n 20 with | true => [8, 11, 65, 77, 84] | false => []
theorem k7 : Good Tryz.prog gl sh (7, c7) := ⟨Tryz.f7, h7, d7, Tryz.func7, by kernel_rfl, by kernel_rfl⟩

def h8 : Hint := ⟨Nat.testBit 2721915916716037638917947685201168035840, Nat.testBit 2, fun _ => 0⟩
def d8 : Nat → List Nat := fun n => match Nat.beq n 6 with | true => [0, 2, 4, 19, 23, 32] | false => match Nat.beq n 9 with | true => [28, 32, 58] | false => match Nat.beq n 15 with | true => [3, 7, 8, 28, 77] | false => match Nat.beq n 19 with | true => [63, 77, 92] | false => match Nat.beq n 25 with | true => [6, 63, 101, 108] | false => match Nat.beq n 30 with | true => [5, 9, 11, 101, 118] | false => match Nat.beq n 33 with | true => [113, 118, 131] | false => []
theorem k8 : Good Tryz.prog gl sh (8, c8) := ⟨Tryz.f8, h8, d8, Tryz.func8, by kernel_rfl, by kernel_rfl⟩

def h9 : Hint := ⟨Nat.testBit 154666947046946619769487232, Nat.testBit 42, fun _ => 0⟩
def d9 : Nat → List Nat := fun n => match Nat.beq n 6 with | true => [0, 2, 5, 6, 20, 28, 76] | false => []
theorem k9 : Good Tryz.prog gl sh (9, c9) := ⟨Tryz.f9, h9, d9, Tryz.func9, by kernel_rfl, by kernel_rfl⟩

def h11 : Hint := ⟨Nat.testBit 580423915293726601200, Nat.testBit 0, fun _ => 0⟩
def d11 : Nat → List Nat := fun _ => []
theorem k11 : Good Tryz.prog gl sh (11, c11) := ⟨Tryz.f11, h11, d11, Tryz.func11, by kernel_rfl, by kernel_rfl⟩

def h17 : Hint := ⟨Nat.testBit 9668731762102630292054016, Nat.testBit 652, fun _ => 0⟩
def d17 : Nat → List Nat := fun n => match Nat.beq n 9 with | true => [0, 1, 4, 7, 12, 16, 25, 34, 45] | false => match Nat.beq n 16 with | true => [5, 8, 9, 31, 32, 33, 34, 53, 64] | false => []
theorem k17 : Good Tryz.prog gl sh (17, c17) := ⟨Tryz.f17, h17, d17, Tryz.func17, by kernel_rfl, by kernel_rfl⟩

def h22 : Hint := ⟨Nat.testBit 197748821748390100177216, Nat.testBit 2092, fun _ => 0⟩
def d22 : Nat → List Nat := fun n => match Nat.beq n 14 with | true => [0, 1, 4, 5, 7, 9, 11, 13, 14, 18, 41, 52, 57, 69] | false => []
theorem k22 : Good Tryz.prog gl sh (22, c22) := ⟨Tryz.f22, h22, d22, Tryz.func22, by kernel_rfl, by kernel_rfl⟩

def h23 : Hint := ⟨Nat.testBit 4072, Nat.testBit 2, fun _ => 0⟩
def d23 : Nat → List Nat := fun _ => []
theorem k23 : Good Tryz.prog gl sh (23, c23) := ⟨Tryz.f23, h23, d23, Tryz.func23, by kernel_rfl, by kernel_rfl⟩

def h24 : Hint := ⟨Nat.testBit 33521504, Nat.testBit 0, fun _ => 0⟩
def d24 : Nat → List Nat := fun n => match Nat.beq n 5 with | true => [2, 7, 15] | false => []
theorem k24 : Good Tryz.prog gl sh (24, c24) := ⟨Tryz.f24, h24, d24, Tryz.func24, by kernel_rfl, by kernel_rfl⟩

def h25 : Hint := ⟨Nat.testBit 33521504, Nat.testBit 0, fun _ => 0⟩
def d25 : Nat → List Nat := fun n => match Nat.beq n 5 with | true => [2, 7, 15] | false => []
theorem k25 : Good Tryz.prog gl sh (25, c25) := ⟨Tryz.f25, h25, d25, Tryz.func25, by kernel_rfl, by kernel_rfl⟩

def h26 : Hint := ⟨Nat.testBit 260992, Nat.testBit 8, fun _ => 0⟩
def d26 : Nat → List Nat := fun _ => []
theorem k26 : Good Tryz.prog gl sh (26, c26) := ⟨Tryz.f26, h26, d26, Tryz.func26, by kernel_rfl, by kernel_rfl⟩

def h27 : Hint := ⟨Nat.testBit 34357510080, Nat.testBit 4, fun _ => 0⟩
def d27 : Nat → List Nat := fun n => match Nat.beq n 4 with | true => [0, 4, 17, 21] | false => []
theorem k27 : Good Tryz.prog gl sh (27, c27) := ⟨Tryz.f27, h27, d27, Tryz.func27, by kernel_rfl, by kernel_rfl⟩

def h28 : Hint := ⟨Nat.testBit 3144640, Nat.testBit 12, fun _ => 0⟩
def d28 : Nat → List Nat := fun n => match Nat.beq n 2 with | true => [0, 1, 4, 10, 20] | false => []
theorem k28 : Good Tryz.prog gl sh (28, c28) := ⟨Tryz.f28, h28, d28, Tryz.func28, by kernel_rfl, by kernel_rfl⟩

def h29 : Hint := ⟨Nat.testBit 6755399440928736, Nat.testBit 16, fun _ => 0⟩
def d29 : Nat → List Nat := fun n => match Nat.beq n 4 with | true => [2, 3, 4, 12, 16, 51] | false => []
theorem k29 : Good Tryz.prog gl sh (29, c29) := ⟨Tryz.f29, h29, d29, Tryz.func29, by kernel_rfl, by kernel_rfl⟩

def h30 : Hint := ⟨Nat.testBit 480, Nat.testBit 0, fun _ => 0⟩
def d30 : Nat → List Nat := fun _ => []
theorem k30 : Good Tryz.prog gl sh (30, c30) := ⟨Tryz.f30, h30, d30, Tryz.func30, by kernel_rfl, by kernel_rfl⟩

def h31 : Hint := ⟨Nat.testBit 32752, Nat.testBit 4, fun _ => 0⟩
def d31 : Nat → List Nat := fun _ => []
theorem k31 : Good Tryz.prog gl sh (31, c31) := ⟨Tryz.f31, h31, d31, Tryz.func31, by kernel_rfl, by kernel_rfl⟩

def h32 : Hint := ⟨Nat.testBit 1008, Nat.testBit 4, fun _ => 0⟩
def d32 : Nat → List Nat := fun _ => []
theorem k32 : Good Tryz.prog gl sh (32, c32) := ⟨Tryz.f32, h32, d32, Tryz.func32, by kernel_rfl, by kernel_rfl⟩

def h33 : Hint := ⟨Nat.testBit 288230341753237632, Nat.testBit 18, fun _ => 0⟩
def d33 : Nat → List Nat := fun n => match Nat.beq n 2 with | true => [0, 2, 3, 4, 16, 17, 18, 19] | false => match Nat.beq n 5 with | true => [6, 11, 19, 22, 25, 35] | false => []
theorem k33 : Good Tryz.prog gl sh (33, c33) := ⟨Tryz.f33, h33, d33, Tryz.func33, by kernel_rfl, by kernel_rfl⟩

def h34 : Hint := ⟨Nat.testBit 503308672, Nat.testBit 34, fun _ => 0⟩
def d34 : Nat → List Nat := fun n => match Nat.beq n 3 with | true => [0, 1, 2, 5, 6, 12, 25] | false => []
theorem k34 : Good Tryz.prog gl sh (34, c34) := ⟨Tryz.f34, h34, d34, Tryz.func34, by kernel_rfl, by kernel_rfl⟩

def h35 : Hint := ⟨Nat.testBit 1109389917290368, Nat.testBit 2, fun _ => 0⟩
def d35 : Nat → List Nat := fun n => match Nat.beq n 4 with | true => [0, 2, 20, 27, 34, 40, 41, 42, 43] | false => match Nat.beq n 10 with | true => [6, 20, 27, 34, 43] | false => []
theorem k35 : Good Tryz.prog gl sh (35, c35) := ⟨Tryz.f35, h35, d35, Tryz.func35, by kernel_rfl, by kernel_rfl⟩

def h36 : Hint := ⟨Nat.testBit 16777184, Nat.testBit 12, fun _ => 0⟩
def d36 : Nat → List Nat := fun _ => []
theorem k36 : Good Tryz.prog gl sh (36, c36) := ⟨Tryz.f36, h36, d36, Tryz.func36, by kernel_rfl, by kernel_rfl⟩

def h37 : Hint := ⟨Nat.testBit 472, Nat.testBit 6, fun _ => 0⟩
def d37 : Nat → List Nat := fun _ => []
theorem k37 : Good Tryz.prog gl sh (37, c37) := ⟨Tryz.f37, h37, d37, Tryz.func37, by kernel_rfl, by kernel_rfl⟩

def h41 : Hint := ⟨Nat.testBit 16376, Nat.testBit 2, fun _ => 0⟩
def d41 : Nat → List Nat := fun _ => []
theorem k41 : Good Tryz.prog gl sh (41, c41) := ⟨Tryz.f41, h41, d41, Tryz.func41, by kernel_rfl, by kernel_rfl⟩

def h42 : Hint := ⟨Nat.testBit 480, Nat.testBit 0, fun _ => 0⟩
def d42 : Nat → List Nat := fun _ => []
theorem k42 : Good Tryz.prog gl sh (42, c42) := ⟨Tryz.f42, h42, d42, Tryz.func42, by kernel_rfl, by kernel_rfl⟩

def h43 : Hint := ⟨Nat.testBit 56, Nat.testBit 2, fun _ => 0⟩
def d43 : Nat → List Nat := fun _ => []
theorem k43 : Good Tryz.prog gl sh (43, c43) := ⟨Tryz.f43, h43, d43, Tryz.func43, by kernel_rfl, by kernel_rfl⟩

def h44 : Hint := ⟨Nat.testBit 8388584, Nat.testBit 2, fun _ => 0⟩
def d44 : Nat → List Nat := fun _ => []
theorem k44 : Good Tryz.prog gl sh (44, c44) := ⟨Tryz.f44, h44, d44, Tryz.func44, by kernel_rfl, by kernel_rfl⟩

def h45 : Hint := ⟨Nat.testBit 939450624, Nat.testBit 34, fun _ => 0⟩
def d45 : Nat → List Nat := fun n => match Nat.beq n 3 with | true => [0, 1, 2, 5, 6, 7, 12, 16, 27] | false => []
theorem k45 : Good Tryz.prog gl sh (45, c45) := ⟨Tryz.f45, h45, d45, Tryz.func45, by kernel_rfl, by kernel_rfl⟩

def h46 : Hint := ⟨Nat.testBit 442145326647694307328, Nat.testBit 8, fun _ => 0⟩
def d46 : Nat → List Nat := fun n => match Nat.beq n 9 with | true => [0, 1, 4, 5, 7, 9, 10, 11, 14, 21, 24, 28, 46, 59, 67] | false => []
theorem k46 : Good Tryz.prog gl sh (46, c46) := ⟨Tryz.f46, h46, d46, Tryz.func46, by kernel_rfl, by kernel_rfl⟩

def h55 : Hint := ⟨Nat.testBit 17163876352, Nat.testBit 12, fun _ => 0⟩
def d55 : Nat → List Nat := fun n => match Nat.beq n 6 with | true => [0, 1, 2, 3, 4, 5, 6, 7, 10, 18, 23] | false => []
theorem k55 : Good Tryz.prog gl sh (55, c55) := ⟨Tryz.f55, h55, d55, Tryz.func55, by kernel_rfl, by kernel_rfl⟩

def h56 : Hint := ⟨Nat.testBit 295003649253755041792, Nat.testBit 40, fun _ => 0⟩
def d56 : Nat → List Nat := fun _ => []
theorem k56 : Good Tryz.prog gl sh (56, c56) := ⟨Tryz.f56, h56, d56, Tryz.func56, by kernel_rfl, by kernel_rfl⟩

def h57 : Hint := ⟨Nat.testBit 4227825408, Nat.testBit 12, fun _ => 0⟩
def d57 : Nat → List Nat := fun _ => []
theorem k57 : Good Tryz.prog gl sh (57, c57) := ⟨Tryz.f57, h57, d57, Tryz.func57, by kernel_rfl, by kernel_rfl⟩

def h58 : Hint := ⟨Nat.testBit 2017612632550276096, Nat.testBit 130, fun _ => 0⟩
def d58 : Nat → List Nat := fun n => match Nat.beq n 5 with | true => [0, 2, 3, 5, 6, 7, 8, 9, 23, 28, 58] | false => []
theorem k58 : Good Tryz.prog gl sh (58, c58) := ⟨Tryz.f58, h58, d58, Tryz.func58, by kernel_rfl, by kernel_rfl⟩

def h59 : Hint := ⟨Nat.testBit 131040, Nat.testBit 12, fun _ => 0⟩
def d59 : Nat → List Nat := fun _ => []
theorem k59 : Good Tryz.prog gl sh (59, c59) := ⟨Tryz.f59, h59, d59, Tryz.func59, by kernel_rfl, by kernel_rfl⟩

def h60 : Hint := ⟨Nat.testBit 457792, Nat.testBit 0, fun _ => 0⟩
def d60 : Nat → List Nat := fun n => match Nat.beq n 2 with | true => [4, 5, 9, 16] | false => []
theorem k60 : Good Tryz.prog gl sh (60, c60) := ⟨Tryz.f60, h60, d60, Tryz.func60, by kernel_rfl, by kernel_rfl⟩

def h61 : Hint := ⟨Nat.testBit 224, Nat.testBit 0, fun _ => 0⟩
def d61 : Nat → List Nat := fun _ => []
theorem k61 : Good Tryz.prog gl sh (61, c61) := ⟨Tryz.f61, h61, d61, Tryz.func61, by kernel_rfl, by kernel_rfl⟩

def h62 : Hint := ⟨Nat.testBit 3220716544, Nat.testBit 768, fun _ => 0⟩
def d62 : Nat → List Nat := fun n => match Nat.beq n 4 with | true => [0, 6, 7, 8, 9, 14, 18, 30] | false => []
theorem k62 : Good Tryz.prog gl sh (62, c62) := ⟨Tryz.f62, h62, d62, Tryz.func62, by kernel_rfl, by kernel_rfl⟩

def h63 : Hint := ⟨Nat.testBit 131040, Nat.testBit 12, fun _ => 0⟩
def d63 : Nat → List Nat := fun _ => []
theorem k63 : Good Tryz.prog gl sh (63, c63) := ⟨Tryz.f63, h63, d63, Tryz.func63, by kernel_rfl, by kernel_rfl⟩

def h64 : Hint := ⟨Nat.testBit 50301888, Nat.testBit 0, fun _ => 0⟩
def d64 : Nat → List Nat := fun n => match Nat.beq n 4 with | true => [4, 5, 10, 14, 24] | false => []
theorem k64 : Good Tryz.prog gl sh (64, c64) := ⟨Tryz.f64, h64, d64, Tryz.func64, by kernel_rfl, by kernel_rfl⟩

def h65 : Hint := ⟨Nat.testBit 145384312038687109241252602162708224, Nat.testBit 34, fun _ => 0⟩
def d65 : Nat → List Nat := fun n => match Nat.beq n 5 with | true => [0, 2, 3, 4, 5, 45, 74, 75, 76, 77] | false => match Nat.beq n 10 with | true => [7, 50, 72, 77, 114] | false => []
theorem k65 : Good Tryz.prog gl sh (65, c65) := ⟨Tryz.f65, h65, d65, Tryz.func65, by kernel_rfl, by kernel_rfl⟩

def h66 : Hint := ⟨Nat.testBit 590295810349863563264, Nat.testBit 276, fun n => match Nat.beq n 44 with | true => 5 | false => match Nat.beq n 55 with | true => 5 | false => 0⟩
def d66 : Nat → List Nat := fun n => match Nat.beq n 4 with | true => [0, 8, 9, 24, 25, 26, 27] | false => match Nat.beq n 8 with | true => [10, 11, 18, 27, 33] | false => []
theorem k66 : Good Tryz.prog gl sh (66, c66) := ⟨Tryz.f66, h66, d66, Tryz.func66, by kernel_rfl, by kernel_rfl⟩

def h67 : Hint := ⟨Nat.testBit 32, Nat.testBit 0, fun _ => 0⟩
def d67 : Nat → List Nat := fun _ => []
theorem k67 : Good Tryz.prog gl sh (67, c67) := ⟨Tryz.f67, h67, d67, Tryz.func67, by kernel_rfl, by kernel_rfl⟩

def h71 : Hint := ⟨Nat.testBit 536809216, Nat.testBit 4, fun _ => 0⟩
def d71 : Nat → List Nat := fun n => match Nat.beq n 3 with | true => [0, 1, 4, 7, 15] | false => []
theorem k71 : Good Tryz.prog gl sh (71, c71) := ⟨Tryz.f71, h71, d71, Tryz.func71, by kernel_rfl, by kernel_rfl⟩

def h72 : Hint := ⟨Nat.testBit 457792, Nat.testBit 0, fun _ => 0⟩
def d72 : Nat → List Nat := fun n => match Nat.beq n 2 with | true => [4, 5, 9, 16] | false => []
theorem k72 : Good Tryz.prog gl sh (72, c72) := ⟨Tryz.f72, h72, d72, Tryz.func72, by kernel_rfl, by kernel_rfl⟩

def h73 : Hint := ⟨Nat.testBit 13194139529312, Nat.testBit 16, fun _ => 0⟩
def d73 : Nat → List Nat := fun n => match Nat.beq n 4 with | true => [2, 3, 4, 7, 11, 42] | false => []
theorem k73 : Good Tryz.prog gl sh (73, c73) := ⟨Tryz.f73, h73, d73, Tryz.func73, by kernel_rfl, by kernel_rfl⟩

def h74 : Hint := ⟨Nat.testBit 6917529027641077856, Nat.testBit 16, fun _ => 0⟩
def d74 : Nat → List Nat := fun n => match Nat.beq n 4 with | true => [2, 3, 4, 7, 11, 61] | false => []
theorem k74 : Good Tryz.prog gl sh (74, c74) := ⟨Tryz.f74, h74, d74, Tryz.func74, by kernel_rfl, by kernel_rfl⟩

def h75 : Hint := ⟨Nat.testBit 147572540799503036416, Nat.testBit 1280, fun _ => 0⟩
def d75 : Nat → List Nat := fun n => match Nat.beq n 5 with | true => [0, 1, 4, 5, 8, 19, 25, 34, 42] | false => match Nat.beq n 15 with | true => [6, 10, 11, 22, 23, 24, 25, 50] | false => []
theorem k75 : Good Tryz.prog gl sh (75, c75) := ⟨Tryz.f75, h75, d75, Tryz.func75, by kernel_rfl, by kernel_rfl⟩

def h76 : Hint := ⟨Nat.testBit 39304596228844939355409611776, Nat.testBit 130, fun n => match Nat.beq n 68 with | true => 1 | false => match Nat.beq n 91 with | true => 1 | false => 0⟩
def d76 : Nat → List Nat := fun n => match Nat.beq n 6 with | true => [0, 2, 3, 6, 7, 8, 9, 23, 28, 50, 54, 64, 88] | false => []
theorem k76 : Good Tryz.prog gl sh (76, c76) := ⟨Tryz.f76, h76, d76, Tryz.func76, by kernel_rfl, by kernel_rfl⟩

def h77 : Hint := ⟨Nat.testBit 480, Nat.testBit 0, fun _ => 0⟩
def d77 : Nat → List Nat := fun _ => []
theorem k77 : Good Tryz.prog gl sh (77, c77) := ⟨Tryz.f77, h77, d77, Tryz.func77, by kernel_rfl, by kernel_rfl⟩

def h78 : Hint := ⟨Nat.testBit 496, Nat.testBit 0, fun _ => 0⟩
def d78 : Nat → List Nat := fun _ => []
theorem k78 : Good Tryz.prog gl sh (78, c78) := ⟨Tryz.f78, h78, d78, Tryz.func78, by kernel_rfl, by kernel_rfl⟩

def h79 : Hint := ⟨Nat.testBit 523808, Nat.testBit 0, fun _ => 0⟩
def d79 : Nat → List Nat := fun n => match Nat.beq n 3 with | true => [2, 4, 8] | false => []
theorem k79 : Good Tryz.prog gl sh (79, c79) := ⟨Tryz.f79, h79, d79, Tryz.func79, by kernel_rfl, by kernel_rfl⟩

def h80 : Hint := ⟨Nat.testBit 266225022976, Nat.testBit 8, fun _ => 0⟩
def d80 : Nat → List Nat := fun n => match Nat.beq n 7 with | true => [0, 2, 6, 7, 8, 9, 10, 15, 22, 25, 33] | false => []
theorem k80 : Good Tryz.prog gl sh (80, c80) := ⟨Tryz.f80, h80, d80, Tryz.func80, by kernel_rfl, by kernel_rfl⟩

def h81 : Hint := ⟨Nat.testBit 224, Nat.testBit 0, fun _ => 0⟩
def d81 : Nat → List Nat := fun _ => []
theorem k81 : Good Tryz.prog gl sh (81, c81) := ⟨Tryz.f81, h81, d81, Tryz.func81, by kernel_rfl, by kernel_rfl⟩

def h93 : Hint := ⟨Nat.testBit 2433290606010238031978690115403776, Nat.testBit 1164, fun n => match Nat.beq n 85 with | true => 1 | false => 0⟩
def d93 : Nat → List Nat := fun n => match Nat.beq n 10 with | true => [0, 1, 4, 5, 7, 16, 20, 31, 46, 57, 63] | false => match Nat.beq n 17 with | true => [10, 11, 12, 54, 55, 56, 57, 69, 81] | false => match Nat.beq n 25 with | true => [2, 3, 13, 66, 67, 68, 69, 95, 96, 97, 98] | false => match Nat.beq n 28 with | true => [15, 91, 98, 107] | false => []
theorem k93 : Good Tryz.prog gl sh (93, c93) := ⟨Tryz.f93, h93, d93, Tryz.func93, by kernel_rfl, by kernel_rfl⟩

def h94 : Hint := ⟨Nat.testBit 1657320264556851200, Nat.testBit 64, fun _ => 0⟩
def d94 : Nat → List Nat := fun n => match Nat.beq n 3 with | true => [0, 2, 3, 6, 11, 14, 19, 28] | false => match Nat.beq n 14 with | true => [8, 9, 10, 11, 42, 56] | false => []
theorem k94 : Good Tryz.prog gl sh (94, c94) := ⟨Tryz.f94, h94, d94, Tryz.func94, by kernel_rfl, by kernel_rfl⟩

def h95 : Hint := ⟨Nat.testBit 4398046492672, Nat.testBit 24, fun _ => 0⟩
def d95 : Nat → List Nat := fun _ => []
theorem k95 : Good Tryz.prog gl sh (95, c95) := ⟨Tryz.f95, h95, d95, Tryz.func95, by kernel_rfl, by kernel_rfl⟩

def h96 : Hint := ⟨Nat.testBit 8796092034048, Nat.testBit 768, fun _ => 0⟩
def d96 : Nat → List Nat := fun n => match Nat.beq n 5 with | true => [1, 4, 5, 8, 9, 12, 19] | false => []
theorem k96 : Good Tryz.prog gl sh (96, c96) := ⟨Tryz.f96, h96, d96, Tryz.func96, by kernel_rfl, by kernel_rfl⟩

def h97 : Hint := ⟨Nat.testBit 126100789092412416, Nat.testBit 0, fun _ => 0⟩
def d97 : Nat → List Nat := fun n => match Nat.beq n 7 with | true => [0, 6, 7, 9, 12, 22, 28, 54] | false => []
theorem k97 : Good Tryz.prog gl sh (97, c97) := ⟨Tryz.f97, h97, d97, Tryz.func97, by kernel_rfl, by kernel_rfl⟩

def h98 : Hint := ⟨Nat.testBit 281474724527872, Nat.testBit 136, fun _ => 0⟩
def d98 : Nat → List Nat := fun n => match Nat.beq n 6 with | true => [0, 2, 4, 7, 19, 27] | false => []
theorem k98 : Good Tryz.prog gl sh (98, c98) := ⟨Tryz.f98, h98, d98, Tryz.func98, by kernel_rfl, by kernel_rfl⟩

def h99 : Hint := ⟨Nat.testBit 7664, Nat.testBit 0, fun _ => 0⟩
def d99 : Nat → List Nat := fun _ => []
theorem k99 : Good Tryz.prog gl sh (99, c99) := ⟨Tryz.f99, h99, d99, Tryz.func99, by kernel_rfl, by kernel_rfl⟩

end Go.Mx.Tryz
