/- The compact code is what the checked translation makes of the loaded program: each by the kernel. -/
import Derived.Test.YtfllcbohggcmfaaGreatDoorCode
import Derived.Test.YtfllcbohggcmfaaGreatDoorBd
import Derived.Test.YtfllcbohggcmfaaGreatDoorProg
import Derived.KernelRfl
set_option maxRecDepth 100000
namespace Go.Mx.Tryz
open Go.Proofs

def h4 : Hint := ⟨Nat.testBit 5070602396190478784048081633280, Nat.testBit 0, fun n => match Nat.beq n 52 with | true => 8 | false => 0⟩
def d4 : Nat → List Nat := fun n => match Nat.beq n 4 with | true => [4, 22, 26] | false => match Nat.beq n 12 with | true => [0, 1, 5, 6, 7, 8, 26, 48, 56] | false => []
theorem k4 : Good Tryz.prog gl sh (4, c4) := ⟨Tryz.f4, h4, d4, Tryz.func4, by kernel_rfl, by kernel_rfl⟩

def h9 : Hint := ⟨Nat.testBit 19342813113834066795295872, Nat.testBit 0, fun _ => 0⟩
def d9 : Nat → List Nat := fun _ => []
theorem k9 : Good Tryz.prog gl sh (9, c9) := ⟨Tryz.f9, h9, d9, Tryz.func9, by kernel_rfl, by kernel_rfl⟩

def h10 : Hint := ⟨Nat.testBit 9444695775840629866496, Nat.testBit 2560, fun _ => 0⟩
def d10 : Nat → List Nat := fun n => match Nat.beq n 1000010 with | true => [0, 16, 18, 21] | false => []
theorem k10 : Good Tryz.prog gl sh (10, c10) := ⟨Tryz.f10, h10, d10, Tryz.func10, by kernel_rfl, by kernel_rfl⟩

def h12 : Hint := ⟨Nat.testBit 480, Nat.testBit 0, fun _ => 0⟩
def d12 : Nat → List Nat := fun _ => []
theorem k12 : Good Tryz.prog gl sh (12, c12) := ⟨Tryz.f12, h12, d12, Tryz.func12, by kernel_rfl, by kernel_rfl⟩

def h13 : Hint := ⟨Nat.testBit 4193256, Nat.testBit 0, fun _ => 0⟩
def d13 : Nat → List Nat := fun _ => []
theorem k13 : Good Tryz.prog gl sh (13, c13) := ⟨Tryz.f13, h13, d13, Tryz.func13, by kernel_rfl, by kernel_rfl⟩

def h14 : Hint := ⟨Nat.testBit 412048393600, Nat.testBit 64, fun _ => 0⟩
def d14 : Nat → List Nat := fun n => match Nat.beq n 6 with | true => [0, 2, 3, 6, 9, 14, 28] | false => []
theorem k14 : Good Tryz.prog gl sh (14, c14) := ⟨Tryz.f14, h14, d14, Tryz.func14, by kernel_rfl, by kernel_rfl⟩

def h16 : Hint := ⟨Nat.testBit 1798128, Nat.testBit 0, fun _ => 0⟩
def d16 : Nat → List Nat := fun _ => []
theorem k16 : Good Tryz.prog gl sh (16, c16) := ⟨Tryz.f16, h16, d16, Tryz.func16, by kernel_rfl, by kernel_rfl⟩

def h19 : Hint := ⟨Nat.testBit 8, Nat.testBit 0, fun _ => 0⟩
def d19 : Nat → List Nat := fun _ => []
theorem k19 : Good Tryz.prog gl sh (19, c19) := ⟨Tryz.f19, h19, d19, Tryz.func19, by kernel_rfl, by kernel_rfl⟩

def h20 : Hint := ⟨Nat.testBit 4833342094654063076440064, Nat.testBit 1060, fun _ => 0⟩
def d20 : Nat → List Nat := fun n => match Nat.beq n 6 with | true => [0, 3, 4, 6, 7, 8, 9, 20, 26, 36] | false => []
theorem k20 : Good Tryz.prog gl sh (20, c20) := ⟨Tryz.f20, h20, d20, Tryz.func20, by kernel_rfl, by kernel_rfl⟩

def h21 : Hint := ⟨Nat.testBit 1657320264556851200, Nat.testBit 64, fun _ => 0⟩
def d21 : Nat → List Nat := fun n => match Nat.beq n 3 with | true => [0, 2, 3, 6, 11, 14, 19, 28] | false => match Nat.beq n 14 with | true => [8, 9, 10, 11, 42, 56] | false => []
theorem k21 : Good Tryz.prog gl sh (21, c21) := ⟨Tryz.f21, h21, d21, Tryz.func21, by kernel_rfl, by kernel_rfl⟩

def h26 : Hint := ⟨Nat.testBit 618965297275081367629037504, Nat.testBit 0, fun _ => 0⟩
def d26 : Nat → List Nat := fun n => match Nat.beq n 2 with | true => [4, 15, 28, 50, 72] | false => []
theorem k26 : Good Tryz.prog gl sh (26, c26) := ⟨Tryz.f26, h26, d26, Tryz.func26, by kernel_rfl, by kernel_rfl⟩

def h27 : Hint := ⟨Nat.testBit 13194139529312, Nat.testBit 16, fun _ => 0⟩
def d27 : Nat → List Nat := fun n => match Nat.beq n 4 with | true => [2, 3, 4, 7, 11, 42] | false => []
theorem k27 : Good Tryz.prog gl sh (27, c27) := ⟨Tryz.f27, h27, d27, Tryz.func27, by kernel_rfl, by kernel_rfl⟩

def h28 : Hint := ⟨Nat.testBit 524224, Nat.testBit 0, fun _ => 0⟩
def d28 : Nat → List Nat := fun _ => []
theorem k28 : Good Tryz.prog gl sh (28, c28) := ⟨Tryz.f28, h28, d28, Tryz.func28, by kernel_rfl, by kernel_rfl⟩

def h29 : Hint := ⟨Nat.testBit 24, Nat.testBit 0, fun _ => 0⟩
def d29 : Nat → List Nat := fun _ => []
theorem k29 : Good Tryz.prog gl sh (29, c29) := ⟨Tryz.f29, h29, d29, Tryz.func29, by kernel_rfl, by kernel_rfl⟩

def h30 : Hint := ⟨Nat.testBit 131040, Nat.testBit 0, fun _ => 0⟩
def d30 : Nat → List Nat := fun _ => []
theorem k30 : Good Tryz.prog gl sh (30, c30) := ⟨Tryz.f30, h30, d30, Tryz.func30, by kernel_rfl, by kernel_rfl⟩

def h31 : Hint := ⟨Nat.testBit 248, Nat.testBit 0, fun _ => 0⟩
def d31 : Nat → List Nat := fun _ => []
theorem k31 : Good Tryz.prog gl sh (31, c31) := ⟨Tryz.f31, h31, d31, Tryz.func31, by kernel_rfl, by kernel_rfl⟩

def h32 : Hint := ⟨Nat.testBit 16376, Nat.testBit 0, fun _ => 0⟩
def d32 : Nat → List Nat := fun _ => []
theorem k32 : Good Tryz.prog gl sh (32, c32) := ⟨Tryz.f32, h32, d32, Tryz.func32, by kernel_rfl, by kernel_rfl⟩

def h33 : Hint := ⟨Nat.testBit 8064, Nat.testBit 0, fun _ => 0⟩
def d33 : Nat → List Nat := fun _ => []
theorem k33 : Good Tryz.prog gl sh (33, c33) := ⟨Tryz.f33, h33, d33, Tryz.func33, by kernel_rfl, by kernel_rfl⟩

def h34 : Hint := ⟨Nat.testBit 458272, Nat.testBit 0, fun _ => 0⟩
def d34 : Nat → List Nat := fun n => match Nat.beq n 1000003 with | true => [0, 6] | false => []
theorem k34 : Good Tryz.prog gl sh (34, c34) := ⟨Tryz.f34, h34, d34, Tryz.func34, by kernel_rfl, by kernel_rfl⟩

def h35 : Hint := ⟨Nat.testBit 480, Nat.testBit 0, fun _ => 0⟩
def d35 : Nat → List Nat := fun _ => []
theorem k35 : Good Tryz.prog gl sh (35, c35) := ⟨Tryz.f35, h35, d35, Tryz.func35, by kernel_rfl, by kernel_rfl⟩

def h39 : Hint := ⟨Nat.testBit 6291136, Nat.testBit 0, fun _ => 0⟩
def d39 : Nat → List Nat := fun n => match Nat.beq n 1 with | true => [4, 5, 8, 21] | false => []
theorem k39 : Good Tryz.prog gl sh (39, c39) := ⟨Tryz.f39, h39, d39, Tryz.func39, by kernel_rfl, by kernel_rfl⟩

def h40 : Hint := ⟨Nat.testBit 224, Nat.testBit 0, fun _ => 0⟩
def d40 : Nat → List Nat := fun _ => []
theorem k40 : Good Tryz.prog gl sh (40, c40) := ⟨Tryz.f40, h40, d40, Tryz.func40, by kernel_rfl, by kernel_rfl⟩

def h41 : Hint := ⟨Nat.testBit 411243118464, Nat.testBit 0, fun _ => 0⟩
def d41 : Nat → List Nat := fun _ => []
theorem k41 : Good Tryz.prog gl sh (41, c41) := ⟨Tryz.f41, h41, d41, Tryz.func41, by kernel_rfl, by kernel_rfl⟩

def h42 : Hint := ⟨Nat.testBit 131064, Nat.testBit 2, fun _ => 0⟩
def d42 : Nat → List Nat := fun _ => []
theorem k42 : Good Tryz.prog gl sh (42, c42) := ⟨Tryz.f42, h42, d42, Tryz.func42, by kernel_rfl, by kernel_rfl⟩

def h43 : Hint := ⟨Nat.testBit 248, Nat.testBit 6, fun _ => 0⟩
def d43 : Nat → List Nat := fun _ => []
theorem k43 : Good Tryz.prog gl sh (43, c43) := ⟨Tryz.f43, h43, d43, Tryz.func43, by kernel_rfl, by kernel_rfl⟩

def h44 : Hint := ⟨Nat.testBit 16352, Nat.testBit 0, fun _ => 0⟩
def d44 : Nat → List Nat := fun _ => []
theorem k44 : Good Tryz.prog gl sh (44, c44) := ⟨Tryz.f44, h44, d44, Tryz.func44, by kernel_rfl, by kernel_rfl⟩

def h45 : Hint := ⟨Nat.testBit 992, Nat.testBit 12, fun _ => 0⟩
def d45 : Nat → List Nat := fun _ => []
theorem k45 : Good Tryz.prog gl sh (45, c45) := ⟨Tryz.f45, h45, d45, Tryz.func45, by kernel_rfl, by kernel_rfl⟩

def h48 : Hint := ⟨Nat.testBit 864, Nat.testBit 0, fun _ => 0⟩
def d48 : Nat → List Nat := fun _ => []
theorem k48 : Good Tryz.prog gl sh (48, c48) := ⟨Tryz.f48, h48, d48, Tryz.func48, by kernel_rfl, by kernel_rfl⟩

def h50 : Hint := ⟨Nat.testBit 24, Nat.testBit 0, fun _ => 0⟩
def d50 : Nat → List Nat := fun _ => []
theorem k50 : Good Tryz.prog gl sh (50, c50) := ⟨Tryz.f50, h50, d50, Tryz.func50, by kernel_rfl, by kernel_rfl⟩

def h51 : Hint := ⟨Nat.testBit 8384256, Nat.testBit 0, fun _ => 0⟩
def d51 : Nat → List Nat := fun _ => []
theorem k51 : Good Tryz.prog gl sh (51, c51) := ⟨Tryz.f51, h51, d51, Tryz.func51, by kernel_rfl, by kernel_rfl⟩

def h52 : Hint := ⟨Nat.testBit 224, Nat.testBit 0, fun _ => 0⟩
def d52 : Nat → List Nat := fun _ => []
theorem k52 : Good Tryz.prog gl sh (52, c52) := ⟨Tryz.f52, h52, d52, Tryz.func52, by kernel_rfl, by kernel_rfl⟩

def h53 : Hint := ⟨Nat.testBit 8778911051648, Nat.testBit 0, fun _ => 0⟩
def d53 : Nat → List Nat := fun _ => []
theorem k53 : Good Tryz.prog gl sh (53, c53) := ⟨Tryz.f53, h53, d53, Tryz.func53, by kernel_rfl, by kernel_rfl⟩

def h54 : Hint := ⟨Nat.testBit 224, Nat.testBit 0, fun _ => 0⟩
def d54 : Nat → List Nat := fun _ => []
theorem k54 : Good Tryz.prog gl sh (54, c54) := ⟨Tryz.f54, h54, d54, Tryz.func54, by kernel_rfl, by kernel_rfl⟩

def h55 : Hint := ⟨Nat.testBit 73786974027094380544, Nat.testBit 0, fun _ => 0⟩
def d55 : Nat → List Nat := fun n => match Nat.beq n 11 with | true => [8, 11, 13, 15, 20, 36, 41] | false => []
theorem k55 : Good Tryz.prog gl sh (55, c55) := ⟨Tryz.f55, h55, d55, Tryz.func55, by kernel_rfl, by kernel_rfl⟩

def h56 : Hint := ⟨Nat.testBit 224, Nat.testBit 0, fun _ => 0⟩
def d56 : Nat → List Nat := fun _ => []
theorem k56 : Good Tryz.prog gl sh (56, c56) := ⟨Tryz.f56, h56, d56, Tryz.func56, by kernel_rfl, by kernel_rfl⟩

def h58 : Hint := ⟨Nat.testBit 356811880641193946689691826088336933575983104, Nat.testBit 0, fun _ => 0⟩
def d58 : Nat → List Nat := fun n => match Nat.beq n 2 with | true => [12, 13, 14, 15, 16, 17, 18, 19, 20, 25, 32, 39, 56, 75, 80, 97, 125] | false => []
theorem k58 : Good Tryz.prog gl sh (58, c58) := ⟨Tryz.f58, h58, d58, Tryz.func58, by kernel_rfl, by kernel_rfl⟩

def h59 : Hint := ⟨Nat.testBit 248, Nat.testBit 0, fun _ => 0⟩
def d59 : Nat → List Nat := fun _ => []
theorem k59 : Good Tryz.prog gl sh (59, c59) := ⟨Tryz.f59, h59, d59, Tryz.func59, by kernel_rfl, by kernel_rfl⟩

def h60 : Hint := ⟨Nat.testBit 131040, Nat.testBit 12, fun _ => 0⟩
def d60 : Nat → List Nat := fun _ => []
theorem k60 : Good Tryz.prog gl sh (60, c60) := ⟨Tryz.f60, h60, d60, Tryz.func60, by kernel_rfl, by kernel_rfl⟩

def h62 : Hint := ⟨Nat.testBit 18014381321090304, Nat.testBit 0, fun _ => 0⟩
def d62 : Nat → List Nat := fun _ => []
theorem k62 : Good Tryz.prog gl sh (62, c62) := ⟨Tryz.f62, h62, d62, Tryz.func62, by kernel_rfl, by kernel_rfl⟩

def h63 : Hint := ⟨Nat.testBit 10448029773009037967681152029858612457160704, Nat.testBit 0, fun _ => 0⟩
def d63 : Nat → List Nat := fun n => match Nat.beq n 15 with | true => [4, 11, 16, 24, 31, 36, 59, 64, 73, 93, 107, 132] | false => []
theorem k63 : Good Tryz.prog gl sh (63, c63) := ⟨Tryz.f63, h63, d63, Tryz.func63, by kernel_rfl, by kernel_rfl⟩

def h64 : Hint := ⟨Nat.testBit 262112, Nat.testBit 0, fun _ => 0⟩
def d64 : Nat → List Nat := fun _ => []
theorem k64 : Good Tryz.prog gl sh (64, c64) := ⟨Tryz.f64, h64, d64, Tryz.func64, by kernel_rfl, by kernel_rfl⟩

def h65 : Hint := ⟨Nat.testBit 122848, Nat.testBit 0, fun _ => 0⟩
def d65 : Nat → List Nat := fun n => match Nat.beq n 1 with | true => [4, 13] | false => []
theorem k65 : Good Tryz.prog gl sh (65, c65) := ⟨Tryz.f65, h65, d65, Tryz.func65, by kernel_rfl, by kernel_rfl⟩

def h66 : Hint := ⟨Nat.testBit 8323040, Nat.testBit 0, fun _ => 0⟩
def d66 : Nat → List Nat := fun n => match Nat.beq n 1 with | true => [4, 16] | false => []
theorem k66 : Good Tryz.prog gl sh (66, c66) := ⟨Tryz.f66, h66, d66, Tryz.func66, by kernel_rfl, by kernel_rfl⟩

def h67 : Hint := ⟨Nat.testBit 2031040, Nat.testBit 4, fun _ => 0⟩
def d67 : Nat → List Nat := fun n => match Nat.beq n 2 with | true => [3, 5, 9, 16] | false => []
theorem k67 : Good Tryz.prog gl sh (67, c67) := ⟨Tryz.f67, h67, d67, Tryz.func67, by kernel_rfl, by kernel_rfl⟩

def h68 : Hint := ⟨Nat.testBit 61280, Nat.testBit 0, fun _ => 0⟩
def d68 : Nat → List Nat := fun n => match Nat.beq n 1 with | true => [4, 7, 12] | false => []
theorem k68 : Good Tryz.prog gl sh (68, c68) := ⟨Tryz.f68, h68, d68, Tryz.func68, by kernel_rfl, by kernel_rfl⟩

def h69 : Hint := ⟨Nat.testBit 4161376, Nat.testBit 0, fun _ => 0⟩
def d69 : Nat → List Nat := fun n => match Nat.beq n 1 with | true => [4, 7, 15] | false => []
theorem k69 : Good Tryz.prog gl sh (69, c69) := ⟨Tryz.f69, h69, d69, Tryz.func69, by kernel_rfl, by kernel_rfl⟩

def h70 : Hint := ⟨Nat.testBit 8125824, Nat.testBit 0, fun _ => 0⟩
def d70 : Nat → List Nat := fun n => match Nat.beq n 1 with | true => [4, 5, 6, 9, 18] | false => []
theorem k70 : Good Tryz.prog gl sh (70, c70) := ⟨Tryz.f70, h70, d70, Tryz.func70, by kernel_rfl, by kernel_rfl⟩

def h71 : Hint := ⟨Nat.testBit 17112628608, Nat.testBit 0, fun _ => 0⟩
def d71 : Nat → List Nat := fun n => match Nat.beq n 1 with | true => [4, 5, 6, 9, 17, 26] | false => []
theorem k71 : Good Tryz.prog gl sh (71, c71) := ⟨Tryz.f71, h71, d71, Tryz.func71, by kernel_rfl, by kernel_rfl⟩

def h72 : Hint := ⟨Nat.testBit 1117103780003072, Nat.testBit 0, fun _ => 0⟩
def d72 : Nat → List Nat := fun n => match Nat.beq n 6 with | true => [4, 5, 9, 18, 25] | false => []
theorem k72 : Good Tryz.prog gl sh (72, c72) := ⟨Tryz.f72, h72, d72, Tryz.func72, by kernel_rfl, by kernel_rfl⟩

def h74 : Hint := ⟨Nat.testBit 8032, Nat.testBit 0, fun _ => 0⟩
def d74 : Nat → List Nat := fun _ => []
theorem k74 : Good Tryz.prog gl sh (74, c74) := ⟨Tryz.f74, h74, d74, Tryz.func74, by kernel_rfl, by kernel_rfl⟩

def h77 : Hint := ⟨Nat.testBit 9007182074854400, Nat.testBit 0, fun _ => 0⟩
def d77 : Nat → List Nat := fun n => match Nat.beq n 1 with | true => [9, 34] | false => match Nat.beq n 4 with | true => [14, 34] | false => []
theorem k77 : Good Tryz.prog gl sh (77, c77) := ⟨Tryz.f77, h77, d77, Tryz.func77, by kernel_rfl, by kernel_rfl⟩

def h78 : Hint := ⟨Nat.testBit 1152921496014807040, Nat.testBit 0, fun _ => 0⟩
def d78 : Nat → List Nat := fun n => match Nat.beq n 4 with | true => [1, 2, 21] | false => match Nat.beq n 8 with | true => [10, 11, 21, 33] | false => []
theorem k78 : Good Tryz.prog gl sh (78, c78) := ⟨Tryz.f78, h78, d78, Tryz.func78, by kernel_rfl, by kernel_rfl⟩

def h79 : Hint := ⟨Nat.testBit 147573917370944446464, Nat.testBit 0, fun _ => 0⟩
def d79 : Nat → List Nat := fun n => match Nat.beq n 5 with | true => [2, 3, 12, 17, 35, 45] | false => []
theorem k79 : Good Tryz.prog gl sh (79, c79) := ⟨Tryz.f79, h79, d79, Tryz.func79, by kernel_rfl, by kernel_rfl⟩

def h80 : Hint := ⟨Nat.testBit 7890306461253730304, Nat.testBit 0, fun _ => 0⟩
def d80 : Nat → List Nat := fun _ => []
theorem k80 : Good Tryz.prog gl sh (80, c80) := ⟨Tryz.f80, h80, d80, Tryz.func80, by kernel_rfl, by kernel_rfl⟩

def h81 : Hint := ⟨Nat.testBit 17179835392, Nat.testBit 0, fun _ => 0⟩
def d81 : Nat → List Nat := fun n => match Nat.beq n 2 with | true => [1, 2, 3, 15] | false => []
theorem k81 : Good Tryz.prog gl sh (81, c81) := ⟨Tryz.f81, h81, d81, Tryz.func81, by kernel_rfl, by kernel_rfl⟩

def h82 : Hint := ⟨Nat.testBit 2787571881499075797774052896007796375347200, Nat.testBit 0, fun _ => 0⟩
def d82 : Nat → List Nat := fun n => match Nat.beq n 3 with | true => [8, 11, 12, 36, 41, 45, 65, 69, 84, 104, 109, 124] | false => match Nat.beq n 5 with | true => [16, 36] | false => match Nat.beq n 14 with | true => [36, 41, 45, 65, 69, 84] | false => match Nat.beq n 20 with | true => [11, 36, 41, 45, 65, 69, 84, 104, 109, 124] | false => []
theorem k82 : Good Tryz.prog gl sh (82, c82) := ⟨Tryz.f82, h82, d82, Tryz.func82, by kernel_rfl, by kernel_rfl⟩

def h83 : Hint := ⟨Nat.testBit 1237938821800130672580354048, Nat.testBit 0, fun _ => 0⟩
def d83 : Nat → List Nat := fun n => match Nat.beq n 3 with | true => [2, 3, 10, 47, 65, 70] | false => match Nat.beq n 5 with | true => [47, 65] | false => []
theorem k83 : Good Tryz.prog gl sh (83, c83) := ⟨Tryz.f83, h83, d83, Tryz.func83, by kernel_rfl, by kernel_rfl⟩

def h84 : Hint := ⟨Nat.testBit 383123885193474569774374055887950278561850630313328640, Nat.testBit 0, fun _ => 0⟩
def d84 : Nat → List Nat := fun n => match Nat.beq n 3 with | true => [2, 3, 10, 11, 47] | false => match Nat.beq n 5 with | true => [47, 66] | false => match Nat.beq n 13 with | true => [66, 71, 120, 139, 144] | false => match Nat.beq n 15 with | true => [120, 139] | false => []
theorem k84 : Good Tryz.prog gl sh (84, c84) := ⟨Tryz.f84, h84, d84, Tryz.func84, by kernel_rfl, by kernel_rfl⟩

def h85 : Hint := ⟨Nat.testBit 524008, Nat.testBit 0, fun _ => 0⟩
def d85 : Nat → List Nat := fun _ => []
theorem k85 : Good Tryz.prog gl sh (85, c85) := ⟨Tryz.f85, h85, d85, Tryz.func85, by kernel_rfl, by kernel_rfl⟩

def h86 : Hint := ⟨Nat.testBit 33537768, Nat.testBit 0, fun _ => 0⟩
def d86 : Nat → List Nat := fun _ => []
theorem k86 : Good Tryz.prog gl sh (86, c86) := ⟨Tryz.f86, h86, d86, Tryz.func86, by kernel_rfl, by kernel_rfl⟩

end Go.Mx.Tryz
