/- The compact code is what the checked translation makes of the loaded program: each by the kernel. -/
import Derived.Test.YtbpkmkgnkpeefaaGreatDoorCode
import Derived.Test.YtbpkmkgnkpeefaaGreatDoorBd
import Derived.Test.YtbpkmkgnkpeefaaGreatDoorProg
import Derived.KernelRfl
set_option maxRecDepth 100000
namespace Go.Mx.Tryz
open Go.Proofs

def h4 : Hint:=⟨Nat.testBit 1073741744,Nat.testBit 2,fun _=>0⟩
def d4 : Nat → List Nat:=fun _=>[]
theorem k4 : Good Tryz.prog gl sh (4,c4):=⟨Tryz.f4,h4,d4,Tryz.func4,by kernel_rfl,by kernel_rfl⟩

def h6 : Hint:=⟨Nat.testBit 2251799813685240,Nat.testBit 4,fun n=>match Nat.beq n 25 with | true=>1 | false=>match Nat.beq n 34 with | true=>1 | false=>0⟩
def d6 : Nat → List Nat:=fun _=>[]
theorem k6 : Good Tryz.prog gl sh (6,c6):=⟨Tryz.f6,h6,d6,Tryz.func6,by kernel_rfl,by kernel_rfl⟩

def h7 : Hint:=⟨Nat.testBit 158436717693715384227720028160,Nat.testBit 258,fun _=>0⟩
def d7 : Nat → List Nat:=fun n=>match Nat.beq n 8 with | true=>[0,2,3,4,12,15,24,33,50] | false=>match Nat.beq n 16 with | true=>[1,9,30,31,32,33,75,76,77] | false=>match Nat.beq n 20 with | true=>[8,11,65,77,84] | false=>[]
theorem k7 : Good Tryz.prog gl sh (7,c7):=⟨Tryz.f7,h7,d7,Tryz.func7,by kernel_rfl,by kernel_rfl⟩

def h10 : Hint:=⟨Nat.testBit 402186224,Nat.testBit 2,fun _=>0⟩
def d10 : Nat → List Nat:=fun n=>match Nat.beq n 4 with | true=>[0,2,3,13,18,27] | false=>[]
theorem k10 : Good Tryz.prog gl sh (10,c10):=⟨Tryz.f10,h10,d10,Tryz.func10,by kernel_rfl,by kernel_rfl⟩

def h11 : Hint:=⟨Nat.testBit 580423915293726601200,Nat.testBit 0,fun _=>0⟩
def d11 : Nat → List Nat:=fun _=>[]
theorem k11 : Good Tryz.prog gl sh (11,c11):=⟨Tryz.f11,h11,d11,Tryz.func11,by kernel_rfl,by kernel_rfl⟩

def h12 : Hint:=⟨Nat.testBit 6527716553784805443367136151366260901068965481955262797084041871360,Nat.testBit 130,fun _=>0⟩
def d12 : Nat → List Nat:=fun n=>match Nat.beq n 9 with | true=>[0,2,26,30,36,39,60] | false=>match Nat.beq n 14 with | true=>[4,39,63,75] | false=>match Nat.beq n 19 with | true=>[5,7,8,63,89] | false=>match Nat.beq n 23 with | true=>[9,78,89,131] | false=>match Nat.beq n 31 with | true=>[6,11,78,142,150] | false=>match Nat.beq n 34 with | true=>[145,150,163] | false=>match Nat.beq n 41 with | true=>[10,14,145,194] | false=>match Nat.beq n 44 with | true=>[173,194] | false=>match Nat.beq n 48 with | true=>[13,173,210,217] | false=>[]
theorem k12 : Good Tryz.prog gl sh (12,c12):=⟨Tryz.f12,h12,d12,Tryz.func12,by kernel_rfl,by kernel_rfl⟩

def h13 : Hint:=⟨Nat.testBit 41528233653786459970852289742110464,Nat.testBit 34,fun _=>0⟩
def d13 : Nat → List Nat:=fun n=>match Nat.beq n 5 with | true=>[0,2,5,6,32,65] | false=>match Nat.beq n 11 with | true=>[7,35,61,65,74,83,103] | false=>[]
theorem k13 : Good Tryz.prog gl sh (13,c13):=⟨Tryz.f13,h13,d13,Tryz.func13,by kernel_rfl,by kernel_rfl⟩

def h14 : Hint:=⟨Nat.testBit 633745510724634907993966640128,Nat.testBit 396,fun n=>match Nat.beq n 64 with | true=>107 | false=>match Nat.beq n 67 with | true=>107 | false=>match Nat.beq n 7 with | true=>6 | false=>0⟩
def d14 : Nat → List Nat:=fun n=>match Nat.beq n 4 with | true=>[0,1,4,32,37,50] | false=>match Nat.beq n 9 with | true=>[5,7,8,9,37,86] | false=>match Nat.beq n 15 with | true=>[55,59,60,61,62,64,65,66,67,81,86,99] | false=>[]
theorem k14 : Good Tryz.prog gl sh (14,c14):=⟨Tryz.f14,h14,d14,Tryz.func14,by kernel_rfl,by kernel_rfl⟩

def h15 : Hint:=⟨Nat.testBit 32728,Nat.testBit 6,fun n=>match Nat.beq n 8 with | true=>5 | false=>match Nat.beq n 10 with | true=>5 | false=>0⟩
def d15 : Nat → List Nat:=fun _=>[]
theorem k15 : Good Tryz.prog gl sh (15,c15):=⟨Tryz.f15,h15,d15,Tryz.func15,by kernel_rfl,by kernel_rfl⟩

def h17 : Hint:=⟨Nat.testBit 9668731762102630292054016,Nat.testBit 652,fun _=>0⟩
def d17 : Nat → List Nat:=fun n=>match Nat.beq n 9 with | true=>[0,1,4,7,12,16,25,34,45] | false=>match Nat.beq n 16 with | true=>[5,8,9,31,32,33,34,53,64] | false=>[]
theorem k17 : Good Tryz.prog gl sh (17,c17):=⟨Tryz.f17,h17,d17,Tryz.func17,by kernel_rfl,by kernel_rfl⟩

def h22 : Hint:=⟨Nat.testBit 197748821748390100177216,Nat.testBit 2092,fun _=>0⟩
def d22 : Nat → List Nat:=fun n=>match Nat.beq n 14 with | true=>[0,1,4,5,7,9,11,13,14,18,41,52,57,69] | false=>[]
theorem k22 : Good Tryz.prog gl sh (22,c22):=⟨Tryz.f22,h22,d22,Tryz.func22,by kernel_rfl,by kernel_rfl⟩

def h23 : Hint:=⟨Nat.testBit 4072,Nat.testBit 2,fun _=>0⟩
def d23 : Nat → List Nat:=fun _=>[]
theorem k23 : Good Tryz.prog gl sh (23,c23):=⟨Tryz.f23,h23,d23,Tryz.func23,by kernel_rfl,by kernel_rfl⟩

def h24 : Hint:=⟨Nat.testBit 33521504,Nat.testBit 0,fun _=>0⟩
def d24 : Nat → List Nat:=fun n=>match Nat.beq n 5 with | true=>[2,7,15] | false=>[]
theorem k24 : Good Tryz.prog gl sh (24,c24):=⟨Tryz.f24,h24,d24,Tryz.func24,by kernel_rfl,by kernel_rfl⟩

def h25 : Hint:=⟨Nat.testBit 33521504,Nat.testBit 0,fun _=>0⟩
def d25 : Nat → List Nat:=fun n=>match Nat.beq n 5 with | true=>[2,7,15] | false=>[]
theorem k25 : Good Tryz.prog gl sh (25,c25):=⟨Tryz.f25,h25,d25,Tryz.func25,by kernel_rfl,by kernel_rfl⟩

def h29 : Hint:=⟨Nat.testBit 6755399440928736,Nat.testBit 16,fun _=>0⟩
def d29 : Nat → List Nat:=fun n=>match Nat.beq n 4 with | true=>[2,3,4,12,16,51] | false=>[]
theorem k29 : Good Tryz.prog gl sh (29,c29):=⟨Tryz.f29,h29,d29,Tryz.func29,by kernel_rfl,by kernel_rfl⟩

def h30 : Hint:=⟨Nat.testBit 480,Nat.testBit 0,fun _=>0⟩
def d30 : Nat → List Nat:=fun _=>[]
theorem k30 : Good Tryz.prog gl sh (30,c30):=⟨Tryz.f30,h30,d30,Tryz.func30,by kernel_rfl,by kernel_rfl⟩

def h31 : Hint:=⟨Nat.testBit 32752,Nat.testBit 4,fun _=>0⟩
def d31 : Nat → List Nat:=fun _=>[]
theorem k31 : Good Tryz.prog gl sh (31,c31):=⟨Tryz.f31,h31,d31,Tryz.func31,by kernel_rfl,by kernel_rfl⟩

def h32 : Hint:=⟨Nat.testBit 1008,Nat.testBit 4,fun _=>0⟩
def d32 : Nat → List Nat:=fun _=>[]
theorem k32 : Good Tryz.prog gl sh (32,c32):=⟨Tryz.f32,h32,d32,Tryz.func32,by kernel_rfl,by kernel_rfl⟩

def h33 : Hint:=⟨Nat.testBit 288230341753237632,Nat.testBit 18,fun _=>0⟩
def d33 : Nat → List Nat:=fun n=>match Nat.beq n 2 with | true=>[0,2,3,4,16,17,18,19] | false=>match Nat.beq n 5 with | true=>[6,11,19,22,25,35] | false=>[]
theorem k33 : Good Tryz.prog gl sh (33,c33):=⟨Tryz.f33,h33,d33,Tryz.func33,by kernel_rfl,by kernel_rfl⟩

def h34 : Hint:=⟨Nat.testBit 503308672,Nat.testBit 34,fun _=>0⟩
def d34 : Nat → List Nat:=fun n=>match Nat.beq n 3 with | true=>[0,1,2,5,6,12,25] | false=>[]
theorem k34 : Good Tryz.prog gl sh (34,c34):=⟨Tryz.f34,h34,d34,Tryz.func34,by kernel_rfl,by kernel_rfl⟩

def h35 : Hint:=⟨Nat.testBit 1109389917290368,Nat.testBit 2,fun _=>0⟩
def d35 : Nat → List Nat:=fun n=>match Nat.beq n 4 with | true=>[0,2,20,27,34,40,41,42,43] | false=>match Nat.beq n 10 with | true=>[6,20,27,34,43] | false=>[]
theorem k35 : Good Tryz.prog gl sh (35,c35):=⟨Tryz.f35,h35,d35,Tryz.func35,by kernel_rfl,by kernel_rfl⟩

def h36 : Hint:=⟨Nat.testBit 16777184,Nat.testBit 12,fun _=>0⟩
def d36 : Nat → List Nat:=fun _=>[]
theorem k36 : Good Tryz.prog gl sh (36,c36):=⟨Tryz.f36,h36,d36,Tryz.func36,by kernel_rfl,by kernel_rfl⟩

def h37 : Hint:=⟨Nat.testBit 472,Nat.testBit 6,fun _=>0⟩
def d37 : Nat → List Nat:=fun _=>[]
theorem k37 : Good Tryz.prog gl sh (37,c37):=⟨Tryz.f37,h37,d37,Tryz.func37,by kernel_rfl,by kernel_rfl⟩

def h38 : Hint:=⟨Nat.testBit 18014398509412320,Nat.testBit 16,fun _=>0⟩
def d38 : Nat → List Nat:=fun n=>match Nat.beq n 4 with | true=>[2,4,12,16,54] | false=>[]
theorem k38 : Good Tryz.prog gl sh (38,c38):=⟨Tryz.f38,h38,d38,Tryz.func38,by kernel_rfl,by kernel_rfl⟩

def h39 : Hint:=⟨Nat.testBit 137421651904,Nat.testBit 12,fun _=>0⟩
def d39 : Nat → List Nat:=fun n=>match Nat.beq n 4 with | true=>[0,1,4,19,24,37] | false=>[]
theorem k39 : Good Tryz.prog gl sh (39,c39):=⟨Tryz.f39,h39,d39,Tryz.func39,by kernel_rfl,by kernel_rfl⟩

def h40 : Hint:=⟨Nat.testBit 134215616,Nat.testBit 0,fun _=>0⟩
def d40 : Nat → List Nat:=fun n=>match Nat.beq n 4 with | true=>[2,11] | false=>[]
theorem k40 : Good Tryz.prog gl sh (40,c40):=⟨Tryz.f40,h40,d40,Tryz.func40,by kernel_rfl,by kernel_rfl⟩

def h41 : Hint:=⟨Nat.testBit 16376,Nat.testBit 2,fun _=>0⟩
def d41 : Nat → List Nat:=fun _=>[]
theorem k41 : Good Tryz.prog gl sh (41,c41):=⟨Tryz.f41,h41,d41,Tryz.func41,by kernel_rfl,by kernel_rfl⟩

def h43 : Hint:=⟨Nat.testBit 56,Nat.testBit 2,fun _=>0⟩
def d43 : Nat → List Nat:=fun _=>[]
theorem k43 : Good Tryz.prog gl sh (43,c43):=⟨Tryz.f43,h43,d43,Tryz.func43,by kernel_rfl,by kernel_rfl⟩

def h58 : Hint:=⟨Nat.testBit 2017612632550276096,Nat.testBit 130,fun _=>0⟩
def d58 : Nat → List Nat:=fun n=>match Nat.beq n 5 with | true=>[0,2,3,5,6,7,8,9,23,28,58] | false=>[]
theorem k58 : Good Tryz.prog gl sh (58,c58):=⟨Tryz.f58,h58,d58,Tryz.func58,by kernel_rfl,by kernel_rfl⟩

def h59 : Hint:=⟨Nat.testBit 131040,Nat.testBit 12,fun _=>0⟩
def d59 : Nat → List Nat:=fun _=>[]
theorem k59 : Good Tryz.prog gl sh (59,c59):=⟨Tryz.f59,h59,d59,Tryz.func59,by kernel_rfl,by kernel_rfl⟩

def h60 : Hint:=⟨Nat.testBit 457792,Nat.testBit 0,fun _=>0⟩
def d60 : Nat → List Nat:=fun n=>match Nat.beq n 2 with | true=>[4,5,9,16] | false=>[]
theorem k60 : Good Tryz.prog gl sh (60,c60):=⟨Tryz.f60,h60,d60,Tryz.func60,by kernel_rfl,by kernel_rfl⟩

def h61 : Hint:=⟨Nat.testBit 224,Nat.testBit 0,fun _=>0⟩
def d61 : Nat → List Nat:=fun _=>[]
theorem k61 : Good Tryz.prog gl sh (61,c61):=⟨Tryz.f61,h61,d61,Tryz.func61,by kernel_rfl,by kernel_rfl⟩

def h62 : Hint:=⟨Nat.testBit 3220716544,Nat.testBit 768,fun _=>0⟩
def d62 : Nat → List Nat:=fun n=>match Nat.beq n 4 with | true=>[0,6,7,8,9,14,18,30] | false=>[]
theorem k62 : Good Tryz.prog gl sh (62,c62):=⟨Tryz.f62,h62,d62,Tryz.func62,by kernel_rfl,by kernel_rfl⟩

def h63 : Hint:=⟨Nat.testBit 131040,Nat.testBit 12,fun _=>0⟩
def d63 : Nat → List Nat:=fun _=>[]
theorem k63 : Good Tryz.prog gl sh (63,c63):=⟨Tryz.f63,h63,d63,Tryz.func63,by kernel_rfl,by kernel_rfl⟩

def h64 : Hint:=⟨Nat.testBit 50301888,Nat.testBit 0,fun _=>0⟩
def d64 : Nat → List Nat:=fun n=>match Nat.beq n 4 with | true=>[4,5,10,14,24] | false=>[]
theorem k64 : Good Tryz.prog gl sh (64,c64):=⟨Tryz.f64,h64,d64,Tryz.func64,by kernel_rfl,by kernel_rfl⟩

def h65 : Hint:=⟨Nat.testBit 145384312038687109241252602162708224,Nat.testBit 34,fun _=>0⟩
def d65 : Nat → List Nat:=fun n=>match Nat.beq n 5 with | true=>[0,2,3,4,5,45,74,75,76,77] | false=>match Nat.beq n 10 with | true=>[7,50,72,77,114] | false=>[]
theorem k65 : Good Tryz.prog gl sh (65,c65):=⟨Tryz.f65,h65,d65,Tryz.func65,by kernel_rfl,by kernel_rfl⟩

def h66 : Hint:=⟨Nat.testBit 590295810349863563264,Nat.testBit 276,fun n=>match Nat.beq n 44 with | true=>5 | false=>match Nat.beq n 55 with | true=>5 | false=>0⟩
def d66 : Nat → List Nat:=fun n=>match Nat.beq n 4 with | true=>[0,8,9,24,25,26,27] | false=>match Nat.beq n 8 with | true=>[10,11,18,27,33] | false=>[]
theorem k66 : Good Tryz.prog gl sh (66,c66):=⟨Tryz.f66,h66,d66,Tryz.func66,by kernel_rfl,by kernel_rfl⟩

def h67 : Hint:=⟨Nat.testBit 32,Nat.testBit 0,fun _=>0⟩
def d67 : Nat → List Nat:=fun _=>[]
theorem k67 : Good Tryz.prog gl sh (67,c67):=⟨Tryz.f67,h67,d67,Tryz.func67,by kernel_rfl,by kernel_rfl⟩

def h68 : Hint:=⟨Nat.testBit 16777184,Nat.testBit 12,fun _=>0⟩
def d68 : Nat → List Nat:=fun _=>[]
theorem k68 : Good Tryz.prog gl sh (68,c68):=⟨Tryz.f68,h68,d68,Tryz.func68,by kernel_rfl,by kernel_rfl⟩

def h69 : Hint:=⟨Nat.testBit 38666736752728356226578432,Nat.testBit 0,fun n=>match Nat.beq n 82 with | true=>1 | false=>0⟩
def d69 : Nat → List Nat:=fun n=>match Nat.beq n 4 with | true=>[2,6,9,10,53] | false=>match Nat.beq n 8 with | true=>[8,14,24,40] | false=>match Nat.beq n 16 with | true=>[7,24,53,74] | false=>[]
theorem k69 : Good Tryz.prog gl sh (69,c69):=⟨Tryz.f69,h69,d69,Tryz.func69,by kernel_rfl,by kernel_rfl⟩

def h70 : Hint:=⟨Nat.testBit 75557863655536989028352,Nat.testBit 2048,fun n=>match Nat.beq n 74 with | true=>1 | false=>0⟩
def d70 : Nat → List Nat:=fun n=>match Nat.beq n 5 with | true=>[10,13,18,33,46] | false=>[]
theorem k70 : Good Tryz.prog gl sh (70,c70):=⟨Tryz.f70,h70,d70,Tryz.func70,by kernel_rfl,by kernel_rfl⟩

def h71 : Hint:=⟨Nat.testBit 536809216,Nat.testBit 4,fun _=>0⟩
def d71 : Nat → List Nat:=fun n=>match Nat.beq n 3 with | true=>[0,1,4,7,15] | false=>[]
theorem k71 : Good Tryz.prog gl sh (71,c71):=⟨Tryz.f71,h71,d71,Tryz.func71,by kernel_rfl,by kernel_rfl⟩

def h99 : Hint:=⟨Nat.testBit 7664,Nat.testBit 0,fun _=>0⟩
def d99 : Nat → List Nat:=fun _=>[]
theorem k99 : Good Tryz.prog gl sh (99,c99):=⟨Tryz.f99,h99,d99,Tryz.func99,by kernel_rfl,by kernel_rfl⟩

def h100 : Hint:=⟨Nat.testBit 5192296858532447980529488833282048,Nat.testBit 12288,fun _=>0⟩
def d100 : Nat → List Nat:=fun n=>match Nat.beq n 6 with | true=>[1,2,3,4,10,11,14,15,21,29,40] | false=>[]
theorem k100 : Good Tryz.prog gl sh (100,c100):=⟨Tryz.f100,h100,d100,Tryz.func100,by kernel_rfl,by kernel_rfl⟩

def h101 : Hint:=⟨Nat.testBit 244736,Nat.testBit 0,fun _=>0⟩
def d101 : Nat → List Nat:=fun n=>match Nat.beq n 3 with | true=>[0,2,5,9,14] | false=>[]
theorem k101 : Good Tryz.prog gl sh (101,c101):=⟨Tryz.f101,h101,d101,Tryz.func101,by kernel_rfl,by kernel_rfl⟩

def h102 : Hint:=⟨Nat.testBit 444288,Nat.testBit 0,fun _=>0⟩
def d102 : Nat → List Nat:=fun _=>[]
theorem k102 : Good Tryz.prog gl sh (102,c102):=⟨Tryz.f102,h102,d102,Tryz.func102,by kernel_rfl,by kernel_rfl⟩

def h103 : Hint:=⟨Nat.testBit 50301888,Nat.testBit 0,fun _=>0⟩
def d103 : Nat → List Nat:=fun n=>match Nat.beq n 4 with | true=>[4,5,10,14,24] | false=>[]
theorem k103 : Good Tryz.prog gl sh (103,c103):=⟨Tryz.f103,h103,d103,Tryz.func103,by kernel_rfl,by kernel_rfl⟩

def h104 : Hint:=⟨Nat.testBit 232,Nat.testBit 0,fun _=>0⟩
def d104 : Nat → List Nat:=fun _=>[]
theorem k104 : Good Tryz.prog gl sh (104,c104):=⟨Tryz.f104,h104,d104,Tryz.func104,by kernel_rfl,by kernel_rfl⟩

def h105 : Hint:=⟨Nat.testBit 295147905110633099264,Nat.testBit 0,fun n=>match Nat.beq n 46 with | true=>1 | false=>0⟩
def d105 : Nat → List Nat:=fun n=>match Nat.beq n 3 with | true=>[6,9,17] | false=>[]
theorem k105 : Good Tryz.prog gl sh (105,c105):=⟨Tryz.f105,h105,d105,Tryz.func105,by kernel_rfl,by kernel_rfl⟩

def h106 : Hint:=⟨Nat.testBit 232,Nat.testBit 0,fun _=>0⟩
def d106 : Nat → List Nat:=fun _=>[]
theorem k106 : Good Tryz.prog gl sh (106,c106):=⟨Tryz.f106,h106,d106,Tryz.func106,by kernel_rfl,by kernel_rfl⟩

def h107 : Hint:=⟨Nat.testBit 65280,Nat.testBit 0,fun _=>0⟩
def d107 : Nat → List Nat:=fun _=>[]
theorem k107 : Good Tryz.prog gl sh (107,c107):=⟨Tryz.f107,h107,d107,Tryz.func107,by kernel_rfl,by kernel_rfl⟩

def h108 : Hint:=⟨Nat.testBit 33536960,Nat.testBit 0,fun _=>0⟩
def d108 : Nat → List Nat:=fun n=>match Nat.beq n 4 with | true=>[4,10,14,25] | false=>[]
theorem k108 : Good Tryz.prog gl sh (108,c108):=⟨Tryz.f108,h108,d108,Tryz.func108,by kernel_rfl,by kernel_rfl⟩

def h131 : Hint:=⟨Nat.testBit 35184304979904,Nat.testBit 0,fun _=>0⟩
def d131 : Nat → List Nat:=fun _=>[]
theorem k131 : Good Tryz.prog gl sh (131,c131):=⟨Tryz.f131,h131,d131,Tryz.func131,by kernel_rfl,by kernel_rfl⟩

def h132 : Hint:=⟨Nat.testBit 56,Nat.testBit 0,fun _=>0⟩
def d132 : Nat → List Nat:=fun _=>[]
theorem k132 : Good Tryz.prog gl sh (132,c132):=⟨Tryz.f132,h132,d132,Tryz.func132,by kernel_rfl,by kernel_rfl⟩

def h133 : Hint:=⟨Nat.testBit 1920,Nat.testBit 0,fun _=>0⟩
def d133 : Nat → List Nat:=fun _=>[]
theorem k133 : Good Tryz.prog gl sh (133,c133):=⟨Tryz.f133,h133,d133,Tryz.func133,by kernel_rfl,by kernel_rfl⟩

def h134 : Hint:=⟨Nat.testBit 9223367505942133760,Nat.testBit 128,fun n=>match Nat.beq n 44 with | true=>5 | false=>match Nat.beq n 53 with | true=>1 | false=>0⟩
def d134 : Nat → List Nat:=fun n=>match Nat.beq n 5 with | true=>[2,6,8,9,14,20,21,22,24,25,26,27,29,30,31,36,42] | false=>[]
theorem k134 : Good Tryz.prog gl sh (134,c134):=⟨Tryz.f134,h134,d134,Tryz.func134,by kernel_rfl,by kernel_rfl⟩

def h146 : Hint:=⟨Nat.testBit 2094848,Nat.testBit 0,fun _=>0⟩
def d146 : Nat → List Nat:=fun _=>[]
theorem k146 : Good Tryz.prog gl sh (146,c146):=⟨Tryz.f146,h146,d146,Tryz.func146,by kernel_rfl,by kernel_rfl⟩

def h161 : Hint:=⟨Nat.testBit 33537768,Nat.testBit 0,fun _=>0⟩
def d161 : Nat → List Nat:=fun _=>[]
theorem k161 : Good Tryz.prog gl sh (161,c161):=⟨Tryz.f161,h161,d161,Tryz.func161,by kernel_rfl,by kernel_rfl⟩

def h162 : Hint:=⟨Nat.testBit 68719471104,Nat.testBit 0,fun _=>0⟩
def d162 : Nat → List Nat:=fun _=>[]
theorem k162 : Good Tryz.prog gl sh (162,c162):=⟨Tryz.f162,h162,d162,Tryz.func162,by kernel_rfl,by kernel_rfl⟩

def h173 : Hint:=⟨Nat.testBit 32744,Nat.testBit 0,fun _=>0⟩
def d173 : Nat → List Nat:=fun _=>[]
theorem k173 : Good Tryz.prog gl sh (173,c173):=⟨Tryz.f173,h173,d173,Tryz.func173,by kernel_rfl,by kernel_rfl⟩

end Go.Mx.Tryz
