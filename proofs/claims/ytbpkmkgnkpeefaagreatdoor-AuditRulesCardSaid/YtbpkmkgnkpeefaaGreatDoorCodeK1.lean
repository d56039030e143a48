/- The compact code is what the checked translation makes of the loaded program: each by the kernel. -/
import Derived.Test.YtbpkmkgnkpeefaaGreatDoorCode
import Derived.Test.YtbpkmkgnkpeefaaGreatDoorBd
import Derived.Test.YtbpkmkgnkpeefaaGreatDoorProg
import Derived.KernelRfl
set_option maxRecDepth 100000
namespace Go.Mx.Tryz
open Go.Proofs

def h174 : Hint:=⟨Nat.testBit 32752,Nat.testBit 0,fun _=>0⟩
def d174 : Nat → List Nat:=fun _=>[]
theorem k174 : Good Tryz.prog gl sh (174,c174):=⟨Tryz.f174,h174,d174,Tryz.func174,by kernel_rfl,by kernel_rfl⟩

def h175 : Hint:=⟨Nat.testBit 184149205606795480238948490449146349755637850570752,Nat.testBit 0,fun _=>0⟩
def d175 : Nat → List Nat:=fun n=>match Nat.beq n 1 with | true=>[5,6,7,8,9,10,11,20] | false=>[]
theorem k175 : Good Tryz.prog gl sh (175,c175):=⟨Tryz.f175,h175,d175,Tryz.func175,by kernel_rfl,by kernel_rfl⟩

def h178 : Hint:=⟨Nat.testBit 56,Nat.testBit 0,fun _=>0⟩
def d178 : Nat → List Nat:=fun _=>[]
theorem k178 : Good Tryz.prog gl sh (178,c178):=⟨Tryz.f178,h178,d178,Tryz.func178,by kernel_rfl,by kernel_rfl⟩

def h179 : Hint:=⟨Nat.testBit 0,Nat.testBit 0,fun _=>0⟩
def d179 : Nat → List Nat:=fun _=>[]
theorem k179 : Good Tryz.prog gl sh (179,c179):=⟨Tryz.f179,h179,d179,Tryz.func179,by kernel_rfl,by kernel_rfl⟩

end Go.Mx.Tryz
