/- The compact code is what the checked translation makes of the loaded program: each by the kernel. -/
import Derived.Test.YtjjpbhhgeddgjaaGreatDoorCode
import Derived.Test.YtjjpbhhgeddgjaaGreatDoorBd
import Derived.Test.YtjjpbhhgeddgjaaGreatDoorProg
import Derived.Test.YtjjpbhhgeddgjaaGreatDoorCodeK0
import Derived.KernelRfl
set_option maxRecDepth 100000
namespace Go.Mx.Tryz
open Go.Proofs
theorem k207 : Gqk 207 c207:=⟨Tryz.f207,hqk 9223367505942133760 128 (bI [(44,5),(53,1)]),(dI [(5,[2,6,8,9,14,20,21,22,24,25,26,27,29,30,31,36,42])]),Tryz.func207,by kernel_rfl,by kernel_rfl⟩
theorem k208 : Gqk 208 c208:=gqE Tryz.func208 (by kernel_rfl) (by kernel_rfl)
theorem k210 : Gqk 210 c210:=gqE Tryz.func210 (by kernel_rfl) (by kernel_rfl)
theorem k211 : Gqk 211 c211:=⟨Tryz.f211,hqk 2094848 0 bO,dO,Tryz.func211,by kernel_rfl,by kernel_rfl⟩
theorem k213 : Gqk 213 c213:=⟨Tryz.f213,hqk 68719471104 0 bO,dO,Tryz.func213,by kernel_rfl,by kernel_rfl⟩
end Go.Mx.Tryz
