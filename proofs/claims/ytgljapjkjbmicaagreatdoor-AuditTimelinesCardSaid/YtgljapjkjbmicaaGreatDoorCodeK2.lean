/- The compact code is what the checked translation makes of the loaded program: each by the kernel. -/
import Derived.Test.YtgljapjkjbmicaaGreatDoorCode
import Derived.Test.YtgljapjkjbmicaaGreatDoorBd
import Derived.Test.YtgljapjkjbmicaaGreatDoorProg
import Derived.Test.YtgljapjkjbmicaaGreatDoorCodeK0
import Derived.KernelRfl
set_option maxRecDepth 100000
namespace Go.Mx.Tryz
open Go.Proofs
theorem k123 : Gqk 123 c123:=gqE Tryz.func123 (by kernel_rfl) (by kernel_rfl)
theorem k124 : Gqk 124 c124:=⟨Tryz.f124,hqk 56 0 bO,dO,Tryz.func124,by kernel_rfl,by kernel_rfl⟩
theorem k125 : Gqk 125 c125:=gqE Tryz.func125 (by kernel_rfl) (by kernel_rfl)
theorem k126 : Gqk 126 c126:=gqE Tryz.func126 (by kernel_rfl) (by kernel_rfl)
theorem k127 : Gqk 127 c127:=gqE Tryz.func127 (by kernel_rfl) (by kernel_rfl)
theorem k128 : Gqk 128 c128:=gqE Tryz.func128 (by kernel_rfl) (by kernel_rfl)
theorem k129 : Gqk 129 c129:=⟨Tryz.f129,hqk 356811880641193946689691826088336933575983104 0 bO,(dI [(2,[12,13,14,15,16,17,18,19,20,25,32,39,56,75,80,97,125])]),Tryz.func129,by kernel_rfl,by kernel_rfl⟩
theorem k130 : Gqk 130 c130:=⟨Tryz.f130,hqk 248 0 bO,dO,Tryz.func130,by kernel_rfl,by kernel_rfl⟩
theorem k131 : Gqk 131 c131:=⟨Tryz.f131,hqk 604462909807177148333568 4 bO,(dI [(5,[3,16,37])]),Tryz.func131,by kernel_rfl,by kernel_rfl⟩
theorem k132 : Gqk 132 c132:=⟨Tryz.f132,hqk 17592186039296 40 bO,(dI [(2,[0,2,6,8,9,12,44])]),Tryz.func132,by kernel_rfl,by kernel_rfl⟩
theorem k133 : Gqk 133 c133:=⟨Tryz.f133,hqk 295147623704376114560 8 bO,dO,Tryz.func133,by kernel_rfl,by kernel_rfl⟩
theorem k134 : Gqk 134 c134:=gqE Tryz.func134 (by kernel_rfl) (by kernel_rfl)
theorem k135 : Gqk 135 c135:=gqE Tryz.func135 (by kernel_rfl) (by kernel_rfl)
theorem k136 : Gqk 136 c136:=gqE Tryz.func136 (by kernel_rfl) (by kernel_rfl)
theorem k137 : Gqk 137 c137:=⟨Tryz.f137,hqk 9007182074854400 0 bO,(dI [(1,[9,34]),(4,[14,34])]),Tryz.func137,by kernel_rfl,by kernel_rfl⟩
theorem k138 : Gqk 138 c138:=⟨Tryz.f138,hqk 1152921496014807040 0 bO,(dI [(4,[1,2,21]),(8,[10,11,21,33])]),Tryz.func138,by kernel_rfl,by kernel_rfl⟩
theorem k139 : Gqk 139 c139:=⟨Tryz.f139,hqk 147573917370944446464 0 bO,(dI [(5,[2,3,12,17,35,45])]),Tryz.func139,by kernel_rfl,by kernel_rfl⟩
theorem k140 : Gqk 140 c140:=⟨Tryz.f140,hqk 7890306461253730304 0 bO,dO,Tryz.func140,by kernel_rfl,by kernel_rfl⟩
theorem k141 : Gqk 141 c141:=⟨Tryz.f141,hqk 17179835392 0 bO,(dI [(2,[1,2,3,15])]),Tryz.func141,by kernel_rfl,by kernel_rfl⟩
theorem k142 : Gqk 142 c142:=⟨Tryz.f142,hqk 2787571881499075797774052896007796375347200 0 bO,(dI [(3,[8,11,12,36,41,45,65,69,84,104,109,124]),(5,[16,36]),(14,[36,41,45,65,69,84]),(20,[11,36,41,45,65,69,84,104,109,124])]),Tryz.func142,by kernel_rfl,by kernel_rfl⟩
theorem k143 : Gqk 143 c143:=⟨Tryz.f143,hqk 1237938821800130672580354048 0 bO,(dI [(3,[2,3,10,47,65,70]),(5,[47,65])]),Tryz.func143,by kernel_rfl,by kernel_rfl⟩
theorem k144 : Gqk 144 c144:=⟨Tryz.f144,hqk 383123885193474569774374055887950278561850630313328640 0 bO,(dI [(3,[2,3,10,11,47]),(5,[47,66]),(13,[66,71,120,139,144]),(15,[120,139])]),Tryz.func144,by kernel_rfl,by kernel_rfl⟩
theorem k145 : Gqk 145 c145:=gqE Tryz.func145 (by kernel_rfl) (by kernel_rfl)
theorem k146 : Gqk 146 c146:=⟨Tryz.f146,hqk 33537768 0 bO,dO,Tryz.func146,by kernel_rfl,by kernel_rfl⟩
theorem k147 : Gqk 147 c147:=gqE Tryz.func147 (by kernel_rfl) (by kernel_rfl)
theorem k148 : Gqk 148 c148:=gqE Tryz.func148 (by kernel_rfl) (by kernel_rfl)
theorem k149 : Gqk 149 c149:=gqE Tryz.func149 (by kernel_rfl) (by kernel_rfl)
theorem k150 : Gqk 150 c150:=gqE Tryz.func150 (by kernel_rfl) (by kernel_rfl)
theorem k151 : Gqk 151 c151:=gqE Tryz.func151 (by kernel_rfl) (by kernel_rfl)
theorem k152 : Gqk 152 c152:=gqE Tryz.func152 (by kernel_rfl) (by kernel_rfl)
theorem k153 : Gqk 153 c153:=⟨Tryz.f153,hqk 4835702990227041035218944 0 bO,(dI [(1,[1,11,18,40,58])]),Tryz.func153,by kernel_rfl,by kernel_rfl⟩
theorem k154 : Gqk 154 c154:=⟨Tryz.f154,hqk 120 0 bO,dO,Tryz.func154,by kernel_rfl,by kernel_rfl⟩
theorem k155 : Gqk 155 c155:=⟨Tryz.f155,hqk 8589934584 0 bO,dO,Tryz.func155,by kernel_rfl,by kernel_rfl⟩
theorem k156 : Gqk 156 c156:=⟨Tryz.f156,hqk 261632 0 bO,dO,Tryz.func156,by kernel_rfl,by kernel_rfl⟩
theorem k157 : Gqk 157 c157:=⟨Tryz.f157,hqk 2199023247360 0 bO,dO,Tryz.func157,by kernel_rfl,by kernel_rfl⟩
theorem k158 : Gqk 158 c158:=gqE Tryz.func158 (by kernel_rfl) (by kernel_rfl)
theorem k159 : Gqk 159 c159:=gqE Tryz.func159 (by kernel_rfl) (by kernel_rfl)
theorem k160 : Gqk 160 c160:=⟨Tryz.f160,hqk 184149205606795480238948490449146349755637850570752 0 bO,(dI [(1,[5,6,7,8,9,10,11,20])]),Tryz.func160,by kernel_rfl,by kernel_rfl⟩
theorem k162 : Gqk 162 c162:=⟨Tryz.f162,hqk 4290768896 0 bO,dO,Tryz.func162,by kernel_rfl,by kernel_rfl⟩
theorem k163 : Gqk 163 c163:=gqE Tryz.func163 (by kernel_rfl) (by kernel_rfl)
theorem k164 : Gqk 164 c164:=gqE Tryz.func164 (by kernel_rfl) (by kernel_rfl)
end Go.Mx.Tryz
