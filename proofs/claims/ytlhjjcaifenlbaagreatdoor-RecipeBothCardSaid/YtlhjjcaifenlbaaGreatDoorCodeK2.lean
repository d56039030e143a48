/- The compact code is what the checked translation makes of the loaded program: each by the kernel. -/
import Derived.Test.YtlhjjcaifenlbaaGreatDoorCode
import Derived.Test.YtlhjjcaifenlbaaGreatDoorBd
import Derived.Test.YtlhjjcaifenlbaaGreatDoorProg
import Derived.Test.YtlhjjcaifenlbaaGreatDoorCodeK0
import Derived.KernelRfl
set_option maxRecDepth 100000
namespace Go.Mx.Tryz
open Go.Proofs
theorem k152 : Gqk 152 c152:=⟨Tryz.f152,hqk 261888 24 bO,dO,Tryz.func152,by kernel_rfl,by kernel_rfl⟩
theorem k153 : Gqk 153 c153:=⟨Tryz.f153,hqk 1072692672 24 bO,(dI [(6,[1,9,20])]),Tryz.func153,by kernel_rfl,by kernel_rfl⟩
theorem k154 : Gqk 154 c154:=⟨Tryz.f154,hqk 33822865152 0 bO,(dI [(2,[6,11,29])]),Tryz.func154,by kernel_rfl,by kernel_rfl⟩
theorem k164 : Gqk 164 c164:=gqE Tryz.func164 (by kernel_rfl) (by kernel_rfl)
theorem k165 : Gqk 165 c165:=gqE Tryz.func165 (by kernel_rfl) (by kernel_rfl)
theorem k166 : Gqk 166 c166:=gqE Tryz.func166 (by kernel_rfl) (by kernel_rfl)
theorem k167 : Gqk 167 c167:=gqE Tryz.func167 (by kernel_rfl) (by kernel_rfl)
theorem k168 : Gqk 168 c168:=gqE Tryz.func168 (by kernel_rfl) (by kernel_rfl)
theorem k169 : Gqk 169 c169:=⟨Tryz.f169,hqk 504 0 bO,dO,Tryz.func169,by kernel_rfl,by kernel_rfl⟩
theorem k170 : Gqk 170 c170:=⟨Tryz.f170,hqk 553402321249213742848 0 bO,(dI [(5,[6,7,17,39,65])]),Tryz.func170,by kernel_rfl,by kernel_rfl⟩
theorem k171 : Gqk 171 c171:=⟨Tryz.f171,hqk 1014784 192 bO,dO,Tryz.func171,by kernel_rfl,by kernel_rfl⟩
theorem k172 : Gqk 172 c172:=⟨Tryz.f172,hqk 4835702990227041035218944 0 bO,(dI [(1,[1,11,18,40,58])]),Tryz.func172,by kernel_rfl,by kernel_rfl⟩
theorem k173 : Gqk 173 c173:=⟨Tryz.f173,hqk 120 0 bO,dO,Tryz.func173,by kernel_rfl,by kernel_rfl⟩
theorem k174 : Gqk 174 c174:=⟨Tryz.f174,hqk 8589934584 0 bO,dO,Tryz.func174,by kernel_rfl,by kernel_rfl⟩
theorem k175 : Gqk 175 c175:=⟨Tryz.f175,hqk 261632 0 bO,dO,Tryz.func175,by kernel_rfl,by kernel_rfl⟩
theorem k176 : Gqk 176 c176:=⟨Tryz.f176,hqk 2199023247360 0 bO,dO,Tryz.func176,by kernel_rfl,by kernel_rfl⟩
theorem k177 : Gqk 177 c177:=⟨Tryz.f177,hqk 56 0 bO,dO,Tryz.func177,by kernel_rfl,by kernel_rfl⟩
theorem k178 : Gqk 178 c178:=⟨Tryz.f178,hqk 120 0 bO,dO,Tryz.func178,by kernel_rfl,by kernel_rfl⟩
theorem k200 : Gqk 200 c200:=gqE Tryz.func200 (by kernel_rfl) (by kernel_rfl)
theorem k201 : Gqk 201 c201:=gqE Tryz.func201 (by kernel_rfl) (by kernel_rfl)
theorem k202 : Gqk 202 c202:=gqE Tryz.func202 (by kernel_rfl) (by kernel_rfl)
theorem k203 : Gqk 203 c203:=gqE Tryz.func203 (by kernel_rfl) (by kernel_rfl)
theorem k204 : Gqk 204 c204:=gqE Tryz.func204 (by kernel_rfl) (by kernel_rfl)
theorem k205 : Gqk 205 c205:=gqE Tryz.func205 (by kernel_rfl) (by kernel_rfl)
theorem k206 : Gqk 206 c206:=gqE Tryz.func206 (by kernel_rfl) (by kernel_rfl)
theorem k207 : Gqk 207 c207:=gqE Tryz.func207 (by kernel_rfl) (by kernel_rfl)
theorem k208 : Gqk 208 c208:=⟨Tryz.f208,hqk 4290768896 0 bO,dO,Tryz.func208,by kernel_rfl,by kernel_rfl⟩
theorem k227 : Gqk 227 c227:=gqE Tryz.func227 (by kernel_rfl) (by kernel_rfl)
theorem k228 : Gqk 228 c228:=gqE Tryz.func228 (by kernel_rfl) (by kernel_rfl)
theorem k229 : Gqk 229 c229:=gqE Tryz.func229 (by kernel_rfl) (by kernel_rfl)
theorem k230 : Gqk 230 c230:=gqE Tryz.func230 (by kernel_rfl) (by kernel_rfl)
theorem k251 : Gqk 251 c251:=gqE Tryz.func251 (by kernel_rfl) (by kernel_rfl)
theorem k263 : Gqk 263 c263:=gqE Tryz.func263 (by kernel_rfl) (by kernel_rfl)
theorem k264 : Gqk 264 c264:=gqE Tryz.func264 (by kernel_rfl) (by kernel_rfl)
theorem k265 : Gqk 265 c265:=⟨Tryz.f265,hqk 184149205606795480238948490449146349755637850570752 0 bO,(dI [(1,[5,6,7,8,9,10,11,20])]),Tryz.func265,by kernel_rfl,by kernel_rfl⟩
theorem k266 : Gqk 266 c266:=gqE Tryz.func266 (by kernel_rfl) (by kernel_rfl)
theorem k271 : Gqk 271 c271:=gqE Tryz.func271 (by kernel_rfl) (by kernel_rfl)
theorem k277 : Gqk 277 c277:=gqE Tryz.func277 (by kernel_rfl) (by kernel_rfl)
theorem k278 : Gqk 278 c278:=gqE Tryz.func278 (by kernel_rfl) (by kernel_rfl)
theorem k279 : Gqk 279 c279:=gqE Tryz.func279 (by kernel_rfl) (by kernel_rfl)
theorem k280 : Gqk 280 c280:=gqE Tryz.func280 (by kernel_rfl) (by kernel_rfl)
theorem k284 : Gqk 284 c284:=gqE Tryz.func284 (by kernel_rfl) (by kernel_rfl)
theorem k285 : Gqk 285 c285:=gqE Tryz.func285 (by kernel_rfl) (by kernel_rfl)
end Go.Mx.Tryz
