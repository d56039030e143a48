/- The compact code is what the checked translation makes of the loaded program: each by the kernel. -/
import Derived.Test.YtlhjjcaifenlbaaGreatDoorCode
import Derived.Test.YtlhjjcaifenlbaaGreatDoorBd
import Derived.Test.YtlhjjcaifenlbaaGreatDoorProg
import Derived.Test.YtlhjjcaifenlbaaGreatDoorCodeK0
import Derived.KernelRfl
set_option maxRecDepth 100000
namespace Go.Mx.Tryz
open Go.Proofs
theorem k211:Gqk 211 c211:=gqE Tryz.func211 (by kernel_rfl) (by kernel_rfl)
theorem k212:Gqk 212 c212:=gqE Tryz.func212 (by kernel_rfl) (by kernel_rfl)
theorem k213:Gqk 213 c213:=gqE Tryz.func213 (by kernel_rfl) (by kernel_rfl)
theorem k214:Gqk 214 c214:=gqE Tryz.func214 (by kernel_rfl) (by kernel_rfl)
theorem k215:Gqk 215 c215:=gqE Tryz.func215 (by kernel_rfl) (by kernel_rfl)
theorem k216:Gqk 216 c216:=gqE Tryz.func216 (by kernel_rfl) (by kernel_rfl)
theorem k217:Gqk 217 c217:=⟨Tryz.f217,hqk 272728293376 768 bO,(dI [(2,[6,7,8,9,10,14,21,31])]),Tryz.func217,by kernel_rfl,by kernel_rfl⟩
theorem k218:Gqk 218 c218:=gqE Tryz.func218 (by kernel_rfl) (by kernel_rfl)
theorem k219:Gqk 219 c219:=gqE Tryz.func219 (by kernel_rfl) (by kernel_rfl)
theorem k220:Gqk 220 c220:=gqE Tryz.func220 (by kernel_rfl) (by kernel_rfl)
theorem k221:Gqk 221 c221:=gqE Tryz.func221 (by kernel_rfl) (by kernel_rfl)
theorem k222:Gqk 222 c222:=gqE Tryz.func222 (by kernel_rfl) (by kernel_rfl)
theorem k223:Gqk 223 c223:=gqE Tryz.func223 (by kernel_rfl) (by kernel_rfl)
theorem k224:Gqk 224 c224:=gqE Tryz.func224 (by kernel_rfl) (by kernel_rfl)
theorem k227:Gqk 227 c227:=⟨Tryz.f227,hqk 232 0 bO,dO,Tryz.func227,by kernel_rfl,by kernel_rfl⟩
theorem k228:Gqk 228 c228:=⟨Tryz.f228,hqk 232 0 bO,dO,Tryz.func228,by kernel_rfl,by kernel_rfl⟩
theorem k229:Gqk 229 c229:=⟨Tryz.f229,hqk 1920 0 bO,dO,Tryz.func229,by kernel_rfl,by kernel_rfl⟩
theorem k230:Gqk 230 c230:=⟨Tryz.f230,hqk 9223367505942133760 128 (bI [(44,5),(53,1)]),(dI [(5,[2,6,8,9,14,20,21,22,24,25,26,27,29,30,31,36,42])]),Tryz.func230,by kernel_rfl,by kernel_rfl⟩
theorem k231:Gqk 231 c231:=gqE Tryz.func231 (by kernel_rfl) (by kernel_rfl)
theorem k232:Gqk 232 c232:=gqE Tryz.func232 (by kernel_rfl) (by kernel_rfl)
theorem k233:Gqk 233 c233:=gqE Tryz.func233 (by kernel_rfl) (by kernel_rfl)
theorem k234:Gqk 234 c234:=gqE Tryz.func234 (by kernel_rfl) (by kernel_rfl)
theorem k235:Gqk 235 c235:=gqE Tryz.func235 (by kernel_rfl) (by kernel_rfl)
theorem k236:Gqk 236 c236:=gqE Tryz.func236 (by kernel_rfl) (by kernel_rfl)
theorem k237:Gqk 237 c237:=gqE Tryz.func237 (by kernel_rfl) (by kernel_rfl)
theorem k238:Gqk 238 c238:=gqE Tryz.func238 (by kernel_rfl) (by kernel_rfl)
theorem k239:Gqk 239 c239:=gqE Tryz.func239 (by kernel_rfl) (by kernel_rfl)
theorem k240:Gqk 240 c240:=gqE Tryz.func240 (by kernel_rfl) (by kernel_rfl)
theorem k241:Gqk 241 c241:=gqE Tryz.func241 (by kernel_rfl) (by kernel_rfl)
theorem k251:Gqk 251 c251:=⟨Tryz.f251,hqk 2094848 0 bO,dO,Tryz.func251,by kernel_rfl,by kernel_rfl⟩
theorem k252:Gqk 252 c252:=gqE Tryz.func252 (by kernel_rfl) (by kernel_rfl)
theorem k253:Gqk 253 c253:=gqE Tryz.func253 (by kernel_rfl) (by kernel_rfl)
theorem k254:Gqk 254 c254:=gqE Tryz.func254 (by kernel_rfl) (by kernel_rfl)
theorem k255:Gqk 255 c255:=gqE Tryz.func255 (by kernel_rfl) (by kernel_rfl)
theorem k256:Gqk 256 c256:=gqE Tryz.func256 (by kernel_rfl) (by kernel_rfl)
theorem k257:Gqk 257 c257:=gqE Tryz.func257 (by kernel_rfl) (by kernel_rfl)
theorem k258:Gqk 258 c258:=gqE Tryz.func258 (by kernel_rfl) (by kernel_rfl)
theorem k259:Gqk 259 c259:=gqE Tryz.func259 (by kernel_rfl) (by kernel_rfl)
theorem k260:Gqk 260 c260:=gqE Tryz.func260 (by kernel_rfl) (by kernel_rfl)
theorem k262:Gqk 262 c262:=gqE Tryz.func262 (by kernel_rfl) (by kernel_rfl)
theorem k263:Gqk 263 c263:=⟨Tryz.f263,hqk 32744 0 bO,dO,Tryz.func263,by kernel_rfl,by kernel_rfl⟩
theorem k264:Gqk 264 c264:=⟨Tryz.f264,hqk 32752 0 bO,dO,Tryz.func264,by kernel_rfl,by kernel_rfl⟩
theorem k265:Gqk 265 c265:=⟨Tryz.f265,hqk 184149205606795480238948490449146349755637850570752 0 bO,(dI [(1,[5,6,7,8,9,10,11,20])]),Tryz.func265,by kernel_rfl,by kernel_rfl⟩
theorem k266:Gqk 266 c266:=gqE Tryz.func266 (by kernel_rfl) (by kernel_rfl)
theorem k271:Gqk 271 c271:=⟨Tryz.f271,hqk 68719471104 0 bO,dO,Tryz.func271,by kernel_rfl,by kernel_rfl⟩
theorem k272:Gqk 272 c272:=gqE Tryz.func272 (by kernel_rfl) (by kernel_rfl)
theorem k273:Gqk 273 c273:=gqE Tryz.func273 (by kernel_rfl) (by kernel_rfl)
theorem k274:Gqk 274 c274:=gqE Tryz.func274 (by kernel_rfl) (by kernel_rfl)
theorem k277:Gqk 277 c277:=⟨Tryz.f277,hqk 56 0 bO,dO,Tryz.func277,by kernel_rfl,by kernel_rfl⟩
theorem k278:Gqk 278 c278:=⟨Tryz.f278,hqk 0 0 bO,dO,Tryz.func278,by kernel_rfl,by kernel_rfl⟩
theorem k279:Gqk 279 c279:=gqE Tryz.func279 (by kernel_rfl) (by kernel_rfl)
theorem k280:Gqk 280 c280:=gqE Tryz.func280 (by kernel_rfl) (by kernel_rfl)
theorem k282:Gqk 282 c282:=gqE Tryz.func282 (by kernel_rfl) (by kernel_rfl)
theorem k284:Gqk 284 c284:=gqE Tryz.func284 (by kernel_rfl) (by kernel_rfl)
theorem k285:Gqk 285 c285:=gqE Tryz.func285 (by kernel_rfl) (by kernel_rfl)
end Go.Mx.Tryz
