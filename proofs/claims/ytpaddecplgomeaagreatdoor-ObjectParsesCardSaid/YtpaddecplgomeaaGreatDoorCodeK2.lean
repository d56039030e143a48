/- The compact code is what the checked translation makes of the loaded program: each by the kernel. -/
import Derived.Test.YtpaddecplgomeaaGreatDoorCode
import Derived.Test.YtpaddecplgomeaaGreatDoorBd
import Derived.Test.YtpaddecplgomeaaGreatDoorProg
import Derived.Test.YtpaddecplgomeaaGreatDoorCodeK0
import Derived.KernelRfl
set_option maxRecDepth 100000
namespace Go.Mx.Tryz
open Go.Proofs
theorem k167 : Gqk 167 c167:=⟨Tryz.f167,hqk 16352 0 bO,dO,Tryz.func167,by kernel_rfl,by kernel_rfl⟩
theorem k168 : Gqk 168 c168:=⟨Tryz.f168,hqk 8796092034048 768 bO,(dI [(5,[1,4,5,8,9,12,19])]),Tryz.func168,by kernel_rfl,by kernel_rfl⟩
theorem k169 : Gqk 169 c169:=gqE Tryz.func169 (by kernel_rfl) (by kernel_rfl)
theorem k174 : Gqk 174 c174:=⟨Tryz.f174,hqk 65512 0 bO,dO,Tryz.func174,by kernel_rfl,by kernel_rfl⟩
theorem k175 : Gqk 175 c175:=⟨Tryz.f175,hqk 33536960 0 bO,(dI [(4,[4,10,14,25])]),Tryz.func175,by kernel_rfl,by kernel_rfl⟩
theorem k177 : Gqk 177 c177:=⟨Tryz.f177,hqk 224 0 bO,dO,Tryz.func177,by kernel_rfl,by kernel_rfl⟩
theorem k178 : Gqk 178 c178:=⟨Tryz.f178,hqk 32744 0 bO,dO,Tryz.func178,by kernel_rfl,by kernel_rfl⟩
theorem k179 : Gqk 179 c179:=⟨Tryz.f179,hqk 32752 0 bO,dO,Tryz.func179,by kernel_rfl,by kernel_rfl⟩
theorem k180 : Gqk 180 c180:=⟨Tryz.f180,hqk 184149205606795480238948490449146349755637850570752 0 bO,(dI [(1,[5,6,7,8,9,10,11,20])]),Tryz.func180,by kernel_rfl,by kernel_rfl⟩
theorem k181 : Gqk 181 c181:=gqE Tryz.func181 (by kernel_rfl) (by kernel_rfl)
theorem k185 : Gqk 185 c185:=⟨Tryz.f185,hqk 10448029773009037967681152029858612457160704 0 bO,(dI [(15,[4,11,16,24,31,36,59,64,73,93,107,132])]),Tryz.func185,by kernel_rfl,by kernel_rfl⟩
theorem k189 : Gqk 189 c189:=gqE Tryz.func189 (by kernel_rfl) (by kernel_rfl)
theorem k190 : Gqk 190 c190:=gqE Tryz.func190 (by kernel_rfl) (by kernel_rfl)
theorem k191 : Gqk 191 c191:=gqE Tryz.func191 (by kernel_rfl) (by kernel_rfl)
theorem k192 : Gqk 192 c192:=⟨Tryz.f192,hqk 232 0 bO,dO,Tryz.func192,by kernel_rfl,by kernel_rfl⟩
theorem k193 : Gqk 193 c193:=⟨Tryz.f193,hqk 232 0 bO,dO,Tryz.func193,by kernel_rfl,by kernel_rfl⟩
theorem k194 : Gqk 194 c194:=⟨Tryz.f194,hqk 1920 0 bO,dO,Tryz.func194,by kernel_rfl,by kernel_rfl⟩
theorem k195 : Gqk 195 c195:=⟨Tryz.f195,hqk 9223367505942133760 128 (bI [(44,5),(53,1)]),(dI [(5,[2,6,8,9,14,20,21,22,24,25,26,27,29,30,31,36,42])]),Tryz.func195,by kernel_rfl,by kernel_rfl⟩
theorem k196 : Gqk 196 c196:=⟨Tryz.f196,hqk 356811880641193946689691826088336933575983104 0 bO,(dI [(2,[12,13,14,15,16,17,18,19,20,25,32,39,56,75,80,97,125])]),Tryz.func196,by kernel_rfl,by kernel_rfl⟩
theorem k197 : Gqk 197 c197:=⟨Tryz.f197,hqk 248 0 bO,dO,Tryz.func197,by kernel_rfl,by kernel_rfl⟩
theorem k198 : Gqk 198 c198:=gqE Tryz.func198 (by kernel_rfl) (by kernel_rfl)
theorem k202 : Gqk 202 c202:=⟨Tryz.f202,hqk 56 0 bO,dO,Tryz.func202,by kernel_rfl,by kernel_rfl⟩
theorem k203 : Gqk 203 c203:=⟨Tryz.f203,hqk 33537768 0 bO,dO,Tryz.func203,by kernel_rfl,by kernel_rfl⟩
theorem k204 : Gqk 204 c204:=⟨Tryz.f204,hqk 0 0 bO,dO,Tryz.func204,by kernel_rfl,by kernel_rfl⟩
theorem k205 : Gqk 205 c205:=gqE Tryz.func205 (by kernel_rfl) (by kernel_rfl)
theorem k206 : Gqk 206 c206:=gqE Tryz.func206 (by kernel_rfl) (by kernel_rfl)
theorem k213 : Gqk 213 c213:=⟨Tryz.f213,hqk 120 0 bO,dO,Tryz.func213,by kernel_rfl,by kernel_rfl⟩
theorem k214 : Gqk 214 c214:=⟨Tryz.f214,hqk 2094848 0 bO,dO,Tryz.func214,by kernel_rfl,by kernel_rfl⟩
theorem k215 : Gqk 215 c215:=⟨Tryz.f215,hqk 9007182074854400 0 bO,(dI [(1,[9,34]),(4,[14,34])]),Tryz.func215,by kernel_rfl,by kernel_rfl⟩
theorem k216 : Gqk 216 c216:=⟨Tryz.f216,hqk 1152921496014807040 0 bO,(dI [(4,[1,2,21]),(8,[10,11,21,33])]),Tryz.func216,by kernel_rfl,by kernel_rfl⟩
theorem k217 : Gqk 217 c217:=⟨Tryz.f217,hqk 147573917370944446464 0 bO,(dI [(5,[2,3,12,17,35,45])]),Tryz.func217,by kernel_rfl,by kernel_rfl⟩
theorem k218 : Gqk 218 c218:=⟨Tryz.f218,hqk 7890306461253730304 0 bO,dO,Tryz.func218,by kernel_rfl,by kernel_rfl⟩
theorem k219 : Gqk 219 c219:=⟨Tryz.f219,hqk 17179835392 0 bO,(dI [(2,[1,2,3,15])]),Tryz.func219,by kernel_rfl,by kernel_rfl⟩
theorem k220 : Gqk 220 c220:=⟨Tryz.f220,hqk 2787571881499075797774052896007796375347200 0 bO,(dI [(3,[8,11,12,36,41,45,65,69,84,104,109,124]),(5,[16,36]),(14,[36,41,45,65,69,84]),(20,[11,36,41,45,65,69,84,104,109,124])]),Tryz.func220,by kernel_rfl,by kernel_rfl⟩
theorem k221 : Gqk 221 c221:=⟨Tryz.f221,hqk 1237938821800130672580354048 0 bO,(dI [(3,[2,3,10,47,65,70]),(5,[47,65])]),Tryz.func221,by kernel_rfl,by kernel_rfl⟩
theorem k222 : Gqk 222 c222:=⟨Tryz.f222,hqk 383123885193474569774374055887950278561850630313328640 0 bO,(dI [(3,[2,3,10,11,47]),(5,[47,66]),(13,[66,71,120,139,144]),(15,[120,139])]),Tryz.func222,by kernel_rfl,by kernel_rfl⟩
theorem k223 : Gqk 223 c223:=gqE Tryz.func223 (by kernel_rfl) (by kernel_rfl)
theorem k225 : Gqk 225 c225:=gqE Tryz.func225 (by kernel_rfl) (by kernel_rfl)
theorem k226 : Gqk 226 c226:=gqE Tryz.func226 (by kernel_rfl) (by kernel_rfl)
theorem k228 : Gqk 228 c228:=⟨Tryz.f228,hqk 68719471104 0 bO,dO,Tryz.func228,by kernel_rfl,by kernel_rfl⟩
theorem k229 : Gqk 229 c229:=⟨Tryz.f229,hqk 4835702990227041035218944 0 bO,(dI [(1,[1,11,18,40,58])]),Tryz.func229,by kernel_rfl,by kernel_rfl⟩
theorem k230 : Gqk 230 c230:=⟨Tryz.f230,hqk 120 0 bO,dO,Tryz.func230,by kernel_rfl,by kernel_rfl⟩
theorem k231 : Gqk 231 c231:=⟨Tryz.f231,hqk 8589934584 0 bO,dO,Tryz.func231,by kernel_rfl,by kernel_rfl⟩
theorem k232 : Gqk 232 c232:=⟨Tryz.f232,hqk 261632 0 bO,dO,Tryz.func232,by kernel_rfl,by kernel_rfl⟩
theorem k233 : Gqk 233 c233:=⟨Tryz.f233,hqk 2199023247360 0 bO,dO,Tryz.func233,by kernel_rfl,by kernel_rfl⟩
theorem k234 : Gqk 234 c234:=⟨Tryz.f234,hqk 4290768896 0 bO,dO,Tryz.func234,by kernel_rfl,by kernel_rfl⟩
end Go.Mx.Tryz
