/- The compact code is what the checked translation makes of the loaded program: each by the kernel. -/
import Derived.Test.YtlhjjcaifenlbaaGreatDoorCode
import Derived.Test.YtlhjjcaifenlbaaGreatDoorBd
import Derived.Test.YtlhjjcaifenlbaaGreatDoorProg
import Derived.Test.YtlhjjcaifenlbaaGreatDoorCodeK0
import Derived.KernelRfl
set_option maxRecDepth 100000
namespace Go.Mx.Tryz
open Go.Proofs
theorem k147:Gqk 147 c147:=⟨Tryz.f147,hqk 33537768 0 bO,dO,Tryz.func147,by kernel_rfl,by kernel_rfl⟩
theorem k148:Gqk 148 c148:=⟨Tryz.f148,hqk 244736 0 bO,(dI [(3,[0,2,5,9,14])]),Tryz.func148,by kernel_rfl,by kernel_rfl⟩
theorem k149:Gqk 149 c149:=⟨Tryz.f149,hqk 444288 0 bO,dO,Tryz.func149,by kernel_rfl,by kernel_rfl⟩
theorem k150:Gqk 150 c150:=gqE Tryz.func150 (by kernel_rfl) (by kernel_rfl)
theorem k151:Gqk 151 c151:=⟨Tryz.f151,hqk 2199023255264 0 bO,(dI [(3,[2,8])]),Tryz.func151,by kernel_rfl,by kernel_rfl⟩
theorem k152:Gqk 152 c152:=gqE Tryz.func152 (by kernel_rfl) (by kernel_rfl)
theorem k153:Gqk 153 c153:=⟨Tryz.f153,hqk 1072692672 24 bO,(dI [(6,[1,9,20])]),Tryz.func153,by kernel_rfl,by kernel_rfl⟩
theorem k154:Gqk 154 c154:=⟨Tryz.f154,hqk 33822865152 0 bO,(dI [(2,[6,11,29])]),Tryz.func154,by kernel_rfl,by kernel_rfl⟩
theorem k155:Gqk 155 c155:=gqE Tryz.func155 (by kernel_rfl) (by kernel_rfl)
theorem k156:Gqk 156 c156:=gqE Tryz.func156 (by kernel_rfl) (by kernel_rfl)
theorem k157:Gqk 157 c157:=gqE Tryz.func157 (by kernel_rfl) (by kernel_rfl)
theorem k158:Gqk 158 c158:=gqE Tryz.func158 (by kernel_rfl) (by kernel_rfl)
theorem k159:Gqk 159 c159:=gqE Tryz.func159 (by kernel_rfl) (by kernel_rfl)
theorem k160:Gqk 160 c160:=gqE Tryz.func160 (by kernel_rfl) (by kernel_rfl)
theorem k161:Gqk 161 c161:=gqE Tryz.func161 (by kernel_rfl) (by kernel_rfl)
theorem k163:Gqk 163 c163:=gqE Tryz.func163 (by kernel_rfl) (by kernel_rfl)
theorem k164:Gqk 164 c164:=⟨Tryz.f164,hqk 472 6 bO,dO,Tryz.func164,by kernel_rfl,by kernel_rfl⟩
theorem k165:Gqk 165 c165:=⟨Tryz.f165,hqk 174224571853379269148332112504685668007936 532 (bI [(124,5),(126,5)]),(dI [(5,[0,1,8,9,10,31,39,44,45,46,47]),(10,[11,12,13,31,39,47,55,64,65,66,67,103]),(16,[12,14,15,47,55,67,84])]),Tryz.func165,by kernel_rfl,by kernel_rfl⟩
theorem k166:Gqk 166 c166:=⟨Tryz.f166,hqk 880 6 bO,dO,Tryz.func166,by kernel_rfl,by kernel_rfl⟩
theorem k167:Gqk 167 c167:=⟨Tryz.f167,hqk 224 0 bO,dO,Tryz.func167,by kernel_rfl,by kernel_rfl⟩
theorem k168:Gqk 168 c168:=⟨Tryz.f168,hqk 16777184 12 bO,dO,Tryz.func168,by kernel_rfl,by kernel_rfl⟩
theorem k169:Gqk 169 c169:=⟨Tryz.f169,hqk 504 0 bO,dO,Tryz.func169,by kernel_rfl,by kernel_rfl⟩
theorem k170:Gqk 170 c170:=⟨Tryz.f170,hqk 553402321249213742848 0 bO,(dI [(5,[6,7,17,39,65])]),Tryz.func170,by kernel_rfl,by kernel_rfl⟩
theorem k171:Gqk 171 c171:=⟨Tryz.f171,hqk 1014784 192 bO,dO,Tryz.func171,by kernel_rfl,by kernel_rfl⟩
theorem k172:Gqk 172 c172:=⟨Tryz.f172,hqk 4835702990227041035218944 0 bO,(dI [(1,[1,11,18,40,58])]),Tryz.func172,by kernel_rfl,by kernel_rfl⟩
theorem k173:Gqk 173 c173:=⟨Tryz.f173,hqk 120 0 bO,dO,Tryz.func173,by kernel_rfl,by kernel_rfl⟩
theorem k174:Gqk 174 c174:=⟨Tryz.f174,hqk 8589934584 0 bO,dO,Tryz.func174,by kernel_rfl,by kernel_rfl⟩
theorem k175:Gqk 175 c175:=⟨Tryz.f175,hqk 261632 0 bO,dO,Tryz.func175,by kernel_rfl,by kernel_rfl⟩
theorem k176:Gqk 176 c176:=⟨Tryz.f176,hqk 2199023247360 0 bO,dO,Tryz.func176,by kernel_rfl,by kernel_rfl⟩
theorem k177:Gqk 177 c177:=⟨Tryz.f177,hqk 56 0 bO,dO,Tryz.func177,by kernel_rfl,by kernel_rfl⟩
theorem k178:Gqk 178 c178:=gqE Tryz.func178 (by kernel_rfl) (by kernel_rfl)
theorem k179:Gqk 179 c179:=gqE Tryz.func179 (by kernel_rfl) (by kernel_rfl)
theorem k180:Gqk 180 c180:=gqE Tryz.func180 (by kernel_rfl) (by kernel_rfl)
theorem k181:Gqk 181 c181:=gqE Tryz.func181 (by kernel_rfl) (by kernel_rfl)
theorem k182:Gqk 182 c182:=⟨Tryz.f182,hqk 38666736752728356226578432 0 (bI [(82,1)]),(dI [(4,[2,6,9,10,53]),(8,[8,14,24,40]),(16,[7,24,53,74])]),Tryz.func182,by kernel_rfl,by kernel_rfl⟩
theorem k183:Gqk 183 c183:=gqE Tryz.func183 (by kernel_rfl) (by kernel_rfl)
theorem k184:Gqk 184 c184:=gqE Tryz.func184 (by kernel_rfl) (by kernel_rfl)
theorem k185:Gqk 185 c185:=gqE Tryz.func185 (by kernel_rfl) (by kernel_rfl)
theorem k186:Gqk 186 c186:=gqE Tryz.func186 (by kernel_rfl) (by kernel_rfl)
theorem k187:Gqk 187 c187:=gqE Tryz.func187 (by kernel_rfl) (by kernel_rfl)
theorem k188:Gqk 188 c188:=gqE Tryz.func188 (by kernel_rfl) (by kernel_rfl)
theorem k189:Gqk 189 c189:=gqE Tryz.func189 (by kernel_rfl) (by kernel_rfl)
theorem k190:Gqk 190 c190:=⟨Tryz.f190,hqk 532676096 34 bO,(dI [(3,[0,2,4,5,6,8,22])]),Tryz.func190,by kernel_rfl,by kernel_rfl⟩
theorem k191:Gqk 191 c191:=⟨Tryz.f191,hqk 560750451945472 8 (bI [(25,1),(45,1)]),(dI [(8,[0,1,2,6,7,8,10,11,16,23,28,41])]),Tryz.func191,by kernel_rfl,by kernel_rfl⟩
theorem k192:Gqk 192 c192:=gqE Tryz.func192 (by kernel_rfl) (by kernel_rfl)
theorem k193:Gqk 193 c193:=gqE Tryz.func193 (by kernel_rfl) (by kernel_rfl)
theorem k194:Gqk 194 c194:=gqE Tryz.func194 (by kernel_rfl) (by kernel_rfl)
theorem k195:Gqk 195 c195:=gqE Tryz.func195 (by kernel_rfl) (by kernel_rfl)
theorem k196:Gqk 196 c196:=gqE Tryz.func196 (by kernel_rfl) (by kernel_rfl)
theorem k200:Gqk 200 c200:=⟨Tryz.f200,hqk 590295810349863563264 276 (bI [(44,5),(55,5)]),(dI [(4,[0,8,9,24,25,26,27]),(8,[10,11,18,27,33])]),Tryz.func200,by kernel_rfl,by kernel_rfl⟩
theorem k201:Gqk 201 c201:=⟨Tryz.f201,hqk 32 0 bO,dO,Tryz.func201,by kernel_rfl,by kernel_rfl⟩
theorem k202:Gqk 202 c202:=⟨Tryz.f202,hqk 295147905110633099264 0 (bI [(46,1)]),(dI [(3,[6,9,17])]),Tryz.func202,by kernel_rfl,by kernel_rfl⟩
theorem k203:Gqk 203 c203:=⟨Tryz.f203,hqk 65280 0 bO,dO,Tryz.func203,by kernel_rfl,by kernel_rfl⟩
theorem k204:Gqk 204 c204:=gqE Tryz.func204 (by kernel_rfl) (by kernel_rfl)
theorem k205:Gqk 205 c205:=gqE Tryz.func205 (by kernel_rfl) (by kernel_rfl)
theorem k206:Gqk 206 c206:=gqE Tryz.func206 (by kernel_rfl) (by kernel_rfl)
theorem k207:Gqk 207 c207:=gqE Tryz.func207 (by kernel_rfl) (by kernel_rfl)
theorem k208:Gqk 208 c208:=⟨Tryz.f208,hqk 4290768896 0 bO,dO,Tryz.func208,by kernel_rfl,by kernel_rfl⟩
theorem k209:Gqk 209 c209:=gqE Tryz.func209 (by kernel_rfl) (by kernel_rfl)
theorem k210:Gqk 210 c210:=⟨Tryz.f210,hqk 33536960 0 bO,(dI [(4,[4,10,14,25])]),Tryz.func210,by kernel_rfl,by kernel_rfl⟩
end Go.Mx.Tryz
