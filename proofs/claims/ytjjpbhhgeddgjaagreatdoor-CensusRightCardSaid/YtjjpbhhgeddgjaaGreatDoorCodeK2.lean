/- The compact code is what the checked translation makes of the loaded program: each by the kernel. -/
import Derived.Test.YtjjpbhhgeddgjaaGreatDoorCode
import Derived.Test.YtjjpbhhgeddgjaaGreatDoorBd
import Derived.Test.YtjjpbhhgeddgjaaGreatDoorProg
import Derived.Test.YtjjpbhhgeddgjaaGreatDoorCodeK0
import Derived.KernelRfl
set_option maxRecDepth 100000
namespace Go.Mx.Tryz
open Go.Proofs
theorem k133 : Gqk 133 c133:=gqE Tryz.func133 (by kernel_rfl) (by kernel_rfl)
theorem k134 : Gqk 134 c134:=gqE Tryz.func134 (by kernel_rfl) (by kernel_rfl)
theorem k135 : Gqk 135 c135:=gqE Tryz.func135 (by kernel_rfl) (by kernel_rfl)
theorem k136 : Gqk 136 c136:=⟨Tryz.f136,hqk 33537768 0 bO,dO,Tryz.func136,by kernel_rfl,by kernel_rfl⟩
theorem k137 : Gqk 137 c137:=gqE Tryz.func137 (by kernel_rfl) (by kernel_rfl)
theorem k138 : Gqk 138 c138:=gqE Tryz.func138 (by kernel_rfl) (by kernel_rfl)
theorem k139 : Gqk 139 c139:=gqE Tryz.func139 (by kernel_rfl) (by kernel_rfl)
theorem k140 : Gqk 140 c140:=gqE Tryz.func140 (by kernel_rfl) (by kernel_rfl)
theorem k150 : Gqk 150 c150:=⟨Tryz.f150,hqk 56 0 bO,dO,Tryz.func150,by kernel_rfl,by kernel_rfl⟩
theorem k151 : Gqk 151 c151:=⟨Tryz.f151,hqk 0 0 bO,dO,Tryz.func151,by kernel_rfl,by kernel_rfl⟩
theorem k152 : Gqk 152 c152:=gqE Tryz.func152 (by kernel_rfl) (by kernel_rfl)
theorem k153 : Gqk 153 c153:=gqE Tryz.func153 (by kernel_rfl) (by kernel_rfl)
theorem k154 : Gqk 154 c154:=gqE Tryz.func154 (by kernel_rfl) (by kernel_rfl)
theorem k155 : Gqk 155 c155:=⟨Tryz.f155,hqk 472 6 bO,dO,Tryz.func155,by kernel_rfl,by kernel_rfl⟩
theorem k156 : Gqk 156 c156:=⟨Tryz.f156,hqk 174224571853379269148332112504685668007936 532 (bI [(124,5),(126,5)]),(dI [(5,[0,1,8,9,10,31,39,44,45,46,47]),(10,[11,12,13,31,39,47,55,64,65,66,67,103]),(16,[12,14,15,47,55,67,84])]),Tryz.func156,by kernel_rfl,by kernel_rfl⟩
theorem k157 : Gqk 157 c157:=⟨Tryz.f157,hqk 880 6 bO,dO,Tryz.func157,by kernel_rfl,by kernel_rfl⟩
theorem k158 : Gqk 158 c158:=⟨Tryz.f158,hqk 224 0 bO,dO,Tryz.func158,by kernel_rfl,by kernel_rfl⟩
theorem k159 : Gqk 159 c159:=⟨Tryz.f159,hqk 16777184 12 bO,dO,Tryz.func159,by kernel_rfl,by kernel_rfl⟩
theorem k160 : Gqk 160 c160:=⟨Tryz.f160,hqk 4611686017420688896 132 bO,(dI [(5,[3,7,16,29])]),Tryz.func160,by kernel_rfl,by kernel_rfl⟩
theorem k161 : Gqk 161 c161:=gqE Tryz.func161 (by kernel_rfl) (by kernel_rfl)
theorem k162 : Gqk 162 c162:=gqE Tryz.func162 (by kernel_rfl) (by kernel_rfl)
theorem k163 : Gqk 163 c163:=gqE Tryz.func163 (by kernel_rfl) (by kernel_rfl)
theorem k164 : Gqk 164 c164:=gqE Tryz.func164 (by kernel_rfl) (by kernel_rfl)
theorem k165 : Gqk 165 c165:=gqE Tryz.func165 (by kernel_rfl) (by kernel_rfl)
theorem k166 : Gqk 166 c166:=⟨Tryz.f166,hqk 56 0 bO,dO,Tryz.func166,by kernel_rfl,by kernel_rfl⟩
theorem k167 : Gqk 167 c167:=gqE Tryz.func167 (by kernel_rfl) (by kernel_rfl)
theorem k168 : Gqk 168 c168:=gqE Tryz.func168 (by kernel_rfl) (by kernel_rfl)
theorem k169 : Gqk 169 c169:=gqE Tryz.func169 (by kernel_rfl) (by kernel_rfl)
theorem k170 : Gqk 170 c170:=gqE Tryz.func170 (by kernel_rfl) (by kernel_rfl)
theorem k171 : Gqk 171 c171:=gqE Tryz.func171 (by kernel_rfl) (by kernel_rfl)
theorem k172 : Gqk 172 c172:=gqE Tryz.func172 (by kernel_rfl) (by kernel_rfl)
theorem k173 : Gqk 173 c173:=gqE Tryz.func173 (by kernel_rfl) (by kernel_rfl)
theorem k178 : Gqk 178 c178:=gqE Tryz.func178 (by kernel_rfl) (by kernel_rfl)
theorem k179 : Gqk 179 c179:=gqE Tryz.func179 (by kernel_rfl) (by kernel_rfl)
theorem k180 : Gqk 180 c180:=gqE Tryz.func180 (by kernel_rfl) (by kernel_rfl)
theorem k181 : Gqk 181 c181:=gqE Tryz.func181 (by kernel_rfl) (by kernel_rfl)
theorem k182 : Gqk 182 c182:=gqE Tryz.func182 (by kernel_rfl) (by kernel_rfl)
theorem k183 : Gqk 183 c183:=gqE Tryz.func183 (by kernel_rfl) (by kernel_rfl)
theorem k184 : Gqk 184 c184:=gqE Tryz.func184 (by kernel_rfl) (by kernel_rfl)
theorem k185 : Gqk 185 c185:=gqE Tryz.func185 (by kernel_rfl) (by kernel_rfl)
theorem k186 : Gqk 186 c186:=gqE Tryz.func186 (by kernel_rfl) (by kernel_rfl)
theorem k187 : Gqk 187 c187:=gqE Tryz.func187 (by kernel_rfl) (by kernel_rfl)
theorem k188 : Gqk 188 c188:=⟨Tryz.f188,hqk 590295810349863563264 276 (bI [(44,5),(55,5)]),(dI [(4,[0,8,9,24,25,26,27]),(8,[10,11,18,27,33])]),Tryz.func188,by kernel_rfl,by kernel_rfl⟩
theorem k189 : Gqk 189 c189:=⟨Tryz.f189,hqk 32 0 bO,dO,Tryz.func189,by kernel_rfl,by kernel_rfl⟩
theorem k190 : Gqk 190 c190:=⟨Tryz.f190,hqk 295147905110633099264 0 (bI [(46,1)]),(dI [(3,[6,9,17])]),Tryz.func190,by kernel_rfl,by kernel_rfl⟩
theorem k191 : Gqk 191 c191:=⟨Tryz.f191,hqk 65280 0 bO,dO,Tryz.func191,by kernel_rfl,by kernel_rfl⟩
theorem k192 : Gqk 192 c192:=gqE Tryz.func192 (by kernel_rfl) (by kernel_rfl)
theorem k193 : Gqk 193 c193:=gqE Tryz.func193 (by kernel_rfl) (by kernel_rfl)
theorem k194 : Gqk 194 c194:=gqE Tryz.func194 (by kernel_rfl) (by kernel_rfl)
theorem k195 : Gqk 195 c195:=gqE Tryz.func195 (by kernel_rfl) (by kernel_rfl)
theorem k196 : Gqk 196 c196:=gqE Tryz.func196 (by kernel_rfl) (by kernel_rfl)
theorem k197 : Gqk 197 c197:=gqE Tryz.func197 (by kernel_rfl) (by kernel_rfl)
theorem k198 : Gqk 198 c198:=gqE Tryz.func198 (by kernel_rfl) (by kernel_rfl)
theorem k199 : Gqk 199 c199:=gqE Tryz.func199 (by kernel_rfl) (by kernel_rfl)
theorem k201 : Gqk 201 c201:=gqE Tryz.func201 (by kernel_rfl) (by kernel_rfl)
theorem k202 : Gqk 202 c202:=gqE Tryz.func202 (by kernel_rfl) (by kernel_rfl)
theorem k203 : Gqk 203 c203:=gqE Tryz.func203 (by kernel_rfl) (by kernel_rfl)
theorem k204 : Gqk 204 c204:=⟨Tryz.f204,hqk 232 0 bO,dO,Tryz.func204,by kernel_rfl,by kernel_rfl⟩
theorem k205 : Gqk 205 c205:=⟨Tryz.f205,hqk 232 0 bO,dO,Tryz.func205,by kernel_rfl,by kernel_rfl⟩
theorem k206 : Gqk 206 c206:=⟨Tryz.f206,hqk 1920 0 bO,dO,Tryz.func206,by kernel_rfl,by kernel_rfl⟩
end Go.Mx.Tryz
