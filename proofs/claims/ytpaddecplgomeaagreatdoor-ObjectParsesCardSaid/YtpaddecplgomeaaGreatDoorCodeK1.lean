/- The compact code is what the checked translation makes of the loaded program: each by the kernel. -/
import Derived.Test.YtpaddecplgomeaaGreatDoorCode
import Derived.Test.YtpaddecplgomeaaGreatDoorBd
import Derived.Test.YtpaddecplgomeaaGreatDoorProg
import Derived.Test.YtpaddecplgomeaaGreatDoorCodeK0
import Derived.KernelRfl
set_option maxRecDepth 100000
namespace Go.Mx.Tryz
open Go.Proofs
theorem k87 : Gqk 87 c87:=gqE Tryz.func87 (by kernel_rfl) (by kernel_rfl)
theorem k88 : Gqk 88 c88:=gqE Tryz.func88 (by kernel_rfl) (by kernel_rfl)
theorem k90 : Gqk 90 c90:=⟨Tryz.f90,hqk 16777184 12 bO,dO,Tryz.func90,by kernel_rfl,by kernel_rfl⟩
theorem k91 : Gqk 91 c91:=⟨Tryz.f91,hqk 120 0 bO,dO,Tryz.func91,by kernel_rfl,by kernel_rfl⟩
theorem k92 : Gqk 92 c92:=⟨Tryz.f92,hqk 434455408319852449888000 0 bO,(dI [(3,[2,3,11,25,39]),(10,[5,11,43,51]),(15,[0,6,43,61,74])]),Tryz.func92,by kernel_rfl,by kernel_rfl⟩
theorem k94 : Gqk 94 c94:=⟨Tryz.f94,hqk 211088985533440 0 bO,dO,Tryz.func94,by kernel_rfl,by kernel_rfl⟩
theorem k95 : Gqk 95 c95:=⟨Tryz.f95,hqk 24 0 bO,dO,Tryz.func95,by kernel_rfl,by kernel_rfl⟩
theorem k96 : Gqk 96 c96:=⟨Tryz.f96,hqk 73786974027094380544 0 bO,(dI [(11,[8,11,13,15,20,36,41])]),Tryz.func96,by kernel_rfl,by kernel_rfl⟩
theorem k99 : Gqk 99 c99:=⟨Tryz.f99,hqk 8646348188569010048 0 bO,(dI [(8,[2,3,15,33,37,49])]),Tryz.func99,by kernel_rfl,by kernel_rfl⟩
theorem k100 : Gqk 100 c100:=gqE Tryz.func100 (by kernel_rfl) (by kernel_rfl)
theorem k101 : Gqk 101 c101:=gqE Tryz.func101 (by kernel_rfl) (by kernel_rfl)
theorem k102 : Gqk 102 c102:=gqE Tryz.func102 (by kernel_rfl) (by kernel_rfl)
theorem k103 : Gqk 103 c103:=⟨Tryz.f103,hqk 145384312038687109241252602162708224 34 bO,(dI [(5,[0,2,3,4,5,45,74,75,76,77]),(10,[7,50,72,77,114])]),Tryz.func103,by kernel_rfl,by kernel_rfl⟩
theorem k104 : Gqk 104 c104:=⟨Tryz.f104,hqk 472 6 bO,dO,Tryz.func104,by kernel_rfl,by kernel_rfl⟩
theorem k105 : Gqk 105 c105:=⟨Tryz.f105,hqk 174224571853379269148332112504685668007936 532 (bI [(124,5),(126,5)]),(dI [(5,[0,1,8,9,10,31,39,44,45,46,47]),(10,[11,12,13,31,39,47,55,64,65,66,67,103]),(16,[12,14,15,47,55,67,84])]),Tryz.func105,by kernel_rfl,by kernel_rfl⟩
theorem k106 : Gqk 106 c106:=⟨Tryz.f106,hqk 880 6 bO,dO,Tryz.func106,by kernel_rfl,by kernel_rfl⟩
theorem k107 : Gqk 107 c107:=⟨Tryz.f107,hqk 224 0 bO,dO,Tryz.func107,by kernel_rfl,by kernel_rfl⟩
theorem k108 : Gqk 108 c108:=⟨Tryz.f108,hqk 16777184 12 bO,dO,Tryz.func108,by kernel_rfl,by kernel_rfl⟩
theorem k109 : Gqk 109 c109:=gqE Tryz.func109 (by kernel_rfl) (by kernel_rfl)
theorem k110 : Gqk 110 c110:=gqE Tryz.func110 (by kernel_rfl) (by kernel_rfl)
theorem k111 : Gqk 111 c111:=gqE Tryz.func111 (by kernel_rfl) (by kernel_rfl)
theorem k112 : Gqk 112 c112:=gqE Tryz.func112 (by kernel_rfl) (by kernel_rfl)
theorem k113 : Gqk 113 c113:=gqE Tryz.func113 (by kernel_rfl) (by kernel_rfl)
theorem k114 : Gqk 114 c114:=⟨Tryz.f114,hqk 1657320264556851200 64 bO,(dI [(3,[0,2,3,6,11,14,19,28]),(14,[8,9,10,11,42,56])]),Tryz.func114,by kernel_rfl,by kernel_rfl⟩
theorem k115 : Gqk 115 c115:=⟨Tryz.f115,hqk 992 12 bO,dO,Tryz.func115,by kernel_rfl,by kernel_rfl⟩
theorem k116 : Gqk 116 c116:=⟨Tryz.f116,hqk 131064 2 bO,dO,Tryz.func116,by kernel_rfl,by kernel_rfl⟩
theorem k117 : Gqk 117 c117:=⟨Tryz.f117,hqk 248 6 bO,dO,Tryz.func117,by kernel_rfl,by kernel_rfl⟩
theorem k118 : Gqk 118 c118:=⟨Tryz.f118,hqk 4611686017420688896 132 bO,(dI [(5,[3,7,16,29])]),Tryz.func118,by kernel_rfl,by kernel_rfl⟩
theorem k119 : Gqk 119 c119:=gqE Tryz.func119 (by kernel_rfl) (by kernel_rfl)
theorem k120 : Gqk 120 c120:=gqE Tryz.func120 (by kernel_rfl) (by kernel_rfl)
theorem k121 : Gqk 121 c121:=gqE Tryz.func121 (by kernel_rfl) (by kernel_rfl)
theorem k122 : Gqk 122 c122:=⟨Tryz.f122,hqk 33471872 0 bO,dO,Tryz.func122,by kernel_rfl,by kernel_rfl⟩
theorem k123 : Gqk 123 c123:=⟨Tryz.f123,hqk 524224 0 bO,dO,Tryz.func123,by kernel_rfl,by kernel_rfl⟩
theorem k124 : Gqk 124 c124:=⟨Tryz.f124,hqk 131040 0 bO,dO,Tryz.func124,by kernel_rfl,by kernel_rfl⟩
theorem k125 : Gqk 125 c125:=⟨Tryz.f125,hqk 16376 0 bO,dO,Tryz.func125,by kernel_rfl,by kernel_rfl⟩
theorem k126 : Gqk 126 c126:=⟨Tryz.f126,hqk 56 0 bO,dO,Tryz.func126,by kernel_rfl,by kernel_rfl⟩
theorem k131 : Gqk 131 c131:=⟨Tryz.f131,hqk 604462909807177148333568 4 bO,(dI [(5,[3,16,37])]),Tryz.func131,by kernel_rfl,by kernel_rfl⟩
theorem k134 : Gqk 134 c134:=⟨Tryz.f134,hqk 4000 0 bO,dO,Tryz.func134,by kernel_rfl,by kernel_rfl⟩
theorem k135 : Gqk 135 c135:=gqE Tryz.func135 (by kernel_rfl) (by kernel_rfl)
theorem k139 : Gqk 139 c139:=⟨Tryz.f139,hqk 38666736752728356226578432 0 (bI [(82,1)]),(dI [(4,[2,6,9,10,53]),(8,[8,14,24,40]),(16,[7,24,53,74])]),Tryz.func139,by kernel_rfl,by kernel_rfl⟩
theorem k140 : Gqk 140 c140:=gqE Tryz.func140 (by kernel_rfl) (by kernel_rfl)
theorem k141 : Gqk 141 c141:=⟨Tryz.f141,hqk 4329318643456 8 bO,(dI [(4,[1,4,11,23])]),Tryz.func141,by kernel_rfl,by kernel_rfl⟩
theorem k143 : Gqk 143 c143:=⟨Tryz.f143,hqk 299812404225494727908007936 0 bO,(dI [(4,[2,3,9,10,11,12,16,26,36,40,42,49,64,83]),(18,[8,9,10,16,26,40,42,49,64,70])]),Tryz.func143,by kernel_rfl,by kernel_rfl⟩
theorem k144 : Gqk 144 c144:=⟨Tryz.f144,hqk 232 0 bO,dO,Tryz.func144,by kernel_rfl,by kernel_rfl⟩
theorem k145 : Gqk 145 c145:=⟨Tryz.f145,hqk 18014381321090304 0 bO,dO,Tryz.func145,by kernel_rfl,by kernel_rfl⟩
theorem k146 : Gqk 146 c146:=gqE Tryz.func146 (by kernel_rfl) (by kernel_rfl)
theorem k148 : Gqk 148 c148:=⟨Tryz.f148,hqk 224 0 bO,dO,Tryz.func148,by kernel_rfl,by kernel_rfl⟩
theorem k154 : Gqk 154 c154:=gqE Tryz.func154 (by kernel_rfl) (by kernel_rfl)
theorem k155 : Gqk 155 c155:=gqE Tryz.func155 (by kernel_rfl) (by kernel_rfl)
theorem k156 : Gqk 156 c156:=gqE Tryz.func156 (by kernel_rfl) (by kernel_rfl)
theorem k157 : Gqk 157 c157:=⟨Tryz.f157,hqk 6755399440928736 16 bO,(dI [(4,[2,3,4,12,16,51])]),Tryz.func157,by kernel_rfl,by kernel_rfl⟩
theorem k158 : Gqk 158 c158:=⟨Tryz.f158,hqk 590295810349863563264 276 (bI [(44,5),(55,5)]),(dI [(4,[0,8,9,24,25,26,27]),(8,[10,11,18,27,33])]),Tryz.func158,by kernel_rfl,by kernel_rfl⟩
theorem k159 : Gqk 159 c159:=⟨Tryz.f159,hqk 32 0 bO,dO,Tryz.func159,by kernel_rfl,by kernel_rfl⟩
theorem k160 : Gqk 160 c160:=⟨Tryz.f160,hqk 295147905110633099264 0 (bI [(46,1)]),(dI [(3,[6,9,17])]),Tryz.func160,by kernel_rfl,by kernel_rfl⟩
theorem k161 : Gqk 161 c161:=⟨Tryz.f161,hqk 65280 0 bO,dO,Tryz.func161,by kernel_rfl,by kernel_rfl⟩
theorem k162 : Gqk 162 c162:=gqE Tryz.func162 (by kernel_rfl) (by kernel_rfl)
theorem k163 : Gqk 163 c163:=gqE Tryz.func163 (by kernel_rfl) (by kernel_rfl)
theorem k164 : Gqk 164 c164:=gqE Tryz.func164 (by kernel_rfl) (by kernel_rfl)
theorem k165 : Gqk 165 c165:=gqE Tryz.func165 (by kernel_rfl) (by kernel_rfl)
theorem k166 : Gqk 166 c166:=gqE Tryz.func166 (by kernel_rfl) (by kernel_rfl)
end Go.Mx.Tryz
