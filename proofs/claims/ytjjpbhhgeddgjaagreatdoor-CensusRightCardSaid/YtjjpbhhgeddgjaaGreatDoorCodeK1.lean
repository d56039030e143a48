/- The compact code is what the checked translation makes of the loaded program: each by the kernel. -/
import Derived.Test.YtjjpbhhgeddgjaaGreatDoorCode
import Derived.Test.YtjjpbhhgeddgjaaGreatDoorBd
import Derived.Test.YtjjpbhhgeddgjaaGreatDoorProg
import Derived.Test.YtjjpbhhgeddgjaaGreatDoorCodeK0
import Derived.KernelRfl
set_option maxRecDepth 100000
namespace Go.Mx.Tryz
open Go.Proofs
theorem k71 : Gqk 71 c71:=gqE Tryz.func71 (by kernel_rfl) (by kernel_rfl)
theorem k72 : Gqk 72 c72:=gqE Tryz.func72 (by kernel_rfl) (by kernel_rfl)
theorem k73 : Gqk 73 c73:=gqE Tryz.func73 (by kernel_rfl) (by kernel_rfl)
theorem k74 : Gqk 74 c74:=gqE Tryz.func74 (by kernel_rfl) (by kernel_rfl)
theorem k75 : Gqk 75 c75:=⟨Tryz.f75,hqk 38666736752728356226578432 0 (bI [(82,1)]),(dI [(4,[2,6,9,10,53]),(8,[8,14,24,40]),(16,[7,24,53,74])]),Tryz.func75,by kernel_rfl,by kernel_rfl⟩
theorem k76 : Gqk 76 c76:=gqE Tryz.func76 (by kernel_rfl) (by kernel_rfl)
theorem k77 : Gqk 77 c77:=gqE Tryz.func77 (by kernel_rfl) (by kernel_rfl)
theorem k78 : Gqk 78 c78:=gqE Tryz.func78 (by kernel_rfl) (by kernel_rfl)
theorem k79 : Gqk 79 c79:=gqE Tryz.func79 (by kernel_rfl) (by kernel_rfl)
theorem k80 : Gqk 80 c80:=gqE Tryz.func80 (by kernel_rfl) (by kernel_rfl)
theorem k81 : Gqk 81 c81:=gqE Tryz.func81 (by kernel_rfl) (by kernel_rfl)
theorem k82 : Gqk 82 c82:=gqE Tryz.func82 (by kernel_rfl) (by kernel_rfl)
theorem k83 : Gqk 83 c83:=gqE Tryz.func83 (by kernel_rfl) (by kernel_rfl)
theorem k84 : Gqk 84 c84:=gqE Tryz.func84 (by kernel_rfl) (by kernel_rfl)
theorem k85 : Gqk 85 c85:=gqE Tryz.func85 (by kernel_rfl) (by kernel_rfl)
theorem k86 : Gqk 86 c86:=⟨Tryz.f86,hqk 532676096 34 bO,(dI [(3,[0,2,4,5,6,8,22])]),Tryz.func86,by kernel_rfl,by kernel_rfl⟩
theorem k87 : Gqk 87 c87:=gqE Tryz.func87 (by kernel_rfl) (by kernel_rfl)
theorem k88 : Gqk 88 c88:=gqE Tryz.func88 (by kernel_rfl) (by kernel_rfl)
theorem k89 : Gqk 89 c89:=gqE Tryz.func89 (by kernel_rfl) (by kernel_rfl)
theorem k90 : Gqk 90 c90:=gqE Tryz.func90 (by kernel_rfl) (by kernel_rfl)
theorem k91 : Gqk 91 c91:=⟨Tryz.f91,hqk 8589934528 56 bO,dO,Tryz.func91,by kernel_rfl,by kernel_rfl⟩
theorem k92 : Gqk 92 c92:=⟨Tryz.f92,hqk 131040 12 bO,dO,Tryz.func92,by kernel_rfl,by kernel_rfl⟩
theorem k93 : Gqk 93 c93:=gqE Tryz.func93 (by kernel_rfl) (by kernel_rfl)
theorem k94 : Gqk 94 c94:=⟨Tryz.f94,hqk 6755399440928736 16 bO,(dI [(4,[2,3,4,12,16,51])]),Tryz.func94,by kernel_rfl,by kernel_rfl⟩
theorem k95 : Gqk 95 c95:=gqE Tryz.func95 (by kernel_rfl) (by kernel_rfl)
theorem k96 : Gqk 96 c96:=gqE Tryz.func96 (by kernel_rfl) (by kernel_rfl)
theorem k97 : Gqk 97 c97:=gqE Tryz.func97 (by kernel_rfl) (by kernel_rfl)
theorem k98 : Gqk 98 c98:=gqE Tryz.func98 (by kernel_rfl) (by kernel_rfl)
theorem k101 : Gqk 101 c101:=⟨Tryz.f101,hqk 32744 0 bO,dO,Tryz.func101,by kernel_rfl,by kernel_rfl⟩
theorem k102 : Gqk 102 c102:=⟨Tryz.f102,hqk 32752 0 bO,dO,Tryz.func102,by kernel_rfl,by kernel_rfl⟩
theorem k103 : Gqk 103 c103:=⟨Tryz.f103,hqk 184149205606795480238948490449146349755637850570752 0 bO,(dI [(1,[5,6,7,8,9,10,11,20])]),Tryz.func103,by kernel_rfl,by kernel_rfl⟩
theorem k104 : Gqk 104 c104:=gqE Tryz.func104 (by kernel_rfl) (by kernel_rfl)
theorem k105 : Gqk 105 c105:=gqE Tryz.func105 (by kernel_rfl) (by kernel_rfl)
theorem k106 : Gqk 106 c106:=gqE Tryz.func106 (by kernel_rfl) (by kernel_rfl)
theorem k107 : Gqk 107 c107:=⟨Tryz.f107,hqk 33536960 0 bO,(dI [(4,[4,10,14,25])]),Tryz.func107,by kernel_rfl,by kernel_rfl⟩
theorem k108 : Gqk 108 c108:=⟨Tryz.f108,hqk 13194139529312 16 bO,(dI [(4,[2,3,4,7,11,42])]),Tryz.func108,by kernel_rfl,by kernel_rfl⟩
theorem k109 : Gqk 109 c109:=gqE Tryz.func109 (by kernel_rfl) (by kernel_rfl)
theorem k110 : Gqk 110 c110:=gqE Tryz.func110 (by kernel_rfl) (by kernel_rfl)
theorem k111 : Gqk 111 c111:=gqE Tryz.func111 (by kernel_rfl) (by kernel_rfl)
theorem k112 : Gqk 112 c112:=gqE Tryz.func112 (by kernel_rfl) (by kernel_rfl)
theorem k113 : Gqk 113 c113:=gqE Tryz.func113 (by kernel_rfl) (by kernel_rfl)
theorem k114 : Gqk 114 c114:=gqE Tryz.func114 (by kernel_rfl) (by kernel_rfl)
theorem k115 : Gqk 115 c115:=⟨Tryz.f115,hqk 9671406538902067948541952 344 (bI [(26,5),(64,5),(77,7)]),(dI [(5,[1,3,5,7,8,13,21]),(10,[0,10,18,19,20,21,39]),(13,[34,39,54])]),Tryz.func115,by kernel_rfl,by kernel_rfl⟩
theorem k116 : Gqk 116 c116:=⟨Tryz.f116,hqk 4294967264 12 (bI [(28,5)]),dO,Tryz.func116,by kernel_rfl,by kernel_rfl⟩
theorem k117 : Gqk 117 c117:=gqE Tryz.func117 (by kernel_rfl) (by kernel_rfl)
theorem k118 : Gqk 118 c118:=gqE Tryz.func118 (by kernel_rfl) (by kernel_rfl)
theorem k119 : Gqk 119 c119:=gqE Tryz.func119 (by kernel_rfl) (by kernel_rfl)
theorem k120 : Gqk 120 c120:=gqE Tryz.func120 (by kernel_rfl) (by kernel_rfl)
theorem k121 : Gqk 121 c121:=gqE Tryz.func121 (by kernel_rfl) (by kernel_rfl)
theorem k122 : Gqk 122 c122:=gqE Tryz.func122 (by kernel_rfl) (by kernel_rfl)
theorem k123 : Gqk 123 c123:=gqE Tryz.func123 (by kernel_rfl) (by kernel_rfl)
theorem k124 : Gqk 124 c124:=⟨Tryz.f124,hqk 244736 0 bO,(dI [(3,[0,2,5,9,14])]),Tryz.func124,by kernel_rfl,by kernel_rfl⟩
theorem k125 : Gqk 125 c125:=⟨Tryz.f125,hqk 444288 0 bO,dO,Tryz.func125,by kernel_rfl,by kernel_rfl⟩
theorem k126 : Gqk 126 c126:=gqE Tryz.func126 (by kernel_rfl) (by kernel_rfl)
theorem k127 : Gqk 127 c127:=gqE Tryz.func127 (by kernel_rfl) (by kernel_rfl)
theorem k128 : Gqk 128 c128:=gqE Tryz.func128 (by kernel_rfl) (by kernel_rfl)
theorem k129 : Gqk 129 c129:=gqE Tryz.func129 (by kernel_rfl) (by kernel_rfl)
theorem k130 : Gqk 130 c130:=gqE Tryz.func130 (by kernel_rfl) (by kernel_rfl)
theorem k131 : Gqk 131 c131:=gqE Tryz.func131 (by kernel_rfl) (by kernel_rfl)
theorem k132 : Gqk 132 c132:=gqE Tryz.func132 (by kernel_rfl) (by kernel_rfl)
end Go.Mx.Tryz
