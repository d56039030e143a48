/- The compact code is what the checked translation makes of the loaded program: each by the kernel. -/
import Derived.Test.YtgljapjkjbmicaaGreatDoorCode
import Derived.Test.YtgljapjkjbmicaaGreatDoorBd
import Derived.Test.YtgljapjkjbmicaaGreatDoorProg
import Derived.Test.YtgljapjkjbmicaaGreatDoorCodeK0
import Derived.KernelRfl
set_option maxRecDepth 100000
namespace Go.Mx.Tryz
open Go.Proofs
theorem k63 : Gqk 63 c63:=⟨Tryz.f63,hqk 785856 8 bO,(dI [(2,[1,4,9,18])]),Tryz.func63,by kernel_rfl,by kernel_rfl⟩
theorem k64 : Gqk 64 c64:=⟨Tryz.f64,hqk 434455408319852449888000 0 bO,(dI [(3,[2,3,11,25,39]),(10,[5,11,43,51]),(15,[0,6,43,61,74])]),Tryz.func64,by kernel_rfl,by kernel_rfl⟩
theorem k65 : Gqk 65 c65:=⟨Tryz.f65,hqk 18014398509412320 16 bO,(dI [(4,[2,4,12,16,54])]),Tryz.func65,by kernel_rfl,by kernel_rfl⟩
theorem k66 : Gqk 66 c66:=⟨Tryz.f66,hqk 1073725312 4 bO,(dI [(3,[0,4,14])]),Tryz.func66,by kernel_rfl,by kernel_rfl⟩
theorem k67 : Gqk 67 c67:=⟨Tryz.f67,hqk 558551353122816 8 (bI [(26,1),(46,1)]),(dI [(8,[0,1,6,7,8,11,12,17,24,29,42])]),Tryz.func67,by kernel_rfl,by kernel_rfl⟩
theorem k68 : Gqk 68 c68:=⟨Tryz.f68,hqk 618965297275081367629037504 0 bO,(dI [(2,[4,15,28,50,72])]),Tryz.func68,by kernel_rfl,by kernel_rfl⟩
theorem k69 : Gqk 69 c69:=gqE Tryz.func69 (by kernel_rfl) (by kernel_rfl)
theorem k70 : Gqk 70 c70:=⟨Tryz.f70,hqk 131040 12 bO,dO,Tryz.func70,by kernel_rfl,by kernel_rfl⟩
theorem k71 : Gqk 71 c71:=gqE Tryz.func71 (by kernel_rfl) (by kernel_rfl)
theorem k72 : Gqk 72 c72:=gqE Tryz.func72 (by kernel_rfl) (by kernel_rfl)
theorem k73 : Gqk 73 c73:=gqE Tryz.func73 (by kernel_rfl) (by kernel_rfl)
theorem k74 : Gqk 74 c74:=gqE Tryz.func74 (by kernel_rfl) (by kernel_rfl)
theorem k75 : Gqk 75 c75:=gqE Tryz.func75 (by kernel_rfl) (by kernel_rfl)
theorem k76 : Gqk 76 c76:=gqE Tryz.func76 (by kernel_rfl) (by kernel_rfl)
theorem k77 : Gqk 77 c77:=gqE Tryz.func77 (by kernel_rfl) (by kernel_rfl)
theorem k78 : Gqk 78 c78:=gqE Tryz.func78 (by kernel_rfl) (by kernel_rfl)
theorem k79 : Gqk 79 c79:=⟨Tryz.f79,hqk 1657320264556851200 64 bO,(dI [(3,[0,2,3,6,11,14,19,28]),(14,[8,9,10,11,42,56])]),Tryz.func79,by kernel_rfl,by kernel_rfl⟩
theorem k80 : Gqk 80 c80:=gqE Tryz.func80 (by kernel_rfl) (by kernel_rfl)
theorem k81 : Gqk 81 c81:=⟨Tryz.f81,hqk 8796092034048 768 bO,(dI [(5,[1,4,5,8,9,12,19])]),Tryz.func81,by kernel_rfl,by kernel_rfl⟩
theorem k82 : Gqk 82 c82:=gqE Tryz.func82 (by kernel_rfl) (by kernel_rfl)
theorem k83 : Gqk 83 c83:=⟨Tryz.f83,hqk 281474724527872 136 bO,(dI [(6,[0,2,4,7,19,27])]),Tryz.func83,by kernel_rfl,by kernel_rfl⟩
theorem k84 : Gqk 84 c84:=⟨Tryz.f84,hqk 131064 2 bO,dO,Tryz.func84,by kernel_rfl,by kernel_rfl⟩
theorem k85 : Gqk 85 c85:=⟨Tryz.f85,hqk 248 6 bO,dO,Tryz.func85,by kernel_rfl,by kernel_rfl⟩
theorem k86 : Gqk 86 c86:=⟨Tryz.f86,hqk 992 12 bO,dO,Tryz.func86,by kernel_rfl,by kernel_rfl⟩
theorem k87 : Gqk 87 c87:=⟨Tryz.f87,hqk 504 0 bO,dO,Tryz.func87,by kernel_rfl,by kernel_rfl⟩
theorem k88 : Gqk 88 c88:=⟨Tryz.f88,hqk 992 12 bO,dO,Tryz.func88,by kernel_rfl,by kernel_rfl⟩
theorem k89 : Gqk 89 c89:=⟨Tryz.f89,hqk 33546688 32 bO,(dI [(3,[0,2,5,12])]),Tryz.func89,by kernel_rfl,by kernel_rfl⟩
theorem k90 : Gqk 90 c90:=⟨Tryz.f90,hqk 248 6 bO,dO,Tryz.func90,by kernel_rfl,by kernel_rfl⟩
theorem k91 : Gqk 91 c91:=⟨Tryz.f91,hqk 457792 0 bO,(dI [(2,[4,5,9,16])]),Tryz.func91,by kernel_rfl,by kernel_rfl⟩
theorem k92 : Gqk 92 c92:=⟨Tryz.f92,hqk 515520 4 bO,dO,Tryz.func92,by kernel_rfl,by kernel_rfl⟩
theorem k93 : Gqk 93 c93:=⟨Tryz.f93,hqk 2361142691445482946560 13316 bO,(dI [(5,[0,1,4,5,10,25,26,27,28]),(8,[12,13,14,21,28,44,52,55])]),Tryz.func93,by kernel_rfl,by kernel_rfl⟩
theorem k94 : Gqk 94 c94:=⟨Tryz.f94,hqk 50301888 0 bO,(dI [(4,[4,5,10,14,24])]),Tryz.func94,by kernel_rfl,by kernel_rfl⟩
theorem k95 : Gqk 95 c95:=⟨Tryz.f95,hqk 4329318643456 8 bO,(dI [(4,[1,4,11,23])]),Tryz.func95,by kernel_rfl,by kernel_rfl⟩
theorem k96 : Gqk 96 c96:=⟨Tryz.f96,hqk 16777184 12 bO,dO,Tryz.func96,by kernel_rfl,by kernel_rfl⟩
theorem k97 : Gqk 97 c97:=⟨Tryz.f97,hqk 33519296 4 bO,(dI [(6,[0,4,8,11,15,25])]),Tryz.func97,by kernel_rfl,by kernel_rfl⟩
theorem k98 : Gqk 98 c98:=⟨Tryz.f98,hqk 569543218877601398784 4228 bO,(dI [(9,[0,1,4,5,6,12,13,18,27,42])]),Tryz.func98,by kernel_rfl,by kernel_rfl⟩
theorem k99 : Gqk 99 c99:=⟨Tryz.f99,hqk 864 0 bO,dO,Tryz.func99,by kernel_rfl,by kernel_rfl⟩
theorem k100 : Gqk 100 c100:=gqE Tryz.func100 (by kernel_rfl) (by kernel_rfl)
theorem k101 : Gqk 101 c101:=gqE Tryz.func101 (by kernel_rfl) (by kernel_rfl)
theorem k102 : Gqk 102 c102:=⟨Tryz.f102,hqk 244736 0 bO,(dI [(3,[0,2,5,9,14])]),Tryz.func102,by kernel_rfl,by kernel_rfl⟩
theorem k103 : Gqk 103 c103:=⟨Tryz.f103,hqk 444288 0 bO,dO,Tryz.func103,by kernel_rfl,by kernel_rfl⟩
theorem k104 : Gqk 104 c104:=gqE Tryz.func104 (by kernel_rfl) (by kernel_rfl)
theorem k105 : Gqk 105 c105:=gqE Tryz.func105 (by kernel_rfl) (by kernel_rfl)
theorem k106 : Gqk 106 c106:=gqE Tryz.func106 (by kernel_rfl) (by kernel_rfl)
theorem k107 : Gqk 107 c107:=gqE Tryz.func107 (by kernel_rfl) (by kernel_rfl)
theorem k108 : Gqk 108 c108:=gqE Tryz.func108 (by kernel_rfl) (by kernel_rfl)
theorem k109 : Gqk 109 c109:=gqE Tryz.func109 (by kernel_rfl) (by kernel_rfl)
theorem k110 : Gqk 110 c110:=gqE Tryz.func110 (by kernel_rfl) (by kernel_rfl)
theorem k111 : Gqk 111 c111:=⟨Tryz.f111,hqk 16352 0 bO,dO,Tryz.func111,by kernel_rfl,by kernel_rfl⟩
theorem k112 : Gqk 112 c112:=gqE Tryz.func112 (by kernel_rfl) (by kernel_rfl)
theorem k113 : Gqk 113 c113:=gqE Tryz.func113 (by kernel_rfl) (by kernel_rfl)
theorem k114 : Gqk 114 c114:=gqE Tryz.func114 (by kernel_rfl) (by kernel_rfl)
theorem k115 : Gqk 115 c115:=⟨Tryz.f115,hqk 4611686017420688896 132 bO,(dI [(5,[3,7,16,29])]),Tryz.func115,by kernel_rfl,by kernel_rfl⟩
theorem k116 : Gqk 116 c116:=⟨Tryz.f116,hqk 8386624 32 bO,(dI [(3,[0,2,5,10])]),Tryz.func116,by kernel_rfl,by kernel_rfl⟩
theorem k117 : Gqk 117 c117:=⟨Tryz.f117,hqk 17592185551872 560 bO,(dI [(3,[1,2,6,9,18])]),Tryz.func117,by kernel_rfl,by kernel_rfl⟩
theorem k118 : Gqk 118 c118:=⟨Tryz.f118,hqk 131064 2 bO,dO,Tryz.func118,by kernel_rfl,by kernel_rfl⟩
theorem k119 : Gqk 119 c119:=⟨Tryz.f119,hqk 147573952555308285840 44 bO,(dI [(7,[23,35])]),Tryz.func119,by kernel_rfl,by kernel_rfl⟩
theorem k120 : Gqk 120 c120:=⟨Tryz.f120,hqk 9748777799536505879596626944 2 bO,(dI [(4,[0,2,5,11,41]),(7,[25,41]),(12,[0,2,7,11,59]),(15,[8,55,63]),(18,[9,59,63,87])]),Tryz.func120,by kernel_rfl,by kernel_rfl⟩
theorem k121 : Gqk 121 c121:=⟨Tryz.f121,hqk 4398046476288 48 bO,(dI [(3,[0,1,8,15])]),Tryz.func121,by kernel_rfl,by kernel_rfl⟩
theorem k122 : Gqk 122 c122:=⟨Tryz.f122,hqk 524256 0 bO,dO,Tryz.func122,by kernel_rfl,by kernel_rfl⟩
end Go.Mx.Tryz
