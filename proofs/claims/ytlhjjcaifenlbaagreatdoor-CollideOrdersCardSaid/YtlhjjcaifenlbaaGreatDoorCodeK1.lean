/- The compact code is what the checked translation makes of the loaded program: each by the kernel. -/
import Derived.Test.YtlhjjcaifenlbaaGreatDoorCode
import Derived.Test.YtlhjjcaifenlbaaGreatDoorBd
import Derived.Test.YtlhjjcaifenlbaaGreatDoorProg
import Derived.Test.YtlhjjcaifenlbaaGreatDoorCodeK0
import Derived.KernelRfl
set_option maxRecDepth 100000
namespace Go.Mx.Tryz
open Go.Proofs
theorem k81:Gqk 81 c81:=⟨Tryz.f81,hqk 515520 4 bO,dO,Tryz.func81,by kernel_rfl,by kernel_rfl⟩
theorem k82:Gqk 82 c82:=⟨Tryz.f82,hqk 2361142691445482946560 13316 bO,(dI [(5,[0,1,4,5,10,25,26,27,28]),(8,[12,13,14,21,28,44,52,55])]),Tryz.func82,by kernel_rfl,by kernel_rfl⟩
theorem k83:Gqk 83 c83:=⟨Tryz.f83,hqk 50301888 0 bO,(dI [(4,[4,5,10,14,24])]),Tryz.func83,by kernel_rfl,by kernel_rfl⟩
theorem k84:Gqk 84 c84:=⟨Tryz.f84,hqk 558551353122816 8 (bI [(26,1),(46,1)]),(dI [(8,[0,1,6,7,8,11,12,17,24,29,42])]),Tryz.func84,by kernel_rfl,by kernel_rfl⟩
theorem k85:Gqk 85 c85:=⟨Tryz.f85,hqk 864 0 bO,dO,Tryz.func85,by kernel_rfl,by kernel_rfl⟩
theorem k86:Gqk 86 c86:=⟨Tryz.f86,hqk 4398046492672 24 bO,dO,Tryz.func86,by kernel_rfl,by kernel_rfl⟩
theorem k87:Gqk 87 c87:=⟨Tryz.f87,hqk 8796092034048 768 bO,(dI [(5,[1,4,5,8,9,12,19])]),Tryz.func87,by kernel_rfl,by kernel_rfl⟩
theorem k88:Gqk 88 c88:=⟨Tryz.f88,hqk 281474724527872 136 bO,(dI [(6,[0,2,4,7,19,27])]),Tryz.func88,by kernel_rfl,by kernel_rfl⟩
theorem k89:Gqk 89 c89:=⟨Tryz.f89,hqk 232 0 bO,dO,Tryz.func89,by kernel_rfl,by kernel_rfl⟩
theorem k90:Gqk 90 c90:=⟨Tryz.f90,hqk 18437732476336979840 0 bO,(dI [(0,[6,14,22,26,42,53])]),Tryz.func90,by kernel_rfl,by kernel_rfl⟩
theorem k94:Gqk 94 c94:=gqE Tryz.func94 (by kernel_rfl) (by kernel_rfl)
theorem k95:Gqk 95 c95:=gqE Tryz.func95 (by kernel_rfl) (by kernel_rfl)
theorem k96:Gqk 96 c96:=gqE Tryz.func96 (by kernel_rfl) (by kernel_rfl)
theorem k97:Gqk 97 c97:=gqE Tryz.func97 (by kernel_rfl) (by kernel_rfl)
theorem k98:Gqk 98 c98:=⟨Tryz.f98,hqk 147573952555308285840 44 bO,(dI [(7,[23,35])]),Tryz.func98,by kernel_rfl,by kernel_rfl⟩
theorem k99:Gqk 99 c99:=⟨Tryz.f99,hqk 9748777799536505879596626944 2 bO,(dI [(4,[0,2,5,11,41]),(7,[25,41]),(12,[0,2,7,11,59]),(15,[8,55,63]),(18,[9,59,63,87])]),Tryz.func99,by kernel_rfl,by kernel_rfl⟩
theorem k100:Gqk 100 c100:=⟨Tryz.f100,hqk 4398046476288 48 bO,(dI [(3,[0,1,8,15])]),Tryz.func100,by kernel_rfl,by kernel_rfl⟩
theorem k101:Gqk 101 c101:=gqE Tryz.func101 (by kernel_rfl) (by kernel_rfl)
theorem k103:Gqk 103 c103:=⟨Tryz.f103,hqk 4611686017420688896 132 bO,(dI [(5,[3,7,16,29])]),Tryz.func103,by kernel_rfl,by kernel_rfl⟩
theorem k104:Gqk 104 c104:=⟨Tryz.f104,hqk 145384312038687109241252602162708224 34 bO,(dI [(5,[0,2,3,4,5,45,74,75,76,77]),(10,[7,50,72,77,114])]),Tryz.func104,by kernel_rfl,by kernel_rfl⟩
theorem k105:Gqk 105 c105:=⟨Tryz.f105,hqk 536809216 4 bO,(dI [(3,[0,1,4,7,15])]),Tryz.func105,by kernel_rfl,by kernel_rfl⟩
theorem k106:Gqk 106 c106:=⟨Tryz.f106,hqk 134215680 296 bO,dO,Tryz.func106,by kernel_rfl,by kernel_rfl⟩
theorem k107:Gqk 107 c107:=⟨Tryz.f107,hqk 224 0 bO,dO,Tryz.func107,by kernel_rfl,by kernel_rfl⟩
theorem k108:Gqk 108 c108:=⟨Tryz.f108,hqk 356811880641193946689691826088336933575983104 0 bO,(dI [(2,[12,13,14,15,16,17,18,19,20,25,32,39,56,75,80,97,125])]),Tryz.func108,by kernel_rfl,by kernel_rfl⟩
theorem k109:Gqk 109 c109:=⟨Tryz.f109,hqk 248 0 bO,dO,Tryz.func109,by kernel_rfl,by kernel_rfl⟩
theorem k110:Gqk 110 c110:=⟨Tryz.f110,hqk 131040 12 bO,dO,Tryz.func110,by kernel_rfl,by kernel_rfl⟩
theorem k111:Gqk 111 c111:=⟨Tryz.f111,hqk 18014398509412320 16 bO,(dI [(4,[2,4,12,16,54])]),Tryz.func111,by kernel_rfl,by kernel_rfl⟩
theorem k112:Gqk 112 c112:=⟨Tryz.f112,hqk 1073725312 4 bO,(dI [(3,[0,4,14])]),Tryz.func112,by kernel_rfl,by kernel_rfl⟩
theorem k113:Gqk 113 c113:=⟨Tryz.f113,hqk 2417851062627626554221056 72 bO,(dI [(10,[0,7,8,10,20,28,32,37,47,59])]),Tryz.func113,by kernel_rfl,by kernel_rfl⟩
theorem k114:Gqk 114 c114:=gqE Tryz.func114 (by kernel_rfl) (by kernel_rfl)
theorem k115:Gqk 115 c115:=⟨Tryz.f115,hqk 281474976675328 0 bO,(dI [(5,[4,5,8,11,15])]),Tryz.func115,by kernel_rfl,by kernel_rfl⟩
theorem k116:Gqk 116 c116:=⟨Tryz.f116,hqk 37778931581481916530432 0 bO,(dI [(5,[2,15,28]),(10,[5,28,48])]),Tryz.func116,by kernel_rfl,by kernel_rfl⟩
theorem k117:Gqk 117 c117:=⟨Tryz.f117,hqk 8386624 32 bO,(dI [(3,[0,2,5,10])]),Tryz.func117,by kernel_rfl,by kernel_rfl⟩
theorem k118:Gqk 118 c118:=⟨Tryz.f118,hqk 17592185551872 560 bO,(dI [(3,[1,2,6,9,18])]),Tryz.func118,by kernel_rfl,by kernel_rfl⟩
theorem k119:Gqk 119 c119:=⟨Tryz.f119,hqk 131064 2 bO,dO,Tryz.func119,by kernel_rfl,by kernel_rfl⟩
theorem k120:Gqk 120 c120:=⟨Tryz.f120,hqk 8589934528 56 bO,dO,Tryz.func120,by kernel_rfl,by kernel_rfl⟩
theorem k121:Gqk 121 c121:=⟨Tryz.f121,hqk 131040 12 bO,dO,Tryz.func121,by kernel_rfl,by kernel_rfl⟩
theorem k123:Gqk 123 c123:=gqE Tryz.func123 (by kernel_rfl) (by kernel_rfl)
theorem k124:Gqk 124 c124:=gqE Tryz.func124 (by kernel_rfl) (by kernel_rfl)
theorem k125:Gqk 125 c125:=gqE Tryz.func125 (by kernel_rfl) (by kernel_rfl)
theorem k126:Gqk 126 c126:=gqE Tryz.func126 (by kernel_rfl) (by kernel_rfl)
theorem k127:Gqk 127 c127:=gqE Tryz.func127 (by kernel_rfl) (by kernel_rfl)
theorem k128:Gqk 128 c128:=gqE Tryz.func128 (by kernel_rfl) (by kernel_rfl)
theorem k129:Gqk 129 c129:=gqE Tryz.func129 (by kernel_rfl) (by kernel_rfl)
theorem k130:Gqk 130 c130:=⟨Tryz.f130,hqk 17592186039296 40 bO,(dI [(2,[0,2,6,8,9,12,44])]),Tryz.func130,by kernel_rfl,by kernel_rfl⟩
theorem k131:Gqk 131 c131:=gqE Tryz.func131 (by kernel_rfl) (by kernel_rfl)
theorem k132:Gqk 132 c132:=⟨Tryz.f132,hqk 9671406538902067948541952 344 (bI [(26,5),(64,5),(77,7)]),(dI [(5,[1,3,5,7,8,13,21]),(10,[0,10,18,19,20,21,39]),(13,[34,39,54])]),Tryz.func132,by kernel_rfl,by kernel_rfl⟩
theorem k133:Gqk 133 c133:=⟨Tryz.f133,hqk 4294967264 12 (bI [(28,5)]),dO,Tryz.func133,by kernel_rfl,by kernel_rfl⟩
theorem k135:Gqk 135 c135:=⟨Tryz.f135,hqk 6755399440928736 16 bO,(dI [(4,[2,3,4,12,16,51])]),Tryz.func135,by kernel_rfl,by kernel_rfl⟩
theorem k136:Gqk 136 c136:=⟨Tryz.f136,hqk 145266982579936690688 72 bO,(dI [(8,[0,7,8,10,13,14,15,16,17,25,30,40,50,61])]),Tryz.func136,by kernel_rfl,by kernel_rfl⟩
theorem k137:Gqk 137 c137:=⟨Tryz.f137,hqk 2064128 0 bO,dO,Tryz.func137,by kernel_rfl,by kernel_rfl⟩
theorem k138:Gqk 138 c138:=⟨Tryz.f138,hqk 9007182074854400 0 bO,(dI [(1,[9,34]),(4,[14,34])]),Tryz.func138,by kernel_rfl,by kernel_rfl⟩
theorem k139:Gqk 139 c139:=⟨Tryz.f139,hqk 1152921496014807040 0 bO,(dI [(4,[1,2,21]),(8,[10,11,21,33])]),Tryz.func139,by kernel_rfl,by kernel_rfl⟩
theorem k140:Gqk 140 c140:=⟨Tryz.f140,hqk 147573917370944446464 0 bO,(dI [(5,[2,3,12,17,35,45])]),Tryz.func140,by kernel_rfl,by kernel_rfl⟩
theorem k141:Gqk 141 c141:=⟨Tryz.f141,hqk 7890306461253730304 0 bO,dO,Tryz.func141,by kernel_rfl,by kernel_rfl⟩
theorem k142:Gqk 142 c142:=⟨Tryz.f142,hqk 17179835392 0 bO,(dI [(2,[1,2,3,15])]),Tryz.func142,by kernel_rfl,by kernel_rfl⟩
theorem k143:Gqk 143 c143:=⟨Tryz.f143,hqk 2787571881499075797774052896007796375347200 0 bO,(dI [(3,[8,11,12,36,41,45,65,69,84,104,109,124]),(5,[16,36]),(14,[36,41,45,65,69,84]),(20,[11,36,41,45,65,69,84,104,109,124])]),Tryz.func143,by kernel_rfl,by kernel_rfl⟩
theorem k144:Gqk 144 c144:=⟨Tryz.f144,hqk 1237938821800130672580354048 0 bO,(dI [(3,[2,3,10,47,65,70]),(5,[47,65])]),Tryz.func144,by kernel_rfl,by kernel_rfl⟩
theorem k145:Gqk 145 c145:=⟨Tryz.f145,hqk 383123885193474569774374055887950278561850630313328640 0 bO,(dI [(3,[2,3,10,11,47]),(5,[47,66]),(13,[66,71,120,139,144]),(15,[120,139])]),Tryz.func145,by kernel_rfl,by kernel_rfl⟩
theorem k146:Gqk 146 c146:=gqE Tryz.func146 (by kernel_rfl) (by kernel_rfl)
end Go.Mx.Tryz
