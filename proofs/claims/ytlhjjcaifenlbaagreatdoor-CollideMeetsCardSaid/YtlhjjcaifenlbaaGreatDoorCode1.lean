/- The compact code of the functions of this seat, printed by a program of my own; XComp checks it against the translation. -/
import Derived.Test.YtlhjjcaifenlbaaGreatDoorRng
import Derived.Test.YtlhjjcaifenlbaaGreatDoorCode0
set_option maxRecDepth 100000
namespace Go.Mx.Tryz
open Go.Proofs Go.Proofs.Tryz
noncomputable def c231:F:=cqE f231 (hqk 356811880641193946689691826088336933575983104 0 bO) (dI [(2,[12,13,14,15,16,17,18,19,20,25,32,39,56,75,80,97,125])])
noncomputable def c232:F:=cqE f232 (hqk 785408 0 bO) (dI [(1,[1,5,9,18])])
noncomputable def c233:F:=cqE f233 (hqk 32704 0 bO) dO
noncomputable def c234:F:=cqE f234 (hqk 268435328 96 bO) dO
noncomputable def c235:F:=cqE f235 (hqk 33471872 0 bO) dO
noncomputable def c236:F:=cqE f236 (hqk 524224 0 bO) dO
noncomputable def c237:F:=cqE f237 (hqk 131040 0 bO) dO
noncomputable def c238:F:=cqE f238 (hqk 16376 0 bO) dO
noncomputable def c239:F:=cqE f239 (hqk 299812404225494727908007936 0 bO) (dI [(4,[2,3,9,10,11,12,16,26,36,40,42,49,64,83]),(18,[8,9,10,16,26,40,42,49,64,70])])
noncomputable def c240:F:=cqE f240 (hqk 232 0 bO) dO
noncomputable def c241:F:=cqE f241 (hqk 18014381321090304 0 bO) dO
def c251:F:=⟨3,[.t 6],zr [q9 6 4] (zr [q0 8 1,q111 9 8,q1 7 9] (zs (zi [q0 10 1,q76 11 10 0] (.v 11) (zr [q0 12 0,⟨.l 13,.p (.bsl 1 [.m (.i .u8 0)] 1 [0]),[.k (.m (.i .u8 45))],none⟩,q32 14 5 1 1 12 13,q1 0 14] (.reg [q0 15 7,q91 16 15,q1 7 16])) .skip) (zr [q0 17 0,q0 18 7,q0 19 2,q42 20 271 17 18 19,q1 6 20] .ret)))⟩
noncomputable def c252:F:=cqE f252 (hqk 9007182074854400 0 bO) (dI [(1,[9,34]),(4,[14,34])])
noncomputable def c253:F:=cqE f253 (hqk 1152921496014807040 0 bO) (dI [(4,[1,2,21]),(8,[10,11,21,33])])
noncomputable def c254:F:=cqE f254 (hqk 147573917370944446464 0 bO) (dI [(5,[2,3,12,17,35,45])])
noncomputable def c255:F:=cqE f255 (hqk 7890306461253730304 0 bO) dO
noncomputable def c256:F:=cqE f256 (hqk 17179835392 0 bO) (dI [(2,[1,2,3,15])])
noncomputable def c257:F:=cqE f257 (hqk 2787571881499075797774052896007796375347200 0 bO) (dI [(3,[8,11,12,36,41,45,65,69,84,104,109,124]),(5,[16,36]),(14,[36,41,45,65,69,84]),(20,[11,36,41,45,65,69,84,104,109,124])])
noncomputable def c258:F:=cqE f258 (hqk 1237938821800130672580354048 0 bO) (dI [(3,[2,3,10,47,65,70]),(5,[47,65])])
noncomputable def c259:F:=cqE f259 (hqk 383123885193474569774374055887950278561850630313328640 0 bO) (dI [(3,[2,3,10,11,47]),(5,[47,66]),(13,[66,71,120,139,144]),(15,[120,139])])
noncomputable def c260:F:=cqE f260 (hqk 457792 8 bO) (dI [(2,[1,4,5,9,16])])
noncomputable def c262:F:=cqE f262 (hqk 224 0 bO) dO
def c263:F:=⟨1,[.t 2],zr [q99 2] (zs (zi [q0 3 0,q76 4 3 10] (.v 4) (zr [q0 5 0,q0 6 0,q10 7 6 1,⟨.l 8,.p (.slc 0 true true false),[.k (.m (.s n1)),.l 5,.l 7],none⟩,q1 2 8] .ret) .skip) (zr [q0 9 0,q80 10 9 2,q0 11 0,q80 12 11 2,q10 13 12 2,⟨.l 14,.p (.slc 0 true true false),[.k (.m (.s n2)),.l 10,.l 13],none⟩,q1 2 14] .ret))⟩
def c264:F:=⟨1,[.t 2],zr [q3 2 0] (zr [q0 4 0,q20 5 147 4,q20 6 277 5,q1 3 6] (zr [q0 7 3,q0 8 0,q0 9 3,⟨.l 10,.p (.ixaA 20 1),[.k (.m (.pt g1)),.l 9],none⟩,q2 11 1 10,q156 12 8 11,q20 13 278 12,q29 14 7 13,q1 2 14] .ret))⟩
def c265_B0:C:=zs (zi [q0 19 4,q51 20 19 8] (.v 20) .skip (.ex 0)) (.blk 1 (zr [q0 21 1,⟨.l 22,.p (.bin .rem),[.l 21,.k (.m (.i .u64 100000000))],none⟩,q189 23 22,q1 5 23] (zr [q0 24 1,⟨.l 25,.p (.bin .quo),[.l 24,.k (.m (.i .u64 100000000))],none⟩,q1 1 25] (zr [q0 26 5,q129 27 26 10000,q0 28 5,q130 29 28 10000,q1 6 27,q1 7 29] (zr [q0 30 7,q129 31 30 100,q110 32 31 2,q0 33 7,q130 34 33 100,q110 35 34 2,q1 8 32,q1 9 35] (zr [q0 36 6,q129 37 36 100,q110 38 37 2,q0 39 6,q130 40 39 100,q110 41 40 2,q1 10 38,q1 11 41] (zr [q0 42 0,q0 43 4,q12 44 43 1,q0 45 0,q0 46 4,q12 47 46 2,q0 48 9,q119 49 48 1,q70 50 n2 49,q0 51 9,q70 52 n2 51,q4 53 1 42 44,q18 1 53 50,q4 54 1 45 47,q18 1 54 52] (zr [q0 55 0,q0 56 4,q12 57 56 3,q0 58 0,q0 59 4,q12 60 59 4,q0 61 8,q119 62 61 1,q70 63 n2 62,q0 64 8,q70 65 n2 64,q4 66 1 55 57,q18 1 66 63,q4 67 1 58 60,q18 1 67 65] (zr [q0 68 0,q0 69 4,q12 70 69 5,q0 71 0,q0 72 4,q12 73 72 6,q0 74 11,q119 75 74 1,q70 76 n2 75,q0 77 11,q70 78 n2 77,q4 79 1 68 70,q18 1 79 76,q4 80 1 71 73,q18 1 80 78] (zr [q0 81 0,q0 82 4,q12 83 82 7,q0 84 0,q0 85 4,q12 86 85 8,q0 87 10,q119 88 87 1,q70 89 n2 88,q0 90 10,q70 91 n2 90,q4 92 1 81 83,q18 1 92 89,q4 93 1 84 86,q18 1 93 91] (.reg [q0 94 4,q12 95 94 8,q1 4 95])))))))))))
def c265_L0:C:=.loop [5,6,7,8,9,10,11,20] c265_B0
def c265:F:=⟨2,[],zr [q0 17 0,q14 18 17,q1 4 18] (zs (.blk 0 c265_L0) (zr [q0 96 1,q189 97 96,q1 12 97] (zs (zi [q0 98 4,q51 99 98 4] (.v 99) (zr [q0 100 12,q130 101 100 10000,q1 13 101] (zr [q0 102 12,q129 103 102 10000,q1 12 103] (zr [q0 104 13,q129 105 104 100,q110 106 105 2,q0 107 13,q130 108 107 100,q110 109 108 2,q1 14 106,q1 15 109] (zr [q0 110 0,q0 111 4,q12 112 111 1,q0 113 0,q0 114 4,q12 115 114 2,q0 116 15,q119 117 116 1,q70 118 n2 117,q0 119 15,q70 120 n2 119,q4 121 1 110 112,q18 1 121 118,q4 122 1 113 115,q18 1 122 120] (zr [q0 123 0,q0 124 4,q12 125 124 3,q0 126 0,q0 127 4,q12 128 127 4,q0 129 14,q119 130 129 1,q70 131 n2 130,q0 132 14,q70 133 n2 132,q4 134 1 123 125,q18 1 134 131,q4 135 1 126 128,q18 1 135 133] (.reg [q0 136 4,q12 137 136 4,q1 4 137])))))) .skip) (zs (zi [q0 138 4,q51 139 138 2] (.v 139) (zr [q0 140 12,q130 141 140 100,q110 142 141 2,q1 16 142] (zr [q0 143 12,q129 144 143 100,q1 12 144] (zr [q0 145 0,q0 146 4,q12 147 146 1,q0 148 0,q0 149 4,q12 150 149 2,q0 151 16,q119 152 151 1,q70 153 n2 152,q0 154 16,q70 155 n2 154,q4 156 1 145 147,q18 1 156 153,q4 157 1 148 150,q18 1 157 155] (.reg [q0 158 4,q12 159 158 2,q1 4 159])))) .skip) (zi [q0 160 4,q56 161 160 0] (.v 161) (.reg [q0 162 0,q0 163 12,⟨.l 164,.p (.bin .add),[.k (.m (.i .u32 48)),.l 163],none⟩,⟨.l 165,.p (.cv .u8),[.l 164],none⟩,q41 166 1 162 0,q18 1 166 165]) .skip)))))⟩
noncomputable def c266:F:=cqE f266 (hqk 5050176389969560855884357697536 0 bO) (dI [(11,[2,28,30,34,46]),(18,[2,18,28,30,34,68])])
def c271:F:=⟨3,[.t 6],zr [q9 6 4] (zs (zi [q0 9 2,q88 10 9 10] (.v 10) (zs (zi [q0 11 1,⟨.v 12,.p (.bin .lss),[.l 11,.k (.m (.i .u64 100))],none⟩] (.v 12) (zr [q0 13 0,q0 14 1,q147 15 14,q20 16 263 15,q32 17 5 1 1 13 16,q1 6 17] .ret) .skip) (zr [⟨.v 7,.l (.als 295 1 24 [.m (.i .u8 0),.m (.i .u8 0),.m (.i .u8 0),.m (.i .u8 0),.m (.i .u8 0),.m (.i .u8 0),.m (.i .u8 0),.m (.i .u8 0),.m (.i .u8 0),.m (.i .u8 0),.m (.i .u8 0),.m (.i .u8 0),.m (.i .u8 0),.m (.i .u8 0),.m (.i .u8 0),.m (.i .u8 0),.m (.i .u8 0),.m (.i .u8 0),.m (.i .u8 0),.m (.i .u8 0),.m (.i .u8 0),.m (.i .u8 0),.m (.i .u8 0),.m (.i .u8 0)]),[],none⟩] (zr [q0 18 1,q20 19 264 18,q1 8 19] (zr [q0 20 8,q176 21 24 1 7 20,q0 22 1,q27 23 265 21 22] (zr [q0 24 0,q0 25 8,q176 26 24 1 7 25,q32 27 5 1 1 24 26,q1 6 27] .ret))))) .skip) (zr [q0 29 0,q0 30 1,q0 31 2,⟨.l 32,.l (.cal 266),[.l 29,.l 30,.l 31,.k (.m (.b false)),.k (.m (.b true))],none⟩,q6 28 32,q8 33 0 28,q8 34 1 28,q1 0 33] (zr [q0 35 0,q1 6 35] .ret)))⟩
noncomputable def c272:F:=cqE f272 (hqk 4835702990227041035218944 0 bO) (dI [(1,[1,11,18,40,58])])
noncomputable def c273:F:=cqE f273 (hqk 261632 0 bO) dO
noncomputable def c274:F:=cqE f274 (hqk 2199023247360 0 bO) dO
def c277:F:=⟨1,[.t 2],zr [q3 2 0] (zr [q0 3 0,q80 4 3 78913,q103 5 4 18,q1 2 5] .ret)⟩
def c278:F:=⟨1,[.t 2],zr [q3 2 0] (zs (zi [q48 3 0] (.v 3) (zr [q3 2 1] .ret) .skip) (zr [q3 2 0] .ret))⟩
noncomputable def c279:F:=cqE f279 (hqk 248 0 bO) dO
noncomputable def c280:F:=cqE f280 (hqk 248 0 bO) dO
noncomputable def c282:F:=cqE f282 (hqk 4290768896 0 bO) dO
noncomputable def c284:F:=cqE f284 (hqk 16360 0 bO) dO
noncomputable def c285:F:=cqE f285 (hqk 16360 0 bO) dO
end Go.Mx.Tryz
