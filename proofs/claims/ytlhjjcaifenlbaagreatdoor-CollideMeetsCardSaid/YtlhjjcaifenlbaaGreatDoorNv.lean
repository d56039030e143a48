/- The laws of chapter 51 at every argument. -/
import Derived.Test.YtlhjjcaifenlbaaGreatDoorMb
set_option linter.unusedSimpArgs false
set_option linter.unusedVariables false
set_option linter.unusedSectionVars false
set_option maxRecDepth 1000000
namespace Go.Mx.Tryz
open Go.Proofs
def vE32:I:=.sl [[iE 0],[iE 1],[iE 2],[iE 3],[iE 4],[iE 5],[iE 6],[iE 7]]
def vE33:I:=.sl [[iE 0,iE 0,iE 0,iE 0,iE 0],[iE 1,iE 0,iE 0,iE 20,iE 0]]
def vE2:I:=.sl [[iE 0,iE 0,iE 1],[iE 1,iE 0,iE 1],[iE 0,iE 1,iE 1],[iE 1,iE 1,iE 1]]
def vE19:I:=.sl [[iE 1,iE 1,iE 1],[iE 2,iE 1,iE 1],[iE 1,iE 2,iE 1],[iE 2,iE 2,iE 1]]
def vE30:I:=.sl [[iE 1,iE 0,iE 1],[iE 2,iE 0,iE 1],[iE 1,iE 1,iE 1],[iE 2,iE 1,iE 1]]
def vE31:I:=.sl [[iE 0,iE 1,iE 1],[iE 1,iE 1,iE 1],[iE 0,iE 2,iE 1],[iE 1,iE 2,iE 1]]
def vE3:I:=.sl [[iE 20,iE 0,iE 1],[iE 21,iE 0,iE 1],[iE 20,iE 1,iE 1],[iE 21,iE 1,iE 1]]
def vE26:I:=.sl [[iE 1,iE (-1),iE 1],[iE 2,iE (-1),iE 1],[iE 1,iE 0,iE 1],[iE 2,iE 0,iE 1]]
def vE27:I:=.sl [[iE 0,iE (-1),iE 1],[iE 1,iE (-1),iE 1],[iE 0,iE 0,iE 1],[iE 1,iE 0,iE 1]]
def vE28:I:=.sl [[iE (-1),iE 1,iE 1],[iE 0,iE 1,iE 1],[iE (-1),iE 2,iE 1],[iE 0,iE 2,iE 1]]
def vE29:I:=.sl [[iE (-1),iE 0,iE 1],[iE 0,iE 0,iE 1],[iE (-1),iE 1,iE 1],[iE 0,iE 1,iE 1]]
def vE25:I:=.sl [[iE (-1),iE (-1),iE 1],[iE 0,iE (-1),iE 1],[iE (-1),iE 0,iE 1],[iE 0,iE 0,iE 1]]
def vE6:I:=.sl [[iE 1,iE 0,iE 1],[iE 2,iE 1,iE 1],[iE 0,iE 2,iE 1],[iE 1,iE 2,iE 1],[iE 2,iE 2,iE 1]]
def vE14:I:=.sl [[iE 2,iE 2,iE 1],[iE 3,iE 3,iE 1],[iE 4,iE 3,iE 1],[iE 2,iE 4,iE 1],[iE 3,iE 4,iE 1]]
def vE15:I:=.sl [[iE 2,iE 1,iE 1],[iE 3,iE 2,iE 1],[iE 1,iE 3,iE 1],[iE 2,iE 3,iE 1],[iE 3,iE 3,iE 1]]
def vE16:I:=.sl [[iE 2,iE 1,iE 1],[iE 0,iE 2,iE 1],[iE 2,iE 2,iE 1],[iE 1,iE 3,iE 1],[iE 2,iE 3,iE 1]]
def vE17:I:=.sl [[iE 1,iE 1,iE 1],[iE 2,iE 2,iE 1],[iE 3,iE 2,iE 1],[iE 1,iE 3,iE 1],[iE 2,iE 3,iE 1]]
def vE18:I:=.sl [[iE 0,iE 1,iE 1],[iE 2,iE 1,iE 1],[iE 1,iE 2,iE 1],[iE 2,iE 2,iE 1],[iE 1,iE 3,iE 1]]
def vE20:I:=.sl [[iE 3,iE 2,iE 1],[iE 4,iE 3,iE 1],[iE 2,iE 4,iE 1],[iE 3,iE 4,iE 1],[iE 4,iE 4,iE 1]]
def vE21:I:=.sl [[iE 3,iE 2,iE 1],[iE 1,iE 3,iE 1],[iE 3,iE 3,iE 1],[iE 2,iE 4,iE 1],[iE 3,iE 4,iE 1]]
def vE22:I:=.sl [[iE 1,iE 2,iE 1],[iE 3,iE 2,iE 1],[iE 2,iE 3,iE 1],[iE 3,iE 3,iE 1],[iE 2,iE 4,iE 1]]
def vE4:I:=.sl [[iE 20,iE 0,iE 1],[iE 21,iE 0,iE 1],[iE 2,iE 1,iE 1],[iE 20,iE 1,iE 1],[iE 21,iE 1,iE 1],[iE 3,iE 2,iE 1],[iE 1,iE 3,iE 1],[iE 2,iE 3,iE 1],[iE 3,iE 3,iE 1]]
def vE5:I:=.sl [[iE 20,iE 0,iE 1],[iE 21,iE 0,iE 1],[iE 1,iE 1,iE 1],[iE 20,iE 1,iE 1],[iE 21,iE 1,iE 1],[iE 2,iE 2,iE 1],[iE 3,iE 2,iE 1],[iE 1,iE 3,iE 1],[iE 2,iE 3,iE 1]]
def vE7:I:=.sl [[iE 20,iE 0,iE 1],[iE 21,iE 0,iE 1],[iE 20,iE 1,iE 1],[iE 21,iE 1,iE 1],[iE 3,iE 2,iE 1],[iE 1,iE 3,iE 1],[iE 3,iE 3,iE 1],[iE 2,iE 4,iE 1],[iE 3,iE 4,iE 1]]
def vE8:I:=.sl [[iE 20,iE 0,iE 1],[iE 21,iE 0,iE 1],[iE 20,iE 1,iE 1],[iE 21,iE 1,iE 1],[iE 2,iE 2,iE 1],[iE 3,iE 3,iE 1],[iE 4,iE 3,iE 1],[iE 2,iE 4,iE 1],[iE 3,iE 4,iE 1]]
def vE9:I:=.sl [[iE 20,iE 0,iE 1],[iE 21,iE 0,iE 1],[iE 20,iE 1,iE 1],[iE 21,iE 1,iE 1],[iE 1,iE 2,iE 1],[iE 3,iE 2,iE 1],[iE 2,iE 3,iE 1],[iE 3,iE 3,iE 1],[iE 2,iE 4,iE 1]]
def vE10:I:=.sl [[iE 20,iE 0,iE 1],[iE 21,iE 0,iE 1],[iE 20,iE 1,iE 1],[iE 21,iE 1,iE 1],[iE 3,iE 2,iE 1],[iE 4,iE 3,iE 1],[iE 2,iE 4,iE 1],[iE 3,iE 4,iE 1],[iE 4,iE 4,iE 1]]
def vE11:I:=.sl [[iE 20,iE 0,iE 1],[iE 21,iE 0,iE 1],[iE 2,iE 1,iE 1],[iE 20,iE 1,iE 1],[iE 21,iE 1,iE 1],[iE 0,iE 2,iE 1],[iE 2,iE 2,iE 1],[iE 1,iE 3,iE 1],[iE 2,iE 3,iE 1]]
def vE12:I:=.sl [[iE 20,iE 0,iE 1],[iE 21,iE 0,iE 1],[iE 0,iE 1,iE 1],[iE 2,iE 1,iE 1],[iE 20,iE 1,iE 1],[iE 21,iE 1,iE 1],[iE 1,iE 2,iE 1],[iE 2,iE 2,iE 1],[iE 1,iE 3,iE 1]]
def vE13:I:=.sl [[iE 1,iE 0,iE 1],[iE 20,iE 0,iE 1],[iE 21,iE 0,iE 1],[iE 2,iE 1,iE 1],[iE 20,iE 1,iE 1],[iE 21,iE 1,iE 1],[iE 0,iE 2,iE 1],[iE 1,iE 2,iE 1],[iE 2,iE 2,iE 1]]
def vE23:I:=.sl [[iE 20,iE 0,iE 1],[iE 21,iE 0,iE 1],[iE 20,iE 1,iE 1],[iE 21,iE 1,iE 1],[iE 4,iE 3,iE 1],[iE 2,iE 4,iE 1],[iE 4,iE 4,iE 1],[iE 3,iE 5,iE 1],[iE 4,iE 5,iE 1]]
def vE24:I:=.sl [[iE 20,iE 0,iE 1],[iE 21,iE 0,iE 1],[iE 20,iE 1,iE 1],[iE 21,iE 1,iE 1],[iE 2,iE 3,iE 1],[iE 4,iE 3,iE 1],[iE 3,iE 4,iE 1],[iE 4,iE 4,iE 1],[iE 3,iE 5,iE 1]]
def vE1:I:=.sl [[vE6,iE 4,iE 1,iE 1],[vE2,iE 1,iE 0,iE 0]]
theorem tE {T:List Ent}{e:Ent}(h:BB G T)(k:KJ G T 100000 e.f (e.is.map .m) []=some (e.r,[])):BB G (e::T):=Fw mono h k
def T26:List Ent:=⟨62,[vE18],.m (.b true)⟩::⟨82,[lifeE,vE6],.tu [.m vE18,.m (iE 0)]⟩::⟨35,[.sl [[iE 2,iE 1,iE 1],[iE 0,iE 1,iE 1],[iE 2,iE 2,iE 1],[iE 1,iE 2,iE 1],[iE 1,iE 3,iE 1]]],.tu [.m vE18,.m (iE 0)]⟩::⟨62,[vE6],.m (.b true)⟩::⟨104,[lifeE],.m (.b true)⟩::⟨50,[],.tu [.m (lifeE),.m vE1]⟩::T20
theorem AfG:BB G T26:=tE (tE (tE (tE (tE (tE AfH (by kernel_rfl)) (by kernel_rfl)) (by kernel_rfl)) (by kernel_rfl)) (by kernel_rfl)) (by kernel_rfl)
def T32:List Ent:=⟨62,[vE17],.m (.b true)⟩::⟨82,[lifeE,vE16],.tu [.m vE17,.m (iE 0)]⟩::⟨35,[.sl [[iE 3,iE 2,iE 1],[iE 2,iE 2,iE 1],[iE 1,iE 1,iE 1],[iE 1,iE 3,iE 1],[iE 2,iE 3,iE 1]]],.tu [.m vE17,.m (iE 0)]⟩::⟨62,[vE16],.m (.b true)⟩::⟨82,[lifeE,vE18],.tu [.m vE16,.m (iE 0)]⟩::⟨35,[.sl [[iE 0,iE 2,iE 1],[iE 2,iE 2,iE 1],[iE 2,iE 1,iE 1],[iE 2,iE 3,iE 1],[iE 1,iE 3,iE 1]]],.tu [.m vE16,.m (iE 0)]⟩::T26
theorem AfF:BB G T32:=tE (tE (tE (tE (tE (tE AfG (by kernel_rfl)) (by kernel_rfl)) (by kernel_rfl)) (by kernel_rfl)) (by kernel_rfl)) (by kernel_rfl)
def T38:List Ent:=⟨45,[lifeE,vE1,.ag [iE 0,iE 0,iE 0,iE 0,iE 0]],.tu [.m vE6,.m (iE 0)]⟩::⟨87,[iE 0,vE6],.tu [.m vE6,.m (iE 0)]⟩::⟨86,[lifeE,.ag [vE6,iE 4,iE 1,iE 1],iE 0],.tu [.m vE6,.m (iE 0)]⟩::⟨136,[lifeE,vE6,iE 4],.tu [.m (.ag [iE 4,iE 1,iE 1]),.m (.b true),.m (iE 0)]⟩::⟨82,[lifeE,vE17],.tu [.m vE15,.m (iE 0)]⟩::⟨35,[.sl [[iE 2,iE 1,iE 1],[iE 3,iE 3,iE 1],[iE 2,iE 3,iE 1],[iE 1,iE 3,iE 1],[iE 3,iE 2,iE 1]]],.tu [.m vE15,.m (iE 0)]⟩::T32
theorem AfE:BB G T38:=tE (tE (tE (tE (tE (tE AfF (by kernel_rfl)) (by kernel_rfl)) (by kernel_rfl)) (by kernel_rfl)) (by kernel_rfl)) (by kernel_rfl)
def T44:List Ent:=⟨87,[iE 0,vE2],.tu [.m vE2,.m (iE 0)]⟩::⟨86,[lifeE,.ag [vE2,iE 1,iE 0,iE 0],iE 0],.tu [.m vE2,.m (iE 0)]⟩::⟨136,[lifeE,vE2,iE 1],.tu [.m (.ag [iE 1,iE 0,iE 0]),.m (.b true),.m (iE 0)]⟩::⟨82,[lifeE,vE2],.tu [.m vE2,.m (iE 0)]⟩::⟨35,[.sl [[iE 1,iE 1,iE 1],[iE 0,iE 1,iE 1],[iE 1,iE 0,iE 1],[iE 0,iE 0,iE 1]]],.tu [.m vE2,.m (iE 0)]⟩::⟨62,[vE2],.m (.b true)⟩::T38
theorem AfD:BB G T44:=tE (tE (tE (tE (tE (tE AfE (by kernel_rfl)) (by kernel_rfl)) (by kernel_rfl)) (by kernel_rfl)) (by kernel_rfl)) (by kernel_rfl)
def T50:List Ent:=⟨82,[lifeE,vE3],.tu [.m vE3,.m (iE 0)]⟩::⟨35,[.sl [[iE 21,iE 1,iE 1],[iE 20,iE 1,iE 1],[iE 21,iE 0,iE 1],[iE 20,iE 0,iE 1]]],.tu [.m vE3,.m (iE 0)]⟩::⟨35,[.sl [[iE 1,iE 0,iE 1],[iE 2,iE 1,iE 1],[iE 0,iE 2,iE 1],[iE 1,iE 2,iE 1],[iE 2,iE 2,iE 1],[iE 20,iE 0,iE 1],[iE 21,iE 0,iE 1],[iE 20,iE 1,iE 1],[iE 21,iE 1,iE 1]]],.tu [.m vE13,.m (iE 0)]⟩::⟨65,[vE3,vE6],.m (.b true)⟩::⟨62,[vE3],.m (.b true)⟩::⟨45,[lifeE,vE1,.ag [iE 1,iE 0,iE 0,iE 20,iE 0]],.tu [.m vE3,.m (iE 0)]⟩::T44
theorem AfC:BB G T50:=tE (tE (tE (tE (tE (tE AfD (by kernel_rfl)) (by kernel_rfl)) (by kernel_rfl)) (by kernel_rfl)) (by kernel_rfl)) (by kernel_rfl)
def T56:List Ent:=⟨35,[.sl [[iE 21,iE 1,iE 1],[iE 20,iE 1,iE 1],[iE 21,iE 0,iE 1],[iE 20,iE 0,iE 1],[iE 3,iE 2,iE 1],[iE 2,iE 2,iE 1],[iE 1,iE 1,iE 1],[iE 1,iE 3,iE 1],[iE 2,iE 3,iE 1]]],.tu [.m vE5,.m (iE 0)]⟩::⟨82,[lifeE,vE12],.tu [.m vE11,.m (iE 0)]⟩::⟨35,[.sl [[iE 21,iE 1,iE 1],[iE 20,iE 1,iE 1],[iE 21,iE 0,iE 1],[iE 20,iE 0,iE 1],[iE 0,iE 2,iE 1],[iE 2,iE 2,iE 1],[iE 2,iE 1,iE 1],[iE 2,iE 3,iE 1],[iE 1,iE 3,iE 1]]],.tu [.m vE11,.m (iE 0)]⟩::⟨82,[lifeE,vE13],.tu [.m vE12,.m (iE 0)]⟩::⟨35,[.sl [[iE 2,iE 1,iE 1],[iE 0,iE 1,iE 1],[iE 21,iE 1,iE 1],[iE 20,iE 1,iE 1],[iE 21,iE 0,iE 1],[iE 20,iE 0,iE 1],[iE 2,iE 2,iE 1],[iE 1,iE 2,iE 1],[iE 1,iE 3,iE 1]]],.tu [.m vE12,.m (iE 0)]⟩::⟨62,[vE13],.m (.b true)⟩::T50
theorem AfB:BB G T56:=tE (tE (tE (tE (tE (tE AfC (by kernel_rfl)) (by kernel_rfl)) (by kernel_rfl)) (by kernel_rfl)) (by kernel_rfl)) (by kernel_rfl)
def T62:List Ent:=⟨35,[.sl [[iE 2,iE 1,iE 1],[iE 3,iE 2,iE 1],[iE 1,iE 3,iE 1],[iE 2,iE 3,iE 1],[iE 3,iE 3,iE 1],[iE 20,iE 0,iE 1],[iE 21,iE 0,iE 1],[iE 20,iE 1,iE 1],[iE 21,iE 1,iE 1]]],.tu [.m vE4,.m (iE 0)]⟩::⟨62,[vE15],.m (.b true)⟩::⟨82,[lifeE,vE5],.tu [.m vE4,.m (iE 0)]⟩::⟨35,[.sl [[iE 21,iE 1,iE 1],[iE 20,iE 1,iE 1],[iE 21,iE 0,iE 1],[iE 20,iE 0,iE 1],[iE 2,iE 1,iE 1],[iE 3,iE 3,iE 1],[iE 2,iE 3,iE 1],[iE 1,iE 3,iE 1],[iE 3,iE 2,iE 1]]],.tu [.m vE4,.m (iE 0)]⟩::⟨62,[vE5],.m (.b true)⟩::⟨82,[lifeE,vE11],.tu [.m vE5,.m (iE 0)]⟩::T56
theorem AfA:BB G T62:=tE (tE (tE (tE (tE (tE AfB (by kernel_rfl)) (by kernel_rfl)) (by kernel_rfl)) (by kernel_rfl)) (by kernel_rfl)) (by kernel_rfl)
def T68:List Ent:=⟨35,[.sl [[iE 1,iE 2,iE 1],[iE 3,iE 2,iE 1],[iE 2,iE 3,iE 1],[iE 3,iE 3,iE 1],[iE 2,iE 4,iE 1],[iE 20,iE 0,iE 1],[iE 21,iE 0,iE 1],[iE 20,iE 1,iE 1],[iE 21,iE 1,iE 1]]],.tu [.m vE9,.m (iE 0)]⟩::⟨62,[vE22],.m (.b true)⟩::⟨82,[lifeE,vE4],.tu [.m vE9,.m (iE 0)]⟩::⟨35,[.sl [[iE 21,iE 1,iE 1],[iE 20,iE 1,iE 1],[iE 21,iE 0,iE 1],[iE 20,iE 0,iE 1],[iE 3,iE 2,iE 1],[iE 1,iE 2,iE 1],[iE 3,iE 3,iE 1],[iE 2,iE 3,iE 1],[iE 2,iE 4,iE 1]]],.tu [.m vE9,.m (iE 0)]⟩::⟨62,[vE4],.m (.b true)⟩::⟨56,[lifeE,vE15],.tu [.m vE22,.m (iE 0)]⟩::T62
theorem Afz:BB G T68:=tE (tE (tE (tE (tE (tE AfA (by kernel_rfl)) (by kernel_rfl)) (by kernel_rfl)) (by kernel_rfl)) (by kernel_rfl)) (by kernel_rfl)
def T74:List Ent:=⟨35,[.sl [[iE 3,iE 2,iE 1],[iE 1,iE 3,iE 1],[iE 3,iE 3,iE 1],[iE 2,iE 4,iE 1],[iE 3,iE 4,iE 1],[iE 20,iE 0,iE 1],[iE 21,iE 0,iE 1],[iE 20,iE 1,iE 1],[iE 21,iE 1,iE 1]]],.tu [.m vE7,.m (iE 0)]⟩::⟨62,[vE21],.m (.b true)⟩::⟨82,[lifeE,vE9],.tu [.m vE7,.m (iE 0)]⟩::⟨35,[.sl [[iE 21,iE 1,iE 1],[iE 20,iE 1,iE 1],[iE 21,iE 0,iE 1],[iE 20,iE 0,iE 1],[iE 1,iE 3,iE 1],[iE 3,iE 3,iE 1],[iE 3,iE 2,iE 1],[iE 3,iE 4,iE 1],[iE 2,iE 4,iE 1]]],.tu [.m vE7,.m (iE 0)]⟩::⟨62,[vE9],.m (.b true)⟩::⟨56,[lifeE,vE22],.tu [.m vE21,.m (iE 0)]⟩::T68
theorem Afy:BB G T74:=tE (tE (tE (tE (tE (tE Afz (by kernel_rfl)) (by kernel_rfl)) (by kernel_rfl)) (by kernel_rfl)) (by kernel_rfl)) (by kernel_rfl)
def T80:List Ent:=⟨54,[.sl [[vE14],[vE3]]],.m (.b true)⟩::⟨62,[vE14],.m (.b true)⟩::⟨82,[lifeE,vE7],.tu [.m vE8,.m (iE 0)]⟩::⟨35,[.sl [[iE 21,iE 1,iE 1],[iE 20,iE 1,iE 1],[iE 21,iE 0,iE 1],[iE 20,iE 0,iE 1],[iE 4,iE 3,iE 1],[iE 3,iE 3,iE 1],[iE 2,iE 2,iE 1],[iE 2,iE 4,iE 1],[iE 3,iE 4,iE 1]]],.tu [.m vE8,.m (iE 0)]⟩::⟨62,[vE7],.m (.b true)⟩::⟨56,[lifeE,vE21],.tu [.m vE14,.m (iE 0)]⟩::T74
theorem Afx:BB G T80:=tE (tE (tE (tE (tE (tE Afy (by kernel_rfl)) (by kernel_rfl)) (by kernel_rfl)) (by kernel_rfl)) (by kernel_rfl)) (by kernel_rfl)
def T86:List Ent:=⟨62,[vE20],.m (.b true)⟩::⟨82,[lifeE,vE8],.tu [.m vE10,.m (iE 0)]⟩::⟨35,[.sl [[iE 21,iE 1,iE 1],[iE 20,iE 1,iE 1],[iE 21,iE 0,iE 1],[iE 20,iE 0,iE 1],[iE 3,iE 2,iE 1],[iE 4,iE 4,iE 1],[iE 3,iE 4,iE 1],[iE 2,iE 4,iE 1],[iE 4,iE 3,iE 1]]],.tu [.m vE10,.m (iE 0)]⟩::⟨62,[vE8],.m (.b true)⟩::⟨56,[lifeE,vE14],.tu [.m vE20,.m (iE 0)]⟩::⟨35,[.sl [[iE 2,iE 2,iE 1],[iE 3,iE 3,iE 1],[iE 4,iE 3,iE 1],[iE 2,iE 4,iE 1],[iE 3,iE 4,iE 1],[iE 20,iE 0,iE 1],[iE 21,iE 0,iE 1],[iE 20,iE 1,iE 1],[iE 21,iE 1,iE 1]]],.tu [.m vE8,.m (iE 0)]⟩::T80
theorem Afw:BB G T86:=tE (tE (tE (tE (tE (tE Afx (by kernel_rfl)) (by kernel_rfl)) (by kernel_rfl)) (by kernel_rfl)) (by kernel_rfl)) (by kernel_rfl)
def T92:List Ent:=⟨25,[lifeE,vE1,vE33,iE 4],.tu [.m vE4,.m (iE 0)]⟩::⟨65,[vE19,vE6],.m (.b false)⟩::⟨62,[vE19],.m (.b true)⟩::⟨45,[lifeE,vE1,.ag [iE 1,iE 0,iE 0,iE 1,iE 1]],.tu [.m vE19,.m (iE 0)]⟩::⟨35,[.sl [[iE 3,iE 2,iE 1],[iE 4,iE 3,iE 1],[iE 2,iE 4,iE 1],[iE 3,iE 4,iE 1],[iE 4,iE 4,iE 1],[iE 20,iE 0,iE 1],[iE 21,iE 0,iE 1],[iE 20,iE 1,iE 1],[iE 21,iE 1,iE 1]]],.tu [.m vE10,.m (iE 0)]⟩::⟨54,[.sl [[vE20],[vE3]]],.m (.b true)⟩::T86
theorem Afv:BB G T92:=tE (tE (tE (tE (tE (tE Afw (by kernel_rfl)) (by kernel_rfl)) (by kernel_rfl)) (by kernel_rfl)) (by kernel_rfl)) (by kernel_rfl)
def T98:List Ent:=⟨62,[.sl [[iE (-21),iE (-1),iE 1],[iE (-20),iE (-1),iE 1],[iE (-21),iE 0,iE 1],[iE (-20),iE 0,iE 1]]],.m (.b true)⟩::⟨62,[.sl [[iE (-1),iE 20,iE 1],[iE 0,iE 20,iE 1],[iE (-1),iE 21,iE 1],[iE 0,iE 21,iE 1]]],.m (.b true)⟩::⟨221,[vE32],.m vE32⟩::⟨184,[vE3,iE 2],.tu [.m (.sl [[vE3]]),.m (iE 0)]⟩::⟨136,[lifeE,vE3,iE 1],.tu [.m (.ag [iE 1,iE 0,iE 0]),.m (.b true),.m (iE 0)]⟩::⟨25,[lifeE,vE1,.sl [[iE 1,iE 0,iE 0,iE 20,iE 0]],iE 3],.tu [.m vE3,.m (iE 0)]⟩::T92
theorem Afu:BB G T98:=tE (tE (tE (tE (tE (tE Afv (by kernel_rfl)) (by kernel_rfl)) (by kernel_rfl)) (by kernel_rfl)) (by kernel_rfl)) (by kernel_rfl)
def T104:List Ent:=⟨193,[vE3,vE32],.tu [.m vE2,.m (iE 0)]⟩::⟨62,[.sl [[iE 0,iE 20,iE 1],[iE 1,iE 20,iE 1],[iE 0,iE 21,iE 1],[iE 1,iE 21,iE 1]]],.m (.b true)⟩::⟨62,[.sl [[iE 20,iE (-1),iE 1],[iE 21,iE (-1),iE 1],[iE 20,iE 0,iE 1],[iE 21,iE 0,iE 1]]],.m (.b true)⟩::⟨62,[.sl [[iE (-1),iE (-21),iE 1],[iE 0,iE (-21),iE 1],[iE (-1),iE (-20),iE 1],[iE 0,iE (-20),iE 1]]],.m (.b true)⟩::⟨62,[.sl [[iE (-21),iE 0,iE 1],[iE (-20),iE 0,iE 1],[iE (-21),iE 1,iE 1],[iE (-20),iE 1,iE 1]]],.m (.b true)⟩::⟨62,[.sl [[iE 0,iE (-21),iE 1],[iE 1,iE (-21),iE 1],[iE 0,iE (-20),iE 1],[iE 1,iE (-20),iE 1]]],.m (.b true)⟩::T98
theorem Acr:BB G T104:=tE (tE (tE (tE (tE (tE Afu (by kernel_rfl)) (by kernel_rfl)) (by kernel_rfl)) (by kernel_rfl)) (by kernel_rfl)) (by kernel_rfl)
def T110:List Ent:=⟨136,[lifeE,vE5,iE 8],.tu [.m (.ag [iE 0,iE 0,iE 0]),.m (.b false),.m (iE 0)]⟩::⟨82,[lifeE,vE23],.tu [.m (.sl [[iE 20,iE 0,iE 1],[iE 21,iE 0,iE 1],[iE 20,iE 1,iE 1],[iE 21,iE 1,iE 1],[iE 3,iE 3,iE 1],[iE 4,iE 4,iE 1],[iE 5,iE 4,iE 1],[iE 3,iE 5,iE 1],[iE 4,iE 5,iE 1]]),.m (iE 0)]⟩::⟨82,[lifeE,vE24],.tu [.m vE23,.m (iE 0)]⟩::⟨82,[lifeE,vE10],.tu [.m vE24,.m (iE 0)]⟩::⟨25,[lifeE,vE1,vE33,iE 3],.tu [.m vE5,.m (iE 0)]⟩::⟨128,[lifeE,vE3,iE 1],.m (.s [115,32,50,65,36,50,65])⟩::T104
theorem Acq:BB G T110:=tE (tE (tE (tE (tE (tE Acr (by kernel_rfl)) (by kernel_rfl)) (by kernel_rfl)) (by kernel_rfl)) (by kernel_rfl)) (by kernel_rfl)
def T116:List Ent:=⟨62,[vE27],.m (.b true)⟩::⟨45,[lifeE,vE1,.ag [iE 1,iE 0,iE 0,iE 0,iE (-1)]],.tu [.m vE27,.m (iE 0)]⟩::⟨54,[.sl [[vE2],[vE25]]],.m (.b false)⟩::⟨62,[vE25],.m (.b true)⟩::⟨45,[lifeE,vE1,.ag [iE 1,iE 0,iE 0,iE (-1),iE (-1)]],.tu [.m vE25,.m (iE 0)]⟩::⟨45,[lifeE,vE1,.ag [iE 1,iE 0,iE 0,iE 0,iE 0]],.tu [.m vE2,.m (iE 0)]⟩::T110
theorem Acp:BB G T116:=tE (tE (tE (tE (tE (tE Acq (by kernel_rfl)) (by kernel_rfl)) (by kernel_rfl)) (by kernel_rfl)) (by kernel_rfl)) (by kernel_rfl)
def T122:List Ent:=⟨62,[vE29],.m (.b true)⟩::⟨45,[lifeE,vE1,.ag [iE 1,iE 0,iE 0,iE (-1),iE 0]],.tu [.m vE29,.m (iE 0)]⟩::⟨54,[.sl [[vE2],[vE26]]],.m (.b false)⟩::⟨62,[vE26],.m (.b true)⟩::⟨45,[lifeE,vE1,.ag [iE 1,iE 0,iE 0,iE 1,iE (-1)]],.tu [.m vE26,.m (iE 0)]⟩::⟨54,[.sl [[vE2],[vE27]]],.m (.b false)⟩::T116
theorem Aco:BB G T122:=tE (tE (tE (tE (tE (tE Acp (by kernel_rfl)) (by kernel_rfl)) (by kernel_rfl)) (by kernel_rfl)) (by kernel_rfl)) (by kernel_rfl)
def T128:List Ent:=⟨45,[lifeE,vE1,.ag [iE 1,iE 0,iE 0,iE (-1),iE 1]],.tu [.m vE28,.m (iE 0)]⟩::⟨54,[.sl [[vE2],[vE30]]],.m (.b false)⟩::⟨62,[vE30],.m (.b true)⟩::⟨45,[lifeE,vE1,.ag [iE 1,iE 0,iE 0,iE 1,iE 0]],.tu [.m vE30,.m (iE 0)]⟩::⟨54,[.sl [[vE2],[vE2]]],.m (.b false)⟩::⟨54,[.sl [[vE2],[vE29]]],.m (.b false)⟩::T122
theorem Acn:BB G T128:=tE (tE (tE (tE (tE (tE Aco (by kernel_rfl)) (by kernel_rfl)) (by kernel_rfl)) (by kernel_rfl)) (by kernel_rfl)) (by kernel_rfl)
def T134:List Ent:=⟨54,[.sl [[vE2],[vE19]]],.m (.b false)⟩::⟨54,[.sl [[vE2],[vE31]]],.m (.b false)⟩::⟨62,[vE31],.m (.b true)⟩::⟨45,[lifeE,vE1,.ag [iE 1,iE 0,iE 0,iE 0,iE 1]],.tu [.m vE31,.m (iE 0)]⟩::⟨54,[.sl [[vE2],[vE28]]],.m (.b false)⟩::⟨62,[vE28],.m (.b true)⟩::T128
theorem Acm:BB G T134:=tE (tE (tE (tE (tE (tE Acn (by kernel_rfl)) (by kernel_rfl)) (by kernel_rfl)) (by kernel_rfl)) (by kernel_rfl)) (by kernel_rfl)
theorem VP:Gives G 22 [] [] (.m (.b true)) []:=Ks mono Acm (n:=100000) (by kernel_rfl)
open Go.Lib
theorem Wg (us:List V)(h:DC Go.Proofs.Tryz.prog maxLen 8 Go.Proofs.Tryz.f5.params.toList us):Gives G 5 us [] (.m (.b true)) []:=Lo VP us h
theorem OJ (us:List V)(h:DC Go.Proofs.Tryz.prog maxLen 8 Go.Proofs.Tryz.f6.params.toList us):Gives G 6 us [] (.m (.b true)) []:=Je VP us h
end Go.Mx.Tryz
