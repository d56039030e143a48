/- CensusAdds at every argument. -/
import Derived.Test.YtjjpbhhgeddgjaaGreatDoorMb
import Derived.Test.YtjjpbhhgeddgjaaGreatDoorIi
set_option linter.unusedSimpArgs false
set_option linter.unusedVariables false
set_option linter.unusedSectionVars false
set_option maxRecDepth 1000000
namespace Go.Mx.Tryz
open Go.Proofs
def vE4 : I:=.sl [[iE 0,iE 0,iE 1],[iE 1,iE 0,iE 1],[iE 2,iE 0,iE 1]]
def vE11 : I:=.sl [[iE 1,iE 0,iE 1],[iE 0,iE 1,iE 1],[iE 1,iE 1,iE 1]]
def vE12 : I:=.sl [[iE 0,iE 0,iE 1],[iE 1,iE 0,iE 1],[iE 1,iE 1,iE 1]]
def vE13 : I:=.sl [[iE 0,iE 0,iE 1],[iE 1,iE 0,iE 1],[iE 0,iE 1,iE 1]]
def vE14 : I:=.sl [[iE 0,iE 0,iE 1],[iE 0,iE 1,iE 1],[iE 1,iE 1,iE 1]]
def vE7 : I:=.sl [[iE 20,iE 0,iE 1],[iE 21,iE 0,iE 1],[iE 22,iE 0,iE 1]]
def vE9 : I:=.sl [[iE 1,iE (-1),iE 1],[iE 1,iE 0,iE 1],[iE 1,iE 1,iE 1]]
def vE6 : I:=.sl [[iE 0],[iE 1],[iE 2],[iE 3],[iE 4],[iE 5],[iE 6],[iE 7]]
def vE8 : I:=.sl [[iE 21,iE (-1),iE 1],[iE 21,iE 0,iE 1],[iE 21,iE 1,iE 1]]
def vE1 : I:=.sl [[iE 0,iE 0,iE 1],[iE 1,iE 0,iE 1],[iE 0,iE 1,iE 1],[iE 1,iE 1,iE 1]]
def vE5 : I:=.sl [[iE 40,iE 0,iE 1],[iE 41,iE 0,iE 1],[iE 40,iE 1,iE 1],[iE 41,iE 1,iE 1]]
def vE15 : I:=.sl [[iE 0,iE (-1),iE 1],[iE 1,iE (-1),iE 1],[iE 0,iE 0,iE 1],[iE 1,iE 0,iE 1]]
def vE16 : I:=.sl [[iE (-1),iE 0,iE 1],[iE 0,iE 0,iE 1],[iE (-1),iE 1,iE 1],[iE 0,iE 1,iE 1]]
def vE10 : I:=.sl [[iE (-1),iE (-1),iE 1],[iE 0,iE (-1),iE 1],[iE (-1),iE 0,iE 1],[iE 0,iE 0,iE 1]]
def vE17 : I:=.sl [[iE (-1),iE (-1)],[iE 0,iE (-1)],[iE 1,iE (-1)],[iE (-1),iE 0],[iE 0,iE 0],[iE 1,iE 0],[iE (-1),iE 1],[iE 0,iE 1],[iE 1,iE 1]]
def vE2 : I:=.sl [[iE 0,iE 0,iE 1],[iE 1,iE 0,iE 1],[iE 2,iE 0,iE 1],[iE 20,iE 0,iE 1],[iE 21,iE 0,iE 1],[iE 22,iE 0,iE 1],[iE 40,iE 0,iE 1],[iE 41,iE 0,iE 1],[iE 40,iE 1,iE 1],[iE 41,iE 1,iE 1]]
def vE3 : I:=.sl [[iE 1,iE (-1),iE 1],[iE 21,iE (-1),iE 1],[iE 1,iE 0,iE 1],[iE 21,iE 0,iE 1],[iE 40,iE 0,iE 1],[iE 41,iE 0,iE 1],[iE 1,iE 1,iE 1],[iE 21,iE 1,iE 1],[iE 40,iE 1,iE 1],[iE 41,iE 1,iE 1]]
def T21 : List Ent:=⟨31,[.ag [vE17,iE 2,.sl [[iE 3]],.sl [[iE 2],[iE 3]]]],.m (.b true)⟩ :: T20
theorem AbY : Ah G T21:=Ad mono AbZ (n:=100000) (by kernel_rfl)
def T22 : List Ent:=⟨94,[vE17],.m (.b true)⟩ :: T21
theorem AbX : Ah G T22:=Ad mono AbY (n:=100000) (by kernel_rfl)
def T23 : List Ent:=⟨57,[AI],.m (.b true)⟩ :: T22
theorem AbW : Ah G T23:=Ad mono AbX (n:=100000) (by kernel_rfl)
def T24 : List Ent:=⟨108,[vE2],.m (.b true)⟩ :: T23
theorem AbV : Ah G T24:=Ad mono AbW (n:=100000) (by kernel_rfl)
def T25 : List Ent:=⟨97,[AI,vE2],.m (iE 0)⟩ :: T24
theorem AbU : Ah G T25:=Ad mono AbV (n:=100000) (by kernel_rfl)
def T26 : List Ent:=⟨38,[.sl [[iE 1,iE 1,iE 1],[iE 1,iE 0,iE 1],[iE 1,iE (-1),iE 1],[iE 21,iE 1,iE 1],[iE 21,iE 0,iE 1],[iE 21,iE (-1),iE 1],[iE 41,iE 1,iE 1],[iE 40,iE 1,iE 1],[iE 41,iE 0,iE 1],[iE 40,iE 0,iE 1]]],.tu [.m vE3,.m (iE 0)]⟩ :: T25
theorem AbT : Ah G T26:=Ad mono AbU (n:=100000) (by kernel_rfl)
def T27 : List Ent:=⟨98,[AI,vE2],.tu [.m vE3,.m (iE 0)]⟩ :: T26
theorem AbS : Ah G T27:=Ad mono AbT (n:=100000) (by kernel_rfl)
def T28 : List Ent:=⟨108,[vE3],.m (.b true)⟩ :: T27
theorem AbR : Ah G T28:=Ad mono AbS (n:=100000) (by kernel_rfl)
def T29 : List Ent:=⟨97,[AI,vE3],.m (iE 0)⟩ :: T28
theorem AbQ : Ah G T29:=Ad mono AbR (n:=100000) (by kernel_rfl)
def T30 : List Ent:=⟨38,[.sl [[iE 2,iE 0,iE 1],[iE 1,iE 0,iE 1],[iE 0,iE 0,iE 1],[iE 22,iE 0,iE 1],[iE 21,iE 0,iE 1],[iE 20,iE 0,iE 1],[iE 41,iE 1,iE 1],[iE 40,iE 1,iE 1],[iE 41,iE 0,iE 1],[iE 40,iE 0,iE 1]]],.tu [.m vE2,.m (iE 0)]⟩ :: T29
theorem AbP : Ah G T30:=Ad mono AbQ (n:=100000) (by kernel_rfl)
def T31 : List Ent:=⟨98,[AI,vE3],.tu [.m vE2,.m (iE 0)]⟩ :: T30
theorem AbO : Ah G T31:=Ad mono AbP (n:=100000) (by kernel_rfl)
def T32 : List Ent:=⟨53,[AI,vE2,iE 2],.tu [.m (.ag [iE 2,iE 0,iE 0]),.m (.b true),.m (iE 0)]⟩ :: T31
theorem AbN : Ah G T32:=Ad mono AbO (n:=100000) (by kernel_rfl)
def T33 : List Ent:=⟨80,[vE2,iE 2],.tu [.m (.sl [[vE4],[vE7],[vE5]]),.m (iE 0)]⟩ :: T32
theorem AbM : Ah G T33:=Ad mono AbN (n:=100000) (by kernel_rfl)
def T34 : List Ent:=⟨108,[vE4],.m (.b true)⟩ :: T33
theorem AbL : Ah G T34:=Ad mono AbM (n:=100000) (by kernel_rfl)
def T35 : List Ent:=⟨38,[.sl [[iE 1,iE 1,iE 1],[iE 1,iE 0,iE 1],[iE 1,iE (-1),iE 1]]],.tu [.m vE9,.m (iE 0)]⟩ :: T34
theorem AbK : Ah G T35:=Ad mono AbL (n:=100000) (by kernel_rfl)
def T36 : List Ent:=⟨98,[AI,vE4],.tu [.m vE9,.m (iE 0)]⟩ :: T35
theorem AbJ : Ah G T36:=Ad mono AbK (n:=100000) (by kernel_rfl)
def T37 : List Ent:=⟨108,[vE7],.m (.b true)⟩ :: T36
theorem AbI : Ah G T37:=Ad mono AbJ (n:=100000) (by kernel_rfl)
def T38 : List Ent:=⟨38,[.sl [[iE 21,iE 1,iE 1],[iE 21,iE 0,iE 1],[iE 21,iE (-1),iE 1]]],.tu [.m vE8,.m (iE 0)]⟩ :: T37
theorem AbH : Ah G T38:=Ad mono AbI (n:=100000) (by kernel_rfl)
def T39 : List Ent:=⟨98,[AI,vE7],.tu [.m vE8,.m (iE 0)]⟩ :: T38
theorem AbG : Ah G T39:=Ad mono AbH (n:=100000) (by kernel_rfl)
def T40 : List Ent:=⟨108,[vE5],.m (.b true)⟩ :: T39
theorem AbF : Ah G T40:=Ad mono AbG (n:=100000) (by kernel_rfl)
def T41 : List Ent:=⟨38,[.sl [[iE 41,iE 1,iE 1],[iE 40,iE 1,iE 1],[iE 41,iE 0,iE 1],[iE 40,iE 0,iE 1]]],.tu [.m vE5,.m (iE 0)]⟩ :: T40
theorem AbE : Ah G T41:=Ad mono AbF (n:=100000) (by kernel_rfl)
def T42 : List Ent:=⟨98,[AI,vE5],.tu [.m vE5,.m (iE 0)]⟩ :: T41
theorem AbD : Ah G T42:=Ad mono AbE (n:=100000) (by kernel_rfl)
def T43 : List Ent:=⟨83,[.sl [[vE9],[vE8],[vE5]],vE3],.m (.nl 4)⟩ :: T42
theorem AbC : Ah G T43:=Ad mono AbD (n:=100000) (by kernel_rfl)
def T44 : List Ent:=⟨108,[vE9],.m (.b true)⟩ :: T43
theorem AbB : Ah G T44:=Ad mono AbC (n:=100000) (by kernel_rfl)
def T45 : List Ent:=⟨38,[.sl [[iE 2,iE 0,iE 1],[iE 1,iE 0,iE 1],[iE 0,iE 0,iE 1]]],.tu [.m vE4,.m (iE 0)]⟩ :: T44
theorem AbA : Ah G T45:=Ad mono AbB (n:=100000) (by kernel_rfl)
def T46 : List Ent:=⟨98,[AI,vE9],.tu [.m vE4,.m (iE 0)]⟩ :: T45
theorem Abz : Ah G T46:=Ad mono AbA (n:=100000) (by kernel_rfl)
def T47 : List Ent:=⟨108,[vE8],.m (.b true)⟩ :: T46
theorem Aby : Ah G T47:=Ad mono Abz (n:=100000) (by kernel_rfl)
def T48 : List Ent:=⟨38,[.sl [[iE 22,iE 0,iE 1],[iE 21,iE 0,iE 1],[iE 20,iE 0,iE 1]]],.tu [.m vE7,.m (iE 0)]⟩ :: T47
theorem Abx : Ah G T48:=Ad mono Aby (n:=100000) (by kernel_rfl)
def T49 : List Ent:=⟨98,[AI,vE8],.tu [.m vE7,.m (iE 0)]⟩ :: T48
theorem Abw : Ah G T49:=Ad mono Abx (n:=100000) (by kernel_rfl)
def T50 : List Ent:=⟨83,[.sl [[vE4],[vE7],[vE5]],vE2],.m (.nl 4)⟩ :: T49
theorem Abv : Ah G T50:=Ad mono Abw (n:=100000) (by kernel_rfl)
def T51 : List Ent:=⟨122,[vE6],.m vE6⟩ :: T50
theorem Abu : Ah G T51:=Ad mono Abv (n:=100000) (by kernel_rfl)
def T52 : List Ent:=⟨108,[.sl [[iE 0,iE 0,iE 1],[iE 0,iE 1,iE 1],[iE 0,iE 2,iE 1]]],.m (.b true)⟩ :: T51
theorem Abt : Ah G T52:=Ad mono Abu (n:=100000) (by kernel_rfl)
def T53 : List Ent:=⟨108,[.sl [[iE (-2),iE 0,iE 1],[iE (-1),iE 0,iE 1],[iE 0,iE 0,iE 1]]],.m (.b true)⟩ :: T52
theorem Abr : Ah G T53:=Ad mono Abt (n:=100000) (by kernel_rfl)
def T54 : List Ent:=⟨108,[.sl [[iE 0,iE (-2),iE 1],[iE 0,iE (-1),iE 1],[iE 0,iE 0,iE 1]]],.m (.b true)⟩ :: T53
theorem Abq : Ah G T54:=Ad mono Abr (n:=100000) (by kernel_rfl)
def T55 : List Ent:=⟨89,[vE4,vE6],.tu [.m vE4,.m (iE 0)]⟩ :: T54
theorem Abp : Ah G T55:=Ad mono Abq (n:=100000) (by kernel_rfl)
def T56 : List Ent:=⟨108,[.sl [[iE (-1),iE 1,iE 1],[iE 0,iE 1,iE 1],[iE 1,iE 1,iE 1]]],.m (.b true)⟩ :: T55
theorem Abo : Ah G T56:=Ad mono Abp (n:=100000) (by kernel_rfl)
def T57 : List Ent:=⟨108,[.sl [[iE (-1),iE (-1),iE 1],[iE (-1),iE 0,iE 1],[iE (-1),iE 1,iE 1]]],.m (.b true)⟩ :: T56
theorem Abn : Ah G T57:=Ad mono Abo (n:=100000) (by kernel_rfl)
def T58 : List Ent:=⟨108,[.sl [[iE (-1),iE (-1),iE 1],[iE 0,iE (-1),iE 1],[iE 1,iE (-1),iE 1]]],.m (.b true)⟩ :: T57
theorem Abm : Ah G T58:=Ad mono Abn (n:=100000) (by kernel_rfl)
def T59 : List Ent:=⟨89,[vE9,vE6],.tu [.m vE4,.m (iE 0)]⟩ :: T58
theorem Abl : Ah G T59:=Ad mono Abm (n:=100000) (by kernel_rfl)
def T60 : List Ent:=⟨90,[vE4],.tu [.m (.s [51,65]),.m (iE 0)]⟩ :: T59
theorem Abk : Ah G T60:=Ad mono Abl (n:=100000) (by kernel_rfl)
def T61 : List Ent:=⟨38,[vE4],.tu [.m vE4,.m (iE 0)]⟩ :: T60
theorem Abj : Ah G T61:=Ad mono Abk (n:=100000) (by kernel_rfl)
def T62 : List Ent:=⟨56,[.ag [iE 2,iE 0,iE 0,.s [51,65]]],.tu [.m (.s [112,50,32,51,65]),.m (iE 0)]⟩ :: T61
theorem Abi : Ah G T62:=Ad mono Abj (n:=100000) (by kernel_rfl)
def T63 : List Ent:=⟨36,[AI,vE4,iE 2],.m (.s [112,50,32,51,65])⟩ :: T62
theorem Abh : Ah G T63:=Ad mono Abi (n:=100000) (by kernel_rfl)
def T64 : List Ent:=⟨108,[.sl [[iE 0,iE 20,iE 1],[iE 0,iE 21,iE 1],[iE 0,iE 22,iE 1]]],.m (.b true)⟩ :: T63
theorem Abg : Ah G T64:=Ad mono Abh (n:=100000) (by kernel_rfl)
def T65 : List Ent:=⟨108,[.sl [[iE (-22),iE 0,iE 1],[iE (-21),iE 0,iE 1],[iE (-20),iE 0,iE 1]]],.m (.b true)⟩ :: T64
theorem Abf : Ah G T65:=Ad mono Abg (n:=100000) (by kernel_rfl)
def T66 : List Ent:=⟨108,[.sl [[iE 0,iE (-22),iE 1],[iE 0,iE (-21),iE 1],[iE 0,iE (-20),iE 1]]],.m (.b true)⟩ :: T65
theorem Abe : Ah G T66:=Ad mono Abf (n:=100000) (by kernel_rfl)
def T67 : List Ent:=⟨89,[vE7,vE6],.tu [.m vE4,.m (iE 0)]⟩ :: T66
theorem Abd : Ah G T67:=Ad mono Abe (n:=100000) (by kernel_rfl)
def T68 : List Ent:=⟨108,[.sl [[iE (-1),iE 21,iE 1],[iE 0,iE 21,iE 1],[iE 1,iE 21,iE 1]]],.m (.b true)⟩ :: T67
theorem Abc : Ah G T68:=Ad mono Abd (n:=100000) (by kernel_rfl)
def T69 : List Ent:=⟨108,[.sl [[iE (-21),iE (-1),iE 1],[iE (-21),iE 0,iE 1],[iE (-21),iE 1,iE 1]]],.m (.b true)⟩ :: T68
theorem Abb : Ah G T69:=Ad mono Abc (n:=100000) (by kernel_rfl)
def T70 : List Ent:=⟨108,[.sl [[iE (-1),iE (-21),iE 1],[iE 0,iE (-21),iE 1],[iE 1,iE (-21),iE 1]]],.m (.b true)⟩ :: T69
theorem Aba : Ah G T70:=Ad mono Abb (n:=100000) (by kernel_rfl)
def T71 : List Ent:=⟨89,[vE8,vE6],.tu [.m vE4,.m (iE 0)]⟩ :: T70
theorem AaZ : Ah G T71:=Ad mono Aba (n:=100000) (by kernel_rfl)
def T72 : List Ent:=⟨36,[AI,vE7,iE 2],.m (.s [112,50,32,51,65])⟩ :: T71
theorem AaY : Ah G T72:=Ad mono AaZ (n:=100000) (by kernel_rfl)
def T73 : List Ent:=⟨108,[.sl [[iE (-1),iE 40,iE 1],[iE 0,iE 40,iE 1],[iE (-1),iE 41,iE 1],[iE 0,iE 41,iE 1]]],.m (.b true)⟩ :: T72
theorem AaX : Ah G T73:=Ad mono AaY (n:=100000) (by kernel_rfl)
def T74 : List Ent:=⟨108,[.sl [[iE (-41),iE (-1),iE 1],[iE (-40),iE (-1),iE 1],[iE (-41),iE 0,iE 1],[iE (-40),iE 0,iE 1]]],.m (.b true)⟩ :: T73
theorem AaW : Ah G T74:=Ad mono AaX (n:=100000) (by kernel_rfl)
def T75 : List Ent:=⟨108,[.sl [[iE 0,iE (-41),iE 1],[iE 1,iE (-41),iE 1],[iE 0,iE (-40),iE 1],[iE 1,iE (-40),iE 1]]],.m (.b true)⟩ :: T74
theorem AaV : Ah G T75:=Ad mono AaW (n:=100000) (by kernel_rfl)
def T76 : List Ent:=⟨108,[.sl [[iE (-41),iE 0,iE 1],[iE (-40),iE 0,iE 1],[iE (-41),iE 1,iE 1],[iE (-40),iE 1,iE 1]]],.m (.b true)⟩ :: T75
theorem AaU : Ah G T76:=Ad mono AaV (n:=100000) (by kernel_rfl)
def T77 : List Ent:=⟨108,[.sl [[iE (-1),iE (-41),iE 1],[iE 0,iE (-41),iE 1],[iE (-1),iE (-40),iE 1],[iE 0,iE (-40),iE 1]]],.m (.b true)⟩ :: T76
theorem AaT : Ah G T77:=Ad mono AaU (n:=100000) (by kernel_rfl)
def T78 : List Ent:=⟨108,[.sl [[iE 40,iE (-1),iE 1],[iE 41,iE (-1),iE 1],[iE 40,iE 0,iE 1],[iE 41,iE 0,iE 1]]],.m (.b true)⟩ :: T77
theorem AaS : Ah G T78:=Ad mono AaT (n:=100000) (by kernel_rfl)
def T79 : List Ent:=⟨108,[.sl [[iE 0,iE 40,iE 1],[iE 1,iE 40,iE 1],[iE 0,iE 41,iE 1],[iE 1,iE 41,iE 1]]],.m (.b true)⟩ :: T78
theorem AaR : Ah G T79:=Ad mono AaS (n:=100000) (by kernel_rfl)
def T80 : List Ent:=⟨89,[vE5,vE6],.tu [.m vE1,.m (iE 0)]⟩ :: T79
theorem AaQ : Ah G T80:=Ad mono AaR (n:=100000) (by kernel_rfl)
def T81 : List Ent:=⟨108,[vE1],.m (.b true)⟩ :: T80
theorem AaP : Ah G T81:=Ad mono AaQ (n:=100000) (by kernel_rfl)
def T82 : List Ent:=⟨123,[vE1],.m (.s [50,65,36,50,65])⟩ :: T81
theorem AaO : Ah G T82:=Ad mono AaP (n:=100000) (by kernel_rfl)
def T83 : List Ent:=⟨90,[vE1],.tu [.m (.s [50,65,36,50,65]),.m (iE 0)]⟩ :: T82
theorem AaN : Ah G T83:=Ad mono AaO (n:=100000) (by kernel_rfl)
def T84 : List Ent:=⟨167,[.s [50,65,36,50,65]],.tu [.m vE1,.m (.b true)]⟩ :: T83
theorem AaM : Ah G T84:=Ad mono AaN (n:=100000) (by kernel_rfl)
def T85 : List Ent:=⟨38,[vE1],.tu [.m vE1,.m (iE 0)]⟩ :: T84
theorem AaL : Ah G T85:=Ad mono AaM (n:=100000) (by kernel_rfl)
def T86 : List Ent:=⟨36,[AI,vE5,iE 2],.m (.s [115,32,50,65,36,50,65])⟩ :: T85
theorem AaK : Ah G T86:=Ad mono AaL (n:=100000) (by kernel_rfl)
def T87 : List Ent:=⟨64,[AI,.sl [[iE 0,iE 0,iE 1]],iE 0],.tu [.m (.sl [[iE 0,iE 0,iE 1]]),.m (iE 0)]⟩ :: T86
theorem AaJ : Ah G T87:=Ad mono AaK (n:=100000) (by kernel_rfl)
def T88 : List Ent:=⟨98,[AI,.sl [[iE 0,iE 0,iE 1]]],.tu [.m (.nl 4),.m (iE 0)]⟩ :: T87
theorem AaI : Ah G T88:=Ad mono AaJ (n:=100000) (by kernel_rfl)
def T89 : List Ent:=⟨78,[AI,.sl [[iE 0,iE 0,iE 1]]],.tu [.m (.nl 4),.m (iE 0)]⟩ :: T88
theorem AaH : Ah G T89:=Ad mono AaI (n:=100000) (by kernel_rfl)
def T90 : List Ent:=⟨64,[AI,.sl [[iE 0,iE 0,iE 1]],iE 1],.tu [.m (.nl 4),.m (iE 0)]⟩ :: T89
theorem AaG : Ah G T90:=Ad mono AaH (n:=100000) (by kernel_rfl)
def T91 : List Ent:=⟨64,[AI,.sl [[iE 1,iE 0,iE 1]],iE 0],.tu [.m (.sl [[iE 1,iE 0,iE 1]]),.m (iE 0)]⟩ :: T90
theorem AaF : Ah G T91:=Ad mono AaG (n:=100000) (by kernel_rfl)
def T92 : List Ent:=⟨98,[AI,.sl [[iE 1,iE 0,iE 1]]],.tu [.m (.nl 4),.m (iE 0)]⟩ :: T91
theorem AaE : Ah G T92:=Ad mono AaF (n:=100000) (by kernel_rfl)
def T93 : List Ent:=⟨78,[AI,.sl [[iE 1,iE 0,iE 1]]],.tu [.m (.nl 4),.m (iE 0)]⟩ :: T92
theorem AaD : Ah G T93:=Ad mono AaE (n:=100000) (by kernel_rfl)
def T94 : List Ent:=⟨64,[AI,.sl [[iE 1,iE 0,iE 1]],iE 1],.tu [.m (.nl 4),.m (iE 0)]⟩ :: T93
theorem AaC : Ah G T94:=Ad mono AaD (n:=100000) (by kernel_rfl)
def T95 : List Ent:=⟨38,[.sl [[iE 0,iE 0,iE 1],[iE 1,iE 0,iE 1],[iE 0,iE 1,iE 0],[iE 1,iE 1,iE 0]]],.tu [.m (.sl [[iE 0,iE 0,iE 1],[iE 1,iE 0,iE 1]]),.m (iE 0)]⟩ :: T94
theorem AaB : Ah G T95:=Ad mono AaC (n:=100000) (by kernel_rfl)
def T96 : List Ent:=⟨97,[AI,.sl [[iE 0,iE 0,iE 1],[iE 1,iE 0,iE 1]]],.m (iE 0)⟩ :: T95
theorem AaA : Ah G T96:=Ad mono AaB (n:=100000) (by kernel_rfl)
def T97 : List Ent:=⟨98,[AI,.sl [[iE 0,iE 0,iE 1],[iE 1,iE 0,iE 1]]],.tu [.m (.nl 4),.m (iE 0)]⟩ :: T96
theorem Aaz : Ah G T97:=Ad mono AaA (n:=100000) (by kernel_rfl)
def T98 : List Ent:=⟨64,[AI,.sl [[iE 0,iE 1,iE 1]],iE 0],.tu [.m (.sl [[iE 0,iE 1,iE 1]]),.m (iE 0)]⟩ :: T97
theorem Aay : Ah G T98:=Ad mono Aaz (n:=100000) (by kernel_rfl)
def T99 : List Ent:=⟨98,[AI,.sl [[iE 0,iE 1,iE 1]]],.tu [.m (.nl 4),.m (iE 0)]⟩ :: T98
theorem Aax : Ah G T99:=Ad mono Aay (n:=100000) (by kernel_rfl)
def T100 : List Ent:=⟨78,[AI,.sl [[iE 0,iE 1,iE 1]]],.tu [.m (.nl 4),.m (iE 0)]⟩ :: T99
theorem XG : Ah G T100:=Ad mono Aax (n:=100000) (by kernel_rfl)
def T101 : List Ent:=⟨64,[AI,.sl [[iE 0,iE 1,iE 1]],iE 1],.tu [.m (.nl 4),.m (iE 0)]⟩ :: T100
theorem XF : Ah G T101:=Ad mono XG (n:=100000) (by kernel_rfl)
def T102 : List Ent:=⟨38,[.sl [[iE 0,iE 0,iE 1],[iE 1,iE 0,iE 0],[iE 0,iE 1,iE 1],[iE 1,iE 1,iE 0]]],.tu [.m (.sl [[iE 0,iE 0,iE 1],[iE 0,iE 1,iE 1]]),.m (iE 0)]⟩ :: T101
theorem XE : Ah G T102:=Ad mono XF (n:=100000) (by kernel_rfl)
def T103 : List Ent:=⟨97,[AI,.sl [[iE 0,iE 0,iE 1],[iE 0,iE 1,iE 1]]],.m (iE 0)⟩ :: T102
theorem XD : Ah G T103:=Ad mono XE (n:=100000) (by kernel_rfl)
def T104 : List Ent:=⟨98,[AI,.sl [[iE 0,iE 0,iE 1],[iE 0,iE 1,iE 1]]],.tu [.m (.nl 4),.m (iE 0)]⟩ :: T103
theorem XC : Ah G T104:=Ad mono XD (n:=100000) (by kernel_rfl)
def T105 : List Ent:=⟨38,[.sl [[iE 0,iE 0,iE 0],[iE 1,iE 0,iE 1],[iE 0,iE 1,iE 1],[iE 1,iE 1,iE 0]]],.tu [.m (.sl [[iE 1,iE 0,iE 1],[iE 0,iE 1,iE 1]]),.m (iE 0)]⟩ :: T104
theorem XB : Ah G T105:=Ad mono XC (n:=100000) (by kernel_rfl)
def T106 : List Ent:=⟨97,[AI,.sl [[iE 1,iE 0,iE 1],[iE 0,iE 1,iE 1]]],.m (iE 0)⟩ :: T105
theorem XA : Ah G T106:=Ad mono XB (n:=100000) (by kernel_rfl)
def T107 : List Ent:=⟨98,[AI,.sl [[iE 1,iE 0,iE 1],[iE 0,iE 1,iE 1]]],.tu [.m (.nl 4),.m (iE 0)]⟩ :: T106
theorem Xz : Ah G T107:=Ad mono XA (n:=100000) (by kernel_rfl)
def T108 : List Ent:=⟨38,[.sl [[iE 0,iE 0,iE 1],[iE 1,iE 0,iE 1],[iE 0,iE 1,iE 1],[iE 1,iE 1,iE 0]]],.tu [.m vE13,.m (iE 0)]⟩ :: T107
theorem Xy : Ah G T108:=Ad mono Xz (n:=100000) (by kernel_rfl)
def T109 : List Ent:=⟨108,[vE13],.m (.b true)⟩ :: T108
theorem Xx : Ah G T109:=Ad mono Xy (n:=100000) (by kernel_rfl)
def T110 : List Ent:=⟨38,[.sl [[iE 1,iE 1,iE 1],[iE 0,iE 1,iE 1],[iE 1,iE 0,iE 1],[iE 0,iE 0,iE 1]]],.tu [.m vE1,.m (iE 0)]⟩ :: T109
theorem Xw : Ah G T110:=Ad mono Xx (n:=100000) (by kernel_rfl)
def T111 : List Ent:=⟨98,[AI,vE13],.tu [.m vE1,.m (iE 0)]⟩ :: T110
theorem Xv : Ah G T111:=Ad mono Xw (n:=100000) (by kernel_rfl)
def T112 : List Ent:=⟨98,[AI,vE1],.tu [.m vE1,.m (iE 0)]⟩ :: T111
theorem Xu : Ah G T112:=Ad mono Xv (n:=100000) (by kernel_rfl)
def T113 : List Ent:=⟨53,[AI,vE1,iE 2],.tu [.m (.ag [iE 1,iE 0,iE 0]),.m (.b true),.m (iE 0)]⟩ :: T112
theorem Xt : Ah G T113:=Ad mono Xu (n:=100000) (by kernel_rfl)
def T114 : List Ent:=⟨63,[AI,vE13,iE 5,iE 2],.tu [.m (iE 1),.m (.ag [iE 1,iE 0,iE 0]),.m (iE 0)]⟩ :: T113
theorem Xs : Ah G T114:=Ad mono Xt (n:=100000) (by kernel_rfl)
def T115 : List Ent:=⟨80,[vE1,iE 2],.tu [.m (.sl [[vE1]]),.m (iE 0)]⟩ :: T114
theorem Xr : Ah G T115:=Ad mono Xs (n:=100000) (by kernel_rfl)
def T116 : List Ent:=⟨196,[iE 0,vE1],.tu [.m vE1,.m (iE 0)]⟩ :: T115
theorem Xq : Ah G T116:=Ad mono Xr (n:=100000) (by kernel_rfl)
def T117 : List Ent:=⟨196,[iE 1,vE1],.tu [.m vE16,.m (iE 0)]⟩ :: T116
theorem Xp : Ah G T117:=Ad mono Xq (n:=100000) (by kernel_rfl)
def T118 : List Ent:=⟨108,[vE16],.m (.b true)⟩ :: T117
theorem Xo : Ah G T118:=Ad mono Xp (n:=100000) (by kernel_rfl)
def T119 : List Ent:=⟨196,[iE 2,vE1],.tu [.m vE10,.m (iE 0)]⟩ :: T118
theorem Xn : Ah G T119:=Ad mono Xo (n:=100000) (by kernel_rfl)
def T120 : List Ent:=⟨108,[vE10],.m (.b true)⟩ :: T119
theorem Xm : Ah G T120:=Ad mono Xn (n:=100000) (by kernel_rfl)
def T121 : List Ent:=⟨196,[iE 3,vE1],.tu [.m vE15,.m (iE 0)]⟩ :: T120
theorem Xl : Ah G T121:=Ad mono Xm (n:=100000) (by kernel_rfl)
def T122 : List Ent:=⟨108,[vE15],.m (.b true)⟩ :: T121
theorem Xk : Ah G T122:=Ad mono Xl (n:=100000) (by kernel_rfl)
def T123 : List Ent:=⟨196,[iE 4,vE1],.tu [.m vE16,.m (iE 0)]⟩ :: T122
theorem Xj : Ah G T123:=Ad mono Xk (n:=100000) (by kernel_rfl)
def T124 : List Ent:=⟨196,[iE 5,vE1],.tu [.m vE10,.m (iE 0)]⟩ :: T123
theorem Xi : Ah G T124:=Ad mono Xj (n:=100000) (by kernel_rfl)
def T125 : List Ent:=⟨196,[iE 6,vE1],.tu [.m vE15,.m (iE 0)]⟩ :: T124
theorem Xh : Ah G T125:=Ad mono Xi (n:=100000) (by kernel_rfl)
def T126 : List Ent:=⟨196,[iE 7,vE1],.tu [.m vE1,.m (iE 0)]⟩ :: T125
theorem Xg : Ah G T126:=Ad mono Xh (n:=100000) (by kernel_rfl)
def T127 : List Ent:=⟨89,[vE1,vE6],.tu [.m vE1,.m (iE 0)]⟩ :: T126
theorem Xf : Ah G T127:=Ad mono Xg (n:=100000) (by kernel_rfl)
def T128 : List Ent:=⟨55,[AI,vE1,iE 2],.tu [.m (.ag [iE 1,iE 0,iE 0,.s [50,65,36,50,65]]),.m (.b true),.m (iE 0)]⟩ :: T127
theorem Xe : Ah G T128:=Ad mono Xf (n:=100000) (by kernel_rfl)
def T129 : List Ent:=⟨64,[AI,.sl [[iE 1,iE 1,iE 1]],iE 0],.tu [.m (.sl [[iE 1,iE 1,iE 1]]),.m (iE 0)]⟩ :: T128
theorem Xd : Ah G T129:=Ad mono Xe (n:=100000) (by kernel_rfl)
def T130 : List Ent:=⟨98,[AI,.sl [[iE 1,iE 1,iE 1]]],.tu [.m (.nl 4),.m (iE 0)]⟩ :: T129
theorem Xc : Ah G T130:=Ad mono Xd (n:=100000) (by kernel_rfl)
def T131 : List Ent:=⟨78,[AI,.sl [[iE 1,iE 1,iE 1]]],.tu [.m (.nl 4),.m (iE 0)]⟩ :: T130
theorem Xb : Ah G T131:=Ad mono Xc (n:=100000) (by kernel_rfl)
def T132 : List Ent:=⟨64,[AI,.sl [[iE 1,iE 1,iE 1]],iE 1],.tu [.m (.nl 4),.m (iE 0)]⟩ :: T131
theorem Xa : Ah G T132:=Ad mono Xb (n:=100000) (by kernel_rfl)
def T133 : List Ent:=⟨38,[.sl [[iE 0,iE 0,iE 1],[iE 1,iE 0,iE 0],[iE 0,iE 1,iE 0],[iE 1,iE 1,iE 1]]],.tu [.m (.sl [[iE 0,iE 0,iE 1],[iE 1,iE 1,iE 1]]),.m (iE 0)]⟩ :: T132
theorem WZ : Ah G T133:=Ad mono Xa (n:=100000) (by kernel_rfl)
def T134 : List Ent:=⟨97,[AI,.sl [[iE 0,iE 0,iE 1],[iE 1,iE 1,iE 1]]],.m (iE 0)⟩ :: T133
theorem WY : Ah G T134:=Ad mono WZ (n:=100000) (by kernel_rfl)
def T135 : List Ent:=⟨98,[AI,.sl [[iE 0,iE 0,iE 1],[iE 1,iE 1,iE 1]]],.tu [.m (.nl 4),.m (iE 0)]⟩ :: T134
theorem WX : Ah G T135:=Ad mono WY (n:=100000) (by kernel_rfl)
def T136 : List Ent:=⟨38,[.sl [[iE 0,iE 0,iE 0],[iE 1,iE 0,iE 1],[iE 0,iE 1,iE 0],[iE 1,iE 1,iE 1]]],.tu [.m (.sl [[iE 1,iE 0,iE 1],[iE 1,iE 1,iE 1]]),.m (iE 0)]⟩ :: T135
theorem WW : Ah G T136:=Ad mono WX (n:=100000) (by kernel_rfl)
def T137 : List Ent:=⟨97,[AI,.sl [[iE 1,iE 0,iE 1],[iE 1,iE 1,iE 1]]],.m (iE 0)⟩ :: T136
theorem WV : Ah G T137:=Ad mono WW (n:=100000) (by kernel_rfl)
def T138 : List Ent:=⟨98,[AI,.sl [[iE 1,iE 0,iE 1],[iE 1,iE 1,iE 1]]],.tu [.m (.nl 4),.m (iE 0)]⟩ :: T137
theorem WU : Ah G T138:=Ad mono WV (n:=100000) (by kernel_rfl)
def T139 : List Ent:=⟨38,[.sl [[iE 0,iE 0,iE 1],[iE 1,iE 0,iE 1],[iE 0,iE 1,iE 0],[iE 1,iE 1,iE 1]]],.tu [.m vE12,.m (iE 0)]⟩ :: T138
theorem WT : Ah G T139:=Ad mono WU (n:=100000) (by kernel_rfl)
def T140 : List Ent:=⟨108,[vE12],.m (.b true)⟩ :: T139
theorem WS : Ah G T140:=Ad mono WT (n:=100000) (by kernel_rfl)
def T141 : List Ent:=⟨98,[AI,vE12],.tu [.m vE1,.m (iE 0)]⟩ :: T140
theorem WR : Ah G T141:=Ad mono WS (n:=100000) (by kernel_rfl)
def T142 : List Ent:=⟨63,[AI,vE12,iE 5,iE 2],.tu [.m (iE 1),.m (.ag [iE 1,iE 0,iE 0]),.m (iE 0)]⟩ :: T141
theorem WQ : Ah G T142:=Ad mono WR (n:=100000) (by kernel_rfl)
def T143 : List Ent:=⟨7,[.sl [[.s [115,32,50,65,36,50,65],iE 1]],.sl [[.s [115,32,50,65,36,50,65],iE 1]]],.tu [.m (.sl [[.s [115,32,50,65,36,50,65],iE 2]]),.m (iE 0)]⟩ :: T142
theorem WP : Ah G T143:=Ad mono WQ (n:=100000) (by kernel_rfl)
def T144 : List Ent:=⟨38,[.sl [[iE 0,iE 0,iE 0],[iE 1,iE 0,iE 0],[iE 0,iE 1,iE 1],[iE 1,iE 1,iE 1]]],.tu [.m (.sl [[iE 0,iE 1,iE 1],[iE 1,iE 1,iE 1]]),.m (iE 0)]⟩ :: T143
theorem WO : Ah G T144:=Ad mono WP (n:=100000) (by kernel_rfl)
def T145 : List Ent:=⟨97,[AI,.sl [[iE 0,iE 1,iE 1],[iE 1,iE 1,iE 1]]],.m (iE 0)⟩ :: T144
theorem WN : Ah G T145:=Ad mono WO (n:=100000) (by kernel_rfl)
def T146 : List Ent:=⟨98,[AI,.sl [[iE 0,iE 1,iE 1],[iE 1,iE 1,iE 1]]],.tu [.m (.nl 4),.m (iE 0)]⟩ :: T145
theorem WM : Ah G T146:=Ad mono WN (n:=100000) (by kernel_rfl)
def T147 : List Ent:=⟨38,[.sl [[iE 0,iE 0,iE 1],[iE 1,iE 0,iE 0],[iE 0,iE 1,iE 1],[iE 1,iE 1,iE 1]]],.tu [.m vE14,.m (iE 0)]⟩ :: T146
theorem WL : Ah G T147:=Ad mono WM (n:=100000) (by kernel_rfl)
def T148 : List Ent:=⟨108,[vE14],.m (.b true)⟩ :: T147
theorem WK : Ah G T148:=Ad mono WL (n:=100000) (by kernel_rfl)
def T149 : List Ent:=⟨98,[AI,vE14],.tu [.m vE1,.m (iE 0)]⟩ :: T148
theorem WJ : Ah G T149:=Ad mono WK (n:=100000) (by kernel_rfl)
def T150 : List Ent:=⟨63,[AI,vE14,iE 5,iE 2],.tu [.m (iE 1),.m (.ag [iE 1,iE 0,iE 0]),.m (iE 0)]⟩ :: T149
theorem WI : Ah G T150:=Ad mono WJ (n:=100000) (by kernel_rfl)
def T151 : List Ent:=⟨7,[.sl [[.s [115,32,50,65,36,50,65],iE 2]],.sl [[.s [115,32,50,65,36,50,65],iE 1]]],.tu [.m (.sl [[.s [115,32,50,65,36,50,65],iE 3]]),.m (iE 0)]⟩ :: T150
theorem WH : Ah G T151:=Ad mono WI (n:=100000) (by kernel_rfl)
def T152 : List Ent:=⟨38,[.sl [[iE 0,iE 0,iE 0],[iE 1,iE 0,iE 1],[iE 0,iE 1,iE 1],[iE 1,iE 1,iE 1]]],.tu [.m vE11,.m (iE 0)]⟩ :: T151
theorem WG : Ah G T152:=Ad mono WH (n:=100000) (by kernel_rfl)
def T153 : List Ent:=⟨108,[vE11],.m (.b true)⟩ :: T152
theorem WF : Ah G T153:=Ad mono WG (n:=100000) (by kernel_rfl)
def T154 : List Ent:=⟨98,[AI,vE11],.tu [.m vE1,.m (iE 0)]⟩ :: T153
theorem WE : Ah G T154:=Ad mono WF (n:=100000) (by kernel_rfl)
def T155 : List Ent:=⟨63,[AI,vE11,iE 5,iE 2],.tu [.m (iE 1),.m (.ag [iE 1,iE 0,iE 0]),.m (iE 0)]⟩ :: T154
theorem WD : Ah G T155:=Ad mono WE (n:=100000) (by kernel_rfl)
def T156 : List Ent:=⟨7,[.sl [[.s [115,32,50,65,36,50,65],iE 3]],.sl [[.s [115,32,50,65,36,50,65],iE 1]]],.tu [.m (.sl [[.s [115,32,50,65,36,50,65],iE 4]]),.m (iE 0)]⟩ :: T155
theorem WC : Ah G T156:=Ad mono WD (n:=100000) (by kernel_rfl)
def T157 : List Ent:=⟨63,[AI,vE1,iE 5,iE 2],.tu [.m (iE 0),.m (.ag [iE 1,iE 0,iE 0]),.m (iE 0)]⟩ :: T156
theorem WB : Ah G T157:=Ad mono WC (n:=100000) (by kernel_rfl)
def T158 : List Ent:=⟨7,[.sl [[.s [115,32,50,65,36,50,65],iE 4]],.sl [[.s [115,32,50,65,36,50,65],iE 1]]],.tu [.m (.sl [[.s [115,32,50,65,36,50,65],iE 5]]),.m (iE 0)]⟩ :: T157
theorem WA : Ah G T158:=Ad mono WB (n:=100000) (by kernel_rfl)
def T159 : List Ent:=⟨7,[.sl [[.s [112,50,32,51,65],iE 2],[.s [115,32,50,65,36,50,65],iE 1]],.sl [[.s [115,32,50,65,36,50,65],iE 5]]],.tu [.m (.sl [[.s [112,50,32,51,65],iE 2],[.s [115,32,50,65,36,50,65],iE 6]]),.m (iE 0)]⟩ :: T158
theorem Wz : Ah G T159:=Ad mono WA (n:=100000) (by kernel_rfl)
theorem Rv : Gives G 6 [] [] (.m (.b true)) []:=Iw mono Wz (n:=100000) (by kernel_rfl)
open Go.Lib
theorem TI (us : List V) (h : Dz Go.Proofs.Tryz.prog maxLen 8 Go.Proofs.Tryz.f3.params.toList us) : Gives G 3 us [] (.m (.b true)) []:=LQ Rv us h
end Go.Mx.Tryz
