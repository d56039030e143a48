/- Decimal numerals: the library's Itoa and the reference's text. -/
import Derived.Test.YtiehnedoinlfeaaGreatDoorSeav
import Derived.Test.YtiehnedoinlfeaaGreatDoorWb
import Derived.Test.YtiehnedoinlfeaaGreatDoorWa
import Derived.Lib.ItoaLen
set_option linter.unusedSimpArgs false
set_option linter.unusedVariables false
set_option linter.unusedSectionVars false
set_option maxRecDepth 100000
namespace Go.Mx.Tryz
open Go.Lib
attribute [local congr] LN
theorem Zc (u:Nat)(h:u<18446744073709551616):(GN u).length<=20:=by
 unfold GN
 rw[AhD,decDigits_length]
 exact nDigits_le20 u h
theorem Nb (n:Int)(u:-9223372036854775808<=n)(z:n<=9223372036854775807):(CK n).length<=21:=by
 unfold CK
 rw[AhD]
 exact itoa_length_le n u z
theorem UG:∀j,¬j<10->j<100->((n2:List Nat).drop (j*2)).take 2=[48+j / 10,48+j%10]:=by
 have h:∀j:Fin 100,((n2:List Nat).drop (j.val*2)).take 2=[48+j.val / 10,48+j.val%10]:=by decide +kernel
 exact fun j _ u=>h ⟨j,u⟩
theorem dig36:∀j,j<10->((n1:List Nat).drop j).take 1=[48+j]:=by
 have h:∀j:Fin 10,((n1:List Nat).drop j.val).take 1=[48+j.val]:=by decide +kernel
 exact fun j u=>h ⟨j,u⟩
section
attribute [local congr] Kg
theorem Yf (u:Nat)(h:u<100)(H:Hp):Gives G 229 [J0 u] H (.m (.s (GN u))) H:=by
 refine Af rfl rfl rfl rfl rfl ?_
 have U:(n1:List Nat).length=36:=rfl
 have N:(n2:List Nat).length=200:=rfl
 have J:=UG u
 have W:=dig36 u
 generalize (n1:List Nat)=l1 at U W ⊢
 generalize (n2:List Nat)=l2 at N J ⊢
 by_cases E:u<10
 ·have Q:((u:Int)+1).toNat-u=1:=by omega
  rw[KD E]
  have z:(u:Int)<10:=by omega
  simp (contextual:=true) (maxSteps:=2000000) (disch:=omega) [Ai,-Int.not_lt,-Int.not_le,-Nat.not_lt,-Nat.not_le,-List.map_take,Aa,z,U,W]
 ·have Q:((u:Int)*2+2).toNat-u*2=2:=by omega
  have Y:((u:Int)*2).toNat=u*2:=by omega
  rw[XE E h]
  have z:¬(u:Int)<10:=by omega
  simp (contextual:=true) (maxSteps:=2000000) (disch:=omega) [Ai,-Int.not_lt,-Int.not_le,-Nat.not_lt,-Nat.not_le,-List.map_take,Ac,Ab,Aa,z,N,Q,Y,J E h]
end
end Go.Mx.Tryz
