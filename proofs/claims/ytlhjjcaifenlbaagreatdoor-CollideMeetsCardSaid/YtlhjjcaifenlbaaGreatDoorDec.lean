/- Decimal numerals: the library's Itoa and the reference's text. -/
import Derived.Test.YtlhjjcaifenlbaaGreatDoorSeav
import Derived.Test.YtlhjjcaifenlbaaGreatDoorWb
import Derived.Test.YtlhjjcaifenlbaaGreatDoorWa
import Derived.Lib.ItoaLen
set_option linter.unusedSimpArgs false
set_option linter.unusedVariables false
set_option linter.unusedSectionVars false
set_option maxRecDepth 100000
namespace Go.Mx.Tryz
open Go.Lib
attribute [local congr] LY
theorem Zg (u:Nat)(h:u<18446744073709551616):(GL u).length<=20:=by
 unfold GL
 rw[Ahr,decDigits_length]
 exact nDigits_le20 u h
theorem Ng (n:Int)(z:-9223372036854775808<=n)(u:n<=9223372036854775807):(CH n).length<=21:=by
 unfold CH
 rw[Ahr]
 exact itoa_length_le n z u
theorem UI:∀j,¬j<10->j<100->((n2:List Nat).drop (j*2)).take 2=[48+j / 10,48+j%10]:=by
 have h:∀j:Fin 100,((n2:List Nat).drop (j.val*2)).take 2=[48+j.val / 10,48+j.val%10]:=by decide +kernel
 exact fun j _ u=>h ⟨j,u⟩
theorem dig36:∀j,j<10->((n1:List Nat).drop j).take 1=[48+j]:=by
 have h:∀j:Fin 10,((n1:List Nat).drop j.val).take 1=[48+j.val]:=by decide +kernel
 exact fun j u=>h ⟨j,u⟩
section
attribute [local congr] Ki
theorem Yi (u:Nat)(h:u<100)(H:Hp):Gives G 263 [J0 u] H (.m (.s (GL u))) H:=by
 refine Ae rfl rfl rfl rfl rfl ?_
 have J:(n1:List Nat).length=36:=rfl
 have W:(n2:List Nat).length=200:=rfl
 have Q:=UI u
 have U:=dig36 u
 generalize (n1:List Nat)=l1 at J U ⊢
 generalize (n2:List Nat)=l2 at W Q ⊢
 by_cases E:u<10
 ·have N:((u:Int)+1).toNat-u=1:=by omega
  rw[KG E]
  have z:(u:Int)<10:=by omega
  simp (contextual:=true) (disch:=omega) [Ai,Aa,z,J,U]
 ·have N:((u:Int)*2+2).toNat-u*2=2:=by omega
  have Y:((u:Int)*2).toNat=u*2:=by omega
  rw[XH E h]
  have z:¬(u:Int)<10:=by omega
  simp (contextual:=true) (disch:=omega) [Ai,Ac,Ab,Aa,z,W,N,Y,Q E h]
end
end Go.Mx.Tryz
