/- Decimal numerals: the library's Itoa and the reference's text. -/
import Derived.Test.YtjjpbhhgeddgjaaGreatDoorSeav
import Derived.Test.YtjjpbhhgeddgjaaGreatDoorWb
import Derived.Test.YtjjpbhhgeddgjaaGreatDoorWa
import Derived.Lib.ItoaLen
set_option linter.unusedSimpArgs false
set_option linter.unusedVariables false
set_option linter.unusedSectionVars false
set_option maxRecDepth 100000
namespace Go.Mx.Tryz
open Go.Lib
attribute [local congr] JD
theorem Nz (u : Nat) (h : u < 18446744073709551616) : (Dy u).length <= 20:=by
 unfold Dy
 rw [Adc,decDigits_length]
 exact nDigits_le20 u h
theorem OF (n : Int) : ∀ c,c ∈ BC n -> c < 256:=fun c hc=>by
 obtain ⟨x,_,rfl⟩:=Adz.1 hc
 exact x.toNat_lt
theorem DT (n : Int) (h0 : -9223372036854775808 <= n) (h1 : n <= 9223372036854775807) : (BC n).length <= 21:=by
 unfold BC
 rw [Adc]
 exact itoa_length_le n h0 h1
theorem QT : ∀ j,¬ j < 10 -> j < 100 -> ((n1 : List Nat).drop (j * 2)).take 2 = [48 + j / 10,48 + j % 10]:=by
 have h : ∀ j : Fin 100,((n1 : List Nat).drop (j.val * 2)).take 2 = [48 + j.val / 10,48 + j.val % 10]:=by decide +kernel
 exact fun j _ hj=>h ⟨j,hj⟩
theorem dig36 : ∀ j,j < 10 -> ((n0 : List Nat).drop j).take 1 = [48 + j]:=by
 have h : ∀ j : Fin 10,((n0 : List Nat).drop j.val).take 1 = [48 + j.val]:=by decide +kernel
 exact fun j hj=>h ⟨j,hj⟩
section
attribute [local congr] Ip
theorem Nl (u : Nat) (h : u < 100) (H : Hp) : Gives G 101 [.m (.i .i64 u)] H (.m (.s (Dy u))) H:=by
 refine Ak rfl rfl rfl rfl rfl ?_
 have e1 : (n0 : List Nat).length = 36:=rfl
 have e2 : (n1 : List Nat).length = 200:=rfl
 have s1:=QT u
 have s2:=dig36 u
 generalize (n0 : List Nat) = l1 at e1 s2 ⊢
 generalize (n1 : List Nat) = l2 at e2 s1 ⊢
 by_cases h10 : u < 10
 ·have e3 : ((u : Int) + 1).toNat - u = 1:=by omega
  rw [Fa h10]
  have h10' : (u : Int) < 10:=by omega
  simp (contextual:=true) (maxSteps:=2000000) (disch:=omega) [AT,-Int.not_lt,-Int.not_le,-Nat.not_lt,-Nat.not_le,-List.map_take,Aa,h10',e1,s2]
 ·have e3 : ((u : Int) * 2 + 2).toNat - u * 2 = 2:=by omega
  have e4 : ((u : Int) * 2).toNat = u * 2:=by omega
  rw [Ta h10 h]
  have h10' : ¬ (u : Int) < 10:=by omega
  simp (contextual:=true) (maxSteps:=2000000) (disch:=omega) [AT,-Int.not_lt,-Int.not_le,-Nat.not_lt,-Nat.not_le,-List.map_take,Ag,Ae,Aa,h10',e2,e3,e4,s1 h10 h]
end
end Go.Mx.Tryz
