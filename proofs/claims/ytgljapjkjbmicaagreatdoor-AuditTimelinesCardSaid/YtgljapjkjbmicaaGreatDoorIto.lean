/- strconv.Itoa at the machine: the decimal numeral. -/
import Derived.Test.YtgljapjkjbmicaaGreatDoorSeav
import Derived.Test.YtgljapjkjbmicaaGreatDoorWb
import Derived.Test.YtgljapjkjbmicaaGreatDoorWa
set_option linter.unusedSimpArgs false
set_option linter.unusedVariables false
set_option linter.unusedSectionVars false
set_option maxRecDepth 100000
namespace Go.Mx.Tryz
open Go.Lib
attribute [local congr] PI
theorem TM : ∀ j,j < 256 -> nth (n0 : List Nat) j = some (bitLenAux 8 j):=by
 have h : ∀ j : Fin 256,nth (n0 : List Nat) j.val = some (bitLenAux 8 j.val):=by decide +kernel
 exact fun j hj=>h ⟨j,hj⟩
theorem Xm {u k : Nat} (h1 : k = 0 \/ 2 ^ k <= u) (h2 : u / 2 ^ k < 256) (h : u < 2 ^ 64) : Lib.bitLen u = k + bitLenAux 8 (u / 2 ^ k):=by
 rcases h1 with rfl | h1
 ·simp only [Nat.pow_zero,Nat.div_one] at h2 ⊢
  rw [bl_8 h2]; omega
 ·rw [Zr h1 h,bl_8 h2]
theorem len64 (u : Nat) (h : u < 18446744073709551616) (H : Hp) : Gives G 146 [.m (.i .u64 u)] H (.m (.i .i64 (Lib.bitLen u))) H:=by
 refine Ak rfl rfl rfl rfl rfl ?_
 have ht:=TM
 have hl : (n0 : List Nat).length = 256:=rfl
 generalize (n0 : List Nat) = tab at ht hl
 have b8 : ∀ j,j < 256 -> bitLenAux 8 j <= 8:=by
  have h : ∀ j : Fin 256,bitLenAux 8 j.val <= 8:=by decide +kernel
  exact fun j hj=>h ⟨j,hj⟩
 have fin : ∀ (k j : Nat) (x : Int),(k = 0 \/ 2 ^ k <= u) -> u / 2 ^ k < 256 -> x.toNat = u / 2 ^ k -> Lib.bitLen u = k + bitLenAux 8 x.toNat:=fun k _ x a b c=>by rw [c]; exact Xm a b h
 simp (contextual:=true) (maxSteps:=2000000) (disch:=omega) [Ae,Af,Ac,Ag,-Int.not_lt,-Int.not_le,-Nat.not_lt,-Nat.not_le,-List.map_take,wr_u8,Ka,ht,hl]
 repeat' first | with_reducible apply And.intro | intro _
 all_goals
  have q:=b8
  first
   | (have e:=fin 56 0 (u / 4294967296 / 65536 / 256) (by omega) (by omega) (by omega); have:=b8 ((u : Int) / 4294967296 / 65536 / 256).toNat (by omega); simp (disch:=omega) only [Aa]; omega)
   | (have e:=fin 48 0 (u / 4294967296 / 65536) (by omega) (by omega) (by omega); have:=b8 ((u : Int) / 4294967296 / 65536).toNat (by omega); simp (disch:=omega) only [Aa]; omega)
   | (have e:=fin 40 0 (u / 4294967296 / 256) (by omega) (by omega) (by omega); have:=b8 ((u : Int) / 4294967296 / 256).toNat (by omega); simp (disch:=omega) only [Aa]; omega)
   | (have e:=fin 32 0 (u / 4294967296) (by omega) (by omega) (by omega); have:=b8 ((u : Int) / 4294967296).toNat (by omega); simp (disch:=omega) only [Aa]; omega)
   | (have e:=fin 24 0 (u / 65536 / 256) (by omega) (by omega) (by omega); have:=b8 ((u : Int) / 65536 / 256).toNat (by omega); simp (disch:=omega) only [Aa]; omega)
   | (have e:=fin 16 0 (u / 65536) (by omega) (by omega) (by omega); have:=b8 ((u : Int) / 65536).toNat (by omega); simp (disch:=omega) only [Aa]; omega)
   | (have e:=fin 8 0 (u / 256) (by omega) (by omega) (by omega); have:=b8 ((u : Int) / 256).toNat (by omega); simp (disch:=omega) only [Aa]; omega)
   | (have e:=fin 0 0 u (by omega) (by omega) (by omega); have:=b8 u (by omega); simp only [Int.toNat_natCast] at e; simp (disch:=omega) only [Aa]; omega)
   | trace_state
end Go.Mx.Tryz
