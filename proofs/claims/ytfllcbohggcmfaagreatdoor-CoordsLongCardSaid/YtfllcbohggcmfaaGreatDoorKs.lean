/- Decimal of the reference. -/
import Derived.Test.YtfllcbohggcmfaaGreatDoorAu
set_option linter.unusedSimpArgs false
set_option linter.unusedVariables false
set_option linter.unusedSectionVars false
set_option maxRecDepth 100000
namespace Go.Mx.Tryz
open Go.Lib

theorem dig_sl (u : Nat) (h : u < 10) : (([48, 49, 50, 51, 52, 53, 54, 55, 56, 57] : List Nat).drop u).take 1 = [48 + u] := by
 match u, h with
 | 0, _ => rfl
 | 1, _ => rfl
 | 2, _ => rfl
 | 3, _ => rfl
 | 4, _ => rfl
 | 5, _ => rfl
 | 6, _ => rfl
 | 7, _ => rfl
 | 8, _ => rfl
 | 9, _ => rfl
theorem decm_n (u : Nat) : u ≤ 1000000000000 → ∀ H, Gives G 13 [.m (.i .i64 (u : Int))] H (.m (.s (decN u))) H := by
 refine indM (P := fun u => u ≤ 1000000000000 → ∀ H, Gives G 13 [.m (.i .i64 (u : Int))] H (.m (.s (decN u))) H) (fun u : Nat => u) (fun u ih hu H => ?_) u
 refine gives_pur rfl rfl rfl rfl rfl ?_
 have h0 : ¬ (u : Int) < 0 := by omega
 by_cases h : u < 10
 ·have h' : (u : Int) < 10 := by omega
  have w : wr .i64 ((u : Int) + 1) = (u : Int) + 1 := wr_i64 (by omega) (by omega)
  have p1 : (u : Int) + 1 ≤ 10 := by omega
  have p2 : u ≤ u + 1 := by omega
  have p3 : (0 : Int) ≤ (u : Int) + 1 := by omega
  simp [h0, h', w, p1, p3, dig_sl u h, decN_one h]
 ·have h' : ¬ (u : Int) < 10 := by omega
  have g1 := ih (u / 10) (by omega) (by omega)
  have g2 := ih (u % 10) (by omega) (by omega)
  have w : wr .i64 ((u / 10 : Nat) : Int) = ((u / 10 : Nat) : Int) := wr_i64 (by omega) (by omega)
  have t1 : (u : Int).tdiv 10 = ((u / 10 : Nat) : Int) := rfl
  have t2 : (u : Int).tmod 10 = ((u % 10 : Nat) : Int) := rfl
  have e1 : decN (u % 10) = [48 + u % 10] := decN_one (by omega)
  have hl : (decN (u / 10)).length ≤ 20 := by have := decN_lenk 12 (u / 10) (by omega); omega
  rw [decN_big h, ← e1]
  have hl1 : (decN (u % 10)).length = 1 := by rw [e1]; rfl
  have hs : (decN (u / 10)).length + (decN (u % 10)).length ≤ 9223372036854775807 := by omega
  simp [h0, h', t1, t2, w, -Int.natCast_ediv, -Int.natCast_emod, cl (g1 _), cl (g2 _), hs]
theorem decm (x : Int) (h1 : -1000000000 < x) (h2 : x < 1000000000) (H : Hp) : Gives G 13 [.m (.i .i64 x)] H (.m (.s (itoaN x))) H := by
 by_cases h : 0 ≤ x
 ·obtain ⟨u, rfl⟩ := Int.eq_ofNat_of_zero_le h
  rw [itoaN_pos]
  exact decm_n u (by omega) H
 ·obtain ⟨u, hu⟩ := Int.eq_ofNat_of_zero_le (show 0 ≤ -x by omega)
  have : x = -(u : Int) := by omega
  subst this
  rw [itoaN_neg u (by omega)]
  refine gives_pur rfl rfl rfl rfl rfl ?_
  have h0 : -(u : Int) < 0 := by omega
  have w : wr .i64 (u : Int) = u := wr_i64 (by omega) (by omega)
  have g := decm_n u (by omega)
  have hl : (decN u).length ≤ 20 := by have := decN_lenk 8 u (by omega); omega
  have hl' : 1 + (decN u).length ≤ 9223372036854775807 := by omega
  have hu1 : 1 ≤ u := by omega
  have hu2 : 0 < u := by omega
  simp [h0, w, cl (g _), hu2, hl']
theorem itoaN_small (x : Int) (h : -1048576 ≤ x ∧ x ≤ 1048576) : (itoaN x).length ≤ 8 := by
 by_cases h0 : 0 ≤ x
 ·obtain ⟨u, rfl⟩ := Int.eq_ofNat_of_zero_le h0
  rw [itoaN_pos]
  have := decN_lenk 6 u (by omega)
  omega
 ·obtain ⟨u, hu⟩ := Int.eq_ofNat_of_zero_le (show 0 ≤ -x by omega)
  have : x = -(u : Int) := by omega
  subst this
  rw [itoaN_neg u (by omega)]
  have := decN_lenk 6 u (by omega)
  simp
  omega

end Go.Mx.Tryz
