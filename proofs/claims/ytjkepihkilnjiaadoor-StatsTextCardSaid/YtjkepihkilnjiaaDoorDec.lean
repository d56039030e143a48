/- Decimal numerals: the library's Itoa and the reference's text. -/
import Derived.Test.YtjkepihkilnjiaaDoorSeav
import Derived.Test.YtjkepihkilnjiaaDoorWb
import Derived.Test.YtjkepihkilnjiaaDoorWa
import Derived.Lib.ItoaLen
set_option linter.unusedSimpArgs false
set_option linter.unusedVariables false
set_option linter.unusedSectionVars false
set_option maxRecDepth 100000
namespace Go.Mx.Tryd
open Go.Lib
attribute [local congr] nth_congr

theorem dig1 : ∀ j, j < 10 → (([48, 49, 50, 51, 52, 53, 54, 55, 56, 57] : List Nat).drop j).take 1 = [48 + j] := by
  have h : ∀ j : Fin 10, (([48, 49, 50, 51, 52, 53, 54, 55, 56, 57] : List Nat).drop j.val).take 1 = [48 + j.val] := by decide
  exact fun j hj => h ⟨j, hj⟩
theorem decN_len (u : Nat) (h : u < 18446744073709551616) : (decN u).length ≤ 20 := by
  unfold decN
  rw [List.length_map, decDigits_length]
  exact nDigits_le20 u h
theorem decN_byte (u : Nat) : ∀ c, c ∈ decN u → c < 256 := fun c hc => by
  obtain ⟨x, _, rfl⟩ := List.mem_map.1 hc
  exact x.toNat_lt
theorem itoaN_byte (n : Int) : ∀ c, c ∈ itoaN n → c < 256 := fun c hc => by
  obtain ⟨x, _, rfl⟩ := List.mem_map.1 hc
  exact x.toNat_lt
theorem itoaN_len (n : Int) (h0 : -9223372036854775808 ≤ n) (h1 : n ≤ 9223372036854775807) : (itoaN n).length ≤ 21 := by
  unfold itoaN
  rw [List.length_map]
  exact itoa_length_le n h0 h1
theorem decim (u : Nat) : u < 18446744073709551616 → ∀ H, Gives G 55 [.m (.i .u64 u)] H (.m (.s (decN u))) H := by
  induction u using Nat.strongRecOn with
  | _ u ih =>
    intro h H
    refine gives_pur rfl rfl rfl rfl rfl ?_
    by_cases h10 : u < 10
    · have h10' : (u : Int) < 10 := by omega
      have e := dig1 u h10
      have e2 : (([48, 49, 50, 51, 52, 53, 54, 55, 56, 57] : List Nat)).length = 10 := rfl
      have e3 : ((u : Int) + 1).toNat - u = 1 := by omega
      rw [decN_one h10]
      simp (contextual := true) (maxSteps := 2000000) (disch := omega) [test_cx, rest_cx, gcall_cx, gcav_cx, -Int.not_lt, -Int.not_le, -Nat.not_lt, -Nat.not_le, -List.map_take, gd_in, gd_and, h10', wr_u64, e, e2, e3]
    · have h10' : ¬ (u : Int) < 10 := by omega
      have g1 := ih (u / 10) (by omega) (by omega) []
      have g2 := ih (u % 10) (by omega) (by omega) []
      have l1 := decN_len (u / 10) (by omega)
      have l2 := decN_len (u % 10) (by omega)
      have e1 : (u : Int).tdiv 10 = ((u / 10 : Nat) : Int) := rfl
      have e2 : (u : Int).tmod 10 = ((u % 10 : Nat) : Int) := rfl
      rw [decN_big h10]
      have e3 := decN_one (i := u % 10) (by omega)
      rw [e3] at g2 l2
      simp (contextual := true) (maxSteps := 2000000) (disch := omega) [test_cx, rest_cx, gcall_cx, gcav_cx, -Int.not_lt, -Int.not_le, -Nat.not_lt, -Nat.not_le, -List.map_take, gd_in, gd_and, h10', wr_u64, e1, e2, cl g1, cl g2, -Int.natCast_ediv, -Int.natCast_emod]
theorem size39 (n : Int) (h0 : -9223372036854775808 ≤ n) (h1 : n ≤ 9223372036854775807) (H : Hp) : Gives G 36 [.m (.i .i64 n)] H (.m (.i .u64 n.natAbs)) H := by
  refine gives_pur rfl rfl rfl rfl rfl ?_
  simp (contextual := true) (maxSteps := 2000000) (disch := omega) [test_cx, rest_cx, gcall_cx, gcav_cx, -Int.not_lt, -Int.not_le, -Nat.not_lt, -Nat.not_le, -List.map_take, gd_in, gd_and, wr_mod_u64]
  omega
theorem sgn39 (n : Int) (h0 : -9223372036854775808 ≤ n) (h1 : n ≤ 9223372036854775807) (H : Hp) : Gives G 41 [.m (.i .i64 n)] H (.m (.s (itoaN n))) H := by
  refine gives_pur rfl rfl rfl rfl rfl ?_
  have g1 := size39 n h0 h1 []
  have g2 := decim n.natAbs (by omega) []
  have l2 := decN_len n.natAbs (by omega)
  by_cases hn : n < 0
  · have e : itoaN n = 45 :: decN n.natAbs := by
      have := itoaN_neg n.natAbs (by omega)
      rwa [show -((n.natAbs : Nat) : Int) = n by omega] at this
    simp (contextual := true) (maxSteps := 2000000) (disch := omega) [test_cx, rest_cx, gcall_cx, gcav_cx, -Int.not_lt, -Int.not_le, -Nat.not_lt, -Nat.not_le, -List.map_take, gd_in, gd_and, hn, cl g1, cl g2, e]
  · have e : itoaN n = decN n.natAbs := by
      have := itoaN_pos n.natAbs
      rwa [show ((n.natAbs : Nat) : Int) = n by omega] at this
    simp (contextual := true) (maxSteps := 2000000) (disch := omega) [test_cx, rest_cx, gcall_cx, gcav_cx, -Int.not_lt, -Int.not_le, -Nat.not_lt, -Nat.not_le, -List.map_take, gd_in, gd_and, hn, cl g1, cl g2, e]
theorem small_tab : ∀ j, ¬ j < 10 → j < 100 → (([48, 48, 48, 49, 48, 50, 48, 51, 48, 52, 48, 53, 48, 54, 48, 55, 48, 56, 48, 57, 49, 48, 49, 49, 49, 50, 49, 51, 49, 52, 49, 53, 49, 54, 49, 55, 49, 56, 49, 57, 50, 48, 50, 49, 50, 50, 50, 51, 50, 52, 50, 53, 50, 54, 50, 55, 50, 56, 50, 57, 51, 48, 51, 49, 51, 50, 51, 51, 51, 52, 51, 53, 51, 54, 51, 55, 51, 56, 51, 57, 52, 48, 52, 49, 52, 50, 52, 51, 52, 52, 52, 53, 52, 54, 52, 55, 52, 56, 52, 57, 53, 48, 53, 49, 53, 50, 53, 51, 53, 52, 53, 53, 53, 54, 53, 55, 53, 56, 53, 57, 54, 48, 54, 49, 54, 50, 54, 51, 54, 52, 54, 53, 54, 54, 54, 55, 54, 56, 54, 57, 55, 48, 55, 49, 55, 50, 55, 51, 55, 52, 55, 53, 55, 54, 55, 55, 55, 56, 55, 57, 56, 48, 56, 49, 56, 50, 56, 51, 56, 52, 56, 53, 56, 54, 56, 55, 56, 56, 56, 57, 57, 48, 57, 49, 57, 50, 57, 51, 57, 52, 57, 53, 57, 54, 57, 55, 57, 56, 57, 57] : List Nat).drop (j * 2)).take 2 = [48 + j / 10, 48 + j % 10] := by
  have h : ∀ j : Fin 100, (([48, 48, 48, 49, 48, 50, 48, 51, 48, 52, 48, 53, 48, 54, 48, 55, 48, 56, 48, 57, 49, 48, 49, 49, 49, 50, 49, 51, 49, 52, 49, 53, 49, 54, 49, 55, 49, 56, 49, 57, 50, 48, 50, 49, 50, 50, 50, 51, 50, 52, 50, 53, 50, 54, 50, 55, 50, 56, 50, 57, 51, 48, 51, 49, 51, 50, 51, 51, 51, 52, 51, 53, 51, 54, 51, 55, 51, 56, 51, 57, 52, 48, 52, 49, 52, 50, 52, 51, 52, 52, 52, 53, 52, 54, 52, 55, 52, 56, 52, 57, 53, 48, 53, 49, 53, 50, 53, 51, 53, 52, 53, 53, 53, 54, 53, 55, 53, 56, 53, 57, 54, 48, 54, 49, 54, 50, 54, 51, 54, 52, 54, 53, 54, 54, 54, 55, 54, 56, 54, 57, 55, 48, 55, 49, 55, 50, 55, 51, 55, 52, 55, 53, 55, 54, 55, 55, 55, 56, 55, 57, 56, 48, 56, 49, 56, 50, 56, 51, 56, 52, 56, 53, 56, 54, 56, 55, 56, 56, 56, 57, 57, 48, 57, 49, 57, 50, 57, 51, 57, 52, 57, 53, 57, 54, 57, 55, 57, 56, 57, 57] : List Nat).drop (j.val * 2)).take 2 = [48 + j.val / 10, 48 + j.val % 10] := by decide +kernel
  exact fun j _ hj => h ⟨j, hj⟩
theorem dig36 : ∀ j, j < 10 → (([48, 49, 50, 51, 52, 53, 54, 55, 56, 57, 97, 98, 99, 100, 101, 102, 103, 104, 105, 106, 107, 108, 109, 110, 111, 112, 113, 114, 115, 116, 117, 118, 119, 120, 121, 122] : List Nat).drop j).take 1 = [48 + j] := by
  have h : ∀ j : Fin 10, (([48, 49, 50, 51, 52, 53, 54, 55, 56, 57, 97, 98, 99, 100, 101, 102, 103, 104, 105, 106, 107, 108, 109, 110, 111, 112, 113, 114, 115, 116, 117, 118, 119, 120, 121, 122] : List Nat).drop j.val).take 1 = [48 + j.val] := by decide +kernel
  exact fun j hj => h ⟨j, hj⟩
section
attribute [local congr] optbind_congr
theorem small100 (u : Nat) (h : u < 100) (H : Hp) : Gives G 69 [.m (.i .i64 u)] H (.m (.s (decN u))) H := by
  refine gives_pur rfl rfl rfl rfl rfl ?_
  have e1 : ([48, 49, 50, 51, 52, 53, 54, 55, 56, 57, 97, 98, 99, 100, 101, 102, 103, 104, 105, 106, 107, 108, 109, 110, 111, 112, 113, 114, 115, 116, 117, 118, 119, 120, 121, 122] : List Nat).length = 36 := rfl
  have e2 : ([48, 48, 48, 49, 48, 50, 48, 51, 48, 52, 48, 53, 48, 54, 48, 55, 48, 56, 48, 57, 49, 48, 49, 49, 49, 50, 49, 51, 49, 52, 49, 53, 49, 54, 49, 55, 49, 56, 49, 57, 50, 48, 50, 49, 50, 50, 50, 51, 50, 52, 50, 53, 50, 54, 50, 55, 50, 56, 50, 57, 51, 48, 51, 49, 51, 50, 51, 51, 51, 52, 51, 53, 51, 54, 51, 55, 51, 56, 51, 57, 52, 48, 52, 49, 52, 50, 52, 51, 52, 52, 52, 53, 52, 54, 52, 55, 52, 56, 52, 57, 53, 48, 53, 49, 53, 50, 53, 51, 53, 52, 53, 53, 53, 54, 53, 55, 53, 56, 53, 57, 54, 48, 54, 49, 54, 50, 54, 51, 54, 52, 54, 53, 54, 54, 54, 55, 54, 56, 54, 57, 55, 48, 55, 49, 55, 50, 55, 51, 55, 52, 55, 53, 55, 54, 55, 55, 55, 56, 55, 57, 56, 48, 56, 49, 56, 50, 56, 51, 56, 52, 56, 53, 56, 54, 56, 55, 56, 56, 56, 57, 57, 48, 57, 49, 57, 50, 57, 51, 57, 52, 57, 53, 57, 54, 57, 55, 57, 56, 57, 57] : List Nat).length = 200 := rfl
  have s1 := small_tab u
  have s2 := dig36 u
  generalize ([48, 49, 50, 51, 52, 53, 54, 55, 56, 57, 97, 98, 99, 100, 101, 102, 103, 104, 105, 106, 107, 108, 109, 110, 111, 112, 113, 114, 115, 116, 117, 118, 119, 120, 121, 122] : List Nat) = l1 at e1 s2 ⊢
  generalize ([48, 48, 48, 49, 48, 50, 48, 51, 48, 52, 48, 53, 48, 54, 48, 55, 48, 56, 48, 57, 49, 48, 49, 49, 49, 50, 49, 51, 49, 52, 49, 53, 49, 54, 49, 55, 49, 56, 49, 57, 50, 48, 50, 49, 50, 50, 50, 51, 50, 52, 50, 53, 50, 54, 50, 55, 50, 56, 50, 57, 51, 48, 51, 49, 51, 50, 51, 51, 51, 52, 51, 53, 51, 54, 51, 55, 51, 56, 51, 57, 52, 48, 52, 49, 52, 50, 52, 51, 52, 52, 52, 53, 52, 54, 52, 55, 52, 56, 52, 57, 53, 48, 53, 49, 53, 50, 53, 51, 53, 52, 53, 53, 53, 54, 53, 55, 53, 56, 53, 57, 54, 48, 54, 49, 54, 50, 54, 51, 54, 52, 54, 53, 54, 54, 54, 55, 54, 56, 54, 57, 55, 48, 55, 49, 55, 50, 55, 51, 55, 52, 55, 53, 55, 54, 55, 55, 55, 56, 55, 57, 56, 48, 56, 49, 56, 50, 56, 51, 56, 52, 56, 53, 56, 54, 56, 55, 56, 56, 56, 57, 57, 48, 57, 49, 57, 50, 57, 51, 57, 52, 57, 53, 57, 54, 57, 55, 57, 56, 57, 57] : List Nat) = l2 at e2 s1 ⊢
  by_cases h10 : u < 10
  · have e3 : ((u : Int) + 1).toNat - u = 1 := by omega
    rw [decN_one h10]
    have h10' : (u : Int) < 10 := by omega
    simp (contextual := true) (maxSteps := 2000000) (disch := omega) [test_cx, rest_cx, gcall_cx, gcav_cx, -Int.not_lt, -Int.not_le, -Nat.not_lt, -Nat.not_le, -List.map_take, gd_in, gd_and, wr_i64, h10', e1, e3, s2]
  · have e3 : ((u : Int) * 2 + 2).toNat - u * 2 = 2 := by omega
    have e4 : ((u : Int) * 2).toNat = u * 2 := by omega
    rw [decN_two h10 h]
    have h10' : ¬ (u : Int) < 10 := by omega
    simp (contextual := true) (maxSteps := 2000000) (disch := omega) [test_cx, rest_cx, gcall_cx, gcav_cx, -Int.not_lt, -Int.not_le, -Nat.not_lt, -Nat.not_le, -List.map_take, gd_in, gd_and, wr_i64, h10', e2, e3, e4, s1 h10 h]
end
end Go.Mx.Tryd
