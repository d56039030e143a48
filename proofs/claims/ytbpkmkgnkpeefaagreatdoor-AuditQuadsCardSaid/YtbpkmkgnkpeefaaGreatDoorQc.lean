/- Contents of stores of quadtrees: level and find of the reference. -/
import Derived.Test.YtbpkmkgnkpeefaaGreatDoorQb
import Derived.Test.YtbpkmkgnkpeefaaGreatDoorWb
import Derived.Test.YtbpkmkgnkpeefaaGreatDoorWa
import Derived.Test.YtbpkmkgnkpeefaaGreatDoorSeav
set_option linter.unusedSimpArgs false
set_option linter.unusedVariables false
set_option linter.unusedSectionVars false
set_option maxRecDepth 100000
namespace Go.Mx.Tryz
open Go.Lib Go.Proofs

theorem isSl_q {y : I} {es : List (List I)} (h : IsSl y es) : oneV (.m y) = true := by
 rcases h with rfl | ⟨rfl, _⟩ <;> rfl
def lvQ (s : Int) (l : List Qd) (k : Int) : Int := if k < 0 ∨ s + (l.length : Int) ≤ k then -1 else lvA s (levs s l) k
set_option maxHeartbeats 2000000 in
theorem level_25 {v : I} {s : Int} {l : List Qd} (hv : IsSl v (cellsQ l)) (hs : 2 ≤ s ∧ s ≤ 8) (hl : l.length ≤ 100000) (hok : okQ s l l.length = true) (k : Int) (H : Hp) : Gives G 27 [.m (.ag [.i .i64 s, v]), .m (.i .i64 k)] H (.m (.i .i64 (lvQ s l k))) H := by
 have hrv := hv.rules
 simp only [cellsQ_len] at hrv
 have hv1 := isSl_q hv
 have wl : wr .i64 (s + (l.length : Int)) = s + (l.length : Int) := wr_i64 (by omega) (by omega)
 refine gives_pur rfl rfl rfl rfl rfl ?_
 by_cases h0 : k < 0
 ·have e : lvQ s l k = -1 := by unfold lvQ; rw [if_pos (.inl h0)]
  simp (maxSteps := 2000000) (disch := omega) [gd_in, gd_and, wr_i64, hrv, hv1, h0, e]
 by_cases h1 : s + (l.length : Int) ≤ k
 ·have e : lvQ s l k = -1 := by unfold lvQ; rw [if_pos (.inr h1)]
  simp (maxSteps := 2000000) (disch := omega) [gd_in, gd_and, wr_i64, hrv, hv1, h0, wl, h1, e]
 have e : lvQ s l k = lvA s (levs s l) k := by unfold lvQ; rw [if_neg (by omega)]
 rw [e]
 simp (maxSteps := 2000000) (disch := omega) [gd_in, gd_and, wr_i64, hrv, hv1, h0, wl, h1]
 refine (?key : ∀ (m : Nat) (n : Int) (B : List (Nat × List V)), (m : Int) < s + l.length → 0 ≤ n → n + (m : Int) ≤ k → n + lvA s (levs s l) (m : Int) = lvA s (levs s l) k → getB B 2 = some [.m (.i .i64 s), .m v] → Run G c27_B0 (S27_0 (.m (.i .i64 (m : Int))) (.fa 2 0) (.m (.i .i64 n)) B []) _) k.toNat 0 _ (by omega) (by omega) (by omega) (by rw [Int.toNat_of_nonneg (by omega)]; omega) rfl |> fun h => by rw [Int.toNat_of_nonneg (by omega)] at h; exact h
 intro m
 induction m using Nat.strongRecOn with
 | ind m ih =>
  intro n B hm hn0 hnk hnl hB
  unfold c27_B0
  by_cases hs2 : s ≤ (m : Int)
  ·obtain ⟨j, hj⟩ : ∃ j, j = ((m : Int) - s).toNat := ⟨_, rfl⟩
   obtain ⟨x, hx⟩ : ∃ x, l[j]? = some x := ⟨_, List.getElem?_eq_getElem (by omega)⟩
   have hx2 := hx
   rw [hj] at hx2
   obtain ⟨k1, k2, k3⟩ := lvA_step hok hs2 (by omega) hx2
   obtain ⟨a, ha⟩ := Int.eq_ofNat_of_zero_le k2
   rw [ha] at k1
   have hn := cellsQ_nth hx
   rw [ha] at hn
   have hjl : j < l.length := by omega
   have hjl2 : (j : Int) < l.length := by omega
   have w1 : wr .i64 ((m : Int) - s) = (j : Int) := by rw [wr_i64 (by omega) (by omega)]; omega
   have w2 : wr .i64 (n + 1) = n + 1 := wr_i64 (by omega) (by omega)
   have kk := ih a (by omega) (n + 1) B (by omega) (by omega) (by omega) (by omega) hB
   simp (maxSteps := 2000000) (disch := omega) [gd_in, gd_and, wr_i64, hrv, hs2, hB, w1, w2, hjl, hjl2, hn]
   exact kk
  ·have e0 : lvA s (levs s l) (m : Int) = 0 := by unfold lvA; rw [if_pos (by omega)]
   have e1 : n = lvA s (levs s l) k := by omega
   simp (maxSteps := 2000000) (disch := omega) [gd_in, gd_and, wr_i64, hs2, hB, e1]
set_option maxHeartbeats 2000000 in
theorem find_25 {v : I} {s : Int} {l : List Qd} (hv : IsSl v (cellsQ l)) (hl : l.length ≤ 100000) (y : Qd) (H : Hp) : ∃ r : Int, (0 ≤ r ↔ y ∈ l) ∧ Gives G 28 [.m (.ag [.i .i64 s, v]), .m (.ag [.i .i64 y.a, .i .i64 y.b, .i .i64 y.c, .i .i64 y.d])] H (.m (.i .i64 r)) H := by
 have hrv := hv.rules
 simp only [cellsQ_len] at hrv
 have hv1 := isSl_q hv
 have key : ∃ x H', Gives G 28 [.m (.ag [.i .i64 s, v]), .m (.ag [.i .i64 y.a, .i .i64 y.b, .i .i64 y.c, .i .i64 y.d])] H x H' ∧ (H' = H ∧ ∃ r : Int, (0 ≤ r ↔ y ∈ l) ∧ x = .m (.i .i64 r)) := by
  refine gives_of_ret ?_
  refine ret_pur rfl rfl rfl rfl rfl ?_
  generalize hQ : (fun (x : V) (H' : Hp) => H' = H ∧ ∃ r : Int, (0 ≤ r ↔ y ∈ l) ∧ x = .m (.i .i64 r)) = Q
  have qk : ∀ r : Int, (0 ≤ r ↔ y ∈ l) → Q (.m (.i .i64 r)) H := fun r hh => by rw [← hQ]; exact ⟨rfl, r, hh, rfl⟩
  clear hQ
  simp (maxSteps := 2000000) (disch := omega) [gd_in, gd_and, wr_i64, hv1]
  refine (?key : ∀ (i : Nat) (B : List (Nat × List V)), i ≤ l.length → ¬ y ∈ l.take i → getB B 2 = some [.m (.i .i64 s), .m v] → getB B 3 = some [.m (.i .i64 y.a), .m (.i .i64 y.b), .m (.i .i64 y.c), .m (.i .i64 y.d)] → Run G c28_B0 (S28_0 (.fa 2 0) (.fa 3 0) (.m (.i .i64 (i : Int))) B []) _) 0 _ (Nat.zero_le _) (by simp) rfl rfl
  refine indM (fun i : Nat => l.length - i) fun i ih B hi hno hB2 hB3 => ?_
  unfold c28_B0
  cases hx : l[i]? with
  | none =>
   have : i = l.length := by have := List.getElem?_eq_none_iff.1 hx; omega
   subst this
   rw [List.take_length] at hno
   have k := qk (-1) ⟨fun h => by omega, fun h => absurd h hno⟩
   simp (maxSteps := 2000000) (disch := omega) [gd_in, gd_and, wr_i64, hrv, hB2, hB3]
   exact k
  | some x =>
   have hlt := (List.getElem?_eq_some_iff.1 hx).1
   have hlt' : (i : Int) < l.length := by omega
   have hn := cellsQ_nth hx
   have wi : wr .i64 ((i : Int) + 1) = ((i + 1 : Nat) : Int) := wr_i64 (by omega) (by omega)
   by_cases hxy : x = y
   ·subst hxy
    have k := qk i ⟨fun _ => List.mem_of_getElem? hx, fun _ => by omega⟩
    simp (maxSteps := 2000000) (disch := omega) [gd_in, gd_and, wr_i64, hrv, hlt, hlt', hn, hB2, hB3]
    exact k
   ·have hne : ¬ (x.a = y.a ∧ x.b = y.b ∧ x.c = y.c ∧ x.d = y.d) := fun ⟨h1, h2, h3, h4⟩ => hxy (by cases x; cases y; simp_all)
    have k := ih (i + 1) (by omega) B (by omega) (by
     rw [List.take_add_one, hx]
     intro hm
     rcases List.mem_append.1 hm with hm | hm
     ·exact hno hm
     ·exact hxy (List.mem_singleton.1 (show y ∈ [x] from hm)).symm) hB2 hB3
    have hd : (decide (x.a = y.a) && (decide (x.b = y.b) && (decide (x.c = y.c) && decide (x.d = y.d)))) = false := by simpa [← Bool.not_eq_true] using hne
    simp (maxSteps := 2000000) (disch := omega) [gd_in, gd_and, wr_i64, hrv, hlt, hlt', hn, hB2, hB3, hd, wi, -Int.natCast_add]
    exact k
 obtain ⟨x, H', h1, rfl, r, h2, rfl⟩ := key
 exact ⟨r, h2, h1⟩
end Go.Mx.Tryz
