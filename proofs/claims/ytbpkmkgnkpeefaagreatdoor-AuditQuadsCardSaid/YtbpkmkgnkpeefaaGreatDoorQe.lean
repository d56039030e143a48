/- Contents of stores of quadtrees: level of the audit's reference. -/
import Derived.Test.YtbpkmkgnkpeefaaGreatDoorQd
import Derived.Test.YtbpkmkgnkpeefaaGreatDoorNa
set_option linter.unusedSimpArgs false
set_option linter.unusedVariables false
set_option linter.unusedSectionVars false
set_option maxRecDepth 100000
namespace Go.Mx.Tryz
open Go.Lib Go.Proofs

theorem level_58 {v w : I} {s k : Int} {es : List (List I)} {L : List Int} (hv : IsSl v es) (hw : IsSl w (celI L)) (hs : 2 ≤ s ∧ s ≤ 8) (hl : L.length ≤ 100000) (h0 : 0 ≤ k) (hk : k < s + (L.length : Int)) (H : Hp) : Gives G 26 [.m (.ag [.i .i64 s, v]), .m w, .m (.i .i64 k)] H (.m (.i .i64 (lvA s L k))) H := by
 have hrw := hw.rules
 simp only [celI_len] at hrw
 have hv1 := isSl_q hv
 refine gives_pur rfl rfl rfl rfl rfl ?_
 by_cases h1 : k < s
 ·have e : lvA s L k = 0 := by unfold lvA; rw [if_pos h1]
  simp (maxSteps := 2000000) (disch := omega) [gd_in, gd_and, wr_i64, hv1, h1, e]
 ·obtain ⟨j, hj⟩ : ∃ j, j = (k - s).toNat := ⟨_, rfl⟩
  obtain ⟨y, hy⟩ : ∃ y, L[j]? = some y := ⟨_, List.getElem?_eq_getElem (by omega)⟩
  have e : lvA s L k = y := by unfold lvA; rw [if_neg h1, ← hj, List.getD_eq_getElem?_getD, hy]; rfl
  have hn := celI_nth hy
  have w1 : wr .i64 (k - s) = (j : Int) := by rw [wr_i64 (by omega) (by omega)]; omega
  have hjl : j < L.length := by omega
  have hjl2 : (j : Int) < L.length := by omega
  simp (maxSteps := 2000000) (disch := omega) [gd_in, gd_and, wr_i64, hrw, hv1, h1, w1, hjl, hjl2, hn, e]
theorem numA_call3 {F : Nat} {acc : List Int} {o x : V} {t0 t2 : I} {H : Hp} (hp : G.prim F = none) (hs : G.sh F = false) (ho : NumA acc o H) (h : ∀ w H, IsSl w (celI acc) → Gives G F [.m t0, .m w, .m t2] H x H) (hf : flatV x = true) : Gives G F [.m t0, o, .m t2] H x H := by
 rcases ho with ⟨rfl, rfl, rfl⟩ | ⟨hne, rfl, rfl⟩
 ·exact h _ [] isSl_nil
 ·refine gives_view (is := [t0, .sl (celI acc), t2]) hp hs (h _ [] (isSl_sl _)) ?_ (.inr ⟨by simp [refs, ref1], hf⟩)
  have := viewN (r := 0) (ver := acc.length) (st := 0) (len := acc.length) (lim := false) (base := 0) (fz := false) (l := acc) (H := [Row.cs 3 1 (rowsI acc) 0 false]) rfl (Nat.zero_le _) 18
  rw [List.drop_zero, List.take_of_length_le (Nat.le_refl _)] at this
  simp only [optMap, this, Option.bind_some]
  rfl
end Go.Mx.Tryz
