/- Levels of a store. -/
import Derived.Test.YtbpkmkgnkpeefaaGreatDoorQe
set_option linter.unusedSimpArgs false
set_option linter.unusedVariables false
set_option linter.unusedSectionVars false
set_option maxRecDepth 100000
namespace Go.Mx.Tryz
open Go.Lib Go.Proofs

def lvZ (s : Int) (L : List Int) (k : Int) : Int := if k < 0 ∨ s + (L.length : Int) ≤ k then -1 else lvA s L k
set_option maxHeartbeats 2000000 in
theorem level_st {n w kn : I} {s k : Int} {es : List (List I)} {L : List Int} (hn : IsSl n es) (hw : IsSl w (celI L)) (he : es.length = L.length) (hs : 2 ≤ s ∧ s ≤ 8) (hl : L.length ≤ 100000) (H : Hp) : Gives G 131 [.m (.pt [.i .i64 s, n, w, kn]), .m (.i .i64 k)] H (.m (.i .i64 (lvZ s L k))) H := by
 have hrn := hn.rules
 rw [he] at hrn
 have hrw := hw.rules
 simp only [celI_len] at hrw
 have wl : wr .i64 (s + (L.length : Int)) = s + (L.length : Int) := wr_i64 (by omega) (by omega)
 have ni : isNil 0 (.m (.pt [.i .i64 s, n, w, kn])) = some false := rfl
 have nc : pureX .nck [.m (.pt [.i .i64 s, n, w, kn])] = some (.m (.pt [.i .i64 s, n, w, kn])) := rfl
 refine gives_pur rfl rfl rfl rfl rfl ?_
 by_cases h0 : k < 0
 ·have e : lvZ s L k = -1 := by unfold lvZ; rw [if_pos (.inl h0)]
  simp (maxSteps := 2000000) (disch := omega) [gd_in, gd_and, wr_i64, ni, nc, h0, e]
 by_cases h1 : s + (L.length : Int) ≤ k
 ·have e : lvZ s L k = -1 := by unfold lvZ; rw [if_pos (.inr h1)]
  simp (maxSteps := 2000000) (disch := omega) [gd_in, gd_and, wr_i64, ni, nc, hrn, h0, wl, h1, e]
 have e : lvZ s L k = lvA s L k := by unfold lvZ; rw [if_neg (by omega)]
 rw [e]
 by_cases h2 : k < s
 ·have e : lvA s L k = 0 := by unfold lvA; rw [if_pos h2]
  simp (maxSteps := 2000000) (disch := omega) [gd_in, gd_and, wr_i64, ni, nc, hrn, h0, wl, h1, h2, e]
 ·obtain ⟨j, hj⟩ : ∃ j, j = (k - s).toNat := ⟨_, rfl⟩
  obtain ⟨y, hy⟩ : ∃ y, L[j]? = some y := ⟨_, List.getElem?_eq_getElem (by omega)⟩
  have e : lvA s L k = y := by unfold lvA; rw [if_neg h2, ← hj, List.getD_eq_getElem?_getD, hy]; rfl
  have hnt := celI_nth hy
  have w1 : wr .i64 (k - s) = (j : Int) := by rw [wr_i64 (by omega) (by omega)]; omega
  have hjl : j < L.length := by omega
  have hjl2 : (j : Int) < L.length := by omega
  simp (maxSteps := 2000000) (disch := omega) [gd_in, gd_and, wr_i64, ni, nc, hrn, hrw, h0, wl, h1, h2, w1, hjl, hjl2, hnt, e]
end Go.Mx.Tryz
