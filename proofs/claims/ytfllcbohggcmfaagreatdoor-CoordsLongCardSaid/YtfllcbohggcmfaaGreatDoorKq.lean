/- Same of a pattern with itself. -/
import Derived.Test.YtfllcbohggcmfaaGreatDoorPt
set_option linter.unusedSimpArgs false
set_option linter.unusedVariables false
set_option linter.unusedSectionVars false
set_option maxRecDepth 100000
namespace Go.Mx.Tryz
open Go.Lib

theorem comp_r {v w : I} {p : List Ce} (hv : IsSl v (cells3 p)) (hw : IsSl w (cells3 p)) (hl : p.length ≤ 9223372036854775807) (H : Hp) : Gives G 26 [.m v, .m w] H (.m (.i .i64 0)) H := by
 refine gives_pur rfl rfl rfl rfl rfl ?_
 have go : ∀ x : Int, ∀ H, Gives G 48 [.m (.i .i64 x), .m (.i .i64 x)] H (.m (.i .i64 0)) H := fun x H => by
  refine gives_pur rfl rfl rfl rfl rfl ?_
  simp
 simp (contextual := true) (maxSteps := 2000000) (disch := omega) [test_cx, rest_cx, gcall_cx, gcav_cx, -Int.not_lt, -Int.not_le, -Nat.not_lt, -Nat.not_le, -List.map_take]
 refine (?key : ∀ (i : Nat), i ≤ p.length → Run G c26_B0 (S26_0 (.m v) (.m w) (.m (.i .i64 i)) [] []) _) 0 (Nat.zero_le _)
 refine indM (fun i : Nat => p.length - i) fun i ih hi => ?_
 unfold c26_B0
 cases hx : p[i]? with
 | none =>
  have : i = p.length := by have := List.getElem?_eq_none_iff.1 hx; omega
  subst this
  simp (contextual := true) (maxSteps := 2000000) (disch := omega) [test_cx, rest_cx, gcall_cx, gcav_cx, -Int.not_lt, -Int.not_le, -Nat.not_lt, -Nat.not_le, -List.map_take, hv.rules, hw.rules, cl (go _ _)]
 | some c =>
  have hlt := (get_drop hx).1
  have hn := cells3_nth hx
  have hi' : (i : Int) < p.length := by omega
  have ih := ih (i + 1) (by omega) (by omega)
  simp (contextual := true) (maxSteps := 2000000) (disch := omega) [test_cx, rest_cx, gcall_cx, gcav_cx, -Int.not_lt, -Int.not_le, -Nat.not_lt, -Nat.not_le, -List.map_take, hv.rules, hw.rules, hn, hi', wr_i64]
  simpa using ih
theorem same_r {v w : I} {p : List Ce} (hv : IsSl v (cells3 p)) (hw : IsSl w (cells3 p)) (hl : p.length ≤ 9223372036854775807) (H : Hp) : Gives G 12 [.m v, .m w] H (.m (.b true)) H := by
 refine gives_pur rfl rfl rfl rfl rfl ?_
 simp (contextual := true) (maxSteps := 2000000) (disch := omega) [test_cx, rest_cx, gcall_cx, gcav_cx, -Int.not_lt, -Int.not_le, -Nat.not_lt, -Nat.not_le, -List.map_take, cl (comp_r hv hw hl _)]
end Go.Mx.Tryz
