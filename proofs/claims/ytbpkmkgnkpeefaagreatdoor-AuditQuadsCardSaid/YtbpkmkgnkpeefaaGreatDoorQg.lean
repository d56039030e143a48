/- The least and the greatest of four numbers. -/
import Derived.Test.YtbpkmkgnkpeefaaGreatDoorQe
set_option linter.unusedSimpArgs false
set_option linter.unusedVariables false
set_option linter.unusedSectionVars false
set_option maxRecDepth 100000
namespace Go.Mx.Tryz
open Go.Lib Go.Proofs

set_option maxHeartbeats 2000000 in
theorem min4 (a b c d : Int) (H : Hp) : ∃ m : Int, (m = min (min (min a b) c) d) ∧ Gives G 24 [.m (.sl [[.i .i64 a], [.i .i64 b], [.i .i64 c], [.i .i64 d]])] H (.m (.i .i64 m)) H := by
 refine ⟨_, rfl, ?_⟩
 have w1 : wr .i64 (1 + 1) = 2 := by decide
 have w2 : wr .i64 (2 + 1) = 3 := by decide
 have w3 : wr .i64 (3 + 1) = 4 := by decide
 refine gives_pur rfl rfl rfl rfl rfl ?_
 simp (maxSteps := 2000000) (disch := omega) [gd_in, gd_and, wr_i64, w1, w2, w3]
 iterate 3
  unfold c24_B0
  simp (maxSteps := 2000000) (disch := omega) [gd_in, gd_and, wr_i64, w1, w2, w3]
 unfold c24_B0
 simp (maxSteps := 2000000) (disch := omega) [gd_in, gd_and, wr_i64, w1, w2, w3]
set_option maxHeartbeats 2000000 in
theorem max4 (a b c d : Int) (H : Hp) : ∃ m : Int, (m = max (max (max a b) c) d) ∧ Gives G 25 [.m (.sl [[.i .i64 a], [.i .i64 b], [.i .i64 c], [.i .i64 d]])] H (.m (.i .i64 m)) H := by
 refine ⟨_, rfl, ?_⟩
 have w1 : wr .i64 (1 + 1) = 2 := by decide
 have w2 : wr .i64 (2 + 1) = 3 := by decide
 have w3 : wr .i64 (3 + 1) = 4 := by decide
 refine gives_pur rfl rfl rfl rfl rfl ?_
 simp (maxSteps := 2000000) (disch := omega) [gd_in, gd_and, wr_i64, w1, w2, w3]
 iterate 3
  unfold c25_B0
  simp (maxSteps := 2000000) (disch := omega) [gd_in, gd_and, wr_i64, w1, w2, w3]
 unfold c25_B0
 simp (maxSteps := 2000000) (disch := omega) [gd_in, gd_and, wr_i64, w1, w2, w3]
end Go.Mx.Tryz
