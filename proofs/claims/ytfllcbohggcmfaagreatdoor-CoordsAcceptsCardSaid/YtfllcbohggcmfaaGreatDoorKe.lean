/- coords.cell on numerals. -/
import Derived.Test.YtfllcbohggcmfaaGreatDoorAu
set_option linter.unusedSimpArgs false
set_option linter.unusedVariables false
set_option linter.unusedSectionVars false
set_option maxRecDepth 100000
namespace Go.Mx.Tryz

theorem cell_2 (line : List Nat) (hl : line.length ≤ 1000000) (x y : Int) (hs : spl 32 line = [itoaN x, itoaN y]) (hx : -1048576 ≤ x ∧ x ≤ 1048576) (hy : -1048576 ≤ y ∧ y ≤ 1048576) (H : Hp) :
    Gives G 20 [.m (.s line)] H (.tu [.m (.ag [.i .i64 x, .i .i64 y, .i .i64 1]), .m (.i .i64 0)]) H := by
  refine gives_pur rfl rfl rfl rfl rfl ?_
  have gs := fun H => split_s line hl 32 (by omega) H
  rw [hs] at gs
  have gx := fun H => number_c x (by omega) (by omega) H
  have gy := fun H => number_c y (by omega) (by omega) H
  have hz : celS [itoaN x, itoaN y] = [[.s (itoaN x)], [.s (itoaN y)]] := rfl
  rw [hz] at gs
  have wx : wr .i64 (-x) = -x := wr_i64 (by omega) (by omega)
  have wy : wr .i64 (-y) = -y := wr_i64 (by omega) (by omega)
  have m1 : ¬ 1048576 < max x (max (-x) (max y (-y))) := by omega
  have m2 : ¬ min x y < -1048576 := by omega
  simp (maxSteps := 2000000) (disch := omega) [gd_in, gd_and, wr_i64, cl (gs _)]
  unfold c20_B0
  simp (maxSteps := 2000000) (disch := omega) [gd_in, gd_and, wr_i64, cl (gx _)]
  unfold c20_B0
  simp (maxSteps := 2000000) (disch := omega) [gd_in, gd_and, wr_i64, cl (gy _)]
  unfold c20_B0
  simp (maxSteps := 2000000) (disch := omega) [gd_in, gd_and, wr_i64, wx, wy, m1, m2]
theorem cell_3 (line : List Nat) (hl : line.length ≤ 1000000) (x y z : Int) (hs : spl 32 line = [itoaN x, itoaN y, itoaN z]) (hx : -1048576 ≤ x ∧ x ≤ 1048576) (hy : -1048576 ≤ y ∧ y ≤ 1048576) (hz : 1 ≤ z ∧ z < 8) (H : Hp) :
    Gives G 20 [.m (.s line)] H (.tu [.m (.ag [.i .i64 x, .i .i64 y, .i .i64 z]), .m (.i .i64 0)]) H := by
  refine gives_pur rfl rfl rfl rfl rfl ?_
  have gs := fun H => split_s line hl 32 (by omega) H
  rw [hs] at gs
  have gx := fun H => number_c x (by omega) (by omega) H
  have gy := fun H => number_c y (by omega) (by omega) H
  have gz := fun H => number_c z (by omega) (by omega) H
  have hzs : celS [itoaN x, itoaN y, itoaN z] = [[.s (itoaN x)], [.s (itoaN y)], [.s (itoaN z)]] := rfl
  rw [hzs] at gs
  have wx : wr .i64 (-x) = -x := wr_i64 (by omega) (by omega)
  have wy : wr .i64 (-y) = -y := wr_i64 (by omega) (by omega)
  have m1 : ¬ 1048576 < max x (max (-x) (max y (-y))) := by omega
  have m2 : ¬ min x y < -1048576 := by omega
  have m3 : ¬ z < 1 := by omega
  have m4 : ¬ 8 ≤ z := by omega
  simp (maxSteps := 2000000) (disch := omega) [gd_in, gd_and, wr_i64, cl (gs _)]
  unfold c20_B0
  simp (maxSteps := 2000000) (disch := omega) [gd_in, gd_and, wr_i64, cl (gx _)]
  unfold c20_B0
  simp (maxSteps := 2000000) (disch := omega) [gd_in, gd_and, wr_i64, cl (gy _)]
  unfold c20_B0
  simp (maxSteps := 2000000) (disch := omega) [gd_in, gd_and, wr_i64, cl (gz _)]
  unfold c20_B0
  simp (maxSteps := 2000000) (disch := omega) [gd_in, gd_and, wr_i64, wx, wy, m1, m2, m3, m4]
end Go.Mx.Tryz
