/- Apply of the symmetries, of the program and of the reference. -/
import Derived.Test.YtchacpbmpgfblaaDoorSeav
import Derived.KernelRfl
set_option linter.unusedSimpArgs false
set_option linter.unusedVariables false
set_option linter.unusedSectionVars false
set_option maxRecDepth 100000
namespace Go.Mx.Tryd
open Go.Proofs

def compT (a b : Nat) : Nat := ([[0, 1, 2, 3, 4, 5, 6, 7], [1, 2, 3, 0, 7, 4, 5, 6], [2, 3, 0, 1, 6, 7, 4, 5], [3, 0, 1, 2, 5, 6, 7, 4], [4, 5, 6, 7, 0, 1, 2, 3], [5, 6, 7, 4, 3, 0, 1, 2], [6, 7, 4, 5, 2, 3, 0, 1], [7, 4, 5, 6, 1, 2, 3, 0]] : List (List Nat)).getD a [] |>.getD b 0
theorem comp_s00 (H : Hp) : callM G 30 60 [.m (.i .i64 0), .m (.i .i64 0)] H = some (.m (.i .i64 0), H) := by kernel_rfl
theorem comp_s01 (H : Hp) : callM G 30 60 [.m (.i .i64 0), .m (.i .i64 1)] H = some (.m (.i .i64 1), H) := by kernel_rfl
theorem comp_s02 (H : Hp) : callM G 30 60 [.m (.i .i64 0), .m (.i .i64 2)] H = some (.m (.i .i64 2), H) := by kernel_rfl
theorem comp_s03 (H : Hp) : callM G 30 60 [.m (.i .i64 0), .m (.i .i64 3)] H = some (.m (.i .i64 3), H) := by kernel_rfl
theorem comp_s04 (H : Hp) : callM G 30 60 [.m (.i .i64 0), .m (.i .i64 4)] H = some (.m (.i .i64 4), H) := by kernel_rfl
theorem comp_s05 (H : Hp) : callM G 30 60 [.m (.i .i64 0), .m (.i .i64 5)] H = some (.m (.i .i64 5), H) := by kernel_rfl
theorem comp_s06 (H : Hp) : callM G 30 60 [.m (.i .i64 0), .m (.i .i64 6)] H = some (.m (.i .i64 6), H) := by kernel_rfl
theorem comp_s07 (H : Hp) : callM G 30 60 [.m (.i .i64 0), .m (.i .i64 7)] H = some (.m (.i .i64 7), H) := by kernel_rfl
theorem comp_s10 (H : Hp) : callM G 30 60 [.m (.i .i64 1), .m (.i .i64 0)] H = some (.m (.i .i64 1), H) := by kernel_rfl
theorem comp_s11 (H : Hp) : callM G 30 60 [.m (.i .i64 1), .m (.i .i64 1)] H = some (.m (.i .i64 2), H) := by kernel_rfl
theorem comp_s12 (H : Hp) : callM G 30 60 [.m (.i .i64 1), .m (.i .i64 2)] H = some (.m (.i .i64 3), H) := by kernel_rfl
theorem comp_s13 (H : Hp) : callM G 30 60 [.m (.i .i64 1), .m (.i .i64 3)] H = some (.m (.i .i64 0), H) := by kernel_rfl
theorem comp_s14 (H : Hp) : callM G 30 60 [.m (.i .i64 1), .m (.i .i64 4)] H = some (.m (.i .i64 7), H) := by kernel_rfl
theorem comp_s15 (H : Hp) : callM G 30 60 [.m (.i .i64 1), .m (.i .i64 5)] H = some (.m (.i .i64 4), H) := by kernel_rfl
theorem comp_s16 (H : Hp) : callM G 30 60 [.m (.i .i64 1), .m (.i .i64 6)] H = some (.m (.i .i64 5), H) := by kernel_rfl
theorem comp_s17 (H : Hp) : callM G 30 60 [.m (.i .i64 1), .m (.i .i64 7)] H = some (.m (.i .i64 6), H) := by kernel_rfl
theorem comp_s20 (H : Hp) : callM G 30 60 [.m (.i .i64 2), .m (.i .i64 0)] H = some (.m (.i .i64 2), H) := by kernel_rfl
theorem comp_s21 (H : Hp) : callM G 30 60 [.m (.i .i64 2), .m (.i .i64 1)] H = some (.m (.i .i64 3), H) := by kernel_rfl
theorem comp_s22 (H : Hp) : callM G 30 60 [.m (.i .i64 2), .m (.i .i64 2)] H = some (.m (.i .i64 0), H) := by kernel_rfl
theorem comp_s23 (H : Hp) : callM G 30 60 [.m (.i .i64 2), .m (.i .i64 3)] H = some (.m (.i .i64 1), H) := by kernel_rfl
theorem comp_s24 (H : Hp) : callM G 30 60 [.m (.i .i64 2), .m (.i .i64 4)] H = some (.m (.i .i64 6), H) := by kernel_rfl
theorem comp_s25 (H : Hp) : callM G 30 60 [.m (.i .i64 2), .m (.i .i64 5)] H = some (.m (.i .i64 7), H) := by kernel_rfl
theorem comp_s26 (H : Hp) : callM G 30 60 [.m (.i .i64 2), .m (.i .i64 6)] H = some (.m (.i .i64 4), H) := by kernel_rfl
theorem comp_s27 (H : Hp) : callM G 30 60 [.m (.i .i64 2), .m (.i .i64 7)] H = some (.m (.i .i64 5), H) := by kernel_rfl
theorem comp_s30 (H : Hp) : callM G 30 60 [.m (.i .i64 3), .m (.i .i64 0)] H = some (.m (.i .i64 3), H) := by kernel_rfl
theorem comp_s31 (H : Hp) : callM G 30 60 [.m (.i .i64 3), .m (.i .i64 1)] H = some (.m (.i .i64 0), H) := by kernel_rfl
theorem comp_s32 (H : Hp) : callM G 30 60 [.m (.i .i64 3), .m (.i .i64 2)] H = some (.m (.i .i64 1), H) := by kernel_rfl
theorem comp_s33 (H : Hp) : callM G 30 60 [.m (.i .i64 3), .m (.i .i64 3)] H = some (.m (.i .i64 2), H) := by kernel_rfl
theorem comp_s34 (H : Hp) : callM G 30 60 [.m (.i .i64 3), .m (.i .i64 4)] H = some (.m (.i .i64 5), H) := by kernel_rfl
theorem comp_s35 (H : Hp) : callM G 30 60 [.m (.i .i64 3), .m (.i .i64 5)] H = some (.m (.i .i64 6), H) := by kernel_rfl
theorem comp_s36 (H : Hp) : callM G 30 60 [.m (.i .i64 3), .m (.i .i64 6)] H = some (.m (.i .i64 7), H) := by kernel_rfl
theorem comp_s37 (H : Hp) : callM G 30 60 [.m (.i .i64 3), .m (.i .i64 7)] H = some (.m (.i .i64 4), H) := by kernel_rfl
theorem comp_s40 (H : Hp) : callM G 30 60 [.m (.i .i64 4), .m (.i .i64 0)] H = some (.m (.i .i64 4), H) := by kernel_rfl
theorem comp_s41 (H : Hp) : callM G 30 60 [.m (.i .i64 4), .m (.i .i64 1)] H = some (.m (.i .i64 5), H) := by kernel_rfl
theorem comp_s42 (H : Hp) : callM G 30 60 [.m (.i .i64 4), .m (.i .i64 2)] H = some (.m (.i .i64 6), H) := by kernel_rfl
theorem comp_s43 (H : Hp) : callM G 30 60 [.m (.i .i64 4), .m (.i .i64 3)] H = some (.m (.i .i64 7), H) := by kernel_rfl
theorem comp_s44 (H : Hp) : callM G 30 60 [.m (.i .i64 4), .m (.i .i64 4)] H = some (.m (.i .i64 0), H) := by kernel_rfl
theorem comp_s45 (H : Hp) : callM G 30 60 [.m (.i .i64 4), .m (.i .i64 5)] H = some (.m (.i .i64 1), H) := by kernel_rfl
theorem comp_s46 (H : Hp) : callM G 30 60 [.m (.i .i64 4), .m (.i .i64 6)] H = some (.m (.i .i64 2), H) := by kernel_rfl
theorem comp_s47 (H : Hp) : callM G 30 60 [.m (.i .i64 4), .m (.i .i64 7)] H = some (.m (.i .i64 3), H) := by kernel_rfl
theorem comp_s50 (H : Hp) : callM G 30 60 [.m (.i .i64 5), .m (.i .i64 0)] H = some (.m (.i .i64 5), H) := by kernel_rfl
theorem comp_s51 (H : Hp) : callM G 30 60 [.m (.i .i64 5), .m (.i .i64 1)] H = some (.m (.i .i64 6), H) := by kernel_rfl
theorem comp_s52 (H : Hp) : callM G 30 60 [.m (.i .i64 5), .m (.i .i64 2)] H = some (.m (.i .i64 7), H) := by kernel_rfl
theorem comp_s53 (H : Hp) : callM G 30 60 [.m (.i .i64 5), .m (.i .i64 3)] H = some (.m (.i .i64 4), H) := by kernel_rfl
theorem comp_s54 (H : Hp) : callM G 30 60 [.m (.i .i64 5), .m (.i .i64 4)] H = some (.m (.i .i64 3), H) := by kernel_rfl
theorem comp_s55 (H : Hp) : callM G 30 60 [.m (.i .i64 5), .m (.i .i64 5)] H = some (.m (.i .i64 0), H) := by kernel_rfl
theorem comp_s56 (H : Hp) : callM G 30 60 [.m (.i .i64 5), .m (.i .i64 6)] H = some (.m (.i .i64 1), H) := by kernel_rfl
theorem comp_s57 (H : Hp) : callM G 30 60 [.m (.i .i64 5), .m (.i .i64 7)] H = some (.m (.i .i64 2), H) := by kernel_rfl
theorem comp_s60 (H : Hp) : callM G 30 60 [.m (.i .i64 6), .m (.i .i64 0)] H = some (.m (.i .i64 6), H) := by kernel_rfl
theorem comp_s61 (H : Hp) : callM G 30 60 [.m (.i .i64 6), .m (.i .i64 1)] H = some (.m (.i .i64 7), H) := by kernel_rfl
theorem comp_s62 (H : Hp) : callM G 30 60 [.m (.i .i64 6), .m (.i .i64 2)] H = some (.m (.i .i64 4), H) := by kernel_rfl
theorem comp_s63 (H : Hp) : callM G 30 60 [.m (.i .i64 6), .m (.i .i64 3)] H = some (.m (.i .i64 5), H) := by kernel_rfl
theorem comp_s64 (H : Hp) : callM G 30 60 [.m (.i .i64 6), .m (.i .i64 4)] H = some (.m (.i .i64 2), H) := by kernel_rfl
theorem comp_s65 (H : Hp) : callM G 30 60 [.m (.i .i64 6), .m (.i .i64 5)] H = some (.m (.i .i64 3), H) := by kernel_rfl
theorem comp_s66 (H : Hp) : callM G 30 60 [.m (.i .i64 6), .m (.i .i64 6)] H = some (.m (.i .i64 0), H) := by kernel_rfl
theorem comp_s67 (H : Hp) : callM G 30 60 [.m (.i .i64 6), .m (.i .i64 7)] H = some (.m (.i .i64 1), H) := by kernel_rfl
theorem comp_s70 (H : Hp) : callM G 30 60 [.m (.i .i64 7), .m (.i .i64 0)] H = some (.m (.i .i64 7), H) := by kernel_rfl
theorem comp_s71 (H : Hp) : callM G 30 60 [.m (.i .i64 7), .m (.i .i64 1)] H = some (.m (.i .i64 4), H) := by kernel_rfl
theorem comp_s72 (H : Hp) : callM G 30 60 [.m (.i .i64 7), .m (.i .i64 2)] H = some (.m (.i .i64 5), H) := by kernel_rfl
theorem comp_s73 (H : Hp) : callM G 30 60 [.m (.i .i64 7), .m (.i .i64 3)] H = some (.m (.i .i64 6), H) := by kernel_rfl
theorem comp_s74 (H : Hp) : callM G 30 60 [.m (.i .i64 7), .m (.i .i64 4)] H = some (.m (.i .i64 1), H) := by kernel_rfl
theorem comp_s75 (H : Hp) : callM G 30 60 [.m (.i .i64 7), .m (.i .i64 5)] H = some (.m (.i .i64 2), H) := by kernel_rfl
theorem comp_s76 (H : Hp) : callM G 30 60 [.m (.i .i64 7), .m (.i .i64 6)] H = some (.m (.i .i64 3), H) := by kernel_rfl
theorem comp_s77 (H : Hp) : callM G 30 60 [.m (.i .i64 7), .m (.i .i64 7)] H = some (.m (.i .i64 0), H) := by kernel_rfl
theorem compose_s (a b : Nat) (ha : a < 8) (hb : b < 8) (H : Hp) : Gives G 60 [.m (.i .i64 (a : Int)), .m (.i .i64 (b : Int))] H (.m (.i .i64 (compT a b : Nat))) H := by
 match a, b, ha, hb with
 | 0, 0, _, _ => exact ⟨30, comp_s00 H⟩
 | 0, 1, _, _ => exact ⟨30, comp_s01 H⟩
 | 0, 2, _, _ => exact ⟨30, comp_s02 H⟩
 | 0, 3, _, _ => exact ⟨30, comp_s03 H⟩
 | 0, 4, _, _ => exact ⟨30, comp_s04 H⟩
 | 0, 5, _, _ => exact ⟨30, comp_s05 H⟩
 | 0, 6, _, _ => exact ⟨30, comp_s06 H⟩
 | 0, 7, _, _ => exact ⟨30, comp_s07 H⟩
 | 1, 0, _, _ => exact ⟨30, comp_s10 H⟩
 | 1, 1, _, _ => exact ⟨30, comp_s11 H⟩
 | 1, 2, _, _ => exact ⟨30, comp_s12 H⟩
 | 1, 3, _, _ => exact ⟨30, comp_s13 H⟩
 | 1, 4, _, _ => exact ⟨30, comp_s14 H⟩
 | 1, 5, _, _ => exact ⟨30, comp_s15 H⟩
 | 1, 6, _, _ => exact ⟨30, comp_s16 H⟩
 | 1, 7, _, _ => exact ⟨30, comp_s17 H⟩
 | 2, 0, _, _ => exact ⟨30, comp_s20 H⟩
 | 2, 1, _, _ => exact ⟨30, comp_s21 H⟩
 | 2, 2, _, _ => exact ⟨30, comp_s22 H⟩
 | 2, 3, _, _ => exact ⟨30, comp_s23 H⟩
 | 2, 4, _, _ => exact ⟨30, comp_s24 H⟩
 | 2, 5, _, _ => exact ⟨30, comp_s25 H⟩
 | 2, 6, _, _ => exact ⟨30, comp_s26 H⟩
 | 2, 7, _, _ => exact ⟨30, comp_s27 H⟩
 | 3, 0, _, _ => exact ⟨30, comp_s30 H⟩
 | 3, 1, _, _ => exact ⟨30, comp_s31 H⟩
 | 3, 2, _, _ => exact ⟨30, comp_s32 H⟩
 | 3, 3, _, _ => exact ⟨30, comp_s33 H⟩
 | 3, 4, _, _ => exact ⟨30, comp_s34 H⟩
 | 3, 5, _, _ => exact ⟨30, comp_s35 H⟩
 | 3, 6, _, _ => exact ⟨30, comp_s36 H⟩
 | 3, 7, _, _ => exact ⟨30, comp_s37 H⟩
 | 4, 0, _, _ => exact ⟨30, comp_s40 H⟩
 | 4, 1, _, _ => exact ⟨30, comp_s41 H⟩
 | 4, 2, _, _ => exact ⟨30, comp_s42 H⟩
 | 4, 3, _, _ => exact ⟨30, comp_s43 H⟩
 | 4, 4, _, _ => exact ⟨30, comp_s44 H⟩
 | 4, 5, _, _ => exact ⟨30, comp_s45 H⟩
 | 4, 6, _, _ => exact ⟨30, comp_s46 H⟩
 | 4, 7, _, _ => exact ⟨30, comp_s47 H⟩
 | 5, 0, _, _ => exact ⟨30, comp_s50 H⟩
 | 5, 1, _, _ => exact ⟨30, comp_s51 H⟩
 | 5, 2, _, _ => exact ⟨30, comp_s52 H⟩
 | 5, 3, _, _ => exact ⟨30, comp_s53 H⟩
 | 5, 4, _, _ => exact ⟨30, comp_s54 H⟩
 | 5, 5, _, _ => exact ⟨30, comp_s55 H⟩
 | 5, 6, _, _ => exact ⟨30, comp_s56 H⟩
 | 5, 7, _, _ => exact ⟨30, comp_s57 H⟩
 | 6, 0, _, _ => exact ⟨30, comp_s60 H⟩
 | 6, 1, _, _ => exact ⟨30, comp_s61 H⟩
 | 6, 2, _, _ => exact ⟨30, comp_s62 H⟩
 | 6, 3, _, _ => exact ⟨30, comp_s63 H⟩
 | 6, 4, _, _ => exact ⟨30, comp_s64 H⟩
 | 6, 5, _, _ => exact ⟨30, comp_s65 H⟩
 | 6, 6, _, _ => exact ⟨30, comp_s66 H⟩
 | 6, 7, _, _ => exact ⟨30, comp_s67 H⟩
 | 7, 0, _, _ => exact ⟨30, comp_s70 H⟩
 | 7, 1, _, _ => exact ⟨30, comp_s71 H⟩
 | 7, 2, _, _ => exact ⟨30, comp_s72 H⟩
 | 7, 3, _, _ => exact ⟨30, comp_s73 H⟩
 | 7, 4, _, _ => exact ⟨30, comp_s74 H⟩
 | 7, 5, _, _ => exact ⟨30, comp_s75 H⟩
 | 7, 6, _, _ => exact ⟨30, comp_s76 H⟩
 | 7, 7, _, _ => exact ⟨30, comp_s77 H⟩
 | _ + 8, _, ha, _ => omega
 | _, _ + 8, _, hb => omega
theorem comp_r00 (H : Hp) : callM G 30 38 [.m (.i .i64 0), .m (.i .i64 0)] H = some (.m (.i .i64 0), H) := by kernel_rfl
theorem comp_r01 (H : Hp) : callM G 30 38 [.m (.i .i64 0), .m (.i .i64 1)] H = some (.m (.i .i64 1), H) := by kernel_rfl
theorem comp_r02 (H : Hp) : callM G 30 38 [.m (.i .i64 0), .m (.i .i64 2)] H = some (.m (.i .i64 2), H) := by kernel_rfl
theorem comp_r03 (H : Hp) : callM G 30 38 [.m (.i .i64 0), .m (.i .i64 3)] H = some (.m (.i .i64 3), H) := by kernel_rfl
theorem comp_r04 (H : Hp) : callM G 30 38 [.m (.i .i64 0), .m (.i .i64 4)] H = some (.m (.i .i64 4), H) := by kernel_rfl
theorem comp_r05 (H : Hp) : callM G 30 38 [.m (.i .i64 0), .m (.i .i64 5)] H = some (.m (.i .i64 5), H) := by kernel_rfl
theorem comp_r06 (H : Hp) : callM G 30 38 [.m (.i .i64 0), .m (.i .i64 6)] H = some (.m (.i .i64 6), H) := by kernel_rfl
theorem comp_r07 (H : Hp) : callM G 30 38 [.m (.i .i64 0), .m (.i .i64 7)] H = some (.m (.i .i64 7), H) := by kernel_rfl
theorem comp_r10 (H : Hp) : callM G 30 38 [.m (.i .i64 1), .m (.i .i64 0)] H = some (.m (.i .i64 1), H) := by kernel_rfl
theorem comp_r11 (H : Hp) : callM G 30 38 [.m (.i .i64 1), .m (.i .i64 1)] H = some (.m (.i .i64 2), H) := by kernel_rfl
theorem comp_r12 (H : Hp) : callM G 30 38 [.m (.i .i64 1), .m (.i .i64 2)] H = some (.m (.i .i64 3), H) := by kernel_rfl
theorem comp_r13 (H : Hp) : callM G 30 38 [.m (.i .i64 1), .m (.i .i64 3)] H = some (.m (.i .i64 0), H) := by kernel_rfl
theorem comp_r14 (H : Hp) : callM G 30 38 [.m (.i .i64 1), .m (.i .i64 4)] H = some (.m (.i .i64 7), H) := by kernel_rfl
theorem comp_r15 (H : Hp) : callM G 30 38 [.m (.i .i64 1), .m (.i .i64 5)] H = some (.m (.i .i64 4), H) := by kernel_rfl
theorem comp_r16 (H : Hp) : callM G 30 38 [.m (.i .i64 1), .m (.i .i64 6)] H = some (.m (.i .i64 5), H) := by kernel_rfl
theorem comp_r17 (H : Hp) : callM G 30 38 [.m (.i .i64 1), .m (.i .i64 7)] H = some (.m (.i .i64 6), H) := by kernel_rfl
theorem comp_r20 (H : Hp) : callM G 30 38 [.m (.i .i64 2), .m (.i .i64 0)] H = some (.m (.i .i64 2), H) := by kernel_rfl
theorem comp_r21 (H : Hp) : callM G 30 38 [.m (.i .i64 2), .m (.i .i64 1)] H = some (.m (.i .i64 3), H) := by kernel_rfl
theorem comp_r22 (H : Hp) : callM G 30 38 [.m (.i .i64 2), .m (.i .i64 2)] H = some (.m (.i .i64 0), H) := by kernel_rfl
theorem comp_r23 (H : Hp) : callM G 30 38 [.m (.i .i64 2), .m (.i .i64 3)] H = some (.m (.i .i64 1), H) := by kernel_rfl
theorem comp_r24 (H : Hp) : callM G 30 38 [.m (.i .i64 2), .m (.i .i64 4)] H = some (.m (.i .i64 6), H) := by kernel_rfl
theorem comp_r25 (H : Hp) : callM G 30 38 [.m (.i .i64 2), .m (.i .i64 5)] H = some (.m (.i .i64 7), H) := by kernel_rfl
theorem comp_r26 (H : Hp) : callM G 30 38 [.m (.i .i64 2), .m (.i .i64 6)] H = some (.m (.i .i64 4), H) := by kernel_rfl
theorem comp_r27 (H : Hp) : callM G 30 38 [.m (.i .i64 2), .m (.i .i64 7)] H = some (.m (.i .i64 5), H) := by kernel_rfl
theorem comp_r30 (H : Hp) : callM G 30 38 [.m (.i .i64 3), .m (.i .i64 0)] H = some (.m (.i .i64 3), H) := by kernel_rfl
theorem comp_r31 (H : Hp) : callM G 30 38 [.m (.i .i64 3), .m (.i .i64 1)] H = some (.m (.i .i64 0), H) := by kernel_rfl
theorem comp_r32 (H : Hp) : callM G 30 38 [.m (.i .i64 3), .m (.i .i64 2)] H = some (.m (.i .i64 1), H) := by kernel_rfl
theorem comp_r33 (H : Hp) : callM G 30 38 [.m (.i .i64 3), .m (.i .i64 3)] H = some (.m (.i .i64 2), H) := by kernel_rfl
theorem comp_r34 (H : Hp) : callM G 30 38 [.m (.i .i64 3), .m (.i .i64 4)] H = some (.m (.i .i64 5), H) := by kernel_rfl
theorem comp_r35 (H : Hp) : callM G 30 38 [.m (.i .i64 3), .m (.i .i64 5)] H = some (.m (.i .i64 6), H) := by kernel_rfl
theorem comp_r36 (H : Hp) : callM G 30 38 [.m (.i .i64 3), .m (.i .i64 6)] H = some (.m (.i .i64 7), H) := by kernel_rfl
theorem comp_r37 (H : Hp) : callM G 30 38 [.m (.i .i64 3), .m (.i .i64 7)] H = some (.m (.i .i64 4), H) := by kernel_rfl
theorem comp_r40 (H : Hp) : callM G 30 38 [.m (.i .i64 4), .m (.i .i64 0)] H = some (.m (.i .i64 4), H) := by kernel_rfl
theorem comp_r41 (H : Hp) : callM G 30 38 [.m (.i .i64 4), .m (.i .i64 1)] H = some (.m (.i .i64 5), H) := by kernel_rfl
theorem comp_r42 (H : Hp) : callM G 30 38 [.m (.i .i64 4), .m (.i .i64 2)] H = some (.m (.i .i64 6), H) := by kernel_rfl
theorem comp_r43 (H : Hp) : callM G 30 38 [.m (.i .i64 4), .m (.i .i64 3)] H = some (.m (.i .i64 7), H) := by kernel_rfl
theorem comp_r44 (H : Hp) : callM G 30 38 [.m (.i .i64 4), .m (.i .i64 4)] H = some (.m (.i .i64 0), H) := by kernel_rfl
theorem comp_r45 (H : Hp) : callM G 30 38 [.m (.i .i64 4), .m (.i .i64 5)] H = some (.m (.i .i64 1), H) := by kernel_rfl
theorem comp_r46 (H : Hp) : callM G 30 38 [.m (.i .i64 4), .m (.i .i64 6)] H = some (.m (.i .i64 2), H) := by kernel_rfl
theorem comp_r47 (H : Hp) : callM G 30 38 [.m (.i .i64 4), .m (.i .i64 7)] H = some (.m (.i .i64 3), H) := by kernel_rfl
theorem comp_r50 (H : Hp) : callM G 30 38 [.m (.i .i64 5), .m (.i .i64 0)] H = some (.m (.i .i64 5), H) := by kernel_rfl
theorem comp_r51 (H : Hp) : callM G 30 38 [.m (.i .i64 5), .m (.i .i64 1)] H = some (.m (.i .i64 6), H) := by kernel_rfl
theorem comp_r52 (H : Hp) : callM G 30 38 [.m (.i .i64 5), .m (.i .i64 2)] H = some (.m (.i .i64 7), H) := by kernel_rfl
theorem comp_r53 (H : Hp) : callM G 30 38 [.m (.i .i64 5), .m (.i .i64 3)] H = some (.m (.i .i64 4), H) := by kernel_rfl
theorem comp_r54 (H : Hp) : callM G 30 38 [.m (.i .i64 5), .m (.i .i64 4)] H = some (.m (.i .i64 3), H) := by kernel_rfl
theorem comp_r55 (H : Hp) : callM G 30 38 [.m (.i .i64 5), .m (.i .i64 5)] H = some (.m (.i .i64 0), H) := by kernel_rfl
theorem comp_r56 (H : Hp) : callM G 30 38 [.m (.i .i64 5), .m (.i .i64 6)] H = some (.m (.i .i64 1), H) := by kernel_rfl
theorem comp_r57 (H : Hp) : callM G 30 38 [.m (.i .i64 5), .m (.i .i64 7)] H = some (.m (.i .i64 2), H) := by kernel_rfl
theorem comp_r60 (H : Hp) : callM G 30 38 [.m (.i .i64 6), .m (.i .i64 0)] H = some (.m (.i .i64 6), H) := by kernel_rfl
theorem comp_r61 (H : Hp) : callM G 30 38 [.m (.i .i64 6), .m (.i .i64 1)] H = some (.m (.i .i64 7), H) := by kernel_rfl
theorem comp_r62 (H : Hp) : callM G 30 38 [.m (.i .i64 6), .m (.i .i64 2)] H = some (.m (.i .i64 4), H) := by kernel_rfl
theorem comp_r63 (H : Hp) : callM G 30 38 [.m (.i .i64 6), .m (.i .i64 3)] H = some (.m (.i .i64 5), H) := by kernel_rfl
theorem comp_r64 (H : Hp) : callM G 30 38 [.m (.i .i64 6), .m (.i .i64 4)] H = some (.m (.i .i64 2), H) := by kernel_rfl
theorem comp_r65 (H : Hp) : callM G 30 38 [.m (.i .i64 6), .m (.i .i64 5)] H = some (.m (.i .i64 3), H) := by kernel_rfl
theorem comp_r66 (H : Hp) : callM G 30 38 [.m (.i .i64 6), .m (.i .i64 6)] H = some (.m (.i .i64 0), H) := by kernel_rfl
theorem comp_r67 (H : Hp) : callM G 30 38 [.m (.i .i64 6), .m (.i .i64 7)] H = some (.m (.i .i64 1), H) := by kernel_rfl
theorem comp_r70 (H : Hp) : callM G 30 38 [.m (.i .i64 7), .m (.i .i64 0)] H = some (.m (.i .i64 7), H) := by kernel_rfl
theorem comp_r71 (H : Hp) : callM G 30 38 [.m (.i .i64 7), .m (.i .i64 1)] H = some (.m (.i .i64 4), H) := by kernel_rfl
theorem comp_r72 (H : Hp) : callM G 30 38 [.m (.i .i64 7), .m (.i .i64 2)] H = some (.m (.i .i64 5), H) := by kernel_rfl
theorem comp_r73 (H : Hp) : callM G 30 38 [.m (.i .i64 7), .m (.i .i64 3)] H = some (.m (.i .i64 6), H) := by kernel_rfl
theorem comp_r74 (H : Hp) : callM G 30 38 [.m (.i .i64 7), .m (.i .i64 4)] H = some (.m (.i .i64 1), H) := by kernel_rfl
theorem comp_r75 (H : Hp) : callM G 30 38 [.m (.i .i64 7), .m (.i .i64 5)] H = some (.m (.i .i64 2), H) := by kernel_rfl
theorem comp_r76 (H : Hp) : callM G 30 38 [.m (.i .i64 7), .m (.i .i64 6)] H = some (.m (.i .i64 3), H) := by kernel_rfl
theorem comp_r77 (H : Hp) : callM G 30 38 [.m (.i .i64 7), .m (.i .i64 7)] H = some (.m (.i .i64 0), H) := by kernel_rfl
theorem compose_r (a b : Nat) (ha : a < 8) (hb : b < 8) (H : Hp) : Gives G 38 [.m (.i .i64 (a : Int)), .m (.i .i64 (b : Int))] H (.m (.i .i64 (compT a b : Nat))) H := by
 match a, b, ha, hb with
 | 0, 0, _, _ => exact ⟨30, comp_r00 H⟩
 | 0, 1, _, _ => exact ⟨30, comp_r01 H⟩
 | 0, 2, _, _ => exact ⟨30, comp_r02 H⟩
 | 0, 3, _, _ => exact ⟨30, comp_r03 H⟩
 | 0, 4, _, _ => exact ⟨30, comp_r04 H⟩
 | 0, 5, _, _ => exact ⟨30, comp_r05 H⟩
 | 0, 6, _, _ => exact ⟨30, comp_r06 H⟩
 | 0, 7, _, _ => exact ⟨30, comp_r07 H⟩
 | 1, 0, _, _ => exact ⟨30, comp_r10 H⟩
 | 1, 1, _, _ => exact ⟨30, comp_r11 H⟩
 | 1, 2, _, _ => exact ⟨30, comp_r12 H⟩
 | 1, 3, _, _ => exact ⟨30, comp_r13 H⟩
 | 1, 4, _, _ => exact ⟨30, comp_r14 H⟩
 | 1, 5, _, _ => exact ⟨30, comp_r15 H⟩
 | 1, 6, _, _ => exact ⟨30, comp_r16 H⟩
 | 1, 7, _, _ => exact ⟨30, comp_r17 H⟩
 | 2, 0, _, _ => exact ⟨30, comp_r20 H⟩
 | 2, 1, _, _ => exact ⟨30, comp_r21 H⟩
 | 2, 2, _, _ => exact ⟨30, comp_r22 H⟩
 | 2, 3, _, _ => exact ⟨30, comp_r23 H⟩
 | 2, 4, _, _ => exact ⟨30, comp_r24 H⟩
 | 2, 5, _, _ => exact ⟨30, comp_r25 H⟩
 | 2, 6, _, _ => exact ⟨30, comp_r26 H⟩
 | 2, 7, _, _ => exact ⟨30, comp_r27 H⟩
 | 3, 0, _, _ => exact ⟨30, comp_r30 H⟩
 | 3, 1, _, _ => exact ⟨30, comp_r31 H⟩
 | 3, 2, _, _ => exact ⟨30, comp_r32 H⟩
 | 3, 3, _, _ => exact ⟨30, comp_r33 H⟩
 | 3, 4, _, _ => exact ⟨30, comp_r34 H⟩
 | 3, 5, _, _ => exact ⟨30, comp_r35 H⟩
 | 3, 6, _, _ => exact ⟨30, comp_r36 H⟩
 | 3, 7, _, _ => exact ⟨30, comp_r37 H⟩
 | 4, 0, _, _ => exact ⟨30, comp_r40 H⟩
 | 4, 1, _, _ => exact ⟨30, comp_r41 H⟩
 | 4, 2, _, _ => exact ⟨30, comp_r42 H⟩
 | 4, 3, _, _ => exact ⟨30, comp_r43 H⟩
 | 4, 4, _, _ => exact ⟨30, comp_r44 H⟩
 | 4, 5, _, _ => exact ⟨30, comp_r45 H⟩
 | 4, 6, _, _ => exact ⟨30, comp_r46 H⟩
 | 4, 7, _, _ => exact ⟨30, comp_r47 H⟩
 | 5, 0, _, _ => exact ⟨30, comp_r50 H⟩
 | 5, 1, _, _ => exact ⟨30, comp_r51 H⟩
 | 5, 2, _, _ => exact ⟨30, comp_r52 H⟩
 | 5, 3, _, _ => exact ⟨30, comp_r53 H⟩
 | 5, 4, _, _ => exact ⟨30, comp_r54 H⟩
 | 5, 5, _, _ => exact ⟨30, comp_r55 H⟩
 | 5, 6, _, _ => exact ⟨30, comp_r56 H⟩
 | 5, 7, _, _ => exact ⟨30, comp_r57 H⟩
 | 6, 0, _, _ => exact ⟨30, comp_r60 H⟩
 | 6, 1, _, _ => exact ⟨30, comp_r61 H⟩
 | 6, 2, _, _ => exact ⟨30, comp_r62 H⟩
 | 6, 3, _, _ => exact ⟨30, comp_r63 H⟩
 | 6, 4, _, _ => exact ⟨30, comp_r64 H⟩
 | 6, 5, _, _ => exact ⟨30, comp_r65 H⟩
 | 6, 6, _, _ => exact ⟨30, comp_r66 H⟩
 | 6, 7, _, _ => exact ⟨30, comp_r67 H⟩
 | 7, 0, _, _ => exact ⟨30, comp_r70 H⟩
 | 7, 1, _, _ => exact ⟨30, comp_r71 H⟩
 | 7, 2, _, _ => exact ⟨30, comp_r72 H⟩
 | 7, 3, _, _ => exact ⟨30, comp_r73 H⟩
 | 7, 4, _, _ => exact ⟨30, comp_r74 H⟩
 | 7, 5, _, _ => exact ⟨30, comp_r75 H⟩
 | 7, 6, _, _ => exact ⟨30, comp_r76 H⟩
 | 7, 7, _, _ => exact ⟨30, comp_r77 H⟩
 | _ + 8, _, ha, _ => omega
 | _, _ + 8, _, hb => omega
end Go.Mx.Tryd
namespace Go.Mx.Tryd
open Go.Proofs

theorem bx_and7 (x : Int) : binX .and (.m (.i .i64 x)) (.m (.i .i64 7)) = some (.m (.i .i64 (x % 8))) := by
 have h1 : patK .i64 7 = 7 := rfl
 have h2 : Nat.land (patK .i64 x) 7 = patK .i64 x % 8 := Nat.and_two_pow_sub_one_eq_mod _ 3
 have h3 : ((patK .i64 x % 8 : Nat) : Int) = x % 8 := by
  cases x with
  | ofNat m => simp only [patK, modK, Int.ofNat_eq_natCast]; omega
  | negSucc m => simp only [patK, modK]; omega
 rw [bx_and, h1, h2]
 have h4 : (Int.ofNat (patK .i64 x % 8)) = x % 8 := h3
 rw [h4, wr_i64 (by omega) (by omega)]
def appT (k : Nat) (x y : Int) : Int × Int := match k with
 | 0 => (x, y)
 | 1 => (-y, x)
 | 2 => (-x, -y)
 | 3 => (y, -x)
 | 4 => (-x, y)
 | 5 => (-y, -x)
 | 6 => (x, -y)
 | _ => (y, x)
def modS (k : Int) : Nat := (k % 8).toNat
theorem modS_lt (k : Int) : modS k < 8 := by unfold modS; omega
theorem modS_eq (k : Int) : k % 8 = (modS k : Int) := by unfold modS; omega
def bigC : Int := 1000000000000
set_option maxHeartbeats 2000000 in
theorem apply_s (k x y : Int) (hx : -1000000000000 ≤ x ∧ x ≤ 1000000000000) (hy : -1000000000000 ≤ y ∧ y ≤ 1000000000000) (H : Hp) : Gives G 74 [.m (.i .i64 k), .m (.ag [.i .i64 x, .i .i64 y])] H (.m (.ag [.i .i64 (appT (modS k) x y).1, .i .i64 (appT (modS k) x y).2])) H := by
 refine gives_pur rfl rfl rfl rfl rfl ?_
 have hm := modS_eq k
 have hl := modS_lt k
 have wx : wr .i64 x = x := wr_i64 (by omega) (by omega)
 have wy : wr .i64 y = y := wr_i64 (by omega) (by omega)
 have nx : wr .i64 (-x) = -x := wr_i64 (by omega) (by omega)
 have ny : wr .i64 (-y) = -y := wr_i64 (by omega) (by omega)
 have w0 : wr .i64 0 = 0 := rfl
 generalize modS k = j at *
 match j, hl with
 | 0, _ => simp [bx_and7, hm, g0, wx, wy, nx, ny, w0, appT]
 | 1, _ => simp [bx_and7, hm, g0, wx, wy, nx, ny, w0, appT]
 | 2, _ => simp [bx_and7, hm, g0, wx, wy, nx, ny, w0, appT]
 | 3, _ => simp [bx_and7, hm, g0, wx, wy, nx, ny, w0, appT]
 | 4, _ => simp [bx_and7, hm, g0, wx, wy, nx, ny, w0, appT]
 | 5, _ => simp [bx_and7, hm, g0, wx, wy, nx, ny, w0, appT]
 | 6, _ => simp [bx_and7, hm, g0, wx, wy, nx, ny, w0, appT]
 | 7, _ => simp [bx_and7, hm, g0, wx, wy, nx, ny, w0, appT]
theorem mod_r (k : Int) (hk : -9223372036854775808 ≤ k ∧ k ≤ 9223372036854775807) (H : Hp) : Gives G 37 [.m (.i .i64 k)] H (.m (.i .i64 (modS k : Int))) H := by
 refine gives_pur rfl rfl rfl rfl rfl ?_
 have e : ((k.tmod 8) + 8).tmod 8 = (modS k : Int) := by
  rw [← modS_eq]
  rcases Int.lt_or_le k 0 with h | h
  ·obtain ⟨m, rfl⟩ : ∃ m : Nat, k = -(m : Int) := ⟨k.natAbs, by omega⟩
   rw [Int.neg_tmod]
   have e1 : ((m : Int)).tmod 8 = ((m % 8 : Nat) : Int) := rfl
   rw [e1]
   have e2 : -(((m % 8 : Nat) : Int)) + 8 = ((8 - m % 8 : Nat) : Int) := by omega
   rw [e2]
   have e3 : ((8 - m % 8 : Nat) : Int).tmod 8 = (((8 - m % 8) % 8 : Nat) : Int) := rfl
   rw [e3]
   omega
  ·obtain ⟨m, rfl⟩ := Int.eq_ofNat_of_zero_le h
   have e1 : ((m : Int)).tmod 8 = ((m % 8 : Nat) : Int) := rfl
   rw [e1]
   have e3 : (((m % 8 : Nat) : Int) + 8).tmod 8 = (((m % 8 + 8) % 8 : Nat) : Int) := rfl
   rw [e3]
   omega
 have hb : -8 < k.tmod 8 ∧ k.tmod 8 < 8 := by
  rcases Int.lt_or_le k 0 with h | h
  ·obtain ⟨m, rfl⟩ : ∃ m : Nat, k = -(m : Int) := ⟨k.natAbs, by omega⟩
   rw [Int.neg_tmod]
   have e1 : ((m : Int)).tmod 8 = ((m % 8 : Nat) : Int) := rfl
   rw [e1]
   omega
  ·obtain ⟨m, rfl⟩ := Int.eq_ofNat_of_zero_le h
   have e1 : ((m : Int)).tmod 8 = ((m % 8 : Nat) : Int) := rfl
   rw [e1]
   omega
 have w1 : wr .i64 (k.tmod 8 + 8) = k.tmod 8 + 8 := wr_i64 (by omega) (by omega)
 simp [w1, e]
set_option maxHeartbeats 2000000 in
theorem apply_r (k x y : Int) (hk : -9223372036854775808 ≤ k ∧ k ≤ 9223372036854775807) (hx : -1000000000000 ≤ x ∧ x ≤ 1000000000000) (hy : -1000000000000 ≤ y ∧ y ≤ 1000000000000) (H : Hp) : Gives G 40 [.m (.i .i64 k), .m (.ag [.i .i64 x, .i .i64 y])] H (.m (.ag [.i .i64 (appT (modS k) x y).1, .i .i64 (appT (modS k) x y).2])) H := by
 refine gives_pur rfl rfl rfl rfl rfl ?_
 have gm := fun H => mod_r k hk H
 have hl := modS_lt k
 have wx : wr .i64 x = x := wr_i64 (by omega) (by omega)
 have wy : wr .i64 y = y := wr_i64 (by omega) (by omega)
 have nx : wr .i64 (-x) = -x := wr_i64 (by omega) (by omega)
 have ny : wr .i64 (-y) = -y := wr_i64 (by omega) (by omega)
 have w0 : wr .i64 0 = 0 := rfl
 have w1 : wr .i64 1 = 1 := rfl
 have w2 : wr .i64 2 = 2 := rfl
 have w3 : wr .i64 3 = 3 := rfl
 generalize modS k = j at *
 match j, hl with
 | 0, _ => simp [cl (gm _)]; unfold c40_B0; simp [wx, wy, nx, ny, w0, w1, w2, w3, appT]
 | 1, _ => simp [cl (gm _)]; unfold c40_B0; simp [wx, wy, nx, ny, w0, w1, w2, w3, appT]; unfold c40_B0; simp [wx, wy, nx, ny, w0, w1, w2, w3, appT]
 | 2, _ => simp [cl (gm _)]; unfold c40_B0; simp [wx, wy, nx, ny, w0, w1, w2, w3, appT]; unfold c40_B0; simp [wx, wy, nx, ny, w0, w1, w2, w3, appT]; unfold c40_B0; simp [wx, wy, nx, ny, w0, w1, w2, w3, appT]
 | 3, _ => simp [cl (gm _)]; unfold c40_B0; simp [wx, wy, nx, ny, w0, w1, w2, w3, appT]; unfold c40_B0; simp [wx, wy, nx, ny, w0, w1, w2, w3, appT]; unfold c40_B0; simp [wx, wy, nx, ny, w0, w1, w2, w3, appT]; unfold c40_B0; simp [wx, wy, nx, ny, w0, w1, w2, w3, appT]
 | 4, _ => simp [cl (gm _), nx, w0, w1, w2, w3]; unfold c40_B0; simp [wx, wy, nx, ny, w0, w1, w2, w3, appT]
 | 5, _ => simp [cl (gm _), nx, w0, w1, w2, w3]; unfold c40_B0; simp [wx, wy, nx, ny, w0, w1, w2, w3, appT]; unfold c40_B0; simp [wx, wy, nx, ny, w0, w1, w2, w3, appT]
 | 6, _ => simp [cl (gm _), nx, w0, w1, w2, w3]; unfold c40_B0; simp [wx, wy, nx, ny, w0, w1, w2, w3, appT]; unfold c40_B0; simp [wx, wy, nx, ny, w0, w1, w2, w3, appT]; unfold c40_B0; simp [wx, wy, nx, ny, w0, w1, w2, w3, appT]
 | 7, _ => simp [cl (gm _), nx, w0, w1, w2, w3]; unfold c40_B0; simp [wx, wy, nx, ny, w0, w1, w2, w3, appT]; unfold c40_B0; simp [wx, wy, nx, ny, w0, w1, w2, w3, appT]; unfold c40_B0; simp [wx, wy, nx, ny, w0, w1, w2, w3, appT]; unfold c40_B0; simp [wx, wy, nx, ny, w0, w1, w2, w3, appT]
end Go.Mx.Tryd
