/- Apply of the symmetries, of the program and of the reference. -/
import Derived.Test.YtchacpbmpgfblaaDoorSeav
import Derived.KernelRfl
set_option linter.unusedSimpArgs false
set_option linter.unusedVariables false
set_option linter.unusedSectionVars false
set_option maxRecDepth 100000
namespace Go.Mx.Tryd
open Go.Proofs

end Go.Mx.Tryd
namespace Go.Mx.Tryd
open Go.Proofs

def appT (k : Nat) (x y : Int) : Int × Int := match k with
 | 0 => (x, y)
 | 1 => (-y, x)
 | 2 => (-x, -y)
 | 3 => (y, -x)
 | 4 => (-x, y)
 | 5 => (-y, -x)
 | 6 => (x, -y)
 | _ => (y, x)
def modS (k : Int) : Nat := (k % 8).toNat
theorem modS_lt (k : Int) : modS k < 8 := by unfold modS; omega
theorem modS_eq (k : Int) : k % 8 = (modS k : Int) := by unfold modS; omega
theorem mod_r (k : Int) (hk : -9223372036854775808 ≤ k ∧ k ≤ 9223372036854775807) (H : Hp) : Gives G 37 [.m (.i .i64 k)] H (.m (.i .i64 (modS k : Int))) H := by
 refine gives_pur rfl rfl rfl rfl rfl ?_
 have e : ((k.tmod 8) + 8).tmod 8 = (modS k : Int) := by
  rw [← modS_eq]
  rcases Int.lt_or_le k 0 with h | h
  ·obtain ⟨m, rfl⟩ : ∃ m : Nat, k = -(m : Int) := ⟨k.natAbs, by omega⟩
   rw [Int.neg_tmod]
   have e1 : ((m : Int)).tmod 8 = ((m % 8 : Nat) : Int) := rfl
   rw [e1]
   have e2 : -(((m % 8 : Nat) : Int)) + 8 = ((8 - m % 8 : Nat) : Int) := by omega
   rw [e2]
   have e3 : ((8 - m % 8 : Nat) : Int).tmod 8 = (((8 - m % 8) % 8 : Nat) : Int) := rfl
   rw [e3]
   omega
  ·obtain ⟨m, rfl⟩ := Int.eq_ofNat_of_zero_le h
   have e1 : ((m : Int)).tmod 8 = ((m % 8 : Nat) : Int) := rfl
   rw [e1]
   have e3 : (((m % 8 : Nat) : Int) + 8).tmod 8 = (((m % 8 + 8) % 8 : Nat) : Int) := rfl
   rw [e3]
   omega
 have hb : -8 < k.tmod 8 ∧ k.tmod 8 < 8 := by
  rcases Int.lt_or_le k 0 with h | h
  ·obtain ⟨m, rfl⟩ : ∃ m : Nat, k = -(m : Int) := ⟨k.natAbs, by omega⟩
   rw [Int.neg_tmod]
   have e1 : ((m : Int)).tmod 8 = ((m % 8 : Nat) : Int) := rfl
   rw [e1]
   omega
  ·obtain ⟨m, rfl⟩ := Int.eq_ofNat_of_zero_le h
   have e1 : ((m : Int)).tmod 8 = ((m % 8 : Nat) : Int) := rfl
   rw [e1]
   omega
 have w1 : wr .i64 (k.tmod 8 + 8) = k.tmod 8 + 8 := wr_i64 (by omega) (by omega)
 simp [w1, e]
set_option maxHeartbeats 2000000 in
theorem apply_r (k x y : Int) (hk : -9223372036854775808 ≤ k ∧ k ≤ 9223372036854775807) (hx : -1000000000000 ≤ x ∧ x ≤ 1000000000000) (hy : -1000000000000 ≤ y ∧ y ≤ 1000000000000) (H : Hp) : Gives G 40 [.m (.i .i64 k), .m (.ag [.i .i64 x, .i .i64 y])] H (.m (.ag [.i .i64 (appT (modS k) x y).1, .i .i64 (appT (modS k) x y).2])) H := by
 refine gives_pur rfl rfl rfl rfl rfl ?_
 have gm := fun H => mod_r k hk H
 have hl := modS_lt k
 have wx : wr .i64 x = x := wr_i64 (by omega) (by omega)
 have wy : wr .i64 y = y := wr_i64 (by omega) (by omega)
 have nx : wr .i64 (-x) = -x := wr_i64 (by omega) (by omega)
 have ny : wr .i64 (-y) = -y := wr_i64 (by omega) (by omega)
 have w0 : wr .i64 0 = 0 := rfl
 have w1 : wr .i64 1 = 1 := rfl
 have w2 : wr .i64 2 = 2 := rfl
 have w3 : wr .i64 3 = 3 := rfl
 generalize modS k = j at *
 match j, hl with
 | 0, _ => simp [cl (gm _)]; unfold c40_B0; simp [wx, wy, nx, ny, w0, w1, w2, w3, appT]
 | 1, _ => simp [cl (gm _)]; unfold c40_B0; simp [wx, wy, nx, ny, w0, w1, w2, w3, appT]; unfold c40_B0; simp [wx, wy, nx, ny, w0, w1, w2, w3, appT]
 | 2, _ => simp [cl (gm _)]; unfold c40_B0; simp [wx, wy, nx, ny, w0, w1, w2, w3, appT]; unfold c40_B0; simp [wx, wy, nx, ny, w0, w1, w2, w3, appT]; unfold c40_B0; simp [wx, wy, nx, ny, w0, w1, w2, w3, appT]
 | 3, _ => simp [cl (gm _)]; unfold c40_B0; simp [wx, wy, nx, ny, w0, w1, w2, w3, appT]; unfold c40_B0; simp [wx, wy, nx, ny, w0, w1, w2, w3, appT]; unfold c40_B0; simp [wx, wy, nx, ny, w0, w1, w2, w3, appT]; unfold c40_B0; simp [wx, wy, nx, ny, w0, w1, w2, w3, appT]
 | 4, _ => simp [cl (gm _), nx, w0, w1, w2, w3]; unfold c40_B0; simp [wx, wy, nx, ny, w0, w1, w2, w3, appT]
 | 5, _ => simp [cl (gm _), nx, w0, w1, w2, w3]; unfold c40_B0; simp [wx, wy, nx, ny, w0, w1, w2, w3, appT]; unfold c40_B0; simp [wx, wy, nx, ny, w0, w1, w2, w3, appT]
 | 6, _ => simp [cl (gm _), nx, w0, w1, w2, w3]; unfold c40_B0; simp [wx, wy, nx, ny, w0, w1, w2, w3, appT]; unfold c40_B0; simp [wx, wy, nx, ny, w0, w1, w2, w3, appT]; unfold c40_B0; simp [wx, wy, nx, ny, w0, w1, w2, w3, appT]
 | 7, _ => simp [cl (gm _), nx, w0, w1, w2, w3]; unfold c40_B0; simp [wx, wy, nx, ny, w0, w1, w2, w3, appT]; unfold c40_B0; simp [wx, wy, nx, ny, w0, w1, w2, w3, appT]; unfold c40_B0; simp [wx, wy, nx, ny, w0, w1, w2, w3, appT]; unfold c40_B0; simp [wx, wy, nx, ny, w0, w1, w2, w3, appT]
end Go.Mx.Tryd
