/- Sorting by a function at the machine, second part: heap sort, reversing. -/
import Derived.Test.YtfllcbohggcmfaaGreatDoorSrt
set_option linter.unusedSimpArgs false
set_option linter.unusedVariables false
set_option linter.unusedSectionVars false
set_option maxRecDepth 100000
namespace Go.Mx.Tryz
open Go.Sort
section
variable {α : Type} [Inhabited α] {R : Rw α 3 true} {A C : Hp} {k : Nat} {lt : α → α → Bool} (W : Cmp R A k lt) (hC : W.ok C) {ty n : Nat} {lim : Bool}

set_option maxHeartbeats 400000 in
include W hC in
theorem heap_w (d : Array α) (a b b0 : Nat) (hab : a ≤ b) (hb : b ≤ n) (hd : d.size = n) (h0 : b0 ≤ n) (hn : n ≤ 1000000000) (hnb : a < b) (Q : V → Hp → Prop)
    (hQ : ∀ b1, b1 ≤ n → Q (.tu []) (A ++ .cs ty 3 (rowA R (heapSort lt d a b)) b1 false :: C)) :
    Ret G 78 [.sl A.length n 3 0 n lim, .m (.i .i64 a), .m (.i .i64 b), .m (.fn k [])] (A ++ .cs ty 3 (rowA R d) b0 false :: C) Q := by
  refine ret_sh mono rfl rfl rfl rfl rfl ?_
  have e1 : ((b : Int) - a - 1).tdiv 2 = (((b - a - 1) / 2 + 1 : Nat) : Int) - 1 := by
    rw [show (b : Int) - a - 1 = ((b - a - 1 : Nat) : Int) by omega]
    show (((b - a - 1) / 2 : Nat) : Int) = _
    omega
  have e2 : (b : Int) - a = ((b - a : Nat) : Int) := by omega
  simp (contextual := true) (maxSteps := 2000000) (disch := omega) [test_cx, rest_cx, gcall_cx, gcav_cx, -Int.not_lt, -Int.not_le, -Nat.not_lt, -Nat.not_le, -List.map_take, gd_in, gd_and, wr_i64, e1]
  have e3 : ((b - a - 1 : Nat) : Int) / 2 = (((b - a - 1) / 2 + 1 : Nat) : Int) - 1 := by omega
  rw [e3, e2]
  clear e3
  refine (?key : ∀ (i : Nat) (d : Array α) (b0 : Nat), d.size = n → b0 ≤ n → i ≤ b - a → (∀ b1, b1 ≤ n → Q (.tu []) (A ++ .cs ty 3 (rowA R (heapPop lt a (b - a) (heapBuild lt (b - a) a i d))) b1 false :: C)) → Run G c78_B0 (S78_0 (.sl A.length n 3 0 n lim) (.m (.fn k [])) (.m (.i .i64 a)) (.m (.i .i64 0)) (.m (.i .i64 ((b - a : Nat) : Int))) (.m (.i .i64 ((i : Int) - 1))) [] (A ++ .cs ty 3 (rowA R d) b0 false :: C)) _) ((b - a - 1) / 2 + 1) d b0 hd h0 (by omega) hQ
  clear hQ hd h0 d b0 e1
  refine indM (fun i : Nat => i) fun i ih d b0 hd h0 hi hQ => ?_
  unfold c78_B0
  cases i with
  | succ i =>
    have g : (0 : Int) ≤ ((i + 1 : Nat) : Int) - 1 := by omega
    have g2 : ((i + 1 : Nat) : Int) - 1 = i := by omega
    simp only [g2] at g ⊢
    simp (contextual := true) (maxSteps := 2000000) (disch := omega) [test_cx, rest_cx, gcall_cx, gcav_cx, -Int.not_lt, -Int.not_le, -Nat.not_lt, -Nat.not_le, -List.map_take, gd_in, gd_and, wr_i64, g]
    rw [callC_some]
    refine sift_w W hC d i (b - a) a b0 (by omega) hd h0 hn (by omega) _ fun b1 hb1 => ?_
    have := ih i (by omega) (siftDown lt (b - a) a i d) b1 (by rw [siftDown_size]; exact hd) hb1 (by omega) hQ
    simp (contextual := true) (maxSteps := 2000000) (disch := omega) [test_cx, rest_cx, gcall_cx, gcav_cx, -Int.not_lt, -Int.not_le, -Nat.not_lt, -Nat.not_le, -List.map_take, gd_in, gd_and, wr_i64]
    simpa using this
  | zero =>
    rw [heapBuild] at hQ
    have e3 : ((b - a : Nat) : Int) - 1 = ((b - a : Nat) : Int) - 1 := rfl
    simp (contextual := true) (maxSteps := 2000000) (disch := omega) [test_cx, rest_cx, gcall_cx, gcav_cx, -Int.not_lt, -Int.not_le, -Nat.not_lt, -Nat.not_le, -List.map_take, gd_in, gd_and, wr_i64]
    refine (?key2 : ∀ (i : Nat) (d : Array α) (b0 : Nat), d.size = n → b0 ≤ n → i ≤ b - a → (∀ b1, b1 ≤ n → Q (.tu []) (A ++ .cs ty 3 (rowA R (heapPop lt a i d)) b1 false :: C)) → Run G c78_B1 (S78_1 (.sl A.length n 3 0 n lim) (.m (.fn k [])) (.m (.i .i64 a)) (.m (.i .i64 0)) (.m (.i .i64 ((i : Int) - 1))) [] (A ++ .cs ty 3 (rowA R d) b0 false :: C)) _) (b - a) d b0 hd h0 (Nat.le_refl _) hQ
    clear hQ hd h0 d b0 ih e3
    refine indM (fun i : Nat => i) fun i ih d b0 hd h0 hi hQ => ?_
    unfold c78_B1
    cases i with
    | zero =>
      rw [heapPop] at hQ
      simp (contextual := true) (maxSteps := 2000000) (disch := omega) [test_cx, rest_cx, gcall_cx, gcav_cx, -Int.not_lt, -Int.not_le, -Nat.not_lt, -Nat.not_le, -List.map_take, gd_in, gd_and, wr_i64, hQ b0 h0]
    | succ i =>
      have g : (0 : Int) ≤ ((i + 1 : Nat) : Int) - 1 := by omega
      have g2 : ((i + 1 : Nat) : Int) - 1 = i := by omega
      simp only [g2] at g ⊢
      have r1 := R.rd d (i := a) (by omega)
      have r2 := R.rd d (i := a + i) (by omega)
      have w1 := R.wr d (i := a) d[a + i]! (by omega)
      have w2 := R.wr (d.setIfInBounds a d[a + i]!) (i := a + i) d[a]! (by simp; omega)
      have s1 : (d.setIfInBounds a d[a + i]!).size = n := by simp [hd]
      have x1 : ((a : Int) + i).toNat = a + i := by omega
      have e4 : swp d a (a + i) = (d.setIfInBounds a d[a + i]!).setIfInBounds (a + i) d[a]! := rfl
      rw [heapPop, e4] at hQ
      have ih2 := ih i (by omega)
      clear ih
      generalize d[a]! = y0 at *
      generalize d[a + i]! = y1 at *
      simp (contextual := true) (maxSteps := 2000000) (disch := omega) [test_cx, rest_cx, gcall_cx, gcav_cx, -Int.not_lt, -Int.not_le, -Nat.not_lt, -Nat.not_le, -List.map_take, gd_in, gd_and, nth_mid, setEl_mid, R.ld, R.st, R.all1, R.len, -valOf_t, -mkAg_eq, wr_i64, g, r1, r2, w1, w2, s1, hd, x1]
      rw [callC_some]
      refine sift_w W hC ((d.setIfInBounds a y1).setIfInBounds (a + i) y0) 0 i a n (by omega) (by simp [hd]) (Nat.le_refl _) hn (by omega) _ fun b1 hb1 => ?_
      have := ih2 (siftDown lt i a 0 ((d.setIfInBounds a y1).setIfInBounds (a + i) y0)) b1 (by rw [siftDown_size]; simp [hd]) hb1 (by omega) hQ
      simp (contextual := true) (maxSteps := 2000000) (disch := omega) [test_cx, rest_cx, gcall_cx, gcav_cx, -Int.not_lt, -Int.not_le, -Nat.not_lt, -Nat.not_le, -List.map_take, gd_in, gd_and, wr_i64]
      simpa using this
end
end Go.Mx.Tryz
