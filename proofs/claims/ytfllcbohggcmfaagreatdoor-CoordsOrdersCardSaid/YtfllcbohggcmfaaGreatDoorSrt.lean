/- Sorting by a function at the machine: pdqsort over rows of cells. -/
import Derived.Test.YtfllcbohggcmfaaGreatDoorSeav
import Derived.Test.YtfllcbohggcmfaaGreatDoorWa
import Derived.Test.YtfllcbohggcmfaaGreatDoorSw
set_option linter.unusedSimpArgs false
set_option linter.unusedVariables false
set_option linter.unusedSectionVars false
set_option maxRecDepth 100000
namespace Go.Mx.Tryz
open Go.Sort

/-- A comparison: a function of immutable values, whatever lies in the row. -/
structure Cmp {α : Type} (R : Rw α 3 true) (A : Hp) (k : Nat) (lt : α → α → Bool) where
  ok : Hp → Prop
  ext : ∀ C X, ok C → ok (C ++ X)
  cmp : α → α → Int
  neg : ∀ x y, (cmp x y < 0) = (lt x y = true)
  run : ∀ x y row C, ok C → Gives G k [R.val x, R.val y] (A ++ row :: C) (.m (.i .i64 (cmp x y))) (A ++ row :: C)

section
variable {α : Type} [Inhabited α] {R : Rw α 3 true} {A C : Hp} {k : Nat} {lt : α → α → Bool} (W : Cmp R A k lt) (hC : W.ok C) {ty n : Nat} {lim : Bool}

include W hC in
theorem ins_w (d : Array α) (a b b0 : Nat) (hab : a ≤ b) (hb : b ≤ n) (hd : d.size = n) (h0 : b0 ≤ n) (hn : n ≤ 4611686018427387904) (Q : V → Hp → Prop)
    (hQ : ∀ b1, b1 ≤ n → Q (.tu []) (A ++ .cs ty 3 (rowA R (insertionSort lt d a b)) b1 false :: C)) :
    Ret G 77 [.sl A.length n 3 0 n lim, .m (.i .i64 a), .m (.i .i64 b), .m (.fn k [])] (A ++ .cs ty 3 (rowA R d) b0 false :: C) Q := by
  refine ret_sh mono rfl rfl rfl rfl rfl ?_
  simp (contextual := true) (maxSteps := 2000000) (disch := omega) [test_cx, rest_cx, gcall_cx, gcav_cx, -Int.not_lt, -Int.not_le, -Nat.not_lt, -Nat.not_le, -List.map_take, gd_in, gd_and, wr_i64]
  refine (?key : ∀ (i : Nat) (d : Array α) (b0 : Nat), d.size = n → b0 ≤ n → a + 1 ≤ i → (∀ b1, b1 ≤ n → Q (.tu []) (A ++ .cs ty 3 (rowA R (insOuter lt a b i d)) b1 false :: C)) → Run G c77_B1 (S77_1 (.sl A.length n 3 0 n lim) (.m (.i .i64 a)) (.m (.i .i64 b)) (.m (.fn k [])) (.m (.i .i64 i)) [] (A ++ .cs ty 3 (rowA R d) b0 false :: C)) _) (a + 1) d b0 hd h0 (Nat.le_refl _) hQ
  clear hQ hd h0 d b0
  refine indM (fun i : Nat => b - i) fun i ih d b0 hd h0 hi hQ => ?_
  unfold c77_B1
  by_cases hib : i < b
  · simp (contextual := true) (maxSteps := 2000000) (disch := omega) [test_cx, rest_cx, gcall_cx, gcav_cx, -Int.not_lt, -Int.not_le, -Nat.not_lt, -Nat.not_le, -List.map_take, gd_in, gd_and, hib]
    rw [insOuter, if_pos hib] at hQ
    refine (?key2 : ∀ (j : Nat) (d : Array α) (b0 : Nat), d.size = n → b0 ≤ n → j ≤ i → a ≤ j → (∀ b1, b1 ≤ n → Q (.tu []) (A ++ .cs ty 3 (rowA R (insOuter lt a b (i + 1) (insInner lt a j d))) b1 false :: C)) → Run G c77_B0 (S77_0 (.sl A.length n 3 0 n lim) (.m (.i .i64 a)) (.m (.i .i64 b)) (.m (.fn k [])) (.m (.i .i64 i)) (.m (.i .i64 j)) [] (A ++ .cs ty 3 (rowA R d) b0 false :: C)) _) i d b0 hd h0 (Nat.le_refl _) (by omega) hQ
    clear hQ hd h0 d b0
    refine indM (fun j : Nat => j) fun j ih2 d b0 hd h0 hji haj hQ => ?_
    unfold c77_B0
    by_cases hja : j = a
    · have e : insInner lt a j d = d := by
        cases j with
        | zero => rfl
        | succ j => rw [insInner, if_neg (by simp; omega)]
      rw [e] at hQ
      have ih3 := ih (i + 1) (by omega) d b0 hd h0 (by omega) hQ
      subst hja
      simp (contextual := true) (maxSteps := 2000000) (disch := omega) [test_cx, rest_cx, gcall_cx, gcav_cx, -Int.not_lt, -Int.not_le, -Nat.not_lt, -Nat.not_le, -List.map_take, gd_in, gd_and, wr_i64]
      simpa using ih3
    · obtain ⟨m, rfl⟩ : ∃ m, j = m + 1 := ⟨j - 1, by omega⟩
      have r1 := R.rd d (i := m + 1) (by omega)
      have r2 := R.rd d (i := m) (by omega)
      have w1 := R.wr d (i := m + 1) d[m]! (by omega)
      have w2 := R.wr (d.setIfInBounds (m + 1) d[m]!) (i := m) d[m + 1]! (by simp; omega)
      have q1 := fun row => W.run d[m + 1]! d[m]! row C hC
      have q2 := W.neg d[m + 1]! d[m]!
      have hsz : (d.setIfInBounds (m + 1) d[m]!).size = n := by simp [hd]
      have t1 : ((m : Int) + 1 - 1).toNat = m := by omega
      have t2 : ((m : Int) + 1).toNat = m + 1 := by omega
      have e : insInner lt a (m + 1) d = if lt d[m + 1]! d[m]! = true then insInner lt a m (swp d (m + 1) m) else d := by
        rw [insInner]
        have : m + 1 > a := by omega
        simp [this]
      rw [e] at hQ
      have ham : (a : Int) < m + 1 := by omega
      have es : swp d (m + 1) m = (d.setIfInBounds (m + 1) d[m]!).setIfInBounds m d[m + 1]! := rfl
      rw [es] at hQ
      generalize d[m + 1]! = x at *
      generalize d[m]! = y at *
      simp (contextual := true) (maxSteps := 2000000) (disch := omega) [test_cx, rest_cx, gcall_cx, gcav_cx, -Int.not_lt, -Int.not_le, -Nat.not_lt, -Nat.not_le, -List.map_take, gd_in, gd_and, nth_mid, setEl_mid, R.ld, R.st, R.all1, R.len, -valOf_t, -mkAg_eq, wr_i64, r1, r2, w1, w2, cl (q1 _), q2, hsz, hd, t1, t2, ham]
      refine ⟨fun h => ?_, fun h => ?_⟩
      · rw [if_pos h] at hQ
        exact ih2 m (by omega) _ n (by simp [hd]) (Nat.le_refl _) (by omega) (by omega) hQ
      · rw [if_neg (by simp [h])] at hQ
        have ih3 := ih (i + 1) (by omega) d b0 hd h0 (by omega) hQ
        simpa using ih3
  · rw [insOuter, if_neg hib] at hQ
    simp (contextual := true) (maxSteps := 2000000) (disch := omega) [test_cx, rest_cx, gcall_cx, gcav_cx, -Int.not_lt, -Int.not_le, -Nat.not_lt, -Nat.not_le, -List.map_take, gd_in, gd_and, hib, hQ b0 h0]

set_option maxHeartbeats 4000000 in
include W hC in
theorem sift_w (d : Array α) (lo hi first b0 : Nat) (hb : first + hi ≤ n) (hd : d.size = n) (h0 : b0 ≤ n) (hn : n ≤ 1000000000) (hlo : lo ≤ n) (Q : V → Hp → Prop)
    (hQ : ∀ b1, b1 ≤ n → Q (.tu []) (A ++ .cs ty 3 (rowA R (siftDown lt hi first lo d)) b1 false :: C)) :
    Ret G 108 [.sl A.length n 3 0 n lim, .m (.i .i64 lo), .m (.i .i64 hi), .m (.i .i64 first), .m (.fn k [])] (A ++ .cs ty 3 (rowA R d) b0 false :: C) Q := by
  refine ret_sh mono rfl rfl rfl rfl rfl ?_
  simp (contextual := true) (maxSteps := 2000000) (disch := omega) [test_cx, rest_cx, gcall_cx, gcav_cx, -Int.not_lt, -Int.not_le, -Nat.not_lt, -Nat.not_le, -List.map_take, gd_in, gd_and, wr_i64]
  refine (?key : ∀ (root : Nat) (d : Array α) (b0 : Nat), d.size = n → b0 ≤ n → root ≤ n → (∀ b1, b1 ≤ n → Q (.tu []) (A ++ .cs ty 3 (rowA R (siftDown lt hi first root d)) b1 false :: C)) → Run G c108_B0 (S108_0 (.sl A.length n 3 0 n lim) (.m (.i .i64 hi)) (.m (.i .i64 first)) (.m (.fn k [])) (.m (.i .i64 root)) [] (A ++ .cs ty 3 (rowA R d) b0 false :: C)) _) lo d b0 hd h0 hlo hQ
  clear hQ hd h0 d b0 hlo
  refine indM (fun root : Nat => hi - root) fun root ih d b0 hd h0 hr hQ => ?_
  unfold c108_B0
  by_cases h1 : 2 * root + 1 ≥ hi
  · rw [siftDown, dif_pos h1] at hQ
    have h1' : (hi : Int) ≤ 2 * root + 1 := by omega
    simp (contextual := true) (maxSteps := 2000000) (disch := omega) [test_cx, rest_cx, gcall_cx, gcav_cx, -Int.not_lt, -Int.not_le, -Nat.not_lt, -Nat.not_le, -List.map_take, gd_in, gd_and, wr_i64, h1', hQ b0 h0]
  · have h1' : ¬ (hi : Int) ≤ 2 * root + 1 := by omega
    have r0 := R.rd d (i := first + root) (by omega)
    have r1 := R.rd d (i := first + (2 * root + 1)) (by omega)
    have q01 := fun row => W.run d[first + root]! d[first + (2 * root + 1)]! row C hC
    have n01 := W.neg d[first + root]! d[first + (2 * root + 1)]!
    have w1 := R.wr d (i := first + root) d[first + (2 * root + 1)]! (by omega)
    have w2 := R.wr (d.setIfInBounds (first + root) d[first + (2 * root + 1)]!) (i := first + (2 * root + 1)) d[first + root]! (by simp; omega)
    have s1 : (d.setIfInBounds (first + root) d[first + (2 * root + 1)]!).size = n := by simp [hd]
    have e1 : swp d (first + root) (first + (2 * root + 1)) = (d.setIfInBounds (first + root) d[first + (2 * root + 1)]!).setIfInBounds (first + (2 * root + 1)) d[first + root]! := rfl
    by_cases h2 : 2 * root + 1 + 1 < hi
    · have h2' : (2 : Int) * root + 1 + 1 < hi := by omega
      have r2 := R.rd d (i := first + (2 * root + 2)) (by omega)
      have q12 := fun row => W.run d[first + (2 * root + 1)]! d[first + (2 * root + 2)]! row C hC
      have n12 := W.neg d[first + (2 * root + 1)]! d[first + (2 * root + 2)]!
      have q02 := fun row => W.run d[first + root]! d[first + (2 * root + 2)]! row C hC
      have n02 := W.neg d[first + root]! d[first + (2 * root + 2)]!
      have v1 := R.wr d (i := first + root) d[first + (2 * root + 2)]! (by omega)
      have v2 := R.wr (d.setIfInBounds (first + root) d[first + (2 * root + 2)]!) (i := first + (2 * root + 2)) d[first + root]! (by simp; omega)
      have s2 : (d.setIfInBounds (first + root) d[first + (2 * root + 2)]!).size = n := by simp [hd]
      have e2 : swp d (first + root) (first + (2 * root + 2)) = (d.setIfInBounds (first + root) d[first + (2 * root + 2)]!).setIfInBounds (first + (2 * root + 2)) d[first + root]! := rfl
      have h22 : 2 * root + 2 < hi := by omega
      rw [siftDown, dif_neg h1, show first + (2 * root + 1) + 1 = first + (2 * root + 2) by omega, e1, e2] at hQ
      have x0 : ((first : Int) + root).toNat = first + root := by omega
      have x1 : ((first : Int) + (2 * root + 1)).toNat = first + (2 * root + 1) := by omega
      have x2 : ((first : Int) + (2 * root + 1) + 1).toNat = first + (2 * root + 2) := by omega
      have x3 : ((first : Int) + (2 * root + 1 + 1)).toNat = first + (2 * root + 2) := by omega
      simp only [h2, decide_true, Bool.true_and, dif_pos h22] at hQ
      have ihA := ih (2 * root + 1) (by omega) ((d.setIfInBounds (first + root) d[first + (2 * root + 1)]!).setIfInBounds (first + (2 * root + 1)) d[first + root]!) n (by simp [hd]) (Nat.le_refl _) (by omega)
      have ihB := ih (2 * root + 2) (by omega) ((d.setIfInBounds (first + root) d[first + (2 * root + 2)]!).setIfInBounds (first + (2 * root + 2)) d[first + root]!) n (by simp [hd]) (Nat.le_refl _) (by omega)
      generalize d[first + root]! = y0 at *
      generalize d[first + (2 * root + 1)]! = y1 at *
      generalize d[first + (2 * root + 2)]! = y2 at *
      clear ih
      simp (contextual := true) (maxSteps := 2000000) (disch := omega) [test_cx, rest_cx, gcall_cx, gcav_cx, -Int.not_lt, -Int.not_le, -Nat.not_lt, -Nat.not_le, -List.map_take, gd_in, gd_and, nth_mid, setEl_mid, R.ld, R.st, R.all1, R.len, -valOf_t, -mkAg_eq, wr_i64, h1', h2', r0, r1, r2, cl (q01 _), cl (q12 _), cl (q02 _), n01, n12, n02, w1, w2, v1, v2, s1, s2, hd, x0, x1, x2, x3]
      refine ⟨fun l1 => ⟨fun l2 => ?_, fun l2 => ?_⟩, fun l1 => ⟨fun l2 => ?_, fun l2 => ?_⟩⟩
      · simp [l1, l2] at hQ
        exact hQ b0 h0
      · simp [l1, l2] at hQ
        have e5 : (2 : Int) * root + 1 + 1 = ((2 * root + 2 : Nat) : Int) := by omega
        rw [e5]
        exact ihB hQ
      · simp [l1, l2] at hQ
        exact hQ b0 h0
      · simp [l1, l2] at hQ
        exact ihA hQ
    · have h2' : ¬ (2 : Int) * root + 1 + 1 < hi := by omega
      rw [siftDown, dif_neg h1, e1] at hQ
      have x0 : ((first : Int) + root).toNat = first + root := by omega
      have x1 : ((first : Int) + (2 * root + 1)).toNat = first + (2 * root + 1) := by omega
      simp only [h2, decide_false, Bool.false_and, if_neg Bool.false_ne_true] at hQ
      have ihA := ih (2 * root + 1) (by omega) ((d.setIfInBounds (first + root) d[first + (2 * root + 1)]!).setIfInBounds (first + (2 * root + 1)) d[first + root]!) n (by simp [hd]) (Nat.le_refl _) (by omega)
      generalize d[first + root]! = y0 at *
      generalize d[first + (2 * root + 1)]! = y1 at *
      clear ih
      simp (contextual := true) (maxSteps := 2000000) (disch := omega) [test_cx, rest_cx, gcall_cx, gcav_cx, -Int.not_lt, -Int.not_le, -Nat.not_lt, -Nat.not_le, -List.map_take, gd_in, gd_and, nth_mid, setEl_mid, R.ld, R.st, R.all1, R.len, -valOf_t, -mkAg_eq, wr_i64, h1', h2', r0, r1, cl (q01 _), n01, w1, w2, s1, hd, x0, x1]
      refine ⟨fun l2 => ?_, fun l2 => ?_⟩
      · simp [l2] at hQ
        exact hQ b0 h0
      · simp [l2] at hQ
        exact ihA hQ
end
end Go.Mx.Tryz
