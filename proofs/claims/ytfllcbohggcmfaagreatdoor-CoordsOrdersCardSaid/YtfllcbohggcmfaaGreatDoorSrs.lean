/- Sorting by a function at the machine, fifth part: the partitions, reversing. -/
import Derived.Test.YtfllcbohggcmfaaGreatDoorSrq
set_option linter.unusedSimpArgs false
set_option linter.unusedVariables false
set_option linter.unusedSectionVars false
set_option maxRecDepth 100000
namespace Go.Mx.Tryz
open Go.Sort
section
variable {α : Type} [Inhabited α] {R : Rw α 3 true} {A C : Hp} {k : Nat} {lt : α → α → Bool} (W : Cmp R A k lt) (hC : W.ok C) {ty n : Nat} {lim : Bool}

set_option maxHeartbeats 1000000 in
include W hC in
theorem part_w (d : Array α) (a b pivot b0 : Nat) (hp1 : a ≤ pivot) (hp2 : pivot < b) (hb : b ≤ n) (hd : d.size = n) (h0 : b0 ≤ n) (hn : n ≤ 1000000000) (Q : V → Hp → Prop)
    (hQ : ∀ (j : Nat) (ap : Bool) (d2 : Array α) (b1 : Nat), partition lt d a b pivot = (j, ap, d2) → b1 ≤ n → Q (.tu [.m (.i .i64 j), .m (.b ap)]) (A ++ .cs ty 3 (rowA R d2) b1 false :: C)) :
    Ret G 84 [.sl A.length n 3 0 n lim, .m (.i .i64 a), .m (.i .i64 b), .m (.i .i64 pivot), .m (.fn k [])] (A ++ .cs ty 3 (rowA R d) b0 false :: C) Q := by
  refine ret_sh mono rfl rfl rfl rfl rfl ?_
  have r1 := R.rd d (i := a) (by omega)
  have r2 := R.rd d (i := pivot) (by omega)
  have w1 := R.wr d (i := a) d[pivot]! (by omega)
  have w2 := R.wr (d.setIfInBounds a d[pivot]!) (i := pivot) d[a]! (by simp; omega)
  have s1 : (d.setIfInBounds a d[pivot]!).size = n := by simp [hd]
  have e1 : swp d a pivot = (d.setIfInBounds a d[pivot]!).setIfInBounds pivot d[a]! := rfl
  have hb1 : ((b - 1 : Nat) : Int) = (b : Int) - 1 := by omega
  simp only [partition, e1] at hQ
  generalize d[a]! = y0 at *
  generalize d[pivot]! = y1 at *
  simp (contextual := true) (maxSteps := 2000000) (disch := omega) [test_cx, rest_cx, gcall_cx, gcav_cx, -Int.not_lt, -Int.not_le, -Nat.not_lt, -Nat.not_le, -List.map_take, gd_in, gd_and, nth_mid, setEl_mid, R.ld, R.st, R.all1, R.len, -valOf_t, -mkAg_eq, wr_i64, r1, r2, w1, w2, s1, hd]
  clear r1 r2 w1 w2 s1 e1
  generalize hd1 : (d.setIfInBounds a y1).setIfInBounds pivot y0 = d1 at *
  have hsz : d1.size = n := by rw [← hd1]; simp [hd]
  have u1 := scanUp_spec (fun x => lt x d1[a]!) d1 (b - 1) _ (a + 1) rfl
  have u2 := scanDown_spec (fun x => !lt x d1[a]!) d1 (scanUp (fun x => lt x d1[a]!) d1 (b - 1) (a + 1)) (b - 1)
  rw [← hb1]
  refine scan_p0 W hC d1 a (b - 1) n (by omega) (by omega) hsz (Nat.le_refl _) hn _ (a + 1) ?_
  generalize hi2 : scanUp (fun x => lt x d1[a]!) d1 (b - 1) (a + 1) = i2 at u1 u2 hQ ⊢
  simp (contextual := true) (maxSteps := 2000000) (disch := omega) [test_cx, rest_cx, gcall_cx, gcav_cx, -Int.not_lt, -Int.not_le, -Nat.not_lt, -Nat.not_le, -List.map_take, gd_in, gd_and]
  refine scan_p1 W hC d1 a i2 n (by omega) (by omega) hsz (Nat.le_refl _) hn _ (b - 1) (by omega) ?_
  generalize hj2 : scanDown (fun x => !lt x d1[a]!) d1 i2 (b - 1) = j2 at u2 hQ ⊢
  obtain ⟨u11, u12, _, u14⟩ := u1
  obtain ⟨u21, u22, _, u24⟩ := u2
  have u12 := u12 (by omega)
  have u22 := u22 u12
  by_cases hg : i2 > j2
  · have hg' : (j2 : Int) < i2 := by omega
    simp only [if_pos hg] at hQ
    have r1 := R.rd d1 (i := j2) (by omega)
    have r2 := R.rd d1 (i := a) (by omega)
    have w1 := R.wr d1 (i := j2) d1[a]! (by omega)
    have w2 := R.wr (d1.setIfInBounds j2 d1[a]!) (i := a) d1[j2]! (by simp; omega)
    have s1 : (d1.setIfInBounds j2 d1[a]!).size = n := by simp [hsz]
    have e2 : swp d1 j2 a = (d1.setIfInBounds j2 d1[a]!).setIfInBounds a d1[j2]! := rfl
    rw [e2] at hQ
    clear u14 u24 hi2 hj2
    generalize d1[a]! = z0 at *
    generalize d1[j2]! = z1 at *
    simp (contextual := true) (maxSteps := 2000000) (disch := omega) [test_cx, rest_cx, gcall_cx, gcav_cx, -Int.not_lt, -Int.not_le, -Nat.not_lt, -Nat.not_le, -List.map_take, gd_in, gd_and, nth_mid, setEl_mid, R.ld, R.st, R.all1, R.len, -valOf_t, -mkAg_eq, wr_i64, hg', r1, r2, w1, w2, s1, hsz]
    exact hQ j2 true _ n rfl (Nat.le_refl _)
  · have hg' : ¬ (j2 : Int) < i2 := by omega
    simp only [if_neg hg] at hQ
    have f1 := u14 (by omega)
    have f2 := u24 (by omega) (by omega)
    have hne : i2 ≠ j2 := fun h => by
      subst h
      simp [f1] at f2
    have r1 := R.rd d1 (i := i2) (by omega)
    have r2 := R.rd d1 (i := j2) (by omega)
    have w1 := R.wr d1 (i := i2) d1[j2]! (by omega)
    have w2 := R.wr (d1.setIfInBounds i2 d1[j2]!) (i := j2) d1[i2]! (by simp; omega)
    have s1 : (d1.setIfInBounds i2 d1[j2]!).size = n := by simp [hsz]
    have e2 : swp d1 i2 j2 = (d1.setIfInBounds i2 d1[j2]!).setIfInBounds j2 d1[i2]! := rfl
    have hj1 : ((j2 - 1 : Nat) : Int) = (j2 : Int) - 1 := by omega
    rw [e2] at hQ
    clear u14 u24 hi2 hj2 f1 f2
    generalize d1[i2]! = z0 at *
    generalize d1[j2]! = z1 at *
    simp (contextual := true) (maxSteps := 2000000) (disch := omega) [test_cx, rest_cx, gcall_cx, gcav_cx, -Int.not_lt, -Int.not_le, -Nat.not_lt, -Nat.not_le, -List.map_take, gd_in, gd_and, nth_mid, setEl_mid, R.ld, R.st, R.all1, R.len, -valOf_t, -mkAg_eq, wr_i64, hg', r1, r2, w1, w2, s1, hsz]
    rw [← hj1]
    refine part_loop W hC a hn _ _ (i2 + 1) (j2 - 1) _ n rfl (by omega) (by omega) (by omega) (by simp [hsz]) (Nat.le_refl _) fun i3 j3 d3 b3 hd3 hb3 haj hjn hin hr => ?_
    rw [hr] at hQ
    have r1 := R.rd d3 (i := j3) (by omega)
    have r2 := R.rd d3 (i := a) (by omega)
    have w1 := R.wr d3 (i := j3) d3[a]! (by omega)
    have w2 := R.wr (d3.setIfInBounds j3 d3[a]!) (i := a) d3[j3]! (by simp; omega)
    have s1 : (d3.setIfInBounds j3 d3[a]!).size = n := by simp [hd3]
    have e2 : swp d3 j3 a = (d3.setIfInBounds j3 d3[a]!).setIfInBounds a d3[j3]! := rfl
    simp only [e2] at hQ
    generalize d3[a]! = z0 at *
    generalize d3[j3]! = z1 at *
    simp (contextual := true) (maxSteps := 2000000) (disch := omega) [test_cx, rest_cx, gcall_cx, gcav_cx, -Int.not_lt, -Int.not_le, -Nat.not_lt, -Nat.not_le, -List.map_take, gd_in, gd_and, nth_mid, setEl_mid, R.ld, R.st, R.all1, R.len, -valOf_t, -mkAg_eq, wr_i64, r1, r2, w1, w2, s1, hd3]
    exact hQ j3 false _ n rfl (Nat.le_refl _)

set_option maxHeartbeats 1000000 in
include W hC in
theorem parteq_w (d : Array α) (a b pivot b0 : Nat) (hp1 : a ≤ pivot) (hp2 : pivot < b) (hb : b ≤ n) (hd : d.size = n) (h0 : b0 ≤ n) (hn : n ≤ 1000000000) (Q : V → Hp → Prop)
    (hQ : ∀ (i : Nat) (d2 : Array α) (b1 : Nat), partitionEqual lt d a b pivot = (i, d2) → b1 ≤ n → Q (.m (.i .i64 i)) (A ++ .cs ty 3 (rowA R d2) b1 false :: C)) :
    Ret G 83 [.sl A.length n 3 0 n lim, .m (.i .i64 a), .m (.i .i64 b), .m (.i .i64 pivot), .m (.fn k [])] (A ++ .cs ty 3 (rowA R d) b0 false :: C) Q := by
  refine ret_sh mono rfl rfl rfl rfl rfl ?_
  have r1 := R.rd d (i := a) (by omega)
  have r2 := R.rd d (i := pivot) (by omega)
  have w1 := R.wr d (i := a) d[pivot]! (by omega)
  have w2 := R.wr (d.setIfInBounds a d[pivot]!) (i := pivot) d[a]! (by simp; omega)
  have s1 : (d.setIfInBounds a d[pivot]!).size = n := by simp [hd]
  have e1 : swp d a pivot = (d.setIfInBounds a d[pivot]!).setIfInBounds pivot d[a]! := rfl
  have hb1 : ((b - 1 : Nat) : Int) = (b : Int) - 1 := by omega
  simp only [partitionEqual, e1] at hQ
  generalize d[a]! = y0 at *
  generalize d[pivot]! = y1 at *
  simp (contextual := true) (maxSteps := 2000000) (disch := omega) [test_cx, rest_cx, gcall_cx, gcav_cx, -Int.not_lt, -Int.not_le, -Nat.not_lt, -Nat.not_le, -List.map_take, gd_in, gd_and, nth_mid, setEl_mid, R.ld, R.st, R.all1, R.len, -valOf_t, -mkAg_eq, wr_i64, r1, r2, w1, w2, s1, hd]
  rw [← hb1]
  refine parteq_loop W hC a hn _ _ (a + 1) (b - 1) _ n rfl (by omega) (by omega) (by omega) (by simp [hd]) (Nat.le_refl _) fun i3 j3 d3 b3 hd3 hb3 haj hjn hin hr => ?_
  simp (contextual := true) (maxSteps := 2000000) (disch := omega) [test_cx, rest_cx, gcall_cx, gcav_cx, -Int.not_lt, -Int.not_le, -Nat.not_lt, -Nat.not_le, -List.map_take, gd_in, gd_and]
  exact hQ i3 d3 b3 hr hb3

include W hC in
theorem rev_w (d : Array α) (a b b0 : Nat) (hab : a < b) (hb : b ≤ n) (hd : d.size = n) (h0 : b0 ≤ n) (hn : n ≤ 1000000000) (Q : V → Hp → Prop)
    (hQ : ∀ b1, b1 ≤ n → Q (.tu []) (A ++ .cs ty 3 (rowA R (reverseRange d a b)) b1 false :: C)) :
    Ret G 81 [.sl A.length n 3 0 n lim, .m (.i .i64 a), .m (.i .i64 b), .m (.fn k [])] (A ++ .cs ty 3 (rowA R d) b0 false :: C) Q := by
  refine ret_sh mono rfl rfl rfl rfl rfl ?_
  have hb1 : ((b - 1 : Nat) : Int) = (b : Int) - 1 := by omega
  unfold reverseRange at hQ
  simp (contextual := true) (maxSteps := 2000000) (disch := omega) [test_cx, rest_cx, gcall_cx, gcav_cx, -Int.not_lt, -Int.not_le, -Nat.not_lt, -Nat.not_le, -List.map_take, gd_in, gd_and, wr_i64]
  rw [← hb1]
  refine (?key : ∀ (m i j : Nat) (d : Array α) (b0 : Nat), j - i = m → j < n → d.size = n → b0 ≤ n → (∀ b1, b1 ≤ n → Q (.tu []) (A ++ .cs ty 3 (rowA R (reverseLoop i j d)) b1 false :: C)) → Run G c81_B0 (S81_0 (.sl A.length n 3 0 n lim) (.m (.i .i64 i)) (.m (.i .i64 j)) [] (A ++ .cs ty 3 (rowA R d) b0 false :: C)) _) _ a (b - 1) d b0 rfl (by omega) hd h0 hQ
  clear hQ hd h0 d b0 hb1
  refine indM (fun m : Nat => m) fun m ih i j d b0 hm hjn hd h0 hQ => ?_
  unfold c81_B0
  rw [reverseLoop] at hQ
  by_cases hij : i < j
  · rw [if_pos hij] at hQ
    have hij' : (i : Int) < j := by omega
    have r1 := R.rd d (i := i) (by omega)
    have r2 := R.rd d (i := j) (by omega)
    have w1 := R.wr d (i := i) d[j]! (by omega)
    have w2 := R.wr (d.setIfInBounds i d[j]!) (i := j) d[i]! (by simp; omega)
    have s1 : (d.setIfInBounds i d[j]!).size = n := by simp [hd]
    have e2 : swp d i j = (d.setIfInBounds i d[j]!).setIfInBounds j d[i]! := rfl
    have hj1 : ((j - 1 : Nat) : Int) = (j : Int) - 1 := by omega
    rw [e2] at hQ
    have ih2 := ih (j - 1 - (i + 1)) (by omega) (i + 1) (j - 1) ((d.setIfInBounds i d[j]!).setIfInBounds j d[i]!) n rfl (by omega) (by simp [hd]) (Nat.le_refl _)
    rw [hj1] at ih2
    clear ih e2
    generalize d[i]! = z0 at *
    generalize d[j]! = z1 at *
    simp (contextual := true) (maxSteps := 2000000) (disch := omega) [test_cx, rest_cx, gcall_cx, gcav_cx, -Int.not_lt, -Int.not_le, -Nat.not_lt, -Nat.not_le, -List.map_take, gd_in, gd_and, nth_mid, setEl_mid, R.ld, R.st, R.all1, R.len, -valOf_t, -mkAg_eq, wr_i64, hij', r1, r2, w1, w2, s1, hd]
    exact ih2 hQ
  · rw [if_neg hij] at hQ
    have hij' : ¬ (i : Int) < j := by omega
    simp (contextual := true) (maxSteps := 2000000) (disch := omega) [test_cx, rest_cx, gcall_cx, gcav_cx, -Int.not_lt, -Int.not_le, -Nat.not_lt, -Nat.not_le, -List.map_take, gd_in, gd_and, hij', hQ b0 h0]
end
end Go.Mx.Tryz
