/- Sorting by a function at the machine, fourth part: the partitions (printed by gensort.py). -/
import Derived.Test.YtfllcbohggcmfaaGreatDoorSrp
set_option linter.unusedSimpArgs false
set_option linter.unusedVariables false
set_option linter.unusedSectionVars false
set_option maxRecDepth 100000
namespace Go.Mx.Tryz
open Go.Sort
section
variable {α : Type} [Inhabited α] {R : Rw α 3 true} {A C : Hp} {k : Nat} {lt : α → α → Bool} (W : Cmp R A k lt) (hC : W.ok C) {ty n : Nat} {lim : Bool}

include W hC in
theorem part_loop (a : Nat) (hn : n ≤ 1000000000) (K : K) : ∀ (m i j : Nat) (d : Array α) (b0 : Nat), j + 1 - i = m → a < i → i ≤ j + 1 → j < n → d.size = n → b0 ≤ n →
    (∀ (i2 j2 : Nat) (d2 : Array α) (b1 : Nat), d2.size = n → b1 ≤ n → a ≤ j2 → j2 < n → i2 ≤ n → (partLoop lt a i j d = (j2, d2)) → At' G (.ex 4) ⟨[(0, .sl A.length n 3 0 n lim), (1, .m (.i .i64 a)), (4, .m (.fn k [])), (12, .m (.i .i64 i2)), (13, .m (.i .i64 j2)), (139, .m (.b false)), (144, .m (.b true))], [], ⟨[], A ++ .cs ty 3 (rowA R d2) b1 false :: C⟩⟩ K) →
    Run G c84_B4 (S84_4 (.sl A.length n 3 0 n lim) (.m (.i .i64 a)) (.m (.fn k [])) (.m (.i .i64 i)) (.m (.i .i64 j)) [] (A ++ .cs ty 3 (rowA R d) b0 false :: C)) (.seq c84_L4 K) := by
  refine indM (fun m : Nat => m) fun m ih i j d b0 hm hai hij hjn hd h0 hK => ?_
  have u1 := scanUp_spec (fun x => lt x d[a]!) d j _ i rfl
  have u2 := scanDown_spec (fun x => !lt x d[a]!) d (scanUp (fun x => lt x d[a]!) d j i) j
  have e := partLoop_eq lt a i j d
  unfold c84_B4
  simp (contextual := true) (maxSteps := 2000000) (disch := omega) [test_cx, rest_cx, gcall_cx, gcav_cx, -Int.not_lt, -Int.not_le, -Nat.not_lt, -Nat.not_le, -List.map_take, gd_in, gd_and]
  refine scan_p2 W hC d a j b0 (by omega) hjn hd h0 hn _ i ?_
  generalize hi2 : scanUp (fun x => lt x d[a]!) d j i = i2 at u1 u2 e ⊢
  simp (contextual := true) (maxSteps := 2000000) (disch := omega) [test_cx, rest_cx, gcall_cx, gcav_cx, -Int.not_lt, -Int.not_le, -Nat.not_lt, -Nat.not_le, -List.map_take, gd_in, gd_and]
  refine scan_p3 W hC d a i2 b0 (by omega) (by omega) hd h0 hn _ j hjn ?_
  generalize hj2 : scanDown (fun x => !lt x d[a]!) d i2 j = j2 at u2 e ⊢
  obtain ⟨u11, u12, _, u14⟩ := u1
  obtain ⟨u21, u22, _, u24⟩ := u2
  have u12 := u12 hij
  have u22 := u22 u12
  by_cases hg : i2 > j2
  · have hg' : (j2 : Int) < i2 := by omega
    rw [if_pos hg] at e
    simp (contextual := true) (maxSteps := 2000000) (disch := omega) [test_cx, rest_cx, gcall_cx, gcav_cx, -Int.not_lt, -Int.not_le, -Nat.not_lt, -Nat.not_le, -List.map_take, gd_in, gd_and, hg']
    exact hK i2 j2 d b0 hd h0 (by omega) (by omega) (by omega) (by simp [e])
  · have hg' : ¬ (j2 : Int) < i2 := by omega
    rw [if_neg hg] at e
    have f1 := u14 (by omega)
    have f2 := u24 (by omega) (by omega)
    have hne : i2 ≠ j2 := fun h => by
      subst h
      simp [f1] at f2
    have r1 := R.rd d (i := i2) (by omega)
    have r2 := R.rd d (i := j2) (by omega)
    have w1 := R.wr d (i := i2) d[j2]! (by omega)
    have w2 := R.wr (d.setIfInBounds i2 d[j2]!) (i := j2) d[i2]! (by simp; omega)
    have s1 : (d.setIfInBounds i2 d[j2]!).size = n := by simp [hd]
    have es : swp d i2 j2 = (d.setIfInBounds i2 d[j2]!).setIfInBounds j2 d[i2]! := rfl
    rw [es] at e
    have ih2 := ih (j2 - 1 + 1 - (i2 + 1)) (by omega) (i2 + 1) (j2 - 1) ((d.setIfInBounds i2 d[j2]!).setIfInBounds j2 d[i2]!) n rfl (by omega) (by omega) (by omega) (by simp [hd]) (Nat.le_refl _)
    rw [e] at hK
    have hj1 : ((j2 - 1 : Nat) : Int) = (j2 : Int) - 1 := by omega
    rw [hj1] at ih2
    clear ih u11 u14 u24 f1 f2 e es
    generalize d[i2]! = y1 at *
    generalize d[j2]! = y2 at *
    simp (contextual := true) (maxSteps := 2000000) (disch := omega) [test_cx, rest_cx, gcall_cx, gcav_cx, -Int.not_lt, -Int.not_le, -Nat.not_lt, -Nat.not_le, -List.map_take, gd_in, gd_and, nth_mid, setEl_mid, R.ld, R.st, R.all1, R.len, -valOf_t, -mkAg_eq, wr_i64, hg', r1, r2, w1, w2, s1, hd]
    exact ih2 hK

include W hC in
theorem parteq_loop (a : Nat) (hn : n ≤ 1000000000) (K : K) : ∀ (m i j : Nat) (d : Array α) (b0 : Nat), j + 1 - i = m → a < i → i ≤ j + 1 → j < n → d.size = n → b0 ≤ n →
    (∀ (i2 j2 : Nat) (d2 : Array α) (b1 : Nat), d2.size = n → b1 ≤ n → a ≤ j2 → j2 < n → i2 ≤ n → (partEqLoop lt a i j d = (i2, d2)) → At' G (.ex 0) ⟨[(0, .sl A.length n 3 0 n lim), (1, .m (.i .i64 a)), (4, .m (.fn k [])), (11, .m (.i .i64 i2)), (12, .m (.i .i64 j2)), (65, .m (.b false)), (70, .m (.b true))], [], ⟨[], A ++ .cs ty 3 (rowA R d2) b1 false :: C⟩⟩ K) →
    Run G c83_B2 (S83_2 (.sl A.length n 3 0 n lim) (.m (.i .i64 a)) (.m (.fn k [])) (.m (.i .i64 i)) (.m (.i .i64 j)) [] (A ++ .cs ty 3 (rowA R d) b0 false :: C)) (.seq c83_L2 K) := by
  refine indM (fun m : Nat => m) fun m ih i j d b0 hm hai hij hjn hd h0 hK => ?_
  have u1 := scanUp_spec (fun x => !lt d[a]! x) d j _ i rfl
  have u2 := scanDown_spec (fun x => lt d[a]! x) d (scanUp (fun x => !lt d[a]! x) d j i) j
  have e := partEqLoop_eq lt a i j d
  unfold c83_B2
  simp (contextual := true) (maxSteps := 2000000) (disch := omega) [test_cx, rest_cx, gcall_cx, gcav_cx, -Int.not_lt, -Int.not_le, -Nat.not_lt, -Nat.not_le, -List.map_take, gd_in, gd_and]
  refine scan_e0 W hC d a j b0 (by omega) hjn hd h0 hn _ i ?_
  generalize hi2 : scanUp (fun x => !lt d[a]! x) d j i = i2 at u1 u2 e ⊢
  simp (contextual := true) (maxSteps := 2000000) (disch := omega) [test_cx, rest_cx, gcall_cx, gcav_cx, -Int.not_lt, -Int.not_le, -Nat.not_lt, -Nat.not_le, -List.map_take, gd_in, gd_and]
  refine scan_e1 W hC d a i2 b0 (by omega) (by omega) hd h0 hn _ j hjn ?_
  generalize hj2 : scanDown (fun x => lt d[a]! x) d i2 j = j2 at u2 e ⊢
  obtain ⟨u11, u12, _, u14⟩ := u1
  obtain ⟨u21, u22, _, u24⟩ := u2
  have u12 := u12 hij
  have u22 := u22 u12
  by_cases hg : i2 > j2
  · have hg' : (j2 : Int) < i2 := by omega
    rw [if_pos hg] at e
    simp (contextual := true) (maxSteps := 2000000) (disch := omega) [test_cx, rest_cx, gcall_cx, gcav_cx, -Int.not_lt, -Int.not_le, -Nat.not_lt, -Nat.not_le, -List.map_take, gd_in, gd_and, hg']
    exact hK i2 j2 d b0 hd h0 (by omega) (by omega) (by omega) (by simp [e])
  · have hg' : ¬ (j2 : Int) < i2 := by omega
    rw [if_neg hg] at e
    have f1 := u14 (by omega)
    have f2 := u24 (by omega) (by omega)
    have hne : i2 ≠ j2 := fun h => by
      subst h
      simp [f2] at f1
    have r1 := R.rd d (i := i2) (by omega)
    have r2 := R.rd d (i := j2) (by omega)
    have w1 := R.wr d (i := i2) d[j2]! (by omega)
    have w2 := R.wr (d.setIfInBounds i2 d[j2]!) (i := j2) d[i2]! (by simp; omega)
    have s1 : (d.setIfInBounds i2 d[j2]!).size = n := by simp [hd]
    have es : swp d i2 j2 = (d.setIfInBounds i2 d[j2]!).setIfInBounds j2 d[i2]! := rfl
    rw [es] at e
    have ih2 := ih (j2 - 1 + 1 - (i2 + 1)) (by omega) (i2 + 1) (j2 - 1) ((d.setIfInBounds i2 d[j2]!).setIfInBounds j2 d[i2]!) n rfl (by omega) (by omega) (by omega) (by simp [hd]) (Nat.le_refl _)
    rw [e] at hK
    have hj1 : ((j2 - 1 : Nat) : Int) = (j2 : Int) - 1 := by omega
    rw [hj1] at ih2
    clear ih u11 u14 u24 f1 f2 e es
    generalize d[i2]! = y1 at *
    generalize d[j2]! = y2 at *
    simp (contextual := true) (maxSteps := 2000000) (disch := omega) [test_cx, rest_cx, gcall_cx, gcav_cx, -Int.not_lt, -Int.not_le, -Nat.not_lt, -Nat.not_le, -List.map_take, gd_in, gd_and, nth_mid, setEl_mid, R.ld, R.st, R.all1, R.len, -valOf_t, -mkAg_eq, wr_i64, hg', r1, r2, w1, w2, s1, hd]
    exact ih2 hK
end
end Go.Mx.Tryz
