/- Sorting by a function at the machine, third part: the scans of the partitions (printed by gensort.py). -/
import Derived.Test.YtfllcbohggcmfaaGreatDoorSrt
set_option linter.unusedSimpArgs false
set_option linter.unusedVariables false
set_option linter.unusedSectionVars false
set_option maxRecDepth 100000
namespace Go.Mx.Tryz
open Go.Sort
section
variable {α : Type} [Inhabited α] {R : Rw α 3 true} {A C : Hp} {k : Nat} {lt : α → α → Bool} (W : Cmp R A k lt) (hC : W.ok C) {ty n : Nat} {lim : Bool}

include W hC in
theorem scan_p0 (d : Array α) (a j b0 : Nat) (ha : a < n) (hj : j < n) (hd : d.size = n) (h0 : b0 ≤ n) (hn : n ≤ 1000000000) (K : K) (i : Nat)
    (hK : At' G (.ex 0) ⟨[(0, .sl A.length n 3 0 n lim), (1, .m (.i .i64 a)), (4, .m (.fn k [])), (12, .m (.i .i64 (scanUp (fun x => lt x d[a]!) d j i))), (13, .m (.i .i64 j)), (47, .m (.b false))], [], ⟨[], A ++ .cs ty 3 (rowA R d) b0 false :: C⟩⟩ K) :
    Run G c84_B0 (S84_0 (.sl A.length n 3 0 n lim) (.m (.i .i64 a)) (.m (.fn k [])) (.m (.i .i64 i)) (.m (.i .i64 j)) [] (A ++ .cs ty 3 (rowA R d) b0 false :: C)) (.seq c84_L0 K) := by
  revert hK
  revert i
  refine indM (fun i : Nat => j + 1 - i) fun i ih hK => ?_
  unfold c84_B0
  rw [scanUp] at hK
  by_cases hij : i ≤ j
  · have hij' : (i : Int) ≤ j := by omega
    have r1 := R.rd d (i := i) (by omega)
    have r2 := R.rd d (i := a) (by omega)
    have q := fun row => W.run d[i]! d[a]! row C hC
    have m := W.neg d[i]! d[a]!
    have ih := ih (i + 1) (by omega)
    generalize hu : d[i]! = u at r1 q m hK
    generalize hw : d[a]! = w at r2 q m hK ih
    simp (contextual := true) (maxSteps := 2000000) (disch := omega) [test_cx, rest_cx, gcall_cx, gcav_cx, -Int.not_lt, -Int.not_le, -Nat.not_lt, -Nat.not_le, -List.map_take, gd_in, gd_and, nth_mid, setEl_mid, R.ld, R.st, R.all1, R.len, -valOf_t, -mkAg_eq, wr_i64, hij', r1, r2, cl (q _), m, hd]
    refine ⟨fun l => ?_, fun l => ?_⟩
    · have e : lt u w = true := by simpa using l
      rw [if_pos (by simp [hij, e])] at hK
      simpa using ih hK
    · have e : lt u w = false := by simpa using l
      rw [if_neg (by simp [e])] at hK
      exact hK
  · have hij' : ¬ (i : Int) ≤ j := by omega
    rw [if_neg (by simp [hij])] at hK
    simp (contextual := true) (maxSteps := 2000000) (disch := omega) [test_cx, rest_cx, gcall_cx, gcav_cx, -Int.not_lt, -Int.not_le, -Nat.not_lt, -Nat.not_le, -List.map_take, gd_in, gd_and, hij']
    exact hK

include W hC in
theorem scan_p1 (d : Array α) (a i b0 : Nat) (ha : a < n) (hi : 1 ≤ i) (hd : d.size = n) (h0 : b0 ≤ n) (hn : n ≤ 1000000000) (K : K) (j : Nat) (hj : j < n)
    (hK : At' G (.ex 2) ⟨[(0, .sl A.length n 3 0 n lim), (1, .m (.i .i64 a)), (4, .m (.fn k [])), (12, .m (.i .i64 i)), (13, .m (.i .i64 (scanDown (fun x => !lt x d[a]!) d i j))), (66, .m (.b false))], [], ⟨[], A ++ .cs ty 3 (rowA R d) b0 false :: C⟩⟩ K) :
    Run G c84_B1 (S84_1 (.sl A.length n 3 0 n lim) (.m (.i .i64 a)) (.m (.fn k [])) (.m (.i .i64 i)) (.m (.i .i64 j)) [] (A ++ .cs ty 3 (rowA R d) b0 false :: C)) (.seq c84_L1 K) := by
  revert hK
  revert hj
  revert j
  refine indM (fun j : Nat => j) fun j ih hj hK => ?_
  unfold c84_B1
  cases j with
  | zero =>
    have hij' : ¬ (i : Int) ≤ 0 := by omega
    have hi0 : ¬ i = 0 := by omega
    rw [scanDown] at hK
    simp (contextual := true) (maxSteps := 2000000) (disch := omega) [test_cx, rest_cx, gcall_cx, gcav_cx, -Int.not_lt, -Int.not_le, -Nat.not_lt, -Nat.not_le, -List.map_take, gd_in, gd_and, hij', hi0]
    simpa using hK
  | succ j =>
    rw [scanDown] at hK
    by_cases hij : i ≤ j + 1
    · have hij' : (i : Int) ≤ j + 1 := by omega
      have r1 := R.rd d (i := j + 1) (by omega)
      have r2 := R.rd d (i := a) (by omega)
      have q := fun row => W.run d[j + 1]! d[a]! row C hC
      have m := W.neg d[j + 1]! d[a]!
      have t1 : ((j : Int) + 1).toNat = j + 1 := by omega
      have ih := ih j (by omega) (by omega)
      generalize hu : d[j + 1]! = u at r1 q m hK
      generalize hw : d[a]! = w at r2 q m hK ih
      simp (contextual := true) (maxSteps := 2000000) (disch := omega) [test_cx, rest_cx, gcall_cx, gcav_cx, -Int.not_lt, -Int.not_le, -Nat.not_lt, -Nat.not_le, -List.map_take, gd_in, gd_and, nth_mid, setEl_mid, R.ld, R.st, R.all1, R.len, -valOf_t, -mkAg_eq, wr_i64, hij', r1, r2, cl (q _), m, hd, t1]
      refine ⟨fun l => ?_, fun l => ?_⟩
      · have e : lt u w = false := by simpa using l
        rw [if_pos (by simp [hij, e])] at hK
        simpa using ih hK
      · have e : lt u w = true := by simpa using l
        rw [if_neg (by simp [e])] at hK
        simpa using hK
    · have hij' : ¬ (i : Int) ≤ j + 1 := by omega
      rw [if_neg (by simp [hij])] at hK
      simp (contextual := true) (maxSteps := 2000000) (disch := omega) [test_cx, rest_cx, gcall_cx, gcav_cx, -Int.not_lt, -Int.not_le, -Nat.not_lt, -Nat.not_le, -List.map_take, gd_in, gd_and, hij']
      simpa using hK

include W hC in
theorem scan_p2 (d : Array α) (a j b0 : Nat) (ha : a < n) (hj : j < n) (hd : d.size = n) (h0 : b0 ≤ n) (hn : n ≤ 1000000000) (K : K) (i : Nat)
    (hK : At' G (.ex 6) ⟨[(0, .sl A.length n 3 0 n lim), (1, .m (.i .i64 a)), (4, .m (.fn k [])), (12, .m (.i .i64 (scanUp (fun x => lt x d[a]!) d j i))), (13, .m (.i .i64 j)), (120, .m (.b false))], [], ⟨[], A ++ .cs ty 3 (rowA R d) b0 false :: C⟩⟩ K) :
    Run G c84_B2 (S84_2 (.sl A.length n 3 0 n lim) (.m (.i .i64 a)) (.m (.fn k [])) (.m (.i .i64 i)) (.m (.i .i64 j)) [] (A ++ .cs ty 3 (rowA R d) b0 false :: C)) (.seq c84_L2 K) := by
  revert hK
  revert i
  refine indM (fun i : Nat => j + 1 - i) fun i ih hK => ?_
  unfold c84_B2
  rw [scanUp] at hK
  by_cases hij : i ≤ j
  · have hij' : (i : Int) ≤ j := by omega
    have r1 := R.rd d (i := i) (by omega)
    have r2 := R.rd d (i := a) (by omega)
    have q := fun row => W.run d[i]! d[a]! row C hC
    have m := W.neg d[i]! d[a]!
    have ih := ih (i + 1) (by omega)
    generalize hu : d[i]! = u at r1 q m hK
    generalize hw : d[a]! = w at r2 q m hK ih
    simp (contextual := true) (maxSteps := 2000000) (disch := omega) [test_cx, rest_cx, gcall_cx, gcav_cx, -Int.not_lt, -Int.not_le, -Nat.not_lt, -Nat.not_le, -List.map_take, gd_in, gd_and, nth_mid, setEl_mid, R.ld, R.st, R.all1, R.len, -valOf_t, -mkAg_eq, wr_i64, hij', r1, r2, cl (q _), m, hd]
    refine ⟨fun l => ?_, fun l => ?_⟩
    · have e : lt u w = true := by simpa using l
      rw [if_pos (by simp [hij, e])] at hK
      simpa using ih hK
    · have e : lt u w = false := by simpa using l
      rw [if_neg (by simp [e])] at hK
      exact hK
  · have hij' : ¬ (i : Int) ≤ j := by omega
    rw [if_neg (by simp [hij])] at hK
    simp (contextual := true) (maxSteps := 2000000) (disch := omega) [test_cx, rest_cx, gcall_cx, gcav_cx, -Int.not_lt, -Int.not_le, -Nat.not_lt, -Nat.not_le, -List.map_take, gd_in, gd_and, hij']
    exact hK

include W hC in
theorem scan_p3 (d : Array α) (a i b0 : Nat) (ha : a < n) (hi : 1 ≤ i) (hd : d.size = n) (h0 : b0 ≤ n) (hn : n ≤ 1000000000) (K : K) (j : Nat) (hj : j < n)
    (hK : At' G (.ex 8) ⟨[(0, .sl A.length n 3 0 n lim), (1, .m (.i .i64 a)), (4, .m (.fn k [])), (12, .m (.i .i64 i)), (13, .m (.i .i64 (scanDown (fun x => !lt x d[a]!) d i j))), (139, .m (.b false))], [], ⟨[], A ++ .cs ty 3 (rowA R d) b0 false :: C⟩⟩ K) :
    Run G c84_B3 (S84_3 (.sl A.length n 3 0 n lim) (.m (.i .i64 a)) (.m (.fn k [])) (.m (.i .i64 i)) (.m (.i .i64 j)) [] (A ++ .cs ty 3 (rowA R d) b0 false :: C)) (.seq c84_L3 K) := by
  revert hK
  revert hj
  revert j
  refine indM (fun j : Nat => j) fun j ih hj hK => ?_
  unfold c84_B3
  cases j with
  | zero =>
    have hij' : ¬ (i : Int) ≤ 0 := by omega
    have hi0 : ¬ i = 0 := by omega
    rw [scanDown] at hK
    simp (contextual := true) (maxSteps := 2000000) (disch := omega) [test_cx, rest_cx, gcall_cx, gcav_cx, -Int.not_lt, -Int.not_le, -Nat.not_lt, -Nat.not_le, -List.map_take, gd_in, gd_and, hij', hi0]
    simpa using hK
  | succ j =>
    rw [scanDown] at hK
    by_cases hij : i ≤ j + 1
    · have hij' : (i : Int) ≤ j + 1 := by omega
      have r1 := R.rd d (i := j + 1) (by omega)
      have r2 := R.rd d (i := a) (by omega)
      have q := fun row => W.run d[j + 1]! d[a]! row C hC
      have m := W.neg d[j + 1]! d[a]!
      have t1 : ((j : Int) + 1).toNat = j + 1 := by omega
      have ih := ih j (by omega) (by omega)
      generalize hu : d[j + 1]! = u at r1 q m hK
      generalize hw : d[a]! = w at r2 q m hK ih
      simp (contextual := true) (maxSteps := 2000000) (disch := omega) [test_cx, rest_cx, gcall_cx, gcav_cx, -Int.not_lt, -Int.not_le, -Nat.not_lt, -Nat.not_le, -List.map_take, gd_in, gd_and, nth_mid, setEl_mid, R.ld, R.st, R.all1, R.len, -valOf_t, -mkAg_eq, wr_i64, hij', r1, r2, cl (q _), m, hd, t1]
      refine ⟨fun l => ?_, fun l => ?_⟩
      · have e : lt u w = false := by simpa using l
        rw [if_pos (by simp [hij, e])] at hK
        simpa using ih hK
      · have e : lt u w = true := by simpa using l
        rw [if_neg (by simp [e])] at hK
        simpa using hK
    · have hij' : ¬ (i : Int) ≤ j + 1 := by omega
      rw [if_neg (by simp [hij])] at hK
      simp (contextual := true) (maxSteps := 2000000) (disch := omega) [test_cx, rest_cx, gcall_cx, gcav_cx, -Int.not_lt, -Int.not_le, -Nat.not_lt, -Nat.not_le, -List.map_take, gd_in, gd_and, hij']
      simpa using hK

include W hC in
theorem scan_e0 (d : Array α) (a j b0 : Nat) (ha : a < n) (hj : j < n) (hd : d.size = n) (h0 : b0 ≤ n) (hn : n ≤ 1000000000) (K : K) (i : Nat)
    (hK : At' G (.ex 2) ⟨[(0, .sl A.length n 3 0 n lim), (1, .m (.i .i64 a)), (4, .m (.fn k [])), (11, .m (.i .i64 (scanUp (fun x => !lt d[a]! x) d j i))), (12, .m (.i .i64 j)), (47, .m (.b false))], [], ⟨[], A ++ .cs ty 3 (rowA R d) b0 false :: C⟩⟩ K) :
    Run G c83_B0 (S83_0 (.sl A.length n 3 0 n lim) (.m (.i .i64 a)) (.m (.fn k [])) (.m (.i .i64 i)) (.m (.i .i64 j)) [] (A ++ .cs ty 3 (rowA R d) b0 false :: C)) (.seq c83_L0 K) := by
  revert hK
  revert i
  refine indM (fun i : Nat => j + 1 - i) fun i ih hK => ?_
  unfold c83_B0
  rw [scanUp] at hK
  by_cases hij : i ≤ j
  · have hij' : (i : Int) ≤ j := by omega
    have r1 := R.rd d (i := i) (by omega)
    have r2 := R.rd d (i := a) (by omega)
    have q := fun row => W.run d[a]! d[i]! row C hC
    have m := W.neg d[a]! d[i]!
    have ih := ih (i + 1) (by omega)
    generalize hu : d[i]! = u at r1 q m hK
    generalize hw : d[a]! = w at r2 q m hK ih
    simp (contextual := true) (maxSteps := 2000000) (disch := omega) [test_cx, rest_cx, gcall_cx, gcav_cx, -Int.not_lt, -Int.not_le, -Nat.not_lt, -Nat.not_le, -List.map_take, gd_in, gd_and, nth_mid, setEl_mid, R.ld, R.st, R.all1, R.len, -valOf_t, -mkAg_eq, wr_i64, hij', r1, r2, cl (q _), m, hd]
    refine ⟨fun l => ?_, fun l => ?_⟩
    · have e : lt w u = false := by simpa using l
      rw [if_pos (by simp [hij, e])] at hK
      simpa using ih hK
    · have e : lt w u = true := by simpa using l
      rw [if_neg (by simp [e])] at hK
      exact hK
  · have hij' : ¬ (i : Int) ≤ j := by omega
    rw [if_neg (by simp [hij])] at hK
    simp (contextual := true) (maxSteps := 2000000) (disch := omega) [test_cx, rest_cx, gcall_cx, gcav_cx, -Int.not_lt, -Int.not_le, -Nat.not_lt, -Nat.not_le, -List.map_take, gd_in, gd_and, hij']
    exact hK

include W hC in
theorem scan_e1 (d : Array α) (a i b0 : Nat) (ha : a < n) (hi : 1 ≤ i) (hd : d.size = n) (h0 : b0 ≤ n) (hn : n ≤ 1000000000) (K : K) (j : Nat) (hj : j < n)
    (hK : At' G (.ex 4) ⟨[(0, .sl A.length n 3 0 n lim), (1, .m (.i .i64 a)), (4, .m (.fn k [])), (11, .m (.i .i64 i)), (12, .m (.i .i64 (scanDown (fun x => lt d[a]! x) d i j))), (65, .m (.b false))], [], ⟨[], A ++ .cs ty 3 (rowA R d) b0 false :: C⟩⟩ K) :
    Run G c83_B1 (S83_1 (.sl A.length n 3 0 n lim) (.m (.i .i64 a)) (.m (.fn k [])) (.m (.i .i64 i)) (.m (.i .i64 j)) [] (A ++ .cs ty 3 (rowA R d) b0 false :: C)) (.seq c83_L1 K) := by
  revert hK
  revert hj
  revert j
  refine indM (fun j : Nat => j) fun j ih hj hK => ?_
  unfold c83_B1
  cases j with
  | zero =>
    have hij' : ¬ (i : Int) ≤ 0 := by omega
    have hi0 : ¬ i = 0 := by omega
    rw [scanDown] at hK
    simp (contextual := true) (maxSteps := 2000000) (disch := omega) [test_cx, rest_cx, gcall_cx, gcav_cx, -Int.not_lt, -Int.not_le, -Nat.not_lt, -Nat.not_le, -List.map_take, gd_in, gd_and, hij', hi0]
    simpa using hK
  | succ j =>
    rw [scanDown] at hK
    by_cases hij : i ≤ j + 1
    · have hij' : (i : Int) ≤ j + 1 := by omega
      have r1 := R.rd d (i := j + 1) (by omega)
      have r2 := R.rd d (i := a) (by omega)
      have q := fun row => W.run d[a]! d[j + 1]! row C hC
      have m := W.neg d[a]! d[j + 1]!
      have t1 : ((j : Int) + 1).toNat = j + 1 := by omega
      have ih := ih j (by omega) (by omega)
      generalize hu : d[j + 1]! = u at r1 q m hK
      generalize hw : d[a]! = w at r2 q m hK ih
      simp (contextual := true) (maxSteps := 2000000) (disch := omega) [test_cx, rest_cx, gcall_cx, gcav_cx, -Int.not_lt, -Int.not_le, -Nat.not_lt, -Nat.not_le, -List.map_take, gd_in, gd_and, nth_mid, setEl_mid, R.ld, R.st, R.all1, R.len, -valOf_t, -mkAg_eq, wr_i64, hij', r1, r2, cl (q _), m, hd, t1]
      refine ⟨fun l => ?_, fun l => ?_⟩
      · have e : lt w u = true := by simpa using l
        rw [if_pos (by simp [hij, e])] at hK
        simpa using ih hK
      · have e : lt w u = false := by simpa using l
        rw [if_neg (by simp [e])] at hK
        simpa using hK
    · have hij' : ¬ (i : Int) ≤ j + 1 := by omega
      rw [if_neg (by simp [hij])] at hK
      simp (contextual := true) (maxSteps := 2000000) (disch := omega) [test_cx, rest_cx, gcall_cx, gcav_cx, -Int.not_lt, -Int.not_le, -Nat.not_lt, -Nat.not_le, -List.map_take, gd_in, gd_and, hij']
      simpa using hK
end
end Go.Mx.Tryz
