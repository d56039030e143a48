/- Sorting by a function at the machine, sixth part: the partial insertion sort. -/
import Derived.Test.YtfllcbohggcmfaaGreatDoorSrs
set_option linter.unusedSimpArgs false
set_option linter.unusedVariables false
set_option linter.unusedSectionVars false
set_option maxRecDepth 100000
namespace Go.Mx.Tryz
open Go.Sort
section
variable {α : Type} [Inhabited α] {R : Rw α 3 true} {A C : Hp} {k : Nat} {lt : α → α → Bool} (W : Cmp R A k lt) (hC : W.ok C) {ty n : Nat} {lim : Bool}

theorem scanSorted_ge {α : Type} [Inhabited α] (lt : α → α → Bool) (d : Array α) (b : Nat) (i : Nat) : i ≤ scanSorted lt d b i ∧ (i ≤ b → scanSorted lt d b i ≤ b) := by
  fun_induction scanSorted lt d b i <;> simp_all <;> omega
include W hC in
theorem pis_scan (d : Array α) (a b b0 : Nat) (x10 : V) (hb : b ≤ n) (hd : d.size = n) (h0 : b0 ≤ n) (hn : n ≤ 1000000000) (K : K) (i : Nat) (hi : 1 ≤ i)
    (hK : At' G (.ex 2) ⟨[(0, .sl A.length n 3 0 n lim), (1, .m (.i .i64 a)), (2, .m (.i .i64 b)), (3, .m (.fn k [])), (9, .m (.i .i64 (scanSorted lt d b i))), (10, x10), (36, .m (.b false))], [], ⟨[], A ++ .cs ty 3 (rowA R d) b0 false :: C⟩⟩ K) :
    Run G c82_B0 (S82_0 (.sl A.length n 3 0 n lim) (.m (.i .i64 a)) (.m (.i .i64 b)) (.m (.fn k [])) (.m (.i .i64 i)) x10 [] (A ++ .cs ty 3 (rowA R d) b0 false :: C)) (.seq c82_L0 K) := by
  revert hK
  revert hi
  revert i
  refine indM (fun i : Nat => b - i) fun i ih hi hK => ?_
  unfold c82_B0
  rw [scanSorted] at hK
  by_cases hij : i < b
  · obtain ⟨m, rfl⟩ : ∃ m, i = m + 1 := ⟨i - 1, by omega⟩
    have hij' : (m : Int) + 1 < b := by omega
    have r1 := R.rd d (i := m + 1) (by omega)
    have r2 := R.rd d (i := m) (by omega)
    have q := fun row => W.run d[m + 1]! d[m]! row C hC
    have e := W.neg d[m + 1]! d[m]!
    have ih := ih (m + 1 + 1) (by omega) (by omega)
    have t1 : ((m : Int) + 1).toNat = m + 1 := by omega
    have t2 : ((m : Int) + 1 - 1).toNat = m := by omega
    rw [show m + 1 - 1 = m from rfl] at hK
    generalize d[m + 1]! = u at r1 q e hK
    generalize d[m]! = w at r2 q e hK
    simp (contextual := true) (maxSteps := 2000000) (disch := omega) [test_cx, rest_cx, gcall_cx, gcav_cx, -Int.not_lt, -Int.not_le, -Nat.not_lt, -Nat.not_le, -List.map_take, gd_in, gd_and, nth_mid, setEl_mid, R.ld, R.st, R.all1, R.len, -valOf_t, -mkAg_eq, wr_i64, hij', r1, r2, cl (q _), e, hd, t1, t2]
    refine ⟨fun l => ?_, fun l => ?_⟩
    · rw [if_pos (by simp [hij, l])] at hK
      simpa using ih hK
    · rw [if_neg (by simp [l])] at hK
      simpa using hK
  · have hij' : ¬ (i : Int) < b := by omega
    rw [if_neg (by simp [hij])] at hK
    simp (contextual := true) (maxSteps := 2000000) (disch := omega) [test_cx, rest_cx, gcall_cx, gcav_cx, -Int.not_lt, -Int.not_le, -Nat.not_lt, -Nat.not_le, -List.map_take, gd_in, gd_and, hij']
    exact hK
include W hC in
theorem pis_down (a b : Nat) (x9 x10 : V) (hb : b ≤ n) (hn : n ≤ 1000000000) (K : K) : ∀ (j : Nat) (d : Array α) (b0 : Nat), j < n → d.size = n → b0 ≤ n →
    (∀ (j2 : Nat) (b1 : Nat), b1 ≤ n → At' G (.ex 4) ⟨[(0, .sl A.length n 3 0 n lim), (1, .m (.i .i64 a)), (2, .m (.i .i64 b)), (3, .m (.fn k [])), (9, x9), (10, x10), (11, .m (.i .i64 j2)), (69, .m (.b false))], [], ⟨[], A ++ .cs ty 3 (rowA R (shiftDown lt j d)) b1 false :: C⟩⟩ K) →
    (∀ (j2 : Nat) (b1 : Nat), b1 ≤ n → At' G (.ex 4) ⟨[(0, .sl A.length n 3 0 n lim), (1, .m (.i .i64 a)), (2, .m (.i .i64 b)), (3, .m (.fn k [])), (9, x9), (10, x10), (11, .m (.i .i64 j2)), (69, .m (.b true)), (84, .m (.b true))], [], ⟨[], A ++ .cs ty 3 (rowA R (shiftDown lt j d)) b1 false :: C⟩⟩ K) →
    Run G c82_B1 (S82_1 (.sl A.length n 3 0 n lim) (.m (.i .i64 a)) (.m (.i .i64 b)) (.m (.fn k [])) x9 x10 (.m (.i .i64 j)) [] (A ++ .cs ty 3 (rowA R d) b0 false :: C)) (.seq c82_L1 K) := by
  refine indM (fun j : Nat => j) fun j ih d b0 hj hd h0 hK1 hK2 => ?_
  unfold c82_B1
  cases j with
  | zero =>
    rw [shiftDown] at hK1
    simp (contextual := true) (maxSteps := 2000000) (disch := omega) [test_cx, rest_cx, gcall_cx, gcav_cx, -Int.not_lt, -Int.not_le, -Nat.not_lt, -Nat.not_le, -List.map_take, gd_in, gd_and]
    exact hK1 0 b0 h0
  | succ m =>
    rw [shiftDown] at hK1 hK2
    have hm1 : (1 : Int) ≤ m + 1 := by omega
    have r1 := R.rd d (i := m + 1) (by omega)
    have r2 := R.rd d (i := m) (by omega)
    have q := fun row => W.run d[m + 1]! d[m]! row C hC
    have e := W.neg d[m + 1]! d[m]!
    have w1 := R.wr d (i := m + 1) d[m]! (by omega)
    have w2 := R.wr (d.setIfInBounds (m + 1) d[m]!) (i := m) d[m + 1]! (by simp; omega)
    have s1 : (d.setIfInBounds (m + 1) d[m]!).size = n := by simp [hd]
    have e2 : swp d (m + 1) m = (d.setIfInBounds (m + 1) d[m]!).setIfInBounds m d[m + 1]! := rfl
    have t1 : ((m : Int) + 1).toNat = m + 1 := by omega
    have t2 : ((m : Int) + 1 - 1).toNat = m := by omega
    have ih2 := ih m (by omega) ((d.setIfInBounds (m + 1) d[m]!).setIfInBounds m d[m + 1]!) n (by omega) (by simp [hd]) (Nat.le_refl _)
    rw [e2] at hK1 hK2
    clear ih e2
    generalize d[m + 1]! = u at *
    generalize d[m]! = w at *
    simp (contextual := true) (maxSteps := 2000000) (disch := omega) [test_cx, rest_cx, gcall_cx, gcav_cx, -Int.not_lt, -Int.not_le, -Nat.not_lt, -Nat.not_le, -List.map_take, gd_in, gd_and, nth_mid, setEl_mid, R.ld, R.st, R.all1, R.len, -valOf_t, -mkAg_eq, wr_i64, hm1, r1, r2, cl (q _), e, w1, w2, s1, hd, t1, t2]
    refine ⟨fun l => ?_, fun l => ?_⟩
    · rw [if_pos (by simp [l])] at hK2
      simpa using hK2 (m + 1) b0 h0
    · rw [if_neg (by simp [l])] at hK1 hK2
      simpa using ih2 hK1 hK2
include W hC in
theorem pis_up (a b : Nat) (x9 x10 : V) (hb : b ≤ n) (hn : n ≤ 1000000000) (K : K) : ∀ (m j : Nat) (d : Array α) (b0 : Nat), b - j = m → 1 ≤ j → d.size = n → b0 ≤ n →
    (∀ (j2 : Nat) (b1 : Nat), b1 ≤ n → At' G (.ex 6) ⟨[(0, .sl A.length n 3 0 n lim), (1, .m (.i .i64 a)), (2, .m (.i .i64 b)), (3, .m (.fn k [])), (9, x9), (10, x10), (12, .m (.i .i64 j2)), (109, .m (.b false))], [], ⟨[], A ++ .cs ty 3 (rowA R (shiftUp lt b j d)) b1 false :: C⟩⟩ K) →
    (∀ (j2 : Nat) (b1 : Nat), b1 ≤ n → At' G (.ex 6) ⟨[(0, .sl A.length n 3 0 n lim), (1, .m (.i .i64 a)), (2, .m (.i .i64 b)), (3, .m (.fn k [])), (9, x9), (10, x10), (12, .m (.i .i64 j2)), (109, .m (.b true)), (124, .m (.b true))], [], ⟨[], A ++ .cs ty 3 (rowA R (shiftUp lt b j d)) b1 false :: C⟩⟩ K) →
    Run G c82_B2 (S82_2 (.sl A.length n 3 0 n lim) (.m (.i .i64 a)) (.m (.i .i64 b)) (.m (.fn k [])) x9 x10 (.m (.i .i64 j)) [] (A ++ .cs ty 3 (rowA R d) b0 false :: C)) (.seq c82_L2 K) := by
  refine indM (fun m : Nat => m) fun m ih j d b0 hm hj hd h0 hK1 hK2 => ?_
  unfold c82_B2
  rw [shiftUp] at hK1 hK2
  by_cases hjb : j < b
  · rw [if_pos hjb] at hK1 hK2
    obtain ⟨m, rfl⟩ : ∃ m, j = m + 1 := ⟨j - 1, by omega⟩
    rw [show m + 1 - 1 = m from rfl] at hK1 hK2
    have hjb' : (m : Int) + 1 < b := by omega
    have r1 := R.rd d (i := m + 1) (by omega)
    have r2 := R.rd d (i := m) (by omega)
    have q := fun row => W.run d[m + 1]! d[m]! row C hC
    have e := W.neg d[m + 1]! d[m]!
    have w1 := R.wr d (i := m + 1) d[m]! (by omega)
    have w2 := R.wr (d.setIfInBounds (m + 1) d[m]!) (i := m) d[m + 1]! (by simp; omega)
    have s1 : (d.setIfInBounds (m + 1) d[m]!).size = n := by simp [hd]
    have e2 : swp d (m + 1) m = (d.setIfInBounds (m + 1) d[m]!).setIfInBounds m d[m + 1]! := rfl
    have t1 : ((m : Int) + 1).toNat = m + 1 := by omega
    have t2 : ((m : Int) + 1 - 1).toNat = m := by omega
    have ih2 := ih (b - (m + 1 + 1)) (by omega) (m + 1 + 1) ((d.setIfInBounds (m + 1) d[m]!).setIfInBounds m d[m + 1]!) n rfl (by omega) (by simp [hd]) (Nat.le_refl _)
    rw [e2] at hK1 hK2
    clear ih e2
    generalize d[m + 1]! = u at *
    generalize d[m]! = w at *
    simp (contextual := true) (maxSteps := 2000000) (disch := omega) [test_cx, rest_cx, gcall_cx, gcav_cx, -Int.not_lt, -Int.not_le, -Nat.not_lt, -Nat.not_le, -List.map_take, gd_in, gd_and, nth_mid, setEl_mid, R.ld, R.st, R.all1, R.len, -valOf_t, -mkAg_eq, wr_i64, hjb', r1, r2, cl (q _), e, w1, w2, s1, hd, t1, t2]
    refine ⟨fun l => ?_, fun l => ?_⟩
    · rw [if_pos (by simp [l])] at hK2
      simpa using hK2 (m + 1) b0 h0
    · rw [if_neg (by simp [l])] at hK1 hK2
      simpa using ih2 hK1 hK2
  · rw [if_neg hjb] at hK1
    have hjb' : ¬ (j : Int) < b := by omega
    simp (contextual := true) (maxSteps := 2000000) (disch := omega) [test_cx, rest_cx, gcall_cx, gcav_cx, -Int.not_lt, -Int.not_le, -Nat.not_lt, -Nat.not_le, -List.map_take, gd_in, gd_and, hjb']
    exact hK1 j b0 h0
theorem shiftDown_size (lt : α → α → Bool) : ∀ (j : Nat) (d : Array α), (shiftDown lt j d).size = d.size
  | 0, _ => rfl
  | j + 1, d => by
    rw [shiftDown]
    split
    · rfl
    · rw [shiftDown_size lt j, swp_size]
theorem shiftUp_size (lt : α → α → Bool) (b j : Nat) (d : Array α) : (shiftUp lt b j d).size = d.size := by
  fun_induction shiftUp lt b j d <;> simp_all [swp]
set_option maxHeartbeats 2000000 in
include W hC in
theorem pis_w (d : Array α) (a b b0 : Nat) (hab : a < b) (hb : b ≤ n) (hd : d.size = n) (h0 : b0 ≤ n) (hn : n ≤ 1000000000) (Q : V → Hp → Prop)
    (hQ : ∀ b1, b1 ≤ n → Q (.m (.b (partialInsertionSort lt d a b).2)) (A ++ .cs ty 3 (rowA R (partialInsertionSort lt d a b).1) b1 false :: C)) :
    Ret G 82 [.sl A.length n 3 0 n lim, .m (.i .i64 a), .m (.i .i64 b), .m (.fn k [])] (A ++ .cs ty 3 (rowA R d) b0 false :: C) Q := by
  refine ret_sh mono rfl rfl rfl rfl rfl ?_
  unfold partialInsertionSort at hQ
  simp (contextual := true) (maxSteps := 2000000) (disch := omega) [test_cx, rest_cx, gcall_cx, gcav_cx, -Int.not_lt, -Int.not_le, -Nat.not_lt, -Nat.not_le, -List.map_take, gd_in, gd_and, wr_i64]
  refine (?key : ∀ (s i : Nat) (d : Array α) (b0 : Nat), s ≤ 5 → a + 1 ≤ i → i ≤ b → d.size = n → b0 ≤ n → (∀ b1, b1 ≤ n → Q (.m (.b (partialIns lt a b s i d).2)) (A ++ .cs ty 3 (rowA R (partialIns lt a b s i d).1) b1 false :: C)) → Run G c82_B3 (S82_3 (.sl A.length n 3 0 n lim) (.m (.i .i64 a)) (.m (.i .i64 b)) (.m (.fn k [])) (.m (.i .i64 i)) (.m (.i .i64 ((5 - s : Nat) : Int))) [] (A ++ .cs ty 3 (rowA R d) b0 false :: C)) _) 5 (a + 1) d b0 (Nat.le_refl _) (Nat.le_refl _) hab hd h0 hQ
  clear hQ hd h0 d b0
  intro s
  induction s with
  | zero =>
    intro i d b0 hs hi hib hd h0 hQ
    unfold c82_B3
    rw [partialIns] at hQ
    simp (contextual := true) (maxSteps := 2000000) (disch := omega) [test_cx, rest_cx, gcall_cx, gcav_cx, -Int.not_lt, -Int.not_le, -Nat.not_lt, -Nat.not_le, -List.map_take, gd_in, gd_and]
    exact hQ b0 h0
  | succ s ih =>
    intro i d b0 hs hi hib hd h0 hQ
    rw [partialIns_succ] at hQ
    have hs5 : ((5 - (s + 1) : Nat) : Int) < 5 := by omega
    have hs6 : ((5 - (s + 1) : Nat) : Int) + 1 = ((5 - s : Nat) : Int) := by omega
    generalize ((5 - (s + 1) : Nat) : Int) = x10 at hs5 hs6 ⊢
    have hx10 : -1 ≤ x10 := by omega
    have u := scanSorted_ge lt d b i
    unfold c82_B3
    simp (contextual := true) (maxSteps := 2000000) (disch := omega) [test_cx, rest_cx, gcall_cx, gcav_cx, -Int.not_lt, -Int.not_le, -Nat.not_lt, -Nat.not_le, -List.map_take, gd_in, gd_and, hs5]
    refine pis_scan W hC d a b b0 _ hb hd h0 hn _ i (by omega) ?_
    generalize hi2 : scanSorted lt d b i = i2 at u hQ ⊢
    have u2 := u.2 hib
    by_cases hib2 : i2 = b
    · have hib3 : (i2 : Int) = b := by omega
      simp only [if_pos hib2] at hQ
      simp (contextual := true) (maxSteps := 2000000) (disch := omega) [test_cx, rest_cx, gcall_cx, gcav_cx, -Int.not_lt, -Int.not_le, -Nat.not_lt, -Nat.not_le, -List.map_take, gd_in, gd_and, hib3]
      exact hQ b0 h0
    · have hib3 : ¬ (i2 : Int) = b := by omega
      have hib4 : ¬ i2 = b := hib2
      simp only [if_neg hib2] at hQ
      by_cases h50 : b - a < 50
      · have h50' : (b : Int) - a < 50 := by omega
        simp only [if_pos h50] at hQ
        simp (contextual := true) (maxSteps := 2000000) (disch := omega) [test_cx, rest_cx, gcall_cx, gcav_cx, -Int.not_lt, -Int.not_le, -Nat.not_lt, -Nat.not_le, -List.map_take, gd_in, gd_and, wr_i64, hib3, hib4, h50']
        exact hQ b0 h0
      have h50' : ¬ (b : Int) - a < 50 := by omega
      simp only [if_neg h50] at hQ
      obtain ⟨m, rfl⟩ : ∃ m, i2 = m + 1 := ⟨i2 - 1, by omega⟩
      have r1 := R.rd d (i := m + 1) (by omega)
      have r2 := R.rd d (i := m) (by omega)
      have w1 := R.wr d (i := m + 1) d[m]! (by omega)
      have w2 := R.wr (d.setIfInBounds (m + 1) d[m]!) (i := m) d[m + 1]! (by simp; omega)
      have s1 : (d.setIfInBounds (m + 1) d[m]!).size = n := by simp [hd]
      have e2 : swp d (m + 1) m = (d.setIfInBounds (m + 1) d[m]!).setIfInBounds m d[m + 1]! := rfl
      have t1 : ((m : Int) + 1).toNat = m + 1 := by omega
      have t2 : ((m : Int) + 1 - 1).toNat = m := by omega
      simp only [Nat.add_sub_cancel, e2] at hQ
      have hsz : ((d.setIfInBounds (m + 1) d[m]!).setIfInBounds m d[m + 1]!).size = n := by simp [hd]
      have ih2 := fun dd bb => ih (m + 1) dd bb (by omega) (by omega) (by omega)
      clear e2 ih hi2
      generalize d[m + 1]! = u at *
      generalize d[m]! = w at *
      have hib5 : ¬ (m : Int) + 1 = b := by omega
      by_cases h2 : m + 1 - a ≥ 2
      · have h2' : (2 : Int) ≤ (m : Int) + 1 - a := by omega
        have fd : fixDown lt a (m + 1) ((d.setIfInBounds (m + 1) w).setIfInBounds m u) = shiftDown lt m ((d.setIfInBounds (m + 1) w).setIfInBounds m u) := by unfold fixDown; rw [if_pos h2]; rfl
        rw [fd] at hQ
        have hD : (shiftDown lt m ((d.setIfInBounds (m + 1) w).setIfInBounds m u)).size = n := by rw [shiftDown_size]; exact hsz
        simp (contextual := true) (maxSteps := 2000000) (disch := omega) [test_cx, rest_cx, gcall_cx, gcav_cx, -Int.not_lt, -Int.not_le, -Nat.not_lt, -Nat.not_le, -List.map_take, gd_in, gd_and, nth_mid, setEl_mid, R.ld, R.st, R.all1, R.len, -valOf_t, -mkAg_eq, wr_i64, hib5, h50', h2', r1, r2, w1, w2, s1, hd, t1, t2]
        refine pis_down W hC a b _ _ hb hn _ m ((d.setIfInBounds (m + 1) w).setIfInBounds m u) n (by omega) hsz (Nat.le_refl _) (fun j2 b2 hb2 => ?_) (fun j2 b2 hb2 => ?_)
        · clear r1 r2 w1 w2 s1
          by_cases h3 : b - (m + 1) ≥ 2
          · have h3' : (2 : Int) ≤ (b : Int) - ((m : Int) + 1) := by omega
            have fu : fixUp lt b (m + 1) (shiftDown lt m ((d.setIfInBounds (m + 1) w).setIfInBounds m u)) = shiftUp lt b (m + 1 + 1) (shiftDown lt m ((d.setIfInBounds (m + 1) w).setIfInBounds m u)) := by unfold fixUp; rw [if_pos h3]
            rw [fu] at hQ
            simp (contextual := true) (maxSteps := 2000000) (disch := omega) [test_cx, rest_cx, gcall_cx, gcav_cx, -Int.not_lt, -Int.not_le, -Nat.not_lt, -Nat.not_le, -List.map_take, gd_in, gd_and, wr_i64, h3']
            refine pis_up W hC a b _ _ hb hn _ _ (m + 1 + 1) (shiftDown lt m ((d.setIfInBounds (m + 1) w).setIfInBounds m u)) b2 rfl (by omega) hD hb2 (fun j2 b2 hb2 => ?_) (fun j2 b2 hb2 => ?_)
            · have := ih2 (shiftUp lt b (m + 1 + 1) (shiftDown lt m ((d.setIfInBounds (m + 1) w).setIfInBounds m u))) b2 (by rw [shiftUp_size]; exact hD) hb2 hQ
              simp (contextual := true) (maxSteps := 2000000) (disch := omega) [test_cx, rest_cx, gcall_cx, gcav_cx, -Int.not_lt, -Int.not_le, -Nat.not_lt, -Nat.not_le, -List.map_take, gd_in, gd_and, wr_i64, hs6]
              exact this
            · have := ih2 (shiftUp lt b (m + 1 + 1) (shiftDown lt m ((d.setIfInBounds (m + 1) w).setIfInBounds m u))) b2 (by rw [shiftUp_size]; exact hD) hb2 hQ
              simp (contextual := true) (maxSteps := 2000000) (disch := omega) [test_cx, rest_cx, gcall_cx, gcav_cx, -Int.not_lt, -Int.not_le, -Nat.not_lt, -Nat.not_le, -List.map_take, gd_in, gd_and, wr_i64, hs6]
              exact this
          · have h3' : ¬ (2 : Int) ≤ (b : Int) - ((m : Int) + 1) := by omega
            have fu : fixUp lt b (m + 1) (shiftDown lt m ((d.setIfInBounds (m + 1) w).setIfInBounds m u)) = shiftDown lt m ((d.setIfInBounds (m + 1) w).setIfInBounds m u) := by unfold fixUp; rw [if_neg h3]
            rw [fu] at hQ
            have := ih2 (shiftDown lt m ((d.setIfInBounds (m + 1) w).setIfInBounds m u)) b2 hD hb2 hQ
            simp (contextual := true) (maxSteps := 2000000) (disch := omega) [test_cx, rest_cx, gcall_cx, gcav_cx, -Int.not_lt, -Int.not_le, -Nat.not_lt, -Nat.not_le, -List.map_take, gd_in, gd_and, wr_i64, h3', hs6]
            exact this
        · clear r1 r2 w1 w2 s1
          by_cases h3 : b - (m + 1) ≥ 2
          · have h3' : (2 : Int) ≤ (b : Int) - ((m : Int) + 1) := by omega
            have fu : fixUp lt b (m + 1) (shiftDown lt m ((d.setIfInBounds (m + 1) w).setIfInBounds m u)) = shiftUp lt b (m + 1 + 1) (shiftDown lt m ((d.setIfInBounds (m + 1) w).setIfInBounds m u)) := by unfold fixUp; rw [if_pos h3]
            rw [fu] at hQ
            simp (contextual := true) (maxSteps := 2000000) (disch := omega) [test_cx, rest_cx, gcall_cx, gcav_cx, -Int.not_lt, -Int.not_le, -Nat.not_lt, -Nat.not_le, -List.map_take, gd_in, gd_and, wr_i64, h3']
            refine pis_up W hC a b _ _ hb hn _ _ (m + 1 + 1) (shiftDown lt m ((d.setIfInBounds (m + 1) w).setIfInBounds m u)) b2 rfl (by omega) hD hb2 (fun j2 b2 hb2 => ?_) (fun j2 b2 hb2 => ?_)
            · have := ih2 (shiftUp lt b (m + 1 + 1) (shiftDown lt m ((d.setIfInBounds (m + 1) w).setIfInBounds m u))) b2 (by rw [shiftUp_size]; exact hD) hb2 hQ
              simp (contextual := true) (maxSteps := 2000000) (disch := omega) [test_cx, rest_cx, gcall_cx, gcav_cx, -Int.not_lt, -Int.not_le, -Nat.not_lt, -Nat.not_le, -List.map_take, gd_in, gd_and, wr_i64, hs6]
              exact this
            · have := ih2 (shiftUp lt b (m + 1 + 1) (shiftDown lt m ((d.setIfInBounds (m + 1) w).setIfInBounds m u))) b2 (by rw [shiftUp_size]; exact hD) hb2 hQ
              simp (contextual := true) (maxSteps := 2000000) (disch := omega) [test_cx, rest_cx, gcall_cx, gcav_cx, -Int.not_lt, -Int.not_le, -Nat.not_lt, -Nat.not_le, -List.map_take, gd_in, gd_and, wr_i64, hs6]
              exact this
          · have h3' : ¬ (2 : Int) ≤ (b : Int) - ((m : Int) + 1) := by omega
            have fu : fixUp lt b (m + 1) (shiftDown lt m ((d.setIfInBounds (m + 1) w).setIfInBounds m u)) = shiftDown lt m ((d.setIfInBounds (m + 1) w).setIfInBounds m u) := by unfold fixUp; rw [if_neg h3]
            rw [fu] at hQ
            have := ih2 (shiftDown lt m ((d.setIfInBounds (m + 1) w).setIfInBounds m u)) b2 hD hb2 hQ
            simp (contextual := true) (maxSteps := 2000000) (disch := omega) [test_cx, rest_cx, gcall_cx, gcav_cx, -Int.not_lt, -Int.not_le, -Nat.not_lt, -Nat.not_le, -List.map_take, gd_in, gd_and, wr_i64, h3', hs6]
            exact this
      · have h2' : ¬ (2 : Int) ≤ (m : Int) + 1 - a := by omega
        have fd : fixDown lt a (m + 1) ((d.setIfInBounds (m + 1) w).setIfInBounds m u) = ((d.setIfInBounds (m + 1) w).setIfInBounds m u) := by unfold fixDown; rw [if_neg h2]
        rw [fd] at hQ
        by_cases h3 : b - (m + 1) ≥ 2
        · have h3' : (2 : Int) ≤ (b : Int) - ((m : Int) + 1) := by omega
          have fu : fixUp lt b (m + 1) (((d.setIfInBounds (m + 1) w).setIfInBounds m u)) = shiftUp lt b (m + 1 + 1) (((d.setIfInBounds (m + 1) w).setIfInBounds m u)) := by unfold fixUp; rw [if_pos h3]
          rw [fu] at hQ
          simp (contextual := true) (maxSteps := 2000000) (disch := omega) [test_cx, rest_cx, gcall_cx, gcav_cx, -Int.not_lt, -Int.not_le, -Nat.not_lt, -Nat.not_le, -List.map_take, gd_in, gd_and, wr_i64, h3', nth_mid, setEl_mid, R.ld, R.st, R.all1, R.len, -valOf_t, -mkAg_eq, hib5, h50', h2', r1, r2, w1, w2, s1, hd, t1, t2]
          refine pis_up W hC a b _ _ hb hn _ _ (m + 1 + 1) (((d.setIfInBounds (m + 1) w).setIfInBounds m u)) n rfl (by omega) hsz (Nat.le_refl _) (fun j2 b2 hb2 => ?_) (fun j2 b2 hb2 => ?_)
          · have := ih2 (shiftUp lt b (m + 1 + 1) (((d.setIfInBounds (m + 1) w).setIfInBounds m u))) b2 (by rw [shiftUp_size]; exact hsz) hb2 hQ
            simp (contextual := true) (maxSteps := 2000000) (disch := omega) [test_cx, rest_cx, gcall_cx, gcav_cx, -Int.not_lt, -Int.not_le, -Nat.not_lt, -Nat.not_le, -List.map_take, gd_in, gd_and, wr_i64, hs6]
            exact this
          · have := ih2 (shiftUp lt b (m + 1 + 1) (((d.setIfInBounds (m + 1) w).setIfInBounds m u))) b2 (by rw [shiftUp_size]; exact hsz) hb2 hQ
            simp (contextual := true) (maxSteps := 2000000) (disch := omega) [test_cx, rest_cx, gcall_cx, gcav_cx, -Int.not_lt, -Int.not_le, -Nat.not_lt, -Nat.not_le, -List.map_take, gd_in, gd_and, wr_i64, hs6]
            exact this
        · have h3' : ¬ (2 : Int) ≤ (b : Int) - ((m : Int) + 1) := by omega
          have fu : fixUp lt b (m + 1) (((d.setIfInBounds (m + 1) w).setIfInBounds m u)) = ((d.setIfInBounds (m + 1) w).setIfInBounds m u) := by unfold fixUp; rw [if_neg h3]
          rw [fu] at hQ
          have := ih2 (((d.setIfInBounds (m + 1) w).setIfInBounds m u)) n hsz (Nat.le_refl _) hQ
          simp (contextual := true) (maxSteps := 2000000) (disch := omega) [test_cx, rest_cx, gcall_cx, gcav_cx, -Int.not_lt, -Int.not_le, -Nat.not_lt, -Nat.not_le, -List.map_take, gd_in, gd_and, wr_i64, h3', hs6, nth_mid, setEl_mid, R.ld, R.st, R.all1, R.len, -valOf_t, -mkAg_eq, hib5, h50', h2', r1, r2, w1, w2, s1, hd, t1, t2]
          first
            | exact this
            | omega
end
end Go.Mx.Tryz
