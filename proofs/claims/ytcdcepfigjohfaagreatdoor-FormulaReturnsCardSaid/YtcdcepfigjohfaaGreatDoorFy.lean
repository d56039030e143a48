/- strconv.Atoi where few digits stand. -/
import Derived.Test.YtcdcepfigjohfaaGreatDoorFx
set_option linter.unusedSimpArgs false
set_option linter.unusedVariables false
set_option linter.unusedSectionVars false
set_option maxRecDepth 100000
namespace Go.Mx.Tryz
open Go.Lib

/-- The bytes of a string, as a frozen slice's elements. -/
def byI (d : List Nat) : List (List I) := d.map fun c : Nat => [.i .u8 (c : Int)]
@[simp] theorem byI_len (d : List Nat) : (byI d).length = d.length := by simp [byI]
theorem byI_nth {d : List Nat} {i c : Nat} (h : d[i]? = some c) : nth (byI d) i = some [.i .u8 (c : Int)] := by
  rw [nth_get]; simp [byI, h]
theorem byI_def (d : List Nat) : (d.map fun c : Nat => [I.i .u8 (c : Int)]) = byI d := rfl

theorem atoi_pos (d : List Nat) (h1 : 1 ≤ d.length) (h9 : d.length ≤ 9) (hd : d.all okD = true) (H : Hp) : Gives G 107 [.m (.s d)] H (.tu [.m (.i .i64 (dval 0 d : Nat)), .m (.nl 3)]) H := by
  refine gives_pur rfl rfl rfl rfl rfl ?_
  obtain ⟨a, r, hdd⟩ := List.exists_cons_of_length_pos h1
  have ha : 48 ≤ a ∧ a ≤ 57 := by
    rw [hdd, List.all_cons, Bool.and_eq_true] at hd
    have := hd.1
    unfold okD at this
    exact of_decide_eq_true this
  have e0 : nth d 0 = some a := by rw [hdd]; rfl
  have p1 : (0 : Int) < d.length := by omega
  have p1' : 0 < d.length := by omega
  have p2 : (d.length : Int) < 19 := by omega
  have p3 : ¬ (a : Int) = 45 := by omega
  have p4 : ¬ (a : Int) = 43 := by omega
  have p5 : (d.length : Int) ≤ 9223372036854775807 := by omega
  have p6 : d.length ≤ 1152921504606846976 := by omega
  have p7 : d.length ≤ 9223372036854775807 := by omega
  have hb : pureX .s2b [.m (.s d)] = some (.m (.sl (byI d))) := by
    show gd (Nat.ble d.length _) (some (V.m (.sl (byI d)))) = _
    rw [ble_dec, decide_eq_true (by omega)]
    rfl
  have hr := (isSl_sl (byI d)).rules
  simp [p1, p1', p2, p3, p4, p5, p6, p7, e0, hb]
  refine (?key : ∀ (i : Nat) (n : Nat) (B : List (Nat × List V)), i ≤ d.length → n + 1 ≤ 10 ^ i → dval 0 d = dval n (d.drop i) → Run G c107_B0 (S107_0 (.m (.s d)) (.m (.i .i64 n)) (.m (.sl (byI d))) (.m (.i .i64 d.length)) (.m (.i .i64 i)) B []) _) 0 0 [] (Nat.zero_le _) (by rw [Nat.pow_zero]; omega) rfl
  refine indM (fun i : Nat => d.length - i) fun i ih n B hi hn hq => ?_
  unfold c107_B0
  cases hx : d[i]? with
  | none =>
    have : i = d.length := by have := List.getElem?_eq_none_iff.1 hx; omega
    subst this
    have hq : dval 0 d = n := by rw [hq, List.drop_length]; rfl
    simp [hq, p1, p1', e0, p3]
  | some c =>
    have hlt := (get_drop hx).1
    have hnx := byI_nth hx
    have hc : 48 ≤ c ∧ c ≤ 57 := by
      rw [List.all_eq_true] at hd
      have := hd c (List.mem_of_getElem? hx)
      unfold okD at this
      exact of_decide_eq_true this
    rw [(get_drop hx).2] at hq
    have hg : dval n (c :: d.drop (i + 1)) = dval (10 * n + (c - 48)) (d.drop (i + 1)) := rfl
    rw [hg] at hq
    have hp : 10 ^ i ≤ 10 ^ 8 := Nat.pow_le_pow_right (by omega) (by omega)
    have hp2 : 10 ^ (i + 1) = 10 ^ i * 10 := Nat.pow_succ 10 i
    have w1 : wr .i64 ((n : Int) * 10) = (n : Int) * 10 := wr_i64 (by omega) (by omega)
    have w2 : wr .u8 ((c : Int) - 48) = (c : Int) - 48 := wr_u8 (by omega) (by omega)
    have w3 : wr .i64 ((c : Int) - 48) = (c : Int) - 48 := wr_i64 (by omega) (by omega)
    have w4 : wr .i64 ((n : Int) * 10 + ((c : Int) - 48)) = ((10 * n + (c - 48) : Nat) : Int) := by rw [wr_i64 (by omega) (by omega)]; omega
    have w5 : wr .i64 ((i : Int) + 1) = (i : Int) + 1 := wr_i64 (by omega) (by omega)
    have h9' : ¬ (9 : Int) < (c : Int) - 48 := by omega
    have ih := ih (i + 1) (by omega) (10 * n + (c - 48))
    have ih := fun B => ih B (by omega) (by rw [hp2]; omega) hq
    simp [hr, hlt, hnx, h9', w1, w2, w3, w4, w5, -Int.natCast_add, -Int.natCast_mul]
    exact ih _
theorem atoi_neg (d : List Nat) (h1 : 1 ≤ d.length) (h9 : d.length ≤ 9) (hd : d.all okD = true) (H : Hp) : Gives G 107 [.m (.s (45 :: d))] H (.tu [.m (.i .i64 (-((dval 0 d : Nat) : Int))), .m (.nl 3)]) H := by
  refine gives_pur rfl rfl rfl rfl rfl ?_
  obtain ⟨a, r, hdd⟩ := List.exists_cons_of_length_pos h1
  have ha : 48 ≤ a ∧ a ≤ 57 := by
    rw [hdd, List.all_cons, Bool.and_eq_true] at hd
    have := hd.1
    unfold okD at this
    exact of_decide_eq_true this
  have e0 : nth d 0 = some a := by rw [hdd]; rfl
  have p1 : (0 : Int) < (d.length : Int) + 1 := by omega
  have q1 : ¬ (d.length : Int) < 1 := by omega
  have p1' : 0 < d.length := by omega
  have p2 : (d.length : Int) + 1 < 19 := by omega
  have p3 : ¬ (a : Int) = 45 := by omega
  have p4 : ¬ (a : Int) = 43 := by omega
  have q2 : (1 : Int) ≤ (d.length : Int) + 1 := by omega
  have q3 : (d.length : Int) + 1 ≤ 9223372036854775807 := by omega
  have p5 : (d.length : Int) ≤ 9223372036854775807 := by omega
  have p6 : d.length ≤ 1152921504606846976 := by omega
  have p7 : d.length ≤ 9223372036854775807 := by omega
  have hb : pureX .s2b [.m (.s d)] = some (.m (.sl (byI d))) := by
    show gd (Nat.ble d.length _) (some (V.m (.sl (byI d)))) = _
    rw [ble_dec, decide_eq_true (by omega)]
    rfl
  have hr := (isSl_sl (byI d)).rules
  simp [p1, q1, q2, q3, p1', p2, p5, p6, p7, hb]
  refine (?key : ∀ (i : Nat) (n : Nat) (B : List (Nat × List V)), i ≤ d.length → n + 1 ≤ 10 ^ i → dval 0 d = dval n (d.drop i) → Run G c107_B0 (S107_0 (.m (.s (45 :: d))) (.m (.i .i64 n)) (.m (.sl (byI d))) (.m (.i .i64 d.length)) (.m (.i .i64 i)) B []) _) 0 0 [] (Nat.zero_le _) (by rw [Nat.pow_zero]; omega) rfl
  refine indM (fun i : Nat => d.length - i) fun i ih n B hi hn hq => ?_
  unfold c107_B0
  cases hx : d[i]? with
  | none =>
    have : i = d.length := by have := List.getElem?_eq_none_iff.1 hx; omega
    subst this
    have hq : dval 0 d = n := by rw [hq, List.drop_length]; rfl
    have wn : wr .i64 (-(n : Int)) = -(n : Int) := by
      have hp : 10 ^ d.length ≤ 10 ^ 9 := Nat.pow_le_pow_right (by omega) h9
      exact wr_i64 (by omega) (by omega)
    simp [hq, p1, wn]
  | some c =>
    have hlt := (get_drop hx).1
    have hnx := byI_nth hx
    have hc : 48 ≤ c ∧ c ≤ 57 := by
      rw [List.all_eq_true] at hd
      have := hd c (List.mem_of_getElem? hx)
      unfold okD at this
      exact of_decide_eq_true this
    rw [(get_drop hx).2] at hq
    have hg : dval n (c :: d.drop (i + 1)) = dval (10 * n + (c - 48)) (d.drop (i + 1)) := rfl
    rw [hg] at hq
    have hp : 10 ^ i ≤ 10 ^ 8 := Nat.pow_le_pow_right (by omega) (by omega)
    have hp2 : 10 ^ (i + 1) = 10 ^ i * 10 := Nat.pow_succ 10 i
    have w1 : wr .i64 ((n : Int) * 10) = (n : Int) * 10 := wr_i64 (by omega) (by omega)
    have w2 : wr .u8 ((c : Int) - 48) = (c : Int) - 48 := wr_u8 (by omega) (by omega)
    have w3 : wr .i64 ((c : Int) - 48) = (c : Int) - 48 := wr_i64 (by omega) (by omega)
    have w4 : wr .i64 ((n : Int) * 10 + ((c : Int) - 48)) = ((10 * n + (c - 48) : Nat) : Int) := by rw [wr_i64 (by omega) (by omega)]; omega
    have w5 : wr .i64 ((i : Int) + 1) = (i : Int) + 1 := wr_i64 (by omega) (by omega)
    have h9' : ¬ (9 : Int) < (c : Int) - 48 := by omega
    have ih := ih (i + 1) (by omega) (10 * n + (c - 48))
    have ih := fun B => ih B (by omega) (by rw [hp2]; omega) hq
    simp [hr, hlt, hnx, h9', w1, w2, w3, w4, w5, -Int.natCast_add, -Int.natCast_mul]
    exact ih _

theorem isNil_33 : isNil 3 (.m (.nl 3)) = some true := rfl
theorem atoi_s_pos (d : List Nat) (h1 : 1 ≤ d.length) (h9 : d.length ≤ 9) (hd : d.all okD = true) (H : Hp) : Gives G 73 [.m (.s d)] H (.tu [.m (.i .i64 (dval 0 d : Nat)), .m (.nl 3)]) H := by
  refine gives_pur rfl rfl rfl rfl rfl ?_
  simp [cl (atoi_pos d h1 h9 hd _), isNil_33]
theorem atoi_s_neg (d : List Nat) (h1 : 1 ≤ d.length) (h9 : d.length ≤ 9) (hd : d.all okD = true) (H : Hp) : Gives G 73 [.m (.s (45 :: d))] H (.tu [.m (.i .i64 (-((dval 0 d : Nat) : Int))), .m (.nl 3)]) H := by
  refine gives_pur rfl rfl rfl rfl rfl ?_
  simp [cl (atoi_neg d h1 h9 hd _), isNil_33]
end Go.Mx.Tryz
