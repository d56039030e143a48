/- strconv.Atoi where few digits stand; numerals read back; coords.number and coords.cell on numerals. -/
import Derived.Test.YtfllcbohggcmfaaGreatDoorKb
import Derived.Test.YtfllcbohggcmfaaGreatDoorKd
import Derived.Test.YtfllcbohggcmfaaGreatDoorIto
set_option linter.unusedSimpArgs false
set_option linter.unusedVariables false
set_option linter.unusedSectionVars false
set_option maxRecDepth 100000
namespace Go.Mx.Tryz
open Go.Lib Go.Proofs

def tpr : List Nat → List Nat
  | 45 :: r => r
  | s => s
theorem trim_i (s : List Nat) (hl : s.length ≤ 1000000) (H : Hp) : Gives G 74 [.m (.s s), .m (.s [45])] H (.m (.s (tpr s))) H := by
  refine gives_pur rfl rfl rfl rfl rfl ?_
  have g := hpre_i s (by omega) 45 []
  cases s with
  | nil => simp [cl g, tpr]
  | cons a r =>
    by_cases h : a = 45
    · subst h
      have h1 : (1 : Int) ≤ (r.length : Int) + 1 := by omega
      have h2 : (r.length : Int) + 1 ≤ 9223372036854775807 := by simp at hl; omega
      have h3 : tpr (45 :: r) = r := rfl
      simp [cl g, h1, h2, h3]
    · have h3 : tpr (a :: r) = a :: r := by
        unfold tpr
        split
        · rename_i e; cases e; exact absurd rfl h
        · rfl
      simp [cl g, h, h3]
theorem trim_s (s : List Nat) (hl : s.length ≤ 1000000) (H : Hp) : Gives G 56 [.m (.s s), .m (.s [45])] H (.m (.s (tpr s))) H := by
  refine gives_pur rfl rfl rfl rfl rfl ?_
  simp [cl (trim_i s hl _)]

def okD (c : Nat) : Bool := decide (48 ≤ c ∧ c ≤ 57)
def dval : Nat → List Nat → Nat
  | a, [] => a
  | a, c :: r => dval (10 * a + (c - 48)) r
/-- The bytes of a string, as a frozen slice's elements. -/
def byI (d : List Nat) : List (List I) := d.map fun c : Nat => [.i .u8 (c : Int)]
@[simp] theorem byI_len (d : List Nat) : (byI d).length = d.length := by simp [byI]
theorem byI_nth {d : List Nat} {i c : Nat} (h : d[i]? = some c) : nth (byI d) i = some [.i .u8 (c : Int)] := by
  rw [nth_get]; simp [byI, h]
theorem byI_def (d : List Nat) : (d.map fun c : Nat => [I.i .u8 (c : Int)]) = byI d := rfl

theorem atoi_pos (d : List Nat) (h1 : 1 ≤ d.length) (h9 : d.length ≤ 9) (hd : d.all okD = true) (H : Hp) : Gives G 75 [.m (.s d)] H (.tu [.m (.i .i64 (dval 0 d : Nat)), .m (.nl 3)]) H := by
  refine gives_pur rfl rfl rfl rfl rfl ?_
  obtain ⟨a, r, hdd⟩ := List.exists_cons_of_length_pos h1
  have ha : 48 ≤ a ∧ a ≤ 57 := by
    rw [hdd, List.all_cons, Bool.and_eq_true] at hd
    have := hd.1
    unfold okD at this
    exact of_decide_eq_true this
  have e0 : nth d 0 = some a := by rw [hdd]; rfl
  have p1 : (0 : Int) < d.length := by omega
  have p1' : 0 < d.length := by omega
  have p2 : (d.length : Int) < 19 := by omega
  have p3 : ¬ (a : Int) = 45 := by omega
  have p4 : ¬ (a : Int) = 43 := by omega
  have p5 : (d.length : Int) ≤ 9223372036854775807 := by omega
  have p6 : d.length ≤ 1152921504606846976 := by omega
  have p7 : d.length ≤ 9223372036854775807 := by omega
  have hb : pureX .s2b [.m (.s d)] = some (.m (.sl (byI d))) := by
    show gd (Nat.ble d.length _) (some (V.m (.sl (byI d)))) = _
    rw [ble_dec, decide_eq_true (by omega)]
    rfl
  have hr := (isSl_sl (byI d)).rules
  simp [p1, p1', p2, p3, p4, p5, p6, p7, e0, hb]
  refine (?key : ∀ (i : Nat) (n : Nat) (B : List (Nat × List V)), i ≤ d.length → n + 1 ≤ 10 ^ i → dval 0 d = dval n (d.drop i) → Run G c75_B0 (S75_0 (.m (.s d)) (.m (.i .i64 n)) (.m (.sl (byI d))) (.m (.i .i64 d.length)) (.m (.i .i64 i)) B []) _) 0 0 [] (Nat.zero_le _) (by rw [Nat.pow_zero]; omega) rfl
  refine indM (fun i : Nat => d.length - i) fun i ih n B hi hn hq => ?_
  unfold c75_B0
  cases hx : d[i]? with
  | none =>
    have : i = d.length := by have := List.getElem?_eq_none_iff.1 hx; omega
    subst this
    have hq : dval 0 d = n := by rw [hq, List.drop_length]; rfl
    simp [hq, p1, p1', e0, p3]
  | some c =>
    have hlt := (get_drop hx).1
    have hnx := byI_nth hx
    have hc : 48 ≤ c ∧ c ≤ 57 := by
      rw [List.all_eq_true] at hd
      have := hd c (List.mem_of_getElem? hx)
      unfold okD at this
      exact of_decide_eq_true this
    rw [(get_drop hx).2] at hq
    have hg : dval n (c :: d.drop (i + 1)) = dval (10 * n + (c - 48)) (d.drop (i + 1)) := rfl
    rw [hg] at hq
    have hp : 10 ^ i ≤ 10 ^ 8 := Nat.pow_le_pow_right (by omega) (by omega)
    have hp2 : 10 ^ (i + 1) = 10 ^ i * 10 := Nat.pow_succ 10 i
    have w1 : wr .i64 ((n : Int) * 10) = (n : Int) * 10 := wr_i64 (by omega) (by omega)
    have w2 : wr .u8 ((c : Int) - 48) = (c : Int) - 48 := wr_u8 (by omega) (by omega)
    have w3 : wr .i64 ((c : Int) - 48) = (c : Int) - 48 := wr_i64 (by omega) (by omega)
    have w4 : wr .i64 ((n : Int) * 10 + ((c : Int) - 48)) = ((10 * n + (c - 48) : Nat) : Int) := by rw [wr_i64 (by omega) (by omega)]; omega
    have w5 : wr .i64 ((i : Int) + 1) = (i : Int) + 1 := wr_i64 (by omega) (by omega)
    have h9' : ¬ (9 : Int) < (c : Int) - 48 := by omega
    have ih := ih (i + 1) (by omega) (10 * n + (c - 48))
    have ih := fun B => ih B (by omega) (by rw [hp2]; omega) hq
    simp [hr, hlt, hnx, h9', w1, w2, w3, w4, w5, -Int.natCast_add, -Int.natCast_mul]
    exact ih _
theorem atoi_neg (d : List Nat) (h1 : 1 ≤ d.length) (h9 : d.length ≤ 9) (hd : d.all okD = true) (H : Hp) : Gives G 75 [.m (.s (45 :: d))] H (.tu [.m (.i .i64 (-((dval 0 d : Nat) : Int))), .m (.nl 3)]) H := by
  refine gives_pur rfl rfl rfl rfl rfl ?_
  obtain ⟨a, r, hdd⟩ := List.exists_cons_of_length_pos h1
  have ha : 48 ≤ a ∧ a ≤ 57 := by
    rw [hdd, List.all_cons, Bool.and_eq_true] at hd
    have := hd.1
    unfold okD at this
    exact of_decide_eq_true this
  have e0 : nth d 0 = some a := by rw [hdd]; rfl
  have p1 : (0 : Int) < (d.length : Int) + 1 := by omega
  have q1 : ¬ (d.length : Int) < 1 := by omega
  have p1' : 0 < d.length := by omega
  have p2 : (d.length : Int) + 1 < 19 := by omega
  have p3 : ¬ (a : Int) = 45 := by omega
  have p4 : ¬ (a : Int) = 43 := by omega
  have q2 : (1 : Int) ≤ (d.length : Int) + 1 := by omega
  have q3 : (d.length : Int) + 1 ≤ 9223372036854775807 := by omega
  have p5 : (d.length : Int) ≤ 9223372036854775807 := by omega
  have p6 : d.length ≤ 1152921504606846976 := by omega
  have p7 : d.length ≤ 9223372036854775807 := by omega
  have hb : pureX .s2b [.m (.s d)] = some (.m (.sl (byI d))) := by
    show gd (Nat.ble d.length _) (some (V.m (.sl (byI d)))) = _
    rw [ble_dec, decide_eq_true (by omega)]
    rfl
  have hr := (isSl_sl (byI d)).rules
  simp [p1, q1, q2, q3, p1', p2, p5, p6, p7, hb]
  refine (?key : ∀ (i : Nat) (n : Nat) (B : List (Nat × List V)), i ≤ d.length → n + 1 ≤ 10 ^ i → dval 0 d = dval n (d.drop i) → Run G c75_B0 (S75_0 (.m (.s (45 :: d))) (.m (.i .i64 n)) (.m (.sl (byI d))) (.m (.i .i64 d.length)) (.m (.i .i64 i)) B []) _) 0 0 [] (Nat.zero_le _) (by rw [Nat.pow_zero]; omega) rfl
  refine indM (fun i : Nat => d.length - i) fun i ih n B hi hn hq => ?_
  unfold c75_B0
  cases hx : d[i]? with
  | none =>
    have : i = d.length := by have := List.getElem?_eq_none_iff.1 hx; omega
    subst this
    have hq : dval 0 d = n := by rw [hq, List.drop_length]; rfl
    have wn : wr .i64 (-(n : Int)) = -(n : Int) := by
      have hp : 10 ^ d.length ≤ 10 ^ 9 := Nat.pow_le_pow_right (by omega) h9
      exact wr_i64 (by omega) (by omega)
    simp [hq, p1, wn]
  | some c =>
    have hlt := (get_drop hx).1
    have hnx := byI_nth hx
    have hc : 48 ≤ c ∧ c ≤ 57 := by
      rw [List.all_eq_true] at hd
      have := hd c (List.mem_of_getElem? hx)
      unfold okD at this
      exact of_decide_eq_true this
    rw [(get_drop hx).2] at hq
    have hg : dval n (c :: d.drop (i + 1)) = dval (10 * n + (c - 48)) (d.drop (i + 1)) := rfl
    rw [hg] at hq
    have hp : 10 ^ i ≤ 10 ^ 8 := Nat.pow_le_pow_right (by omega) (by omega)
    have hp2 : 10 ^ (i + 1) = 10 ^ i * 10 := Nat.pow_succ 10 i
    have w1 : wr .i64 ((n : Int) * 10) = (n : Int) * 10 := wr_i64 (by omega) (by omega)
    have w2 : wr .u8 ((c : Int) - 48) = (c : Int) - 48 := wr_u8 (by omega) (by omega)
    have w3 : wr .i64 ((c : Int) - 48) = (c : Int) - 48 := wr_i64 (by omega) (by omega)
    have w4 : wr .i64 ((n : Int) * 10 + ((c : Int) - 48)) = ((10 * n + (c - 48) : Nat) : Int) := by rw [wr_i64 (by omega) (by omega)]; omega
    have w5 : wr .i64 ((i : Int) + 1) = (i : Int) + 1 := wr_i64 (by omega) (by omega)
    have h9' : ¬ (9 : Int) < (c : Int) - 48 := by omega
    have ih := ih (i + 1) (by omega) (10 * n + (c - 48))
    have ih := fun B => ih B (by omega) (by rw [hp2]; omega) hq
    simp [hr, hlt, hnx, h9', w1, w2, w3, w4, w5, -Int.natCast_add, -Int.natCast_mul]
    exact ih _

theorem isNil_33 : isNil 3 (.m (.nl 3)) = some true := rfl
theorem atoi_s_pos (d : List Nat) (h1 : 1 ≤ d.length) (h9 : d.length ≤ 9) (hd : d.all okD = true) (H : Hp) : Gives G 57 [.m (.s d)] H (.tu [.m (.i .i64 (dval 0 d : Nat)), .m (.nl 3)]) H := by
  refine gives_pur rfl rfl rfl rfl rfl ?_
  simp [cl (atoi_pos d h1 h9 hd _), isNil_33]
theorem atoi_s_neg (d : List Nat) (h1 : 1 ≤ d.length) (h9 : d.length ≤ 9) (hd : d.all okD = true) (H : Hp) : Gives G 57 [.m (.s (45 :: d))] H (.tu [.m (.i .i64 (-((dval 0 d : Nat) : Int))), .m (.nl 3)]) H := by
  refine gives_pur rfl rfl rfl rfl rfl ?_
  simp [cl (atoi_neg d h1 h9 hd _), isNil_33]
theorem dval_app : ∀ (l : List Nat) (a c : Nat), dval a (l ++ [c]) = 10 * dval a l + (c - 48)
  | [], a, c => rfl
  | x :: l, a, c => by
    show dval (10 * a + (x - 48)) (l ++ [c]) = _
    rw [dval_app l]
    rfl
theorem decN_dig (u : Nat) : ∀ c, c ∈ decN u → 48 ≤ c ∧ c ≤ 57 := by
  refine indM (P := fun u => ∀ c, c ∈ decN u → 48 ≤ c ∧ c ≤ 57) (fun u : Nat => u) (fun u ih c hc => ?_) u
  by_cases h : u < 10
  · rw [decN_one h] at hc
    simp at hc
    omega
  · rw [decN_big h] at hc
    rcases List.mem_append.1 hc with h1 | h1
    · exact ih (u / 10) (by omega) c h1
    · simp at h1
      omega
theorem decN_dval (u : Nat) : dval 0 (decN u) = u := by
  refine indM (P := fun u => dval 0 (decN u) = u) (fun u : Nat => u) (fun u ih => ?_) u
  by_cases h : u < 10
  · rw [decN_one h]
    show 10 * 0 + (48 + u - 48) = u
    omega
  · rw [decN_big h, dval_app, ih (u / 10) (by omega)]
    omega
theorem decN_ne (u : Nat) : decN u ≠ [] := by
  by_cases h : u < 10
  · rw [decN_one h]; simp
  · rw [decN_big h]; simp
theorem decN_lenk : ∀ (k u : Nat), u < 10 ^ (k + 1) → (decN u).length ≤ k + 1
  | 0, u, h => by rw [decN_one (by simpa using h)]; simp
  | k + 1, u, h => by
    by_cases h1 : u < 10
    · rw [decN_one h1]; simp
    · rw [decN_big h1, List.length_append]
      have : u / 10 < 10 ^ (k + 1) := by
        rw [Nat.pow_succ] at h
        exact Nat.div_lt_of_lt_mul (by rw [Nat.mul_comm]; exact h)
      have := decN_lenk k (u / 10) this
      simp
      omega
theorem decN_hd (u : Nat) : 1 ≤ u → (decN u).take 1 ≠ [48] := by
  refine indM (P := fun u => 1 ≤ u → (decN u).take 1 ≠ [48]) (fun u : Nat => u) (fun u ih hu => ?_) u
  by_cases h : u < 10
  · rw [decN_one h]
    simp
    omega
  · rw [decN_big h]
    have := ih (u / 10) (by omega) (by omega)
    obtain ⟨a, t, e⟩ := List.exists_cons_of_ne_nil (decN_ne (u / 10))
    rw [e] at this ⊢
    simpa using this
theorem itoaN_mem (x : Int) : ∀ c, c ∈ itoaN x → c = 45 ∨ (48 ≤ c ∧ c ≤ 57) := fun c hc => by
  by_cases h : 0 ≤ x
  · obtain ⟨u, rfl⟩ := Int.eq_ofNat_of_zero_le h
    rw [itoaN_pos] at hc
    exact .inr (decN_dig u c hc)
  · obtain ⟨u, hu⟩ := Int.eq_ofNat_of_zero_le (show 0 ≤ -x by omega)
    have : x = -(u : Int) := by omega
    subst this
    rw [itoaN_neg u (by omega)] at hc
    rcases List.mem_cons.1 hc with h | h
    · exact .inl h
    · exact .inr (decN_dig u c h)
theorem itoaN_ne (x : Int) : itoaN x ≠ [] := by
  by_cases h : 0 ≤ x
  · obtain ⟨u, rfl⟩ := Int.eq_ofNat_of_zero_le h
    rw [itoaN_pos]
    exact decN_ne u
  · obtain ⟨u, hu⟩ := Int.eq_ofNat_of_zero_le (show 0 ≤ -x by omega)
    have : x = -(u : Int) := by omega
    subst this
    rw [itoaN_neg u (by omega)]
    simp
theorem cutN_ok : CutOk [48, 49, 50, 51, 52, 53, 54, 55, 56, 57] := ⟨⟨40, by kernel_rfl⟩, fun B => by kernel_rfl, by simp, by simp⟩
theorem in_digits {d : List Nat} (h : ∀ c, c ∈ d → 48 ≤ c ∧ c ≤ 57) : inS [48, 49, 50, 51, 52, 53, 54, 55, 56, 57] d = true := by
  unfold inS
  rw [List.all_eq_true]
  intro c hc
  have := h c hc
  simp
  omega
theorem tpr_dig {d : List Nat} (h : ∀ c, c ∈ d → 48 ≤ c ∧ c ≤ 57) : tpr d = d := by
  unfold tpr
  split
  · rename_i r; have := h 45 (by simp); omega
  · rfl
theorem dec_all (u : Nat) : (decN u).all okD = true := List.all_eq_true.2 fun c hc => by unfold okD; exact decide_eq_true (decN_dig u c hc)

theorem number_c (x : Int) (h1 : -1000000000 < x) (h2 : x < 1000000000) (H : Hp) : Gives G 41 [.m (.s (itoaN x))] H (.tu [.m (.i .i64 x), .m (.b true)]) H := by
  have core : ∀ (u : Nat), u < 1000000000 → ∀ s : List Nat, s.length ≤ 1000 → tpr s = decN u → (s = decN u ∨ 1 ≤ u) → ∀ y : Int, (∀ H, Gives G 57 [.m (.s s)] H (.tu [.m (.i .i64 y), .m (.nl 3)]) H) → Gives G 41 [.m (.s s)] H (.tu [.m (.i .i64 y), .m (.b true)]) H := fun u hu s hsl ht hs y hat => by
    refine gives_pur rfl rfl rfl rfl rfl ?_
    have gt := fun H => trim_s s (by omega) H
    rw [ht] at gt
    have hne := decN_ne u
    have hl9 := decN_lenk 8 u hu
    obtain ⟨q, gq, hq⟩ := trim_c cutN_ok (decN u) (by omega) (fun c hc => by have := decN_dig u c hc; omega) []
    have hq0 : q = [] := hq.2 (in_digits (decN_dig u))
    subst hq0
    obtain ⟨a, r, hd⟩ := List.exists_cons_of_ne_nil hne
    have hn0 : nth (decN u) 0 = some a := by rw [hd]; rfl
    have hl0 : 0 < (decN u).length := by rw [hd]; simp
    have hl0' : (0 : Int) < (decN u).length := by omega
    by_cases h48 : a = 48
    · have hu0 : u = 0 := by
        by_cases h : 1 ≤ u
        · exact absurd (by rw [hd, h48]; rfl) (decN_hd u h)
        · omega
      have hd0 : decN u = [48] := by rw [hu0]; exact decN_one (by omega)
      have hss : s = [48] := by
        rcases hs with h | h
        · rw [h, hd0]
        · omega
      rw [hd0] at gt gq
      rw [hss] at gt hat ⊢
      simp [cl (gt _), gcall_cx, cl gq, cl (hat _), isNil_33]
    · have h48' : ¬ (a : Int) = 48 := by omega
      simp [cl (gt _), hne, hn0, hl0, hl0', h48', gcall_cx, cl gq, cl (hat _), isNil_33]
  by_cases h0 : 0 ≤ x
  · obtain ⟨u, rfl⟩ := Int.eq_ofNat_of_zero_le h0
    rw [itoaN_pos]
    have hl9 := decN_lenk 8 u (by omega)
    have hne := List.length_pos_iff.2 (decN_ne u)
    refine core u (by omega) (decN u) (by omega) (tpr_dig (decN_dig u)) (.inl rfl) _ fun H => ?_
    have := atoi_s_pos (decN u) (by omega) (by omega) (dec_all u) H
    rwa [decN_dval] at this
  · obtain ⟨u, hu⟩ := Int.eq_ofNat_of_zero_le (show 0 ≤ -x by omega)
    have : x = -(u : Int) := by omega
    subst this
    rw [itoaN_neg u (by omega)]
    have hl9 := decN_lenk 8 u (by omega)
    have hne := List.length_pos_iff.2 (decN_ne u)
    refine core u (by omega) (45 :: decN u) (by simp; omega) rfl (.inr (by omega)) _ fun H => ?_
    have := atoi_s_neg (decN u) (by omega) (by omega) (dec_all u) H
    rwa [decN_dval] at this
end Go.Mx.Tryz
