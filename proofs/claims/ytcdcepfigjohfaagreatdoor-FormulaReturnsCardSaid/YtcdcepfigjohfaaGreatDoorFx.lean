/- Numbers of a formula's text. -/
import Derived.Test.YtcdcepfigjohfaaGreatDoorFw
set_option linter.unusedSimpArgs false
set_option linter.unusedVariables false
set_option linter.unusedSectionVars false
set_option maxRecDepth 100000
namespace Go.Mx.Tryz
open Go.Lib

theorem pre_i (s : List Nat) (hl : s.length ≤ 1000000) (c : Nat) (H : Hp) : Gives G 105 [.m (.s s), .m (.s [c])] H (.m (.b (decide (s.take 1 = [c])))) H := by
  refine gives_pur rfl rfl rfl rfl rfl ?_
  cases s with
  | nil => simp
  | cons a r =>
    have h1 : (1 : Int) ≤ (r.length : Int) + 1 := by omega
    have h2 : (r.length : Int) + 1 ≤ 9223372036854775807 := by simp at hl; omega
    simp [h1, h2]
theorem pre_s (s : List Nat) (hl : s.length ≤ 1000000) (c : Nat) (H : Hp) : Gives G 71 [.m (.s s), .m (.s [c])] H (.m (.b (decide (s.take 1 = [c])))) H := by
  refine gives_pur rfl rfl rfl rfl rfl ?_
  simp [cl (pre_i s hl c _)]

def tpr : List Nat → List Nat
  | 45 :: r => r
  | s => s
theorem trim_i (s : List Nat) (hl : s.length ≤ 1000000) (H : Hp) : Gives G 106 [.m (.s s), .m (.s [45])] H (.m (.s (tpr s))) H := by
  refine gives_pur rfl rfl rfl rfl rfl ?_
  have g := pre_i s hl 45 []
  cases s with
  | nil => simp [cl g, tpr]
  | cons a r =>
    by_cases h : a = 45
    · subst h
      have h1 : (1 : Int) ≤ (r.length : Int) + 1 := by omega
      have h2 : (r.length : Int) + 1 ≤ 9223372036854775807 := by simp at hl; omega
      have h3 : tpr (45 :: r) = r := rfl
      simp [cl g, h1, h2, h3]
    · have h3 : tpr (a :: r) = a :: r := by
        unfold tpr
        split
        · rename_i e; cases e; exact absurd rfl h
        · rfl
      simp [cl g, h, h3]
theorem trim_s (s : List Nat) (hl : s.length ≤ 1000000) (H : Hp) : Gives G 72 [.m (.s s), .m (.s [45])] H (.m (.s (tpr s))) H := by
  refine gives_pur rfl rfl rfl rfl rfl ?_
  simp [cl (trim_i s hl _)]

def okD (c : Nat) : Bool := decide (48 ≤ c ∧ c ≤ 57)
def dval : Nat → List Nat → Nat
  | a, [] => a
  | a, c :: r => dval (10 * a + (c - 48)) r
/-- The value of digits. -/
def posR (d : List Nat) : Int × Bool := if d = [] ∨ 9 < d.length ∨ (1 < d.length ∧ d.take 1 = [48]) then (0, false) else if d.all okD = true then ((dval 0 d : Nat), true) else (0, false)
def numV (x : Int × Bool) : V := .tu [.m (.i .i64 x.1), .m (.b x.2)]

def dgR (n : Nat) (l : List Nat) : Int × Bool := if l.all okD = true then (((dval n l : Nat) : Int), true) else (0, false)
theorem num_r0 (d : List Nat) (hl : d.length ≤ 1000000) (hb : ∀ c, c ∈ d → c < 256) (hd : ¬ (1 < d.length ∧ d.take 1 = [45])) (H : Hp) : Gives G 58 [.m (.s d)] H (numV (posR d)) H := by
  refine gives_pur rfl rfl rfl rfl rfl ?_
  cases hdd : d with
  | nil => simp [posR, numV]
  | cons a r =>
    have hlr : r.length ≤ 999999 := by subst hdd; simp at hl; omega
    by_cases h9 : 9 < d.length
    · have e : posR (a :: r) = (0, false) := by subst hdd; exact if_pos (.inr (.inl h9))
      subst hdd
      have h9' : (9 : Int) < (r.length : Int) + 1 := by simp at h9; omega
      have h1' : (1 : Int) < (r.length : Int) + 1 := by omega
      have hda : ¬ (a : Int) = 45 := fun h => hd ⟨by simp at h9 ⊢; omega, by simp; omega⟩
      simp [e, numV, h9', h1', hda]
    · have h9' : ¬ (9 : Int) < (r.length : Int) + 1 := by subst hdd; simp at h9; omega
      by_cases h1 : 1 < d.length
      · have h1' : (1 : Int) < (r.length : Int) + 1 := by subst hdd; simp at h1; omega
        have hda : ¬ (a : Int) = 45 := fun h => hd ⟨h1, by subst hdd; simp; omega⟩
        by_cases h48 : a = 48
        · have e : posR (a :: r) = (0, false) := by subst hdd; exact if_pos (.inr (.inr ⟨h1, by simp [h48]⟩))
          subst h48
          simp [e, numV, h9', h1']
        · have h48' : ¬ (a : Int) = 48 := by omega
          have e : posR d = dgR 0 (d.drop 0) := if_neg fun hh => by
            rcases hh with h | h | ⟨_, h⟩
            · rw [hdd] at h; cases h
            · exact h9 h
            · exact h48 (by subst hdd; simpa using h)
          simp [h9', h1', hda, h48']
          rw [← hdd]
          refine (?key : ∀ (i : Nat) (n : Nat) (B : List (Nat × List V)), i ≤ d.length → n + 1 ≤ 10 ^ i → posR d = dgR n (d.drop i) → Run G c58_B0 (S58_0 (.m (.s d)) (.m (.i .i64 n)) (.m (.i .i64 i)) B []) _) 0 0 [] (Nat.zero_le _) (by simp) e
          refine indM (fun i : Nat => d.length - i) fun i ih n B hi hn hq => ?_
          unfold c58_B0
          cases hx : d[i]? with
          | none =>
            have : i = d.length := by have := List.getElem?_eq_none_iff.1 hx; omega
            subst this
            have hq : posR d = ((n : Int), true) := by rw [hq, List.drop_length]; rfl
            simp [hq, numV]
          | some c =>
            have hlt := (get_drop hx).1
            have hc := hb c (List.mem_of_getElem? hx)
            have hg : dgR n (c :: d.drop (i + 1)) = if (okD c && (d.drop (i + 1)).all okD) = true then (((dval (10 * n + (c - 48)) (d.drop (i + 1)) : Nat) : Int), true) else (0, false) := rfl
            rw [(get_drop hx).2, hg] at hq
            have hnx : nth d i = some c := by rw [nth_get]; exact hx
            by_cases h1 : c < 48
            · have e1 : okD c = false := by unfold okD; exact decide_eq_false (by omega)
              rw [e1] at hq
              have h1' : (c : Int) < 48 := by omega
              simp [hlt, hnx, h1', hq, numV]
            · have h1' : ¬ (c : Int) < 48 := by omega
              by_cases h2 : 57 < c
              · have e1 : okD c = false := by unfold okD; exact decide_eq_false (by omega)
                rw [e1] at hq
                have h2' : (57 : Int) < c := by omega
                simp [hlt, hnx, h1', h2', hq, numV]
              · have e1 : okD c = true := by unfold okD; exact decide_eq_true (by omega)
                rw [e1, Bool.true_and] at hq
                have h2' : ¬ (57 : Int) < c := by omega
                have hp : 10 ^ i ≤ 10 ^ 8 := Nat.pow_le_pow_right (by omega) (by omega)
                have hp2 : 10 ^ (i + 1) = 10 ^ i * 10 := Nat.pow_succ 10 i
                have w1 : wr .i64 (10 * (n : Int)) = 10 * (n : Int) := wr_i64 (by omega) (by omega)
                have w2 : wr .u8 ((c : Int) - 48) = (c : Int) - 48 := wr_u8 (by omega) (by omega)
                have w3 : wr .i64 ((c : Int) - 48) = (c : Int) - 48 := wr_i64 (by omega) (by omega)
                have w4 : wr .i64 (10 * (n : Int) + ((c : Int) - 48)) = ((10 * n + (c - 48) : Nat) : Int) := by rw [wr_i64 (by omega) (by omega)]; omega
                have w5 : wr .i64 ((i : Int) + 1) = (i : Int) + 1 := wr_i64 (by omega) (by omega)
                have ih := ih (i + 1) (by omega) (10 * n + (c - 48))
                have ih := fun B => ih B (by omega) (by rw [hp2]; omega) hq
                simp [hlt, hnx, h1', h2', w1, w2, w3, w4, w5, -Int.natCast_add, -Int.natCast_mul]
                exact ih _
      · have h1' : ¬ (1 : Int) < (r.length : Int) + 1 := by subst hdd; simp only [List.length_cons] at h1; omega
        have e : posR d = dgR 0 (d.drop 0) := if_neg fun hh => by
          rcases hh with h | h | ⟨h, _⟩
          · rw [hdd] at h; cases h
          · exact h9 h
          · exact h1 h
        simp [h9', h1']
        rw [← hdd]
        refine (?key2 : ∀ (i : Nat) (n : Nat) (B : List (Nat × List V)), i ≤ d.length → n + 1 ≤ 10 ^ i → posR d = dgR n (d.drop i) → Run G c58_B0 (S58_0 (.m (.s d)) (.m (.i .i64 n)) (.m (.i .i64 i)) B []) _) 0 0 [] (Nat.zero_le _) (by simp) e
        refine indM (fun i : Nat => d.length - i) fun i ih n B hi hn hq => ?_
        unfold c58_B0
        cases hx : d[i]? with
        | none =>
          have : i = d.length := by have := List.getElem?_eq_none_iff.1 hx; omega
          subst this
          have hq : posR d = ((n : Int), true) := by rw [hq, List.drop_length]; rfl
          simp [hq, numV]
        | some c =>
          have hlt := (get_drop hx).1
          have hc := hb c (List.mem_of_getElem? hx)
          have hg : dgR n (c :: d.drop (i + 1)) = if (okD c && (d.drop (i + 1)).all okD) = true then (((dval (10 * n + (c - 48)) (d.drop (i + 1)) : Nat) : Int), true) else (0, false) := rfl
          rw [(get_drop hx).2, hg] at hq
          have hnx : nth d i = some c := by rw [nth_get]; exact hx
          by_cases h1 : c < 48
          · have e1 : okD c = false := by unfold okD; exact decide_eq_false (by omega)
            rw [e1] at hq
            have h1' : (c : Int) < 48 := by omega
            simp [hlt, hnx, h1', hq, numV]
          · have h1' : ¬ (c : Int) < 48 := by omega
            by_cases h2 : 57 < c
            · have e1 : okD c = false := by unfold okD; exact decide_eq_false (by omega)
              rw [e1] at hq
              have h2' : (57 : Int) < c := by omega
              simp [hlt, hnx, h1', h2', hq, numV]
            · have e1 : okD c = true := by unfold okD; exact decide_eq_true (by omega)
              rw [e1, Bool.true_and] at hq
              have h2' : ¬ (57 : Int) < c := by omega
              have hp : 10 ^ i ≤ 10 ^ 8 := Nat.pow_le_pow_right (by omega) (by omega)
              have hp2 : 10 ^ (i + 1) = 10 ^ i * 10 := Nat.pow_succ 10 i
              have w1 : wr .i64 (10 * (n : Int)) = 10 * (n : Int) := wr_i64 (by omega) (by omega)
              have w2 : wr .u8 ((c : Int) - 48) = (c : Int) - 48 := wr_u8 (by omega) (by omega)
              have w3 : wr .i64 ((c : Int) - 48) = (c : Int) - 48 := wr_i64 (by omega) (by omega)
              have w4 : wr .i64 (10 * (n : Int) + ((c : Int) - 48)) = ((10 * n + (c - 48) : Nat) : Int) := by rw [wr_i64 (by omega) (by omega)]; omega
              have w5 : wr .i64 ((i : Int) + 1) = (i : Int) + 1 := wr_i64 (by omega) (by omega)
              have ih := ih (i + 1) (by omega) (10 * n + (c - 48))
              have ih := fun B => ih B (by omega) (by rw [hp2]; omega) hq
              simp [hlt, hnx, h1', h2', w1, w2, w3, w4, w5, -Int.natCast_add, -Int.natCast_mul]
              exact ih _

theorem dval_le : ∀ (a : Nat) (l : List Nat), l.all okD = true → dval a l + 1 ≤ (a + 1) * 10 ^ l.length
  | a, [], _ => by
    rw [List.length_nil, Nat.pow_zero, Nat.mul_one]
    exact Nat.le_refl _
  | a, c :: r, h => by
    rw [List.all_cons, Bool.and_eq_true] at h
    have h1 := dval_le (10 * a + (c - 48)) r h.2
    have hc : 48 ≤ c ∧ c ≤ 57 := by have := h.1; unfold okD at this; exact of_decide_eq_true this
    show dval (10 * a + (c - 48)) r + 1 ≤ _
    refine Nat.le_trans h1 ?_
    rw [List.length_cons, Nat.pow_succ]
    generalize 10 ^ r.length = p
    have h2 : (10 * a + (c - 48) + 1) * p ≤ ((a + 1) * 10) * p := Nat.mul_le_mul_right p (by omega)
    rwa [Nat.mul_assoc, Nat.mul_comm 10 p] at h2
theorem posR_le (d : List Nat) : 0 ≤ (posR d).1 ∧ (posR d).1 < 1000000000 := by
  unfold posR
  split
  · exact ⟨Int.le_refl 0, by omega⟩
  · rename_i hh
    split
    · rename_i ha
      have := dval_le 0 d ha
      have h9 : d.length ≤ 9 := by
        have : ¬ 9 < d.length := fun h => hh (.inr (.inl h))
        omega
      have hp : 10 ^ d.length ≤ 10 ^ 9 := Nat.pow_le_pow_right (by omega) h9
      have hq : (10 : Nat) ^ 9 = 1000000000 := by decide
      rw [hq] at hp
      rw [Nat.zero_add, Nat.one_mul] at this
      generalize dval 0 d = q at *
      exact ⟨Int.natCast_nonneg q, by show (q : Int) < 1000000000; omega⟩
    · exact ⟨Int.le_refl 0, by omega⟩
/-- The reference's number. -/
def numR : List Nat → Int × Bool
  | [] => posR []
  | a :: r => if a = 45 ∧ r ≠ [] then (-(numR r).1, (numR r).2 && decide (0 < (numR r).1)) else posR (a :: r)
theorem numR_le : ∀ (s : List Nat), -1000000000 < (numR s).1 ∧ (numR s).1 < 1000000000
  | [] => by have := posR_le []; show -1000000000 < (posR []).1 ∧ (posR []).1 < 1000000000; omega
  | a :: r => by
    have h1 := numR_le r
    have h2 := posR_le (a :: r)
    unfold numR
    split
    · show -1000000000 < -(numR r).1 ∧ -(numR r).1 < 1000000000
      omega
    · omega
theorem num_r : ∀ (s : List Nat), s.length ≤ 1000000 → (∀ c, c ∈ s → c < 256) → ∀ H, Gives G 58 [.m (.s s)] H (numV (numR s)) H
  | [], hl, hb, H => num_r0 [] hl hb (by simp) H
  | a :: r, hl, hb, H => by
    by_cases h : a = 45 ∧ r ≠ []
    · have g := num_r r (by simp only [List.length_cons] at hl; omega) (fun c hc => hb c (by simp [hc])) []
      have e : numR (a :: r) = (-(numR r).1, (numR r).2 && decide (0 < (numR r).1)) := if_pos h
      have hx := numR_le r
      rw [e]
      obtain ⟨rfl, hr⟩ := h
      have hr1 : (1 : Int) < (r.length : Int) + 1 := by have := List.length_pos_iff.2 hr; omega
      have hr2 : (1 : Int) ≤ (r.length : Int) + 1 := by omega
      have w : wr .i64 (-(numR r).1) = -(numR r).1 := wr_i64 (by omega) (by omega)
      refine gives_pur rfl rfl rfl rfl rfl ?_
      generalize numR r = x at *
      obtain ⟨n, ok⟩ := x
      simp only [numV] at g w ⊢
      cases ok <;> simp [hr1, hr2, cl g, w]
    · have e : numR (a :: r) = posR (a :: r) := if_neg h
      rw [e]
      refine num_r0 (a :: r) hl hb (fun hh => h ⟨by simpa using hh.2, fun hr => ?_⟩) H
      subst hr
      simp at hh
end Go.Mx.Tryz
