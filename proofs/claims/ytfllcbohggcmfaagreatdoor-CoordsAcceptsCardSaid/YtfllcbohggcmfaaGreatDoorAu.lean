/- strconv.Atoi at every numeral; coords.number at every string. -/
import Derived.Test.YtfllcbohggcmfaaGreatDoorAt
import Derived.Test.YtfllcbohggcmfaaGreatDoorAp
set_option linter.unusedSimpArgs false
set_option linter.unusedVariables false
set_option linter.unusedSectionVars false
set_option maxRecDepth 100000
namespace Go.Mx.Tryz
open Go.Lib Go.Proofs

theorem atoi_g (s : List Nat) (hl : s.length ≤ 281474976710656) (H : Hp) : Gives G 57 [.m (.s s)] H (.tu [.m (atG s).1, .m (atG s).2]) H := ⟨1, by
  have e : callM G 1 57 [.m (.s s)] H = gd (Nat.ble s.length 281474976710656) (some (.tu [.m (atG s).1, .m (atG s).2], H)) := rfl
  have hb : Nat.ble s.length 281474976710656 = true := by rw [Nat.ble_eq]; exact hl
  rw [e, hb]
  rfl⟩
theorem dval_ge : ∀ (d : List Nat) (a : Nat), a ≤ dval a d
  | [], a => Nat.le_refl a
  | c :: r, a => by
    have := dval_ge r (10 * a + (c - 48))
    have e : dval a (c :: r) = dval (10 * a + (c - 48)) r := rfl
    omega
theorem u8_nat {c : Nat} (h : c < 256) : (UInt8.ofNat c).toNat = c := by
  rw [UInt8.toNat_ofNat']
  omega
theorem okD_iff {c : Nat} : okD c = true ↔ 48 ≤ c ∧ c ≤ 57 := by unfold okD; simp
theorem pu10 : ∀ (d : List Nat) (a : Nat), d.all okD = true → a < 18446744073709551616 → parseUint10 a (d.map UInt8.ofNat) = if dval a d < 18446744073709551616 then .ok (dval a d) else .range
  | [], a, _, h => by
    have e : dval a [] = a := rfl
    rw [e, if_pos h]
    rfl
  | c :: r, a, hd, h => by
    rw [List.all_cons, Bool.and_eq_true] at hd
    have hc := okD_iff.1 hd.1
    have h1 := u8_nat (c := c) (by omega)
    have e : dval a (c :: r) = dval (10 * a + (c - 48)) r := rfl
    have hg := dval_ge r (10 * a + (c - 48))
    rw [List.map_cons]
    unfold parseUint10
    rw [h1, if_pos hc]
    by_cases h2 : 1844674407370955162 ≤ a
    · rw [if_pos h2, if_neg (by omega)]
    · rw [if_neg h2]
      by_cases h3 : 18446744073709551616 ≤ a * 10 + (c - 48)
      · rw [if_pos h3, if_neg (by omega)]
      · rw [if_neg h3, show a * 10 + (c - 48) = 10 * a + (c - 48) by omega, pu10 r _ hd.2 (by omega), e]
theorem atG_pos (d : List Nat) (hne : d ≠ []) (hd : d.all okD = true) : (dval 0 d < 9223372036854775808 → atG d = (.i .i64 (dval 0 d : Nat), .nl 3)) ∧ (¬ dval 0 d < 9223372036854775808 → (atG d).2 = .er ∧ ∃ x, (atG d).1 = .i .i64 x) := by
  obtain ⟨c, r, rfl⟩ := List.exists_cons_of_ne_nil hne
  have hc := okD_iff.1 (List.all_eq_true.1 hd c (by simp))
  have h1 := u8_nat (c := c) (by omega)
  have hp := pu10 (c :: r) 0 hd (by omega)
  have hA : ∀ z, parseUint10 0 ((c :: r).map UInt8.ofNat) = z → atoiAll ((c :: r).map UInt8.ofNat) = match z with
      | .ok u => if 9223372036854775808 ≤ u then .range else .ok (u : Int)
      | .range => .range
      | _ => atoiAll [] := fun z hz => by
    have e : (c :: r).map UInt8.ofNat = UInt8.ofNat c :: r.map UInt8.ofNat := rfl
    rw [e] at hz ⊢
    unfold atoiAll
    simp only [h1]
    have n1 : ¬ c = 43 := by omega
    have n2 : ¬ c = 45 := by omega
    simp only [n1, n2, or_self, if_false, not_false_eq_true, true_and, false_and]
    unfold parseMag
    rw [if_neg (by simp), hz]
    cases z <;> rfl
  constructor
  · intro h
    rw [if_pos (by omega)] at hp
    have hA := hA _ hp
    simp only at hA
    rw [if_neg (by omega)] at hA
    unfold atG
    rw [hA]
  · intro h
    unfold atG
    by_cases h2 : dval 0 (c :: r) < 18446744073709551616
    · rw [if_pos h2] at hp
      have hA := hA _ hp
      simp only at hA
      rw [if_pos (by omega)] at hA
      rw [hA]
      exact ⟨rfl, _, rfl⟩
    · rw [if_neg h2] at hp
      have hA := hA _ hp
      simp only at hA
      rw [hA]
      exact ⟨rfl, _, rfl⟩
theorem atG_neg (d : List Nat) (hne : d ≠ []) (hd : d.all okD = true) : (dval 0 d ≤ 9223372036854775808 → atG (45 :: d) = (.i .i64 (-((dval 0 d : Nat) : Int)), .nl 3)) ∧ (¬ dval 0 d ≤ 9223372036854775808 → (atG (45 :: d)).2 = .er ∧ ∃ x, (atG (45 :: d)).1 = .i .i64 x) := by
  have h1 := u8_nat (c := 45) (by omega)
  have hp := pu10 d 0 hd (by omega)
  have hA : ∀ z, parseUint10 0 (d.map UInt8.ofNat) = z → atoiAll ((45 :: d).map UInt8.ofNat) = match z with
      | .ok u => if 9223372036854775808 < u then .range else .ok (-(u : Int))
      | .range => .range
      | _ => atoiAll [] := fun z hz => by
    have e : (45 :: d).map UInt8.ofNat = UInt8.ofNat 45 :: d.map UInt8.ofNat := rfl
    rw [e]
    unfold atoiAll
    simp only [h1, or_true, if_true, not_true_eq_false, false_and, if_false, true_and]
    unfold parseMag
    rw [if_neg (by simpa using hne), hz]
    cases z <;> rfl
  constructor
  · intro h
    rw [if_pos (by omega)] at hp
    have hA := hA _ hp
    simp only at hA
    rw [if_neg (by omega)] at hA
    unfold atG
    rw [hA]
  · intro h
    unfold atG
    by_cases h2 : dval 0 d < 18446744073709551616
    · rw [if_pos h2] at hp
      have hA := hA _ hp
      simp only at hA
      rw [if_pos (by omega)] at hA
      rw [hA]
      exact ⟨rfl, _, rfl⟩
    · rw [if_neg h2] at hp
      have hA := hA _ hp
      simp only at hA
      rw [hA]
      exact ⟨rfl, _, rfl⟩
/-- A numeral: its form, its value, what coords.number makes of it. -/
def digS : List Nat := [48, 49, 50, 51, 52, 53, 54, 55, 56, 57]
def numOk (s : List Nat) : Bool := !decide (tpr s = []) && (!decide ((tpr s).take 1 = [48]) || (decide ((tpr s).length = 1) && decide (tpr s = s))) && inS digS (tpr s)
def numV (s : List Nat) : Int := if s.take 1 = [45] then -((dval 0 (tpr s) : Nat) : Int) else (dval 0 (tpr s) : Nat)
def numM (s : List Nat) : Int := if -9223372036854775808 ≤ numV s ∧ numV s ≤ 9223372036854775807 then numV s else 9223372036854775807
theorem inS_dig {d : List Nat} (h : inS digS d = true) : d.all okD = true := by
  unfold inS digS at h
  rw [List.all_eq_true] at h ⊢
  intro c hc
  have := h c hc
  simp at this
  exact okD_iff.2 (by omega)
theorem tpr_cases (s : List Nat) : (s.take 1 = [45] ∧ s = 45 :: tpr s) ∨ (s.take 1 ≠ [45] ∧ tpr s = s) := by
  cases s with
  | nil => exact .inr ⟨by simp, rfl⟩
  | cons a r =>
    by_cases h : a = 45
    · subst h
      exact .inl ⟨rfl, rfl⟩
    · refine .inr ⟨by simpa using h, ?_⟩
      unfold tpr
      split
      · rename_i e; cases e; exact absurd rfl h
      · rfl
/-- What number makes of what Atoi gives. -/
theorem atG_num {s : List Nat} (h : numOk s = true) : ((atG s).2 = .nl 3 ∧ (atG s).1 = .i .i64 (numM s)) ∨ ((atG s).2 = .er ∧ numM s = 9223372036854775807 ∧ ∃ x, (atG s).1 = .i .i64 x) := by
  unfold numOk at h
  simp only [Bool.and_eq_true, Bool.not_eq_true', decide_eq_false_iff_not] at h
  obtain ⟨⟨hne, _⟩, hi⟩ := h
  have hd := inS_dig hi
  rcases tpr_cases s with ⟨h1, h2⟩ | ⟨h1, h2⟩
  · obtain ⟨k1, k2⟩ := atG_neg (tpr s) hne hd
    rw [← h2] at k1 k2
    have hv : numV s = -((dval 0 (tpr s) : Nat) : Int) := by unfold numV; rw [if_pos h1]
    by_cases h : dval 0 (tpr s) ≤ 9223372036854775808
    · left
      rw [k1 h]
      unfold numM
      rw [if_pos (by omega), hv]
      exact ⟨rfl, rfl⟩
    · right
      unfold numM
      rw [if_neg (by omega)]
      exact ⟨(k2 h).1, rfl, (k2 h).2⟩
  · rw [h2] at hne hd
    obtain ⟨k1, k2⟩ := atG_pos s hne hd
    have hv : numV s = ((dval 0 s : Nat) : Int) := by unfold numV; rw [if_neg h1, h2]
    by_cases h : dval 0 s < 9223372036854775808
    · left
      rw [k1 h]
      unfold numM
      rw [if_pos (by omega), hv]
      exact ⟨rfl, rfl⟩
    · right
      unfold numM
      rw [if_neg (by omega)]
      exact ⟨(k2 h).1, rfl, (k2 h).2⟩
@[simp] theorem isNil_3er : isNil 3 (.m .er) = some false := rfl
def numN (s : List Nat) : Int × Bool := if numOk s = true then (numM s, true) else (0, false)
theorem number_w (s : List Nat) (hl : s.length ≤ 1000000) (hb : ∀ c, c ∈ s → c < 256) (H : Hp) : Gives G 41 [.m (.s s)] H (.tu [.m (.i .i64 (numN s).1), .m (.b (numN s).2)]) H := by
  refine gives_pur rfl rfl rfl rfl rfl ?_
  have gt := fun H => trim_s s (by omega) H
  have hm : ∀ c, c ∈ tpr s → c ∈ s := fun c hc => by
    rcases tpr_cases s with ⟨_, h2⟩ | ⟨_, h2⟩
    · rw [h2]; exact List.mem_cons_of_mem _ hc
    · rwa [h2] at hc
  have hle : (tpr s).length ≤ s.length := by
    rcases tpr_cases s with ⟨_, h2⟩ | ⟨_, h2⟩
    · have := congrArg List.length h2; simp at this; omega
    · rw [h2]; omega
  obtain ⟨q, gq, hq⟩ := trim_c cutN_ok (tpr s) (by omega) (fun c hc => hb c (hm c hc)) []
  have ga := fun H => atoi_g s (by omega) H
  have hN := @atG_num s
  have e0 : numN s = if numOk s = true then (numM s, true) else (0, false) := rfl
  have e1 : numOk s = (!decide (tpr s = []) && (!decide ((tpr s).take 1 = [48]) || (decide ((tpr s).length = 1) && decide (tpr s = s))) && inS digS (tpr s)) := rfl
  rw [e0]
  cases ht : tpr s with
  | nil =>
    have hF : numOk s = false := by rw [e1, ht]; rfl
    rw [ht] at gt
    rw [hF]
    simp [cl (gt _), gcall_cx]
  | cons a r =>
    rw [ht] at gt gq hq e1
    have p1 : (0 : Int) < (r.length : Int) + 1 := by omega
    have key : (inS digS (a :: r) = true → (numOk s = true) → q = []) ∧ (inS digS (a :: r) = false → q ≠ []) := ⟨fun h _ => hq.2 h, fun h e => by rw [show inS digS (a :: r) = true from hq.1 e] at h; cases h⟩
    by_cases ha : a = 48 ∧ (r ≠ [] ∨ ¬ a :: r = s)
    · obtain ⟨rfl, hr⟩ := ha
      have hF : numOk s = false := by
        rw [e1]
        have : (decide ((48 :: r).length = 1) && decide (48 :: r = s)) = false := by
          rw [Bool.and_eq_false_iff, decide_eq_false_iff_not, decide_eq_false_iff_not]
          rcases hr with h | h
          · exact .inl (by simpa using h)
          · exact .inr h
        rw [this]
        simp
      rw [hF]
      by_cases hr0 : r = []
      · subst hr0
        have hs : ¬ [48] = s := hr.resolve_left (by simp)
        simp [cl (gt _), gcall_cx, hs]
      · have p2 : (1 : Int) < (r.length : Int) + 1 := by have := List.length_pos_iff.2 hr0; omega
        simp (maxSteps := 2000000) (disch := omega) [gd_in, gd_and, wr_i64, cl (gt _), gcall_cx, p1, p2]
    · have hE : numOk s = inS digS (a :: r) := by
        rw [e1]
        by_cases h48 : a = 48
        · have hr : r = [] ∧ a :: r = s := by
            constructor
            · exact Classical.byContradiction fun h => ha ⟨h48, .inl h⟩
            · exact Classical.byContradiction fun h => ha ⟨h48, .inr h⟩
          simp [hr.1, ← hr.2]
        · simp [h48]
      cases hI : inS digS (a :: r) with
      | false =>
        have hq0 := key.2 hI
        rw [hE, hI]
        by_cases h48 : a = 48
        · have hr : r = [] ∧ a :: r = s := by
            constructor
            · exact Classical.byContradiction fun h => ha ⟨h48, .inl h⟩
            · exact Classical.byContradiction fun h => ha ⟨h48, .inr h⟩
          subst h48
          obtain ⟨hr1, hr2⟩ := hr
          subst hr1
          subst hr2
          simp [cl (gt _), gcall_cx, cl gq, hq0]
        · have h48' : ¬ (a : Int) = 48 := by omega
          simp (maxSteps := 2000000) (disch := omega) [gd_in, gd_and, wr_i64, cl (gt _), gcall_cx, p1, h48', cl gq, hq0]
      | true =>
        have hT : numOk s = true := by rw [hE, hI]
        have hq0 := key.1 hI hT
        subst hq0
        rw [hT, if_pos rfl]
        rcases hN hT with ⟨k1, k2⟩ | ⟨k1, k2, x, k3⟩
        · rw [k1, k2] at ga
          by_cases h48 : a = 48
          · have hr : r = [] ∧ a :: r = s := by
              constructor
              · exact Classical.byContradiction fun h => ha ⟨h48, .inl h⟩
              · exact Classical.byContradiction fun h => ha ⟨h48, .inr h⟩
            subst h48
            obtain ⟨hr1, hr2⟩ := hr
            subst hr1
            subst hr2
            simp [cl (gt _), gcall_cx, cl gq, cl (ga _), isNil_33]
          · have h48' : ¬ (a : Int) = 48 := by omega
            simp (maxSteps := 2000000) (disch := omega) [gd_in, gd_and, wr_i64, cl (gt _), gcall_cx, p1, h48', cl gq, cl (ga _), isNil_33]
        · rw [k1, k3] at ga
          rw [k2]
          by_cases h48 : a = 48
          · have hr : r = [] ∧ a :: r = s := by
              constructor
              · exact Classical.byContradiction fun h => ha ⟨h48, .inl h⟩
              · exact Classical.byContradiction fun h => ha ⟨h48, .inr h⟩
            subst h48
            obtain ⟨hr1, hr2⟩ := hr
            subst hr1
            subst hr2
            simp [cl (gt _), gcall_cx, cl gq, cl (ga _), isNil_33]
          · have h48' : ¬ (a : Int) = 48 := by omega
            simp (maxSteps := 2000000) (disch := omega) [gd_in, gd_and, wr_i64, cl (gt _), gcall_cx, p1, h48', cl gq, cl (ga _), isNil_33]
/-- A decimal numeral reads back. -/
theorem numV_itoa (x : Int) (h1 : -1000000000000 < x) (h2 : x < 1000000000000) : numV (itoaN x) = x ∧ numOk (itoaN x) = true := by
  have core : ∀ u : Nat, inS digS (decN u) = true := fun u => in_digits (decN_dig u)
  by_cases h0 : 0 ≤ x
  · obtain ⟨u, rfl⟩ := Int.eq_ofNat_of_zero_le h0
    rw [itoaN_pos]
    have ht := tpr_dig (decN_dig u)
    obtain ⟨a, r, hd⟩ := List.exists_cons_of_ne_nil (decN_ne u)
    have ha := decN_dig u a (by rw [hd]; simp)
    refine ⟨?_, ?_⟩
    · unfold numV
      rw [ht, decN_dval, if_neg (by rw [hd]; simp; omega)]
    · unfold numOk
      rw [ht, core u, Bool.and_true, Bool.and_eq_true]
      refine ⟨by simp [decN_ne u], ?_⟩
      by_cases hu : 1 ≤ u
      · have := decN_hd u hu
        simp [this]
      · have : u = 0 := by omega
        subst this
        have hd0 : decN 0 = [48] := decN_one (by omega)
        rw [hd0]
        simp
  · obtain ⟨u, hu⟩ := Int.eq_ofNat_of_zero_le (show 0 ≤ -x by omega)
    have : x = -(u : Int) := by omega
    subst this
    rw [itoaN_neg u (by omega)]
    have ht : tpr (45 :: decN u) = decN u := rfl
    refine ⟨?_, ?_⟩
    · unfold numV
      rw [ht, decN_dval, if_pos (show List.take 1 (45 :: decN u) = [45] from rfl)]
    · unfold numOk
      rw [ht, core u, Bool.and_true, Bool.and_eq_true]
      refine ⟨by simp [decN_ne u], ?_⟩
      have := decN_hd u (by omega)
      simp [this]
theorem itoaN_small9 (x : Int) (h1 : -1000000000 < x) (h2 : x < 1000000000) : (itoaN x).length ≤ 10 := by
  by_cases h0 : 0 ≤ x
  · obtain ⟨u, rfl⟩ := Int.eq_ofNat_of_zero_le h0
    rw [itoaN_pos]
    have := decN_lenk 8 u (by omega)
    omega
  · obtain ⟨u, hu⟩ := Int.eq_ofNat_of_zero_le (show 0 ≤ -x by omega)
    have : x = -(u : Int) := by omega
    subst this
    rw [itoaN_neg u (by omega)]
    have := decN_lenk 8 u (by omega)
    simp
    omega
theorem number_c (x : Int) (h1 : -1000000000 < x) (h2 : x < 1000000000) (H : Hp) : Gives G 41 [.m (.s (itoaN x))] H (.tu [.m (.i .i64 x), .m (.b true)]) H := by
  obtain ⟨k1, k2⟩ := numV_itoa x (by omega) (by omega)
  have hl := itoaN_small9 x h1 h2
  have h := number_w (itoaN x) (by omega) (fun c hc => by have := itoaN_mem x c hc; omega) H
  have e : numN (itoaN x) = (x, true) := by
    unfold numN numM
    rw [if_pos k2, k1, if_pos (by omega)]
  rw [e] at h
  exact h
end Go.Mx.Tryz
