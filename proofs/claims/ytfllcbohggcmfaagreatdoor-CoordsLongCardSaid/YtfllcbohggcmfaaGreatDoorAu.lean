/- Numerals; strconv.Atoi at every numeral; coords.number at every string. -/
import Derived.Test.YtfllcbohggcmfaaGreatDoorAv
import Derived.Test.YtfllcbohggcmfaaGreatDoorKd
import Derived.Test.YtfllcbohggcmfaaGreatDoorIto
import Derived.Test.YtfllcbohggcmfaaGreatDoorAp
set_option linter.unusedSimpArgs false
set_option linter.unusedVariables false
set_option linter.unusedSectionVars false
set_option maxRecDepth 100000
namespace Go.Mx.Tryz
open Go.Lib Go.Proofs

def tpr : List Nat → List Nat
 | 45 :: r => r
 | s => s
theorem trim_i (s : List Nat) (hl : s.length ≤ 1000000) (H : Hp) : Gives G 74 [.m (.s s), .m (.s [45])] H (.m (.s (tpr s))) H := by
 refine gives_pur rfl rfl rfl rfl rfl ?_
 have g := hpre_i s (by omega) 45 []
 cases s with
 | nil => simp [cl g, tpr]
 | cons a r =>
  by_cases h : a = 45
  ·subst h
   have h1 : (1 : Int) ≤ (r.length : Int) + 1 := by omega
   have h2 : (r.length : Int) + 1 ≤ 9223372036854775807 := by simp at hl; omega
   have h3 : tpr (45 :: r) = r := rfl
   simp [cl g, h1, h2, h3]
  ·have h3 : tpr (a :: r) = a :: r := by
    unfold tpr
    split
    ·rename_i e; cases e; exact absurd rfl h
    ·rfl
   simp [cl g, h, h3]
theorem trim_s (s : List Nat) (hl : s.length ≤ 1000000) (H : Hp) : Gives G 56 [.m (.s s), .m (.s [45])] H (.m (.s (tpr s))) H := by
 refine gives_pur rfl rfl rfl rfl rfl ?_
 simp [cl (trim_i s hl _)]

def byI (d : List Nat) : List (List I) := d.map fun c : Nat => [.i .u8 (c : Int)]
@[simp] theorem byI_len (d : List Nat) : (byI d).length = d.length := by simp [byI]
theorem byI_nth {d : List Nat} {i c : Nat} (h : d[i]? = some c) : nth (byI d) i = some [.i .u8 (c : Int)] := by
 rw [nth_get]; simp [byI, h]
theorem byI_def (d : List Nat) : (d.map fun c : Nat => [I.i .u8 (c : Int)]) = byI d := rfl

theorem decN_dig (u : Nat) : ∀ c, c ∈ decN u → 48 ≤ c ∧ c ≤ 57 := by
 refine indM (P := fun u => ∀ c, c ∈ decN u → 48 ≤ c ∧ c ≤ 57) (fun u : Nat => u) (fun u ih c hc => ?_) u
 by_cases h : u < 10
 ·rw [decN_one h] at hc
  simp at hc
  omega
 ·rw [decN_big h] at hc
  rcases List.mem_append.1 hc with h1 | h1
  ·exact ih (u / 10) (by omega) c h1
  ·simp at h1
   omega
theorem decN_dval (u : Nat) : dval 0 (decN u) = u := by
 refine indM (P := fun u => dval 0 (decN u) = u) (fun u : Nat => u) (fun u ih => ?_) u
 by_cases h : u < 10
 ·rw [decN_one h]
  show 10 * 0 + (48 + u - 48) = u
  omega
 ·rw [decN_big h, dval_app, ih (u / 10) (by omega)]
  omega
theorem decN_ne (u : Nat) : decN u ≠ [] := by
 by_cases h : u < 10
 ·rw [decN_one h]; simp
 ·rw [decN_big h]; simp
theorem decN_lenk : ∀ (k u : Nat), u < 10 ^ (k + 1) → (decN u).length ≤ k + 1
 | 0, u, h => by rw [decN_one (by simpa using h)]; simp
 | k + 1, u, h => by
  by_cases h1 : u < 10
  ·rw [decN_one h1]; simp
  ·rw [decN_big h1, List.length_append]
   have : u / 10 < 10 ^ (k + 1) := by
    rw [Nat.pow_succ] at h
    exact Nat.div_lt_of_lt_mul (by rw [Nat.mul_comm]; exact h)
   have := decN_lenk k (u / 10) this
   simp
   omega
theorem decN_hd (u : Nat) : 1 ≤ u → (decN u).take 1 ≠ [48] := by
 refine indM (P := fun u => 1 ≤ u → (decN u).take 1 ≠ [48]) (fun u : Nat => u) (fun u ih hu => ?_) u
 by_cases h : u < 10
 ·rw [decN_one h]
  simp
  omega
 ·rw [decN_big h]
  have := ih (u / 10) (by omega) (by omega)
  obtain ⟨a, t, e⟩ := List.exists_cons_of_ne_nil (decN_ne (u / 10))
  rw [e] at this ⊢
  simpa using this
theorem itoaN_mem (x : Int) : ∀ c, c ∈ itoaN x → c = 45 ∨ (48 ≤ c ∧ c ≤ 57) := fun c hc => by
 by_cases h : 0 ≤ x
 ·obtain ⟨u, rfl⟩ := Int.eq_ofNat_of_zero_le h
  rw [itoaN_pos] at hc
  exact .inr (decN_dig u c hc)
 ·obtain ⟨u, hu⟩ := Int.eq_ofNat_of_zero_le (show 0 ≤ -x by omega)
  have : x = -(u : Int) := by omega
  subst this
  rw [itoaN_neg u (by omega)] at hc
  rcases List.mem_cons.1 hc with h | h
  ·exact .inl h
  ·exact .inr (decN_dig u c h)
theorem itoaN_ne (x : Int) : itoaN x ≠ [] := by
 by_cases h : 0 ≤ x
 ·obtain ⟨u, rfl⟩ := Int.eq_ofNat_of_zero_le h
  rw [itoaN_pos]
  exact decN_ne u
 ·obtain ⟨u, hu⟩ := Int.eq_ofNat_of_zero_le (show 0 ≤ -x by omega)
  have : x = -(u : Int) := by omega
  subst this
  rw [itoaN_neg u (by omega)]
  simp
theorem tpr_dig {d : List Nat} (h : ∀ c, c ∈ d → 48 ≤ c ∧ c ≤ 57) : tpr d = d := by
 unfold tpr
 split
 ·rename_i r; have := h 45 (by simp); omega
 ·rfl
theorem dec_all (u : Nat) : (decN u).all okD = true := List.all_eq_true.2 fun c hc => by unfold okD; exact decide_eq_true (decN_dig u c hc)

end Go.Mx.Tryz

set_option maxRecDepth 100000
namespace Go.Mx.Tryz
open Go.Lib Go.Proofs

theorem atG_neg (d : List Nat) (hne : d ≠ []) (hd : d.all okD = true) : (dval 0 d ≤ 9223372036854775808 → atG (45 :: d) = (.i .i64 (-((dval 0 d : Nat) : Int)), .nl 3)) ∧ (¬ dval 0 d ≤ 9223372036854775808 → (atG (45 :: d)).2 = .er ∧ ∃ x, (atG (45 :: d)).1 = .i .i64 x) := by
 have h1 := u8_nat (c := 45) (by omega)
 have hp := pu10 d 0 hd (by omega)
 have hA : ∀ z, parseUint10 0 (d.map UInt8.ofNat) = z → atoiAll ((45 :: d).map UInt8.ofNat) = match z with
   | .ok u => if 9223372036854775808 < u then .range else .ok (-(u : Int))
   | .range => .range
   | _ => atoiAll [] := fun z hz => by
  have e : (45 :: d).map UInt8.ofNat = UInt8.ofNat 45 :: d.map UInt8.ofNat := rfl
  rw [e]
  unfold atoiAll
  simp only [h1, or_true, if_true, not_true_eq_false, false_and, if_false, true_and]
  unfold parseMag
  rw [if_neg (by simpa using hne), hz]
  cases z <;> rfl
 constructor
 ·intro h
  rw [if_pos (by omega)] at hp
  have hA := hA _ hp
  simp only at hA
  rw [if_neg (by omega)] at hA
  unfold atG
  rw [hA]
 ·intro h
  unfold atG
  by_cases h2 : dval 0 d < 18446744073709551616
  ·rw [if_pos h2] at hp
   have hA := hA _ hp
   simp only at hA
   rw [if_pos (by omega)] at hA
   rw [hA]
   exact ⟨rfl, _, rfl⟩
  ·rw [if_neg h2] at hp
   have hA := hA _ hp
   simp only at hA
   rw [hA]
   exact ⟨rfl, _, rfl⟩
def numOk (s : List Nat) : Bool := !decide (tpr s = []) && (!decide ((tpr s).take 1 = [48]) || (decide ((tpr s).length = 1) && decide (tpr s = s))) && inS digS (tpr s)
def numV (s : List Nat) : Int := if s.take 1 = [45] then -((dval 0 (tpr s) : Nat) : Int) else (dval 0 (tpr s) : Nat)
def numM (s : List Nat) : Int := if -9223372036854775808 ≤ numV s ∧ numV s ≤ 9223372036854775807 then numV s else 9223372036854775807
theorem tpr_cases (s : List Nat) : (s.take 1 = [45] ∧ s = 45 :: tpr s) ∨ (s.take 1 ≠ [45] ∧ tpr s = s) := by
 cases s with
 | nil => exact .inr ⟨by simp, rfl⟩
 | cons a r =>
  by_cases h : a = 45
  ·subst h
   exact .inl ⟨rfl, rfl⟩
  ·refine .inr ⟨by simpa using h, ?_⟩
   unfold tpr
   split
   ·rename_i e; cases e; exact absurd rfl h
   ·rfl
theorem atG_num {s : List Nat} (h : numOk s = true) : ((atG s).2 = .nl 3 ∧ (atG s).1 = .i .i64 (numM s)) ∨ ((atG s).2 = .er ∧ numM s = 9223372036854775807 ∧ ∃ x, (atG s).1 = .i .i64 x) := by
 unfold numOk at h
 simp only [Bool.and_eq_true, Bool.not_eq_true', decide_eq_false_iff_not] at h
 obtain ⟨⟨hne, _⟩, hi⟩ := h
 have hd := inS_dig hi
 rcases tpr_cases s with ⟨h1, h2⟩ | ⟨h1, h2⟩
 ·obtain ⟨k1, k2⟩ := atG_neg (tpr s) hne hd
  rw [← h2] at k1 k2
  have hv : numV s = -((dval 0 (tpr s) : Nat) : Int) := by unfold numV; rw [if_pos h1]
  by_cases h : dval 0 (tpr s) ≤ 9223372036854775808
  ·left
   rw [k1 h]
   unfold numM
   rw [if_pos (by omega), hv]
   exact ⟨rfl, rfl⟩
  ·right
   unfold numM
   rw [if_neg (by omega)]
   exact ⟨(k2 h).1, rfl, (k2 h).2⟩
 ·rw [h2] at hne hd
  obtain ⟨k1, k2⟩ := atG_pos s hne hd
  have hv : numV s = ((dval 0 s : Nat) : Int) := by unfold numV; rw [if_neg h1, h2]
  by_cases h : dval 0 s < 9223372036854775808
  ·left
   rw [k1 h]
   unfold numM
   rw [if_pos (by omega), hv]
   exact ⟨rfl, rfl⟩
  ·right
   unfold numM
   rw [if_neg (by omega)]
   exact ⟨(k2 h).1, rfl, (k2 h).2⟩
def numN (s : List Nat) : Int × Bool := if numOk s = true then (numM s, true) else (0, false)
theorem number_w (s : List Nat) (hl : s.length ≤ 1000000) (hb : ∀ c, c ∈ s → c < 256) (H : Hp) : Gives G 41 [.m (.s s)] H (.tu [.m (.i .i64 (numN s).1), .m (.b (numN s).2)]) H := by
 refine gives_pur rfl rfl rfl rfl rfl ?_
 have gt := fun H => trim_s s (by omega) H
 have hm : ∀ c, c ∈ tpr s → c ∈ s := fun c hc => by
  rcases tpr_cases s with ⟨_, h2⟩ | ⟨_, h2⟩
  ·rw [h2]; exact List.mem_cons_of_mem _ hc
  ·rwa [h2] at hc
 have hle : (tpr s).length ≤ s.length := by
  rcases tpr_cases s with ⟨_, h2⟩ | ⟨_, h2⟩
  ·have := congrArg List.length h2; simp at this; omega
  ·rw [h2]; omega
 obtain ⟨q, gq, hq⟩ := trim_c cutN_ok (tpr s) (by omega) (fun c hc => hb c (hm c hc)) []
 have ga := fun H => atoi_g s (by omega) H
 have hN := @atG_num s
 have e0 : numN s = if numOk s = true then (numM s, true) else (0, false) := rfl
 have e1 : numOk s = (!decide (tpr s = []) && (!decide ((tpr s).take 1 = [48]) || (decide ((tpr s).length = 1) && decide (tpr s = s))) && inS digS (tpr s)) := rfl
 rw [e0]
 cases ht : tpr s with
 | nil =>
  have hF : numOk s = false := by rw [e1, ht]; rfl
  rw [ht] at gt
  rw [hF]
  simp [cl (gt _), gcall_cx]
 | cons a r =>
  rw [ht] at gt gq hq e1
  have p1 : (0 : Int) < (r.length : Int) + 1 := by omega
  have key : (inS digS (a :: r) = true → (numOk s = true) → q = []) ∧ (inS digS (a :: r) = false → q ≠ []) := ⟨fun h _ => hq.2 h, fun h e => by rw [show inS digS (a :: r) = true from hq.1 e] at h; cases h⟩
  by_cases ha : a = 48 ∧ (r ≠ [] ∨ ¬ a :: r = s)
  ·obtain ⟨rfl, hr⟩ := ha
   have hF : numOk s = false := by
    rw [e1]
    have : (decide ((48 :: r).length = 1) && decide (48 :: r = s)) = false := by
     rw [Bool.and_eq_false_iff, decide_eq_false_iff_not, decide_eq_false_iff_not]
     rcases hr with h | h
     ·exact .inl (by simpa using h)
     ·exact .inr h
    rw [this]
    simp
   rw [hF]
   by_cases hr0 : r = []
   ·subst hr0
    have hs : ¬ [48] = s := hr.resolve_left (by simp)
    simp [cl (gt _), gcall_cx, hs]
   ·have p2 : (1 : Int) < (r.length : Int) + 1 := by have := List.length_pos_iff.2 hr0; omega
    simp (maxSteps := 2000000) (disch := omega) [gd_in, gd_and, wr_i64, cl (gt _), gcall_cx, p1, p2]
  ·have hE : numOk s = inS digS (a :: r) := by
    rw [e1]
    by_cases h48 : a = 48
    ·have hr : r = [] ∧ a :: r = s := by
      constructor
      ·exact Classical.byContradiction fun h => ha ⟨h48, .inl h⟩
      ·exact Classical.byContradiction fun h => ha ⟨h48, .inr h⟩
     simp [hr.1, ← hr.2]
    ·simp [h48]
   cases hI : inS digS (a :: r) with
   | false =>
    have hq0 := key.2 hI
    rw [hE, hI]
    by_cases h48 : a = 48
    ·have hr : r = [] ∧ a :: r = s := by
      constructor
      ·exact Classical.byContradiction fun h => ha ⟨h48, .inl h⟩
      ·exact Classical.byContradiction fun h => ha ⟨h48, .inr h⟩
     subst h48
     obtain ⟨hr1, hr2⟩ := hr
     subst hr1
     subst hr2
     simp [cl (gt _), gcall_cx, cl gq, hq0]
    ·have h48' : ¬ (a : Int) = 48 := by omega
     simp (maxSteps := 2000000) (disch := omega) [gd_in, gd_and, wr_i64, cl (gt _), gcall_cx, p1, h48', cl gq, hq0]
   | true =>
    have hT : numOk s = true := by rw [hE, hI]
    have hq0 := key.1 hI hT
    subst hq0
    rw [hT, if_pos rfl]
    rcases hN hT with ⟨k1, k2⟩ | ⟨k1, k2, x, k3⟩
    ·rw [k1, k2] at ga
     by_cases h48 : a = 48
     ·have hr : r = [] ∧ a :: r = s := by
       constructor
       ·exact Classical.byContradiction fun h => ha ⟨h48, .inl h⟩
       ·exact Classical.byContradiction fun h => ha ⟨h48, .inr h⟩
      subst h48
      obtain ⟨hr1, hr2⟩ := hr
      subst hr1
      subst hr2
      simp [cl (gt _), gcall_cx, cl gq, cl (ga _), isNil_33]
     ·have h48' : ¬ (a : Int) = 48 := by omega
      simp (maxSteps := 2000000) (disch := omega) [gd_in, gd_and, wr_i64, cl (gt _), gcall_cx, p1, h48', cl gq, cl (ga _), isNil_33]
    ·rw [k1, k3] at ga
     rw [k2]
     by_cases h48 : a = 48
     ·have hr : r = [] ∧ a :: r = s := by
       constructor
       ·exact Classical.byContradiction fun h => ha ⟨h48, .inl h⟩
       ·exact Classical.byContradiction fun h => ha ⟨h48, .inr h⟩
      subst h48
      obtain ⟨hr1, hr2⟩ := hr
      subst hr1
      subst hr2
      simp [cl (gt _), gcall_cx, cl gq, cl (ga _), isNil_33]
     ·have h48' : ¬ (a : Int) = 48 := by omega
      simp (maxSteps := 2000000) (disch := omega) [gd_in, gd_and, wr_i64, cl (gt _), gcall_cx, p1, h48', cl gq, cl (ga _), isNil_33]
theorem numV_itoa (x : Int) (h1 : -1000000000000 < x) (h2 : x < 1000000000000) : numV (itoaN x) = x ∧ numOk (itoaN x) = true := by
 have core : ∀ u : Nat, inS digS (decN u) = true := fun u => in_digits (decN_dig u)
 by_cases h0 : 0 ≤ x
 ·obtain ⟨u, rfl⟩ := Int.eq_ofNat_of_zero_le h0
  rw [itoaN_pos]
  have ht := tpr_dig (decN_dig u)
  obtain ⟨a, r, hd⟩ := List.exists_cons_of_ne_nil (decN_ne u)
  have ha := decN_dig u a (by rw [hd]; simp)
  refine ⟨?_, ?_⟩
  ·unfold numV
   rw [ht, decN_dval, if_neg (by rw [hd]; simp; omega)]
  ·unfold numOk
   rw [ht, core u, Bool.and_true, Bool.and_eq_true]
   refine ⟨by simp [decN_ne u], ?_⟩
   by_cases hu : 1 ≤ u
   ·have := decN_hd u hu
    simp [this]
   ·have : u = 0 := by omega
    subst this
    have hd0 : decN 0 = [48] := decN_one (by omega)
    rw [hd0]
    simp
 ·obtain ⟨u, hu⟩ := Int.eq_ofNat_of_zero_le (show 0 ≤ -x by omega)
  have : x = -(u : Int) := by omega
  subst this
  rw [itoaN_neg u (by omega)]
  have ht : tpr (45 :: decN u) = decN u := rfl
  refine ⟨?_, ?_⟩
  ·unfold numV
   rw [ht, decN_dval, if_pos (show List.take 1 (45 :: decN u) = [45] from rfl)]
  ·unfold numOk
   rw [ht, core u, Bool.and_true, Bool.and_eq_true]
   refine ⟨by simp [decN_ne u], ?_⟩
   have := decN_hd u (by omega)
   simp [this]
theorem itoaN_small9 (x : Int) (h1 : -1000000000 < x) (h2 : x < 1000000000) : (itoaN x).length ≤ 10 := by
 by_cases h0 : 0 ≤ x
 ·obtain ⟨u, rfl⟩ := Int.eq_ofNat_of_zero_le h0
  rw [itoaN_pos]
  have := decN_lenk 8 u (by omega)
  omega
 ·obtain ⟨u, hu⟩ := Int.eq_ofNat_of_zero_le (show 0 ≤ -x by omega)
  have : x = -(u : Int) := by omega
  subst this
  rw [itoaN_neg u (by omega)]
  have := decN_lenk 8 u (by omega)
  simp
  omega
theorem number_c (x : Int) (h1 : -1000000000 < x) (h2 : x < 1000000000) (H : Hp) : Gives G 41 [.m (.s (itoaN x))] H (.tu [.m (.i .i64 x), .m (.b true)]) H := by
 obtain ⟨k1, k2⟩ := numV_itoa x (by omega) (by omega)
 have hl := itoaN_small9 x h1 h2
 have h := number_w (itoaN x) (by omega) (fun c hc => by have := itoaN_mem x c hc; omega) H
 have e : numN (itoaN x) = (x, true) := by
  unfold numN numM
  rw [if_pos k2, k1, if_pos (by omega)]
 rw [e] at h
 exact h
end Go.Mx.Tryz
