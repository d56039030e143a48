/- strconv.Atoi at numerals without a sign; digits. -/
import Derived.Test.YtfllcbohggcmfaaGreatDoorKb
import Derived.Test.YtfllcbohggcmfaaGreatDoorAp
set_option linter.unusedSimpArgs false
set_option linter.unusedVariables false
set_option linter.unusedSectionVars false
set_option maxRecDepth 100000
namespace Go.Mx.Tryz
open Go.Lib Go.Proofs

def okD (c : Nat) : Bool := decide (48 ≤ c ∧ c ≤ 57)
def dval : Nat → List Nat → Nat
 | a, [] => a
 | a, c :: r => dval (10 * a + (c - 48)) r
theorem isNil_33 : isNil 3 (.m (.nl 3)) = some true := rfl
theorem dval_app : ∀ (l : List Nat) (a c : Nat), dval a (l ++ [c]) = 10 * dval a l + (c - 48)
 | [], a, c => rfl
 | x :: l, a, c => by
  show dval (10 * a + (x - 48)) (l ++ [c]) = _
  rw [dval_app l]
  rfl
theorem cutN_ok : CutOk [48, 49, 50, 51, 52, 53, 54, 55, 56, 57] := ⟨⟨40, by kernel_rfl⟩, fun B => by kernel_rfl, by simp, by simp⟩
theorem in_digits {d : List Nat} (h : ∀ c, c ∈ d → 48 ≤ c ∧ c ≤ 57) : inS [48, 49, 50, 51, 52, 53, 54, 55, 56, 57] d = true := by
 unfold inS
 rw [List.all_eq_true]
 intro c hc
 have := h c hc
 simp
 omega
theorem atoi_g (s : List Nat) (hl : s.length ≤ 281474976710656) (H : Hp) : Gives G 57 [.m (.s s)] H (.tu [.m (atG s).1, .m (atG s).2]) H := ⟨1, by
 have e : callM G 1 57 [.m (.s s)] H = gd (Nat.ble s.length 281474976710656) (some (.tu [.m (atG s).1, .m (atG s).2], H)) := rfl
 have hb : Nat.ble s.length 281474976710656 = true := by rw [Nat.ble_eq]; exact hl
 rw [e, hb]
 rfl⟩
theorem dval_ge : ∀ (d : List Nat) (a : Nat), a ≤ dval a d
 | [], a => Nat.le_refl a
 | c :: r, a => by
  have := dval_ge r (10 * a + (c - 48))
  have e : dval a (c :: r) = dval (10 * a + (c - 48)) r := rfl
  omega
theorem u8_nat {c : Nat} (h : c < 256) : (UInt8.ofNat c).toNat = c := by
 rw [UInt8.toNat_ofNat']
 omega
theorem okD_iff {c : Nat} : okD c = true ↔ 48 ≤ c ∧ c ≤ 57 := by unfold okD; simp
theorem pu10 : ∀ (d : List Nat) (a : Nat), d.all okD = true → a < 18446744073709551616 → parseUint10 a (d.map UInt8.ofNat) = if dval a d < 18446744073709551616 then .ok (dval a d) else .range
 | [], a, _, h => by
  have e : dval a [] = a := rfl
  rw [e, if_pos h]
  rfl
 | c :: r, a, hd, h => by
  rw [List.all_cons, Bool.and_eq_true] at hd
  have hc := okD_iff.1 hd.1
  have h1 := u8_nat (c := c) (by omega)
  have e : dval a (c :: r) = dval (10 * a + (c - 48)) r := rfl
  have hg := dval_ge r (10 * a + (c - 48))
  rw [List.map_cons]
  unfold parseUint10
  rw [h1, if_pos hc]
  by_cases h2 : 1844674407370955162 ≤ a
  ·rw [if_pos h2, if_neg (by omega)]
  ·rw [if_neg h2]
   by_cases h3 : 18446744073709551616 ≤ a * 10 + (c - 48)
   ·rw [if_pos h3, if_neg (by omega)]
   ·rw [if_neg h3, show a * 10 + (c - 48) = 10 * a + (c - 48) by omega, pu10 r _ hd.2 (by omega), e]
theorem atG_pos (d : List Nat) (hne : d ≠ []) (hd : d.all okD = true) : (dval 0 d < 9223372036854775808 → atG d = (.i .i64 (dval 0 d : Nat), .nl 3)) ∧ (¬ dval 0 d < 9223372036854775808 → (atG d).2 = .er ∧ ∃ x, (atG d).1 = .i .i64 x) := by
 obtain ⟨c, r, rfl⟩ := List.exists_cons_of_ne_nil hne
 have hc := okD_iff.1 (List.all_eq_true.1 hd c (by simp))
 have h1 := u8_nat (c := c) (by omega)
 have hp := pu10 (c :: r) 0 hd (by omega)
 have hA : ∀ z, parseUint10 0 ((c :: r).map UInt8.ofNat) = z → atoiAll ((c :: r).map UInt8.ofNat) = match z with
   | .ok u => if 9223372036854775808 ≤ u then .range else .ok (u : Int)
   | .range => .range
   | _ => atoiAll [] := fun z hz => by
  have e : (c :: r).map UInt8.ofNat = UInt8.ofNat c :: r.map UInt8.ofNat := rfl
  rw [e] at hz ⊢
  unfold atoiAll
  simp only [h1]
  have n1 : ¬ c = 43 := by omega
  have n2 : ¬ c = 45 := by omega
  simp only [n1, n2, or_self, if_false, not_false_eq_true, true_and, false_and]
  unfold parseMag
  rw [if_neg (by simp), hz]
  cases z <;> rfl
 constructor
 ·intro h
  rw [if_pos (by omega)] at hp
  have hA := hA _ hp
  simp only at hA
  rw [if_neg (by omega)] at hA
  unfold atG
  rw [hA]
 ·intro h
  unfold atG
  by_cases h2 : dval 0 (c :: r) < 18446744073709551616
  ·rw [if_pos h2] at hp
   have hA := hA _ hp
   simp only at hA
   rw [if_pos (by omega)] at hA
   rw [hA]
   exact ⟨rfl, _, rfl⟩
  ·rw [if_neg h2] at hp
   have hA := hA _ hp
   simp only at hA
   rw [hA]
   exact ⟨rfl, _, rfl⟩
def digS : List Nat := [48, 49, 50, 51, 52, 53, 54, 55, 56, 57]
theorem inS_dig {d : List Nat} (h : inS digS d = true) : d.all okD = true := by
 unfold inS digS at h
 rw [List.all_eq_true] at h ⊢
 intro c hc
 have := h c hc
 simp at this
 exact okD_iff.2 (by omega)
@[simp] theorem isNil_3er : isNil 3 (.m .er) = some false := rfl
end Go.Mx.Tryz
