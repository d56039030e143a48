/- The texts of a pattern. -/
import Derived.Test.YtfllcbohggcmfaaGreatDoorKg
import Derived.Test.YtfllcbohggcmfaaGreatDoorKs
import Derived.Test.YtfllcbohggcmfaaGreatDoorBld
import Derived.Test.YtfllcbohggcmfaaGreatDoorItoa
set_option linter.unusedSimpArgs false
set_option linter.unusedVariables false
set_option linter.unusedSectionVars false
set_option maxRecDepth 100000
namespace Go.Mx.Tryz
open Go.Lib

def lineT (c : Ce) : List Nat := itoaN c.x ++ (32 :: (itoaN c.y ++ (if c.s = 1 then [] else 32 :: itoaN c.s)))
def textP : List Ce → List Nat
 | [] => []
 | c :: r => (lineT c ++ [10]) ++ textP r
def headC : List Nat := [35, 99, 101, 108, 108, 115, 10]
def small (c : Ce) : Prop := (-1048576 ≤ c.x ∧ c.x ≤ 1048576) ∧ (-1048576 ≤ c.y ∧ c.y ≤ 1048576) ∧ (1 ≤ c.s ∧ c.s < 8)
theorem good_small {c : Ce} (h : good c = true) : small c := by
 unfold good placed at h
 simp only [Bool.and_eq_true, decide_eq_true_eq] at h
 exact ⟨⟨by omega, by omega⟩, ⟨by omega, by omega⟩, by omega, by omega⟩
theorem chain_small : ∀ (p : List Ce) (a : Option Ce), chain a p = true → ∀ c, c ∈ p → small c
 | [], _, _, c, hc => by cases hc
 | d :: r, a, h, c, hc => by
  have h' : good d = true ∧ chain (some d) r = true := by
   cases a with
   | none =>
    have e : chain none (d :: r) = (good d && chain (some d) r) := rfl
    rw [e, Bool.and_eq_true] at h
    exact h
   | some b =>
    have e : chain (some b) (d :: r) = (good d && less b d && chain (some d) r) := rfl
    rw [e, Bool.and_eq_true, Bool.and_eq_true] at h
    exact ⟨h.1.1, h.2⟩
  rcases List.mem_cons.1 hc with h | h
  ·rw [h]; exact good_small h'.1
  ·exact chain_small r (some d) h'.2 c h
theorem lineT_len {c : Ce} (h : small c) : (lineT c).length ≤ 30 := by
 have h1 := itoaN_small c.x h.1
 have h2 := itoaN_small c.y h.2.1
 have h3 := itoaN_small c.s (by have := h.2.2; omega)
 unfold lineT
 split <;> simp <;> omega
theorem textP_len : ∀ p : List Ce, (∀ c, c ∈ p → small c) → (textP p).length ≤ 31 * p.length
 | [], _ => Nat.zero_le _
 | c :: r, h => by
  have h1 := lineT_len (h c (by simp))
  have h2 := textP_len r fun d hd => h d (by simp [hd])
  have e : textP (c :: r) = (lineT c ++ [10]) ++ textP r := rfl
  rw [e]
  simp only [List.length_append, List.length_cons, List.length_nil]
  omega
def texV (p : List Ce) : V := if right p = true then .tu [.m (.s (headC ++ textP p)), .m (.i .i64 0)] else .tu [.m (.s []), .m (.i .i64 2)]
end Go.Mx.Tryz
