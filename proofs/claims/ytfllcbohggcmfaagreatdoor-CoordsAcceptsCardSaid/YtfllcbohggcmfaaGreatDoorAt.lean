/- Numerals and their digits; a sign taken off. -/
import Derived.Test.YtfllcbohggcmfaaGreatDoorKb
import Derived.Test.YtfllcbohggcmfaaGreatDoorKd
import Derived.Test.YtfllcbohggcmfaaGreatDoorIto
set_option linter.unusedSimpArgs false
set_option linter.unusedVariables false
set_option linter.unusedSectionVars false
set_option maxRecDepth 100000
namespace Go.Mx.Tryz
open Go.Lib Go.Proofs

def tpr : List Nat → List Nat
  | 45 :: r => r
  | s => s
theorem trim_i (s : List Nat) (hl : s.length ≤ 1000000) (H : Hp) : Gives G 74 [.m (.s s), .m (.s [45])] H (.m (.s (tpr s))) H := by
  refine gives_pur rfl rfl rfl rfl rfl ?_
  have g := hpre_i s (by omega) 45 []
  cases s with
  | nil => simp [cl g, tpr]
  | cons a r =>
    by_cases h : a = 45
    · subst h
      have h1 : (1 : Int) ≤ (r.length : Int) + 1 := by omega
      have h2 : (r.length : Int) + 1 ≤ 9223372036854775807 := by simp at hl; omega
      have h3 : tpr (45 :: r) = r := rfl
      simp [cl g, h1, h2, h3]
    · have h3 : tpr (a :: r) = a :: r := by
        unfold tpr
        split
        · rename_i e; cases e; exact absurd rfl h
        · rfl
      simp [cl g, h, h3]
theorem trim_s (s : List Nat) (hl : s.length ≤ 1000000) (H : Hp) : Gives G 56 [.m (.s s), .m (.s [45])] H (.m (.s (tpr s))) H := by
  refine gives_pur rfl rfl rfl rfl rfl ?_
  simp [cl (trim_i s hl _)]

def okD (c : Nat) : Bool := decide (48 ≤ c ∧ c ≤ 57)
def dval : Nat → List Nat → Nat
  | a, [] => a
  | a, c :: r => dval (10 * a + (c - 48)) r
/-- The bytes of a string, as a frozen slice's elements. -/
def byI (d : List Nat) : List (List I) := d.map fun c : Nat => [.i .u8 (c : Int)]
@[simp] theorem byI_len (d : List Nat) : (byI d).length = d.length := by simp [byI]
theorem byI_nth {d : List Nat} {i c : Nat} (h : d[i]? = some c) : nth (byI d) i = some [.i .u8 (c : Int)] := by
  rw [nth_get]; simp [byI, h]
theorem byI_def (d : List Nat) : (d.map fun c : Nat => [I.i .u8 (c : Int)]) = byI d := rfl

theorem isNil_33 : isNil 3 (.m (.nl 3)) = some true := rfl
theorem dval_app : ∀ (l : List Nat) (a c : Nat), dval a (l ++ [c]) = 10 * dval a l + (c - 48)
  | [], a, c => rfl
  | x :: l, a, c => by
    show dval (10 * a + (x - 48)) (l ++ [c]) = _
    rw [dval_app l]
    rfl
theorem decN_dig (u : Nat) : ∀ c, c ∈ decN u → 48 ≤ c ∧ c ≤ 57 := by
  refine indM (P := fun u => ∀ c, c ∈ decN u → 48 ≤ c ∧ c ≤ 57) (fun u : Nat => u) (fun u ih c hc => ?_) u
  by_cases h : u < 10
  · rw [decN_one h] at hc
    simp at hc
    omega
  · rw [decN_big h] at hc
    rcases List.mem_append.1 hc with h1 | h1
    · exact ih (u / 10) (by omega) c h1
    · simp at h1
      omega
theorem decN_dval (u : Nat) : dval 0 (decN u) = u := by
  refine indM (P := fun u => dval 0 (decN u) = u) (fun u : Nat => u) (fun u ih => ?_) u
  by_cases h : u < 10
  · rw [decN_one h]
    show 10 * 0 + (48 + u - 48) = u
    omega
  · rw [decN_big h, dval_app, ih (u / 10) (by omega)]
    omega
theorem decN_ne (u : Nat) : decN u ≠ [] := by
  by_cases h : u < 10
  · rw [decN_one h]; simp
  · rw [decN_big h]; simp
theorem decN_lenk : ∀ (k u : Nat), u < 10 ^ (k + 1) → (decN u).length ≤ k + 1
  | 0, u, h => by rw [decN_one (by simpa using h)]; simp
  | k + 1, u, h => by
    by_cases h1 : u < 10
    · rw [decN_one h1]; simp
    · rw [decN_big h1, List.length_append]
      have : u / 10 < 10 ^ (k + 1) := by
        rw [Nat.pow_succ] at h
        exact Nat.div_lt_of_lt_mul (by rw [Nat.mul_comm]; exact h)
      have := decN_lenk k (u / 10) this
      simp
      omega
theorem decN_hd (u : Nat) : 1 ≤ u → (decN u).take 1 ≠ [48] := by
  refine indM (P := fun u => 1 ≤ u → (decN u).take 1 ≠ [48]) (fun u : Nat => u) (fun u ih hu => ?_) u
  by_cases h : u < 10
  · rw [decN_one h]
    simp
    omega
  · rw [decN_big h]
    have := ih (u / 10) (by omega) (by omega)
    obtain ⟨a, t, e⟩ := List.exists_cons_of_ne_nil (decN_ne (u / 10))
    rw [e] at this ⊢
    simpa using this
theorem itoaN_mem (x : Int) : ∀ c, c ∈ itoaN x → c = 45 ∨ (48 ≤ c ∧ c ≤ 57) := fun c hc => by
  by_cases h : 0 ≤ x
  · obtain ⟨u, rfl⟩ := Int.eq_ofNat_of_zero_le h
    rw [itoaN_pos] at hc
    exact .inr (decN_dig u c hc)
  · obtain ⟨u, hu⟩ := Int.eq_ofNat_of_zero_le (show 0 ≤ -x by omega)
    have : x = -(u : Int) := by omega
    subst this
    rw [itoaN_neg u (by omega)] at hc
    rcases List.mem_cons.1 hc with h | h
    · exact .inl h
    · exact .inr (decN_dig u c h)
theorem itoaN_ne (x : Int) : itoaN x ≠ [] := by
  by_cases h : 0 ≤ x
  · obtain ⟨u, rfl⟩ := Int.eq_ofNat_of_zero_le h
    rw [itoaN_pos]
    exact decN_ne u
  · obtain ⟨u, hu⟩ := Int.eq_ofNat_of_zero_le (show 0 ≤ -x by omega)
    have : x = -(u : Int) := by omega
    subst this
    rw [itoaN_neg u (by omega)]
    simp
theorem cutN_ok : CutOk [48, 49, 50, 51, 52, 53, 54, 55, 56, 57] := ⟨⟨40, by kernel_rfl⟩, fun B => by kernel_rfl, by simp, by simp⟩
theorem in_digits {d : List Nat} (h : ∀ c, c ∈ d → 48 ≤ c ∧ c ≤ 57) : inS [48, 49, 50, 51, 52, 53, 54, 55, 56, 57] d = true := by
  unfold inS
  rw [List.all_eq_true]
  intro c hc
  have := h c hc
  simp
  omega
theorem tpr_dig {d : List Nat} (h : ∀ c, c ∈ d → 48 ≤ c ∧ c ≤ 57) : tpr d = d := by
  unfold tpr
  split
  · rename_i r; have := h 45 (by simp); omega
  · rfl
theorem dec_all (u : Nat) : (decN u).all okD = true := List.all_eq_true.2 fun c hc => by unfold okD; exact decide_eq_true (decN_dig u c hc)

end Go.Mx.Tryz
