/- The lines of a pattern's text. -/
import Derived.Test.YtfllcbohggcmfaaGreatDoorKm
set_option linter.unusedSimpArgs false
set_option linter.unusedVariables false
set_option linter.unusedSectionVars false
set_option maxRecDepth 100000
namespace Go.Mx.Tryz
open Go.Lib

theorem itoaN_32 (x : Int) : ∀ c, c ∈ itoaN x → c ≠ 32 := fun c hc => by have := itoaN_mem x c hc; omega
theorem itoaN_10 (x : Int) : ∀ c, c ∈ itoaN x → c ≠ 10 := fun c hc => by have := itoaN_mem x c hc; omega
theorem sep_hd (c : Nat) : ∀ (a r : List Nat), (∀ y, y ∈ a → y ≠ c) → hdB c (a ++ c :: r) = a ∧ tlB c (a ++ c :: r) = some r
  | [], r, _ => by
    have e1 : tlB c (c :: r) = if c = c then some r else tlB c r := rfl
    have e2 : hdB c (c :: r) = if c = c then [] else c :: hdB c r := rfl
    rw [if_pos rfl] at e1 e2
    exact ⟨e2, e1⟩
  | x :: t, r, h => by
    have hx := h x (by simp)
    obtain ⟨i1, i2⟩ := sep_hd c t r fun y hy => h y (by simp [hy])
    have e1 : tlB c (x :: (t ++ c :: r)) = if x = c then some (t ++ c :: r) else tlB c (t ++ c :: r) := rfl
    have e2 : hdB c (x :: (t ++ c :: r)) = if x = c then [] else x :: hdB c (t ++ c :: r) := rfl
    rw [if_neg hx] at e1 e2
    exact ⟨by rw [List.cons_append, e2, i1], by rw [List.cons_append, e1, i2]⟩
theorem no_tl (c : Nat) : ∀ (a : List Nat), (∀ y, y ∈ a → y ≠ c) → tlB c a = none
  | [], _ => rfl
  | x :: t, h => by
    have e1 : tlB c (x :: t) = if x = c then some t else tlB c t := rfl
    rw [e1, if_neg (h x (by simp)), no_tl c t fun y hy => h y (by simp [hy])]
theorem spl_sep (c : Nat) (a r : List Nat) (h : ∀ y, y ∈ a → y ≠ c) : spl c (a ++ c :: r) = a :: spl c r := by
  obtain ⟨h1, h2⟩ := sep_hd c a r h
  rw [spl_some c _ _ h2, h1]
theorem spl_lone (c : Nat) (a : List Nat) (h : ∀ y, y ∈ a → y ≠ c) : spl c a = [a] := spl_none c a (no_tl c a h)
theorem spl_line1 (c : Ce) (h : c.s = 1) : spl 32 (lineT c) = [itoaN c.x, itoaN c.y] := by
  unfold lineT
  rw [if_pos h, List.append_nil, spl_sep _ _ _ (itoaN_32 _), spl_lone _ _ (itoaN_32 _)]
theorem spl_line2 (c : Ce) (h : c.s ≠ 1) : spl 32 (lineT c) = [itoaN c.x, itoaN c.y, itoaN c.s] := by
  unfold lineT
  rw [if_neg h, spl_sep _ _ _ (itoaN_32 _), spl_sep _ _ _ (itoaN_32 _), spl_lone _ _ (itoaN_32 _)]
theorem lineT_10 (c : Ce) : ∀ y, y ∈ lineT c → y ≠ 10 := by
  intro y hy
  unfold lineT at hy
  rcases List.mem_append.1 hy with h | h
  · exact itoaN_10 _ y h
  · rcases List.mem_cons.1 h with h | h
    · omega
    · rcases List.mem_append.1 h with h | h
      · exact itoaN_10 _ y h
      · split at h
        · cases h
        · rcases List.mem_cons.1 h with h | h
          · omega
          · exact itoaN_10 _ y h
theorem lineT_256 (c : Ce) : ∀ y, y ∈ lineT c → y < 256 := by
  intro y hy
  unfold lineT at hy
  rcases List.mem_append.1 hy with h | h
  · exact itoaN_byte _ y h
  · rcases List.mem_cons.1 h with h | h
    · omega
    · rcases List.mem_append.1 h with h | h
      · exact itoaN_byte _ y h
      · split at h
        · cases h
        · rcases List.mem_cons.1 h with h | h
          · omega
          · exact itoaN_byte _ y h
theorem textP_256 : ∀ (p : List Ce), ∀ y, y ∈ textP p → y < 256
  | [], y, h => by cases h
  | c :: r, y, h => by
    have h' : y ∈ (lineT c ++ [10]) ++ textP r := h
    rcases List.mem_append.1 h' with h | h
    · rcases List.mem_append.1 h with h | h
      · exact lineT_256 c y h
      · rcases List.mem_cons.1 h with h | h
        · omega
        · cases h
    · exact textP_256 r y h
theorem lineT_st (c : Ce) : lineT c ≠ [] ∧ (lineT c).take 1 ≠ [35] := by
  unfold lineT
  have hm := itoaN_mem c.x
  cases hx : itoaN c.x with
  | nil => exact absurd hx (itoaN_ne _)
  | cons a t =>
    rw [hx] at hm
    have := hm a (by simp)
    refine ⟨by simp, ?_⟩
    simp
    omega
theorem lines_sep (a r : List Nat) (h : ∀ y, y ∈ a → y ≠ 10) : linesA [] (a ++ 10 :: r) = a :: linesA [] r := by
  obtain ⟨h1, h2⟩ := sep_hd 10 a r h
  rw [lines_hd (by simp), h1, h2]
  rfl
theorem lines_textP : ∀ p : List Ce, linesA [] (textP p) = p.map lineT
  | [] => rfl
  | c :: r => by
    have e : textP (c :: r) = (lineT c ++ [10]) ++ textP r := rfl
    rw [e, List.append_assoc, List.singleton_append, lines_sep _ _ (lineT_10 c), lines_textP r]
    rfl
theorem lines_text (p : List Ce) : linesA [] (headC ++ textP p) = [35, 99, 101, 108, 108, 115] :: p.map lineT := by
  have e : headC ++ textP p = [35, 99, 101, 108, 108, 115] ++ 10 :: textP p := rfl
  rw [e, lines_sep _ _ (by decide), lines_textP]
end Go.Mx.Tryz
