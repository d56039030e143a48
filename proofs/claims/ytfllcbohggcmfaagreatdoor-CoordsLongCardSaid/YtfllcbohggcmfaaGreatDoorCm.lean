/- The lines of a pattern at coords.Parse. -/
import Derived.Test.YtfllcbohggcmfaaGreatDoorCd
import Derived.Test.YtfllcbohggcmfaaGreatDoorKn
set_option linter.unusedSimpArgs false
set_option linter.unusedVariables false
set_option linter.unusedSectionVars false
set_option maxRecDepth 100000
namespace Go.Mx.Tryz
open Go.Lib

theorem numM_itoa (x : Int) (h : -1048576 ≤ x ∧ x ≤ 1048576) : numM (itoaN x) = x ∧ numOk (itoaN x) = true := by
 obtain ⟨k1, k2⟩ := numV_itoa x (by omega) (by omega)
 refine ⟨?_, k2⟩
 unfold numM
 rw [k1, if_pos (by omega)]
theorem cfM_line {c : Ce} (h : small c) : cfM (lineT c) = (c, 0) := by
 obtain ⟨h1, h2, h3⟩ := h
 obtain ⟨x1, x2⟩ := numM_itoa c.x h1
 obtain ⟨y1, y2⟩ := numM_itoa c.y h2
 obtain ⟨z1, z2⟩ := numM_itoa c.s (by omega)
 have wx : wr .i64 (-c.x) = -c.x := wr_i64 (by omega) (by omega)
 have wy : wr .i64 (-c.y) = -c.y := wr_i64 (by omega) (by omega)
 have fin : ∀ z, 1 ≤ z ∧ z < 8 → chkC c.x c.y z = (⟨c.x, c.y, z⟩, 0) := fun z hz => by
  unfold chkC
  rw [wx, wy, if_neg (by omega), if_neg (by omega)]
 unfold cfM
 by_cases hs : c.s = 1
 ·rw [spl_line1 c hs]
  simp only [x2, y2, and_self, if_true, x1, y1]
  rw [fin 1 (by omega)]
  cases c
  simp at hs
  simp [hs]
 ·rw [spl_line2 c hs]
  simp only [x2, y2, z2, and_self, if_true, x1, y1, z1]
  rw [fin c.s h3]
theorem pw_apart {p : List Ce} (hw : p.Pairwise fun a b => less a b = true) : p.Pairwise apart := hw.imp fun {a b} h => by
 unfold less at h
 unfold apart
 simp at h
 omega
theorem prs_cat (r : List (List Nat)) : ∀ (q f : List Ce) (n : Int), n ≠ 1 → 1 ≤ n → (∀ c, c ∈ q → small c) → (f ++ q).Pairwise apart → f.length + q.length ≤ 5000 → prs cfM n (q.map lineT ++ r) f = prs cfM (n + q.length) r (f ++ q)
 | [], f, n, _, _, _, _, _ => by simp
 | c :: q, f, n, h1, h2, hs, hw, hl => by
  have hcf := cfM_line (hs c (by simp))
  obtain ⟨s1, s2⟩ := lineT_st c
  simp at hl
  have ha : (f.any fun d => decide (d.x = c.x ∧ d.y = c.y)) = false := by
   rw [List.any_eq_false]
   intro d hd
   have := (List.pairwise_append.1 hw).2.2 d hd c (by simp)
   unfold apart at this
   simpa using this
  have hst : step cfM n (lineT c) f = .go (f ++ [c]) := by
   unfold step
   rw [if_neg h1, if_neg (by intro h; rcases h with h | h; exact s1 h; exact s2 h), hcf]
   simp only
   rw [if_neg (by simp), ha, if_neg (by simp), if_neg (by omega)]
  have e : prs cfM n ((c :: q).map lineT ++ r) f = match step cfM n (lineT c) f with | .go f' => prs cfM (n + 1) (q.map lineT ++ r) f' | .er e => .inr (n, e) := rfl
  rw [e, hst]
  have ih := prs_cat r q (f ++ [c]) (n + 1) (by omega) (by omega) (fun d hd => hs d (by simp [hd])) (by simpa using hw) (by simp; omega)
  simp only
  rw [ih]
  have e1 : n + 1 + (q.length : Int) = n + ((c :: q).length : Int) := by simp; omega
  rw [e1]
  simp
end Go.Mx.Tryz
