/- Lines of the reference. -/
import Derived.Test.YtfllcbohggcmfaaGreatDoorKb
import Derived.Test.YtfllcbohggcmfaaGreatDoorStr
set_option linter.unusedSimpArgs false
set_option linter.unusedVariables false
set_option linter.unusedSectionVars false
set_option maxRecDepth 100000
namespace Go.Mx.Tryz
open Go.Proofs

set_option maxHeartbeats 1000000 in
theorem lines_r (s : List Nat) (hl : s.length ≤ 1000000) (H : Hp) : Gives G 22 [.m (.s s)] H (.m (zS (linesA [] s))) H := by
  refine gives_pur rfl rfl rfl rfl rfl ?_
  have hT := linesA_len s []
  simp
  refine (?key : ∀ (i fr : Nat) (ws : List (List Nat)) (o : V) (B : List (Nat × List V)) (H : Hp), i ≤ s.length → fr ≤ i → ws.length ≤ i → OutR ws o H → linesA [] s = ws ++ linesA ((s.drop fr).take (i - fr)) (s.drop i) → Run G c22_B0 (S22_0 (.m (.s s)) o (.m (.i .i64 (fr : Int))) (.m (.i .i64 (i : Int))) B H) _) 0 0 [] (.m (.nl 4)) [] [] (Nat.zero_le _) (Nat.le_refl _) (Nat.le_refl _) (.inl ⟨rfl, rfl, rfl⟩) (by simp)
  refine indM (fun i : Nat => s.length - i) fun i ih fr ws o B H hi hfr hwi ho hq => ?_
  have hnf : noFaV o = true := by
    rcases ho with ⟨_, rfl, _⟩ | ⟨_, rfl, _⟩ <;> rfl
  have wi : wr .i64 ((i : Int) + 1) = (i : Int) + 1 := wr_i64 (by omega) (by omega)
  unfold c22_B0
  cases hx : s[i]? with
  | none =>
    have : i = s.length := by have := List.getElem?_eq_none_iff.1 hx; omega
    subst this
    rw [List.drop_length] at hq
    have htk : (s.drop fr).take (s.length - fr) = s.drop fr := List.take_of_length_le (by rw [List.length_drop]; omega)
    rw [htk] at hq
    have hq2 : linesA [] s = ws ++ linesA.fl0 (s.drop fr) := hq
    by_cases hf : fr < s.length
    · have hf' : (fr : Int) < s.length := by omega
      have hne : s.drop fr ≠ [] := fun e => by have := congrArg List.length e; rw [List.length_drop] at this; simp at this; omega
      obtain ⟨o1, H1, ha, hn1, ho1⟩ := outR_push ho (by omega) (s.drop fr)
      unfold linesA.fl0 at hq2
      rw [if_neg hne] at hq2
      rw [← hq2] at ho1
      have hv := outR_view ho1
      simp (maxSteps := 2000000) (disch := omega) [gd_in, gd_and, wr_i64, hf', htk, ha, setC_v hn1, hv, hn1]
    · have hf' : ¬ (fr : Int) < s.length := by omega
      have hne : s.drop fr = [] := List.drop_of_length_le (by omega)
      unfold linesA.fl0 at hq2
      rw [if_pos hne, List.append_nil] at hq2
      rw [← hq2] at ho
      have hv := outR_view ho
      simp (maxSteps := 2000000) (disch := omega) [gd_in, gd_and, wr_i64, hf', setC_v hnf, hv, hnf]
  | some x =>
    have hlt := (get_drop hx).1
    have hlt' : (i : Int) < s.length := by omega
    have hnx : nth s i = some x := by rw [nth_get]; exact hx
    rw [(get_drop hx).2] at hq
    have e3 : linesA ((s.drop fr).take (i - fr)) (x :: s.drop (i + 1)) = if x = 10 then (s.drop fr).take (i - fr) :: linesA [] (s.drop (i + 1)) else linesA ((s.drop fr).take (i - fr) ++ [x]) (s.drop (i + 1)) := rfl
    rw [e3] at hq
    by_cases h10 : x = 10
    · subst h10
      rw [if_pos rfl] at hq
      obtain ⟨o1, H1, ha, hn1, ho1⟩ := outR_push ho (by omega) ((s.drop fr).take (i - fr))
      simp (maxSteps := 2000000) (disch := omega) [gd_in, gd_and, wr_i64, hlt, hlt', hnx, ha, setC_v hn1, wi]
      exact ih (i + 1) (by omega) (i + 1) _ _ _ _ (by omega) (Nat.le_refl _) (by simp; omega) ho1 (by rw [hq]; simp)
    · have h10' : ¬ (x : Int) = 10 := by omega
      rw [if_neg h10] at hq
      simp (maxSteps := 2000000) (disch := omega) [gd_in, gd_and, wr_i64, hlt, hlt', hnx, h10', wi]
      refine ih (i + 1) (by omega) fr _ _ _ _ (by omega) (by omega) (by omega) ho ?_
      have hg : (s.drop fr)[i - fr]? = some x := by rw [List.getElem?_drop, show fr + (i - fr) = i by omega]; exact hx
      rw [hq, show i + 1 - fr = (i - fr) + 1 by omega, take_succ_get hg]

end Go.Mx.Tryz
