/- Same of the program; equal lists of numbers. -/
import Derived.Test.YtchacpbmpgfblaaDoorFm
set_option linter.unusedSimpArgs false
set_option linter.unusedVariables false
set_option linter.unusedSectionVars false
set_option maxRecDepth 100000
namespace Go.Mx.Tryd
open Go.Sort Go.Lib Go.Proofs

set_option maxHeartbeats 2000000 in
theorem equal_s {v w : I} {p q : List Ce} (hv : IsSl v (cells3 p)) (hw : IsSl w (cells3 q)) (hl : p.length ≤ 1000000) (hl2 : q.length ≤ 1000000) (H : Hp) : Gives G 65 [.m v, .m w] H (.m (.b (decide (cmpL p q = 0)))) H := by
 refine gives_pur rfl rfl rfl rfl rfl ?_
 have hr := hv.rules
 have hr2 := hw.rules
 simp only [show (cells3 p).length = p.length from by simp [cells3]] at hr
 simp only [show (cells3 q).length = q.length from by simp [cells3]] at hr2
 by_cases hlen : p.length = q.length
 ·have hlen' : (p.length : Int) = q.length := by omega
  simp (maxSteps := 2000000) (disch := omega) [gd_in, gd_and, wr_i64, hr, hr2, hlen]
  refine (?key : ∀ (i : Nat) (B : List (Nat × List V)), i ≤ q.length → cmpL p q = cmpL (p.drop i) (q.drop i) → Run G c65_B0 (S65_0 (.m v) (.m w) (.m (.i .i64 q.length)) (.m (.i .i64 (i : Int))) B []) _) 0 [] (Nat.zero_le _) rfl
  refine indM (fun i : Nat => q.length - i) fun i ih B hi hc => ?_
  unfold c65_B0
  cases hy : q[i]? with
  | some d =>
   have hlt2 := (get_drop hy).1
   obtain ⟨c, hx⟩ : ∃ c, p[i]? = some c := ⟨p[i]'(by omega), List.getElem?_eq_getElem _⟩
   have hlt := (get_drop hx).1
   have hlt2' : (i : Int) < q.length := by omega
   have hn := cells3_nth hx
   have hn2 := cells3_nth hy
   have wi : wr .i64 ((i : Int) + 1) = (i : Int) + 1 := wr_i64 (by omega) (by omega)
   have e1 : cmpL (c :: p.drop (i + 1)) (d :: q.drop (i + 1)) = if cmpC c d = 0 then cmpL (p.drop (i + 1)) (q.drop (i + 1)) else cmpC c d := rfl
   rw [(get_drop hx).2, (get_drop hy).2, e1] at hc
   by_cases he : c.x = d.x ∧ c.y = d.y ∧ c.s = d.s
   ·have e : cmpC c d = 0 := by
     unfold cmpC
     rw [if_pos he.2.1, if_pos he.1, cmpI_0]
     exact he.2.2
    rw [if_pos e] at hc
    simp (maxSteps := 2000000) (disch := omega) [gd_in, gd_and, wr_i64, hr, hr2, hlen, hlt, hlt2, hlt2', hn, hn2, wi, he.1, he.2.1, he.2.2]
    exact ih (i + 1) (by omega) _ (by omega) hc
   ·have e : ¬ cmpC c d = 0 := fun h => he (by rw [cmpC_0.1 h]; exact ⟨rfl, rfl, rfl⟩)
    rw [if_neg e] at hc
    have he1 : (decide (c.x = d.x) && (decide (c.y = d.y) && decide (c.s = d.s))) = false := by
     rw [Bool.eq_false_iff]
     simpa using he
    have he2 : (decide (c.x = d.x) && decide (c.y = d.y) && decide (c.s = d.s)) = false := by
     rw [Bool.and_assoc]; exact he1
    simp (maxSteps := 2000000) (disch := omega) [gd_in, gd_and, wr_i64, hr, hr2, hlen, hlt, hlt2, hlt2', hn, hn2, wi, he1, he2, hc, e]
  | none =>
   have : i = q.length := by have := List.getElem?_eq_none_iff.1 hy; omega
   subst this
   rw [List.drop_length, List.drop_eq_nil_of_le (by omega)] at hc
   have hc' : cmpL p q = 0 := hc
   simp (maxSteps := 2000000) (disch := omega) [gd_in, gd_and, wr_i64, hr, hr2, hlen, hc']
 ·have hlen' : ¬ (p.length : Int) = q.length := by omega
  have e : ¬ cmpL p q = 0 := fun h => hlen (by rw [cmpL_0.1 h])
  simp (maxSteps := 2000000) (disch := omega) [gd_in, gd_and, wr_i64, hr, hr2, hlen, hlen', e]
theorem same_s {v w : I} {p q : List Ce} (hv : IsSl v (cells3 p)) (hw : IsSl w (cells3 q)) (hl : p.length ≤ 1000000) (hl2 : q.length ≤ 1000000) (H : Hp) : Gives G 43 [.m v, .m w] H (.m (.b (decide (cmpL p q = 0)))) H := by
 refine gives_pur rfl rfl rfl rfl rfl ?_
 simp (maxSteps := 2000000) (disch := omega) [gd_in, gd_and, wr_i64, cl (equal_s hv hw hl hl2 _)]
theorem ints_s {v w : I} {l : List Int} (hv : IsSl v (celI l)) (hw : IsSl w (celI l)) (hl : l.length ≤ 1000000) (H : Hp) : Gives G 21 [.m v, .m w] H (.m (.b true)) H := by
 refine gives_pur rfl rfl rfl rfl rfl ?_
 have hr := hv.rules
 have hr2 := hw.rules
 simp only [celI_len] at hr hr2
 simp (maxSteps := 2000000) (disch := omega) [gd_in, gd_and, wr_i64, hr, hr2]
 refine (?key : ∀ (i : Nat) (B : List (Nat × List V)), i ≤ l.length → Run G c21_B0 (S21_0 (.m v) (.m w) (.m (.i .i64 l.length)) (.m (.i .i64 (i : Int))) B []) _) 0 [] (Nat.zero_le _)
 refine indM (fun i : Nat => l.length - i) fun i ih B hi => ?_
 unfold c21_B0
 cases hx : l[i]? with
 | some c =>
  have hlt := (get_drop hx).1
  have hlt' : (i : Int) < l.length := by omega
  have hn : nth (celI l) i = some [.i .i64 c] := by rw [nth_get]; simp [celI, hx]
  have wi : wr .i64 ((i : Int) + 1) = (i : Int) + 1 := wr_i64 (by omega) (by omega)
  simp (maxSteps := 2000000) (disch := omega) [gd_in, gd_and, wr_i64, hr, hr2, hlt, hlt', hn, wi]
  exact ih (i + 1) (by omega) _ (by omega)
 | none =>
  have : i = l.length := by have := List.getElem?_eq_none_iff.1 hx; omega
  subst this
  simp (maxSteps := 2000000) (disch := omega) [gd_in, gd_and, wr_i64, hr, hr2]
end Go.Mx.Tryd
