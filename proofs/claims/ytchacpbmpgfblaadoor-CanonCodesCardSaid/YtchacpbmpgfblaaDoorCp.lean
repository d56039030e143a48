/- Compare of patterns: both texts; Same. -/
import Derived.Test.YtchacpbmpgfblaaDoorIq
set_option linter.unusedSimpArgs false
set_option linter.unusedVariables false
set_option linter.unusedSectionVars false
set_option maxRecDepth 100000
namespace Go.Mx.Tryd
open Go.Sort Go.Lib Go.Proofs

def cmpC (c d : Ce) : Int := if c.y = d.y then if c.x = d.x then cmpI c.s d.s else cmpI c.x d.x else cmpI c.y d.y
def cmpL : List Ce → List Ce → Int
 | [], [] => 0
 | [], _ :: _ => -1
 | _ :: _, [] => 1
 | c :: r, d :: t => if cmpC c d = 0 then cmpL r t else cmpC c d
theorem cmpI_0 {x y : Int} : cmpI x y = 0 ↔ x = y := by
 unfold cmpI
 split
 ·constructor <;> intro h <;> omega
 ·split <;> constructor <;> intro h <;> omega
theorem cmpC_0 {c d : Ce} : cmpC c d = 0 ↔ c = d := by
 obtain ⟨a1, a2, a3⟩ := c
 obtain ⟨b1, b2, b3⟩ := d
 unfold cmpC
 simp only [Ce.mk.injEq]
 split
 ·split
  ·rw [cmpI_0]; constructor <;> intro h <;> simp_all
  ·rw [cmpI_0]; constructor <;> intro h <;> simp_all
 ·rw [cmpI_0]; constructor <;> intro h <;> simp_all
theorem cmpL_0 : ∀ {p q : List Ce}, cmpL p q = 0 ↔ p = q
 | [], [] => by simp [cmpL]
 | [], _ :: _ => by simp [cmpL]
 | _ :: _, [] => by simp [cmpL]
 | c :: r, d :: t => by
  unfold cmpL
  split
  ·rename_i h
   rw [cmpL_0, cmpC_0.1 h]
   simp
  ·rename_i h
   constructor
   ·intro h2; exact absurd h2 h
   ·intro h2
    have : c = d := (List.cons.inj h2).1
    exact absurd (cmpC_0.2 this) h
theorem refOrder_r (x y : Int) (H : Hp) : Gives G 57 [.m (.i .i64 x), .m (.i .i64 y)] H (.m (.i .i64 (cmpI x y))) H := by
 refine gives_pur rfl rfl rfl rfl rfl ?_
 by_cases h1 : x < y
 ·simp (maxSteps := 2000000) (disch := omega) [gd_in, gd_and, wr_i64, h1, cmpI]
 ·by_cases h2 : y < x
  ·simp (maxSteps := 2000000) (disch := omega) [gd_in, gd_and, wr_i64, h1, h2, cmpI]
  ·simp (maxSteps := 2000000) (disch := omega) [gd_in, gd_and, wr_i64, h1, h2, cmpI]
theorem cmpL_len {p q : List Ce} {i : Nat} (h : p.drop i = [] ∨ q.drop i = []) : cmpL (p.drop i) (q.drop i) = cmpI ((p.drop i).length : Int) ((q.drop i).length : Int) := by
 rcases h with h | h <;> rw [h]
 ·cases hq : q.drop i with
  | nil => rfl
  | cons a r => show (-1 : Int) = _; unfold cmpI; rw [if_pos (by simp <;> omega)]
 ·cases hq : p.drop i with
  | nil => rfl
  | cons a r => show (1 : Int) = _; unfold cmpI; rw [if_neg (by simp <;> omega), if_pos (by simp <;> omega)]
theorem cmpI_sub {a b i : Nat} (h1 : i ≤ a) (h2 : i ≤ b) : cmpI ((a - i : Nat) : Int) ((b - i : Nat) : Int) = cmpI a b := by
 unfold cmpI
 have e1 : (((a - i : Nat) : Int) < ((b - i : Nat) : Int)) = ((a : Int) < b) := by rw [eq_iff_iff]; omega
 have e2 : (((b - i : Nat) : Int) < ((a - i : Nat) : Int)) = ((b : Int) < a) := by rw [eq_iff_iff]; omega
 simp only [e1, e2]
set_option maxHeartbeats 2000000 in
theorem compare_r {v w : I} {p q : List Ce} (hv : IsSl v (cells3 p)) (hw : IsSl w (cells3 q)) (hl : p.length ≤ 1000000) (hl2 : q.length ≤ 1000000) (H : Hp) : Gives G 32 [.m v, .m w] H (.m (.i .i64 (cmpL p q))) H := by
 refine gives_pur rfl rfl rfl rfl rfl ?_
 have hr := hv.rules
 have hr2 := hw.rules
 simp only [show (cells3 p).length = p.length from by simp [cells3]] at hr
 simp only [show (cells3 q).length = q.length from by simp [cells3]] at hr2
 have go := fun x y H => refOrder_r x y H
 simp (maxSteps := 2000000) (disch := omega) [gd_in, gd_and, wr_i64, ]
 refine (?key : ∀ (i : Nat) (B : List (Nat × List V)), i ≤ p.length → i ≤ q.length → cmpL p q = cmpL (p.drop i) (q.drop i) → Run G c32_B0 (S32_0 (.m v) (.m w) (.m (.i .i64 (i : Int))) B []) _) 0 [] (Nat.zero_le _) (Nat.zero_le _) rfl
 refine indM (fun i : Nat => p.length - i) fun i ih B hi hi2 hc => ?_
 unfold c32_B0
 cases hx : p[i]? with
 | none =>
  have hle := List.getElem?_eq_none_iff.1 hx
  have hlt' : ¬ (i : Int) < p.length := by omega
  rw [cmpL_len (.inl (List.drop_eq_nil_of_le hle)), List.length_drop, List.length_drop, cmpI_sub hi hi2] at hc
  simp (maxSteps := 2000000) (disch := omega) [gd_in, gd_and, wr_i64, hr, hr2, hlt', cl (go _ _ _), hc]
 | some c =>
  have hlt := (get_drop hx).1
  have hlt' : (i : Int) < p.length := by omega
  have hn := cells3_nth hx
  cases hy : q[i]? with
  | none =>
   have hle := List.getElem?_eq_none_iff.1 hy
   have hlt2' : ¬ (i : Int) < q.length := by omega
   rw [cmpL_len (.inr (List.drop_eq_nil_of_le hle)), List.length_drop, List.length_drop, cmpI_sub hi hi2] at hc
   simp (maxSteps := 2000000) (disch := omega) [gd_in, gd_and, wr_i64, hr, hr2, hlt', hlt2', cl (go _ _ _), hc]
  | some d =>
   have hlt2 := (get_drop hy).1
   have hlt2' : (i : Int) < q.length := by omega
   have hn2 := cells3_nth hy
   have wi : wr .i64 ((i : Int) + 1) = (i : Int) + 1 := wr_i64 (by omega) (by omega)
   have e1 : cmpL (c :: p.drop (i + 1)) (d :: q.drop (i + 1)) = if cmpC c d = 0 then cmpL (p.drop (i + 1)) (q.drop (i + 1)) else cmpC c d := rfl
   rw [(get_drop hx).2, (get_drop hy).2, e1] at hc
   by_cases h1 : c.y = d.y
   ·by_cases h2 : c.x = d.x
    ·by_cases h3 : c.s = d.s
     ·have e : cmpC c d = 0 := by unfold cmpC; rw [if_pos h1, if_pos h2]; exact cmpI_0.2 h3
      rw [if_pos e] at hc
      simp (maxSteps := 2000000) (disch := omega) [gd_in, gd_and, wr_i64, hr, hr2, hlt, hlt', hlt2, hlt2', hn, hn2, wi, h1, h2, h3]
      exact ih (i + 1) (by omega) _ (by omega) (by omega) hc
     ·have e : cmpC c d = cmpI c.s d.s := by unfold cmpC; rw [if_pos h1, if_pos h2]
      have h0 : ¬ cmpI c.s d.s = 0 := fun h => h3 (cmpI_0.1 h)
      rw [e, if_neg h0] at hc
      simp (maxSteps := 2000000) (disch := omega) [gd_in, gd_and, wr_i64, hr, hr2, hlt, hlt', hlt2, hlt2', hn, hn2, wi, h1, h2, h3, cl (go _ _ _), hc]
    ·have e : cmpC c d = cmpI c.x d.x := by unfold cmpC; rw [if_pos h1, if_neg h2]
     have h0 : ¬ cmpI c.x d.x = 0 := fun h => h2 (cmpI_0.1 h)
     rw [e, if_neg h0] at hc
     simp (maxSteps := 2000000) (disch := omega) [gd_in, gd_and, wr_i64, hr, hr2, hlt, hlt', hlt2, hlt2', hn, hn2, wi, h1, h2, cl (go _ _ _), hc]
   ·have e : cmpC c d = cmpI c.y d.y := by unfold cmpC; rw [if_neg h1]
    have h0 : ¬ cmpI c.y d.y = 0 := fun h => h1 (cmpI_0.1 h)
    rw [e, if_neg h0] at hc
    simp (maxSteps := 2000000) (disch := omega) [gd_in, gd_and, wr_i64, hr, hr2, hlt, hlt', hlt2, hlt2', hn, hn2, wi, h1, cl (go _ _ _), hc]
theorem refSame_r {v w : I} {p q : List Ce} (hv : IsSl v (cells3 p)) (hw : IsSl w (cells3 q)) (hl : p.length ≤ 1000000) (hl2 : q.length ≤ 1000000) (H : Hp) : Gives G 13 [.m v, .m w] H (.m (.b (decide (cmpL p q = 0)))) H := by
 refine gives_pur rfl rfl rfl rfl rfl ?_
 simp (maxSteps := 2000000) (disch := omega) [gd_in, gd_and, wr_i64, cl (compare_r hv hw hl hl2 _)]
end Go.Mx.Tryd
