/- Neighbourhoods at the machine. -/
import Derived.Test.YtjkepihkilnjiaaGreatDoorTa
import Derived.Test.YtjkepihkilnjiaaGreatDoorPt
set_option linter.unusedSimpArgs false
set_option linter.unusedVariables false
set_option linter.unusedSectionVars false
set_option maxRecDepth 100000
namespace Go.Mx.Tryz
open Go.Lib Go.Proofs

def cells2 (l : List (Int × Int)) : List (List I) := l.map fun p => [.i .i64 p.1, .i .i64 p.2]
@[simp] theorem cells2_len (l : List (Int × Int)) : (cells2 l).length = l.length := by simp [cells2]
theorem cells2_nth {l : List (Int × Int)} {i : Nat} {c : Int × Int} (h : l[i]? = some c) : nth (cells2 l) i = some [.i .i64 c.1, .i .i64 c.2] := by
 rw [nth_get]; simp [cells2, h]
def prevH (p : List (Int × Int)) : Nat → Option (Int × Int)
 | 0 => none
 | i + 1 => p[i]?
theorem chnH_cons {p : List (Int × Int)} {i : Nat} {c : Int × Int} (hx : p[i]? = some c) : chnH (prevH p i) (c :: p.drop (i + 1)) = (offOk c && (match prevH p i with | none => true | some a => lessP a c) && chnH (prevH p (i + 1)) (p.drop (i + 1))) := by
 have : prevH p (i + 1) = some c := hx
 rw [this]
 cases prevH p i with
 | none => show (offOk c && chnH (some c) _) = _; simp
 | some a => show (offOk c && lessP a c && chnH (some c) _) = _; simp
theorem cmpP_lessP (a b : Int × Int) : (0 ≤ cmpP a.1 a.2 b.1 b.2) ↔ lessP a b = false := by
 unfold lessP cmpP cmpI
 grind
theorem offOk_iff (c : Int × Int) : offOk c = (decide (-2 ≤ c.1) && decide (c.1 ≤ 2) && decide (-2 ≤ c.2) && decide (c.2 ≤ 2)) := by
 unfold offOk
 grind
set_option maxHeartbeats 1000000 in
theorem hood_s {v : I} {p : List (Int × Int)} (hv : IsSl v (cells2 p)) (hl : (p.length : Int) ≤ 9223372036854775807) (H : Hp) : Gives G 77 [.m v] H (.m (.b (hoodOk p))) H := by
 have hr0 := hv.rules
 simp only [cells2_len] at hr0
 refine gives_pur rfl rfl rfl rfl rfl ?_
 by_cases h1 : 1 ≤ p.length ∧ p.length ≤ 25
 rotate_left
 ·have e : hoodOk p = false := by unfold hoodOk; rw [decide_eq_false h1]; rfl
  by_cases h2 : (p.length : Int) < 1
  ·simp (maxSteps := 2000000) (disch := omega) [gd_in, gd_and, wr_i64, hr0, h2, e]
  ·have h3 : (25 : Int) < p.length := by omega
   simp (maxSteps := 2000000) (disch := omega) [gd_in, gd_and, wr_i64, hr0, h2, h3, e]
 have h2 : ¬ (p.length : Int) < 1 := by omega
 have h3 : ¬ (25 : Int) < p.length := by omega
 have hR : hoodOk p = chnH none p := by unfold hoodOk; rw [decide_eq_true h1]; rfl
 rw [hR]
 simp (maxSteps := 2000000) (disch := omega) [gd_in, gd_and, wr_i64, hr0, h2, h3]
 refine (?key : ∀ (i : Nat) (B : List (Nat × List V)), i ≤ p.length → chnH none p = chnH (prevH p i) (p.drop i) → Run G c77_B0 (S77_0 (.m v) (.m v) (.m (.i .i64 p.length)) (.m (.i .i64 i)) B []) _) 0 [] (Nat.zero_le _) rfl
 refine indM (fun i : Nat => p.length - i) fun i ih B hi hr => ?_
 unfold c77_B0
 cases hx : p[i]? with
 | none =>
  have : i = p.length := by have := List.getElem?_eq_none_iff.1 hx; omega
  subst this
  have : chnH (prevH p p.length) [] = true := by cases prevH p p.length <;> rfl
  simp [hr0, hr, this]
 | some c =>
  have hlt := (get_drop hx).1
  have hn := cells2_nth hx
  rw [(get_drop hx).2, chnH_cons hx, offOk_iff] at hr
  cases i with
  | zero =>
   simp (contextual := true) (maxSteps := 2000000) (disch := omega) [test_cx, rest_cx, gcall_cx, gcav_cx, -Int.not_lt, -Int.not_le, -Nat.not_lt, -Nat.not_le, -List.map_take, hr0, hn, hlt, wr_i64]
   repeat' first | with_reducible apply And.intro | intro _
   all_goals first
    | (refine ih 1 (by omega) _ (by omega) ?_; grind [prevH])
    | grind [prevH]
  | succ j =>
   obtain ⟨c0, hx0⟩ : ∃ c0, p[j]? = some c0 := ⟨p[j], List.getElem?_eq_getElem (by omega)⟩
   have hn0 := cells2_nth hx0
   have e3 : (j : Int) + 1 < p.length := by omega
   have e4 : (j : Int) < p.length := by omega
   have e6 : (0 : Int) ≤ j + 1 := by omega
   have e7 : ((j : Int) + 1).toNat = j + 1 := by omega
   have hp0 : prevH p (j + 1) = some c0 := hx0
   simp only [hp0] at hr
   simp (contextual := true) (maxSteps := 2000000) (disch := omega) [test_cx, rest_cx, gcall_cx, gcav_cx, -Int.not_lt, -Int.not_le, -Nat.not_lt, -Nat.not_le, -List.map_take, hr0, hn, hn0, e3, e4, e6, e7, hlt, cl (pcmp_s _ _ _ _ _), wr_i64, cmpP_lessP]
   repeat' first | with_reducible apply And.intro | intro _
   all_goals first
    | (refine ih (j + 2) (by omega) _ (by omega) ?_; grind)
    | grind
end Go.Mx.Tryz
