/- strings.Cut, Contains, HasPrefix and Trim at the machine; the loop over lines. -/
import Derived.Test.YtfllcbohggcmfaaGreatDoorSpl
set_option linter.unusedSimpArgs false
set_option linter.unusedVariables false
set_option linter.unusedSectionVars false
set_option maxRecDepth 100000
namespace Go.Mx.Tryz

theorem hpre_i (s : List Nat) (hl : s.length ≤ 9223372036854775807) (c : Nat) (H : Hp) : Gives G 64 [.m (.s s), .m (.s [c])] H (.m (.b (decide (s.take 1 = [c])))) H := by
 refine gives_pur rfl rfl rfl rfl rfl ?_
 cases s with
 | nil => simp
 | cons a r =>
  have h1 : (1 : Int) ≤ (r.length : Int) + 1 := by omega
  have h2 : (r.length : Int) + 1 ≤ 9223372036854775807 := by simp at hl; omega
  simp [h1, h2]
theorem hpre_s (s : List Nat) (hl : s.length ≤ 9223372036854775807) (c : Nat) (H : Hp) : Gives G 52 [.m (.s s), .m (.s [c])] H (.m (.b (decide (s.take 1 = [c])))) H := by
 refine gives_pur rfl rfl rfl rfl rfl ?_
 simp [cl (hpre_i s hl c _)]
def cutT (c : Nat) (s : List Nat) : V := .tu [.m (.s (hdB c s)), .m (.s ((tlB c s).getD [])), .m (.b (tlB c s).isSome)]
theorem cut_i (s : List Nat) (hl : s.length ≤ 9223372036854775807) (c : Nat) (hc : c < 256) (H : Hp) : Gives G 51 [.m (.s s), .m (.s [c])] H (cutT c s) H := by
 refine gives_pur rfl rfl rfl rfl rfl ?_
 have gi := fun H => index_i s hl c hc H
 cases ht : tlB c s with
 | none =>
  have e : ixB s c 0 = -1 := by rw [ixB_hd, ht]
  rw [e] at gi
  simp [cl (gi _), cutT, ht, tlB_none c s ht]
 | some t =>
  have e : ixB s c 0 = (hdB c s).length := by rw [ixB_hd, ht]; simp
  have hlen := tlB_len ht
  have hth := tlB_take ht
  rw [e] at gi
  have w1 : wr .i64 (((hdB c s).length : Int) + 1) = (hdB c s).length + 1 := wr_i64 (by omega) (by omega)
  have n0 : (0 : Int) ≤ ((hdB c s).length : Int) := by omega
  have n4 : t.take (s.length - ((hdB c s).length + 1)) = t := List.take_of_length_le (by omega)
  simp (maxSteps := 2000000) (disch := omega) [gd_in, gd_and, wr_i64, cl (gi _), n0, w1, hth.1, hth.2, n4, cutT, ht]
theorem cut_s (s : List Nat) (hl : s.length ≤ 9223372036854775807) (c : Nat) (hc : c < 256) (H : Hp) : Gives G 33 [.m (.s s), .m (.s [c])] H (cutT c s) H := by
 refine gives_pur rfl rfl rfl rfl rfl ?_
 simp [cl (cut_i s hl c hc _), cutT]
theorem ixB_mem (c : Nat) (s : List Nat) : decide (0 ≤ ixB s c 0) = s.contains c := by
 rw [ixB_hd]
 cases ht : tlB c s with
 | none =>
  have : s.contains c = false := by
   rw [Bool.eq_false_iff]
   intro h
   have hm : c ∈ s := by simpa using h
   rw [← tlB_none c s ht] at hm
   exact hdB_no c s c hm rfl
  rw [this]; rfl
 | some t =>
  have : s.contains c = true := by
   rw [tlB_some c s t ht]
   simp
  rw [this]
  exact decide_eq_true (show (0 : Int) ≤ ((0 + (hdB c s).length : Nat) : Int) by omega)
theorem contains1_s (s : List Nat) (hl : s.length ≤ 9223372036854775807) (c : Nat) (hc : c < 256) (H : Hp) : Gives G 35 [.m (.s s), .m (.s [c])] H (.m (.b (s.contains c))) H := by
 refine gives_pur rfl rfl rfl rfl rfl ?_
 have gi := fun H => strIdx_s s hl c hc H
 simp only [← ixB_mem]
 simp [cl (gi _)]
def setI (cs : List Nat) : List I := (List.range 256).map fun i => .b (cs.contains i)
def setR (cs : List Nat) : List (List V) := (List.range 256).map fun i => [.m (.b (cs.contains i))]
@[reducible] def setRow (cs : List Nat) : Row := .cs 97 1 (setR cs) 256 false
theorem setR_nth (cs : List Nat) (c : Nat) (hc : c < 256) : nth (setR cs) c = some [.m (.b (cs.contains c))] := by
 rw [nth_get, setR, List.getElem?_map, List.getElem?_range hc]
 rfl
theorem setR_len (cs : List Nat) : (setR cs).length = 256 := by simp [setR]
theorem in_set (cs : List Nat) (c : Nat) (hc : c < 256) (X : Hp) : Gives G 97 [.pt 0 256 0 0, .m (.i .u8 (c : Int))] (setRow cs :: X) (.m (.b (cs.contains c))) (setRow cs :: X) := by
 refine .of_ret ?_
 refine ret_sh mono rfl rfl rfl rfl rfl ?_
 have hc' : (c : Int) < 256 := by omega
 have h0 : ∀ es : List (List V), readR 1 es 0 c 1 = (nth es c).bind fun e => takeN 1 e := fun es => readR_1 es c
 simp (maxSteps := 2000000) (disch := omega) [gd_in, gd_and, wr_i64, setR_len, h0, setR_nth cs c hc]
def inS (cs s : List Nat) : Bool := s.all fun c => cs.contains c
theorem inS_nil (cs : List Nat) : inS cs [] = true := rfl
theorem inS_cons (cs : List Nat) (a : Nat) (r : List Nat) : inS cs (a :: r) = (cs.contains a && inS cs r) := rfl
theorem inS_snoc (cs : List Nat) (a : Nat) (r : List Nat) : inS cs (r ++ [a]) = (inS cs r && cs.contains a) := by
 unfold inS
 rw [List.all_append]
 simp
theorem trimL_w (cs : List Nat) (X : Hp) (s : List Nat) (hl : s.length ≤ 9223372036854775807) (hb : ∀ c, c ∈ s → c < 256) : ∃ q, Gives G 68 [.m (.s s), .pt 0 256 0 0] (setRow cs :: X) (.m (.s q)) (setRow cs :: X) ∧ (q = [] ↔ inS cs s = true) := by
 have key : ∃ v H', Gives G 68 [.m (.s s), .pt 0 256 0 0] (setRow cs :: X) v H' ∧ (H' = setRow cs :: X ∧ ∃ q, v = .m (.s q) ∧ (q = [] ↔ inS cs s = true)) := by
  refine gives_of_ret ?_
  refine ret_sh mono rfl rfl rfl rfl rfl ?_
  simp
  refine (?key : ∀ (t : List Nat) (B : List (Nat × List V)), t.length ≤ 9223372036854775807 → (∀ c, c ∈ t → c < 256) → inS cs s = inS cs t → Run G c68_B0 (S68_0 (.m (.s t)) (.pt 0 256 0 0) B (setRow cs :: X)) _) s [] hl hb rfl
  clear hl hb
  refine indM (fun t : List Nat => t.length) fun t ih B hl hb hq => ?_
  unfold c68_B0
  cases t with
  | nil =>
   rw [inS_nil] at hq
   simp [hq]
  | cons a r =>
   have ha := hb a (by simp)
   have g := fun H => in_set cs a ha H
   have p1 : (0 : Int) < (r.length : Int) + 1 := by omega
   cases hin : cs.contains a with
   | true =>
    rw [hin] at g
    have hq2 : inS cs s = inS cs r := by rw [hq, inS_cons, hin, Bool.true_and]
    simp (maxSteps := 2000000) (disch := omega) [gd_in, gd_and, wr_i64, p1, cl (g _)]
    exact ih r (by simp) _ (by simp only [List.length_cons] at hl; omega) (fun c hc => hb c (by simp [hc])) hq2
   | false =>
    rw [hin] at g
    have hq2 : inS cs s = false := by rw [hq, inS_cons, hin, Bool.false_and]
    simp (maxSteps := 2000000) (disch := omega) [gd_in, gd_and, wr_i64, p1, cl (g _), hq2]
 obtain ⟨v, H', h1, rfl, q, rfl, h2⟩ := key
 exact ⟨q, h1, h2⟩
theorem trimR_w (cs : List Nat) (X : Hp) (s : List Nat) (hl : s.length ≤ 9223372036854775807) (hb : ∀ c, c ∈ s → c < 256) : ∃ q, Gives G 69 [.m (.s s), .pt 0 256 0 0] (setRow cs :: X) (.m (.s q)) (setRow cs :: X) ∧ inS cs s = inS cs q ∧ q.length ≤ s.length ∧ ∀ c, c ∈ q → c ∈ s := by
 have key : ∃ v H', Gives G 69 [.m (.s s), .pt 0 256 0 0] (setRow cs :: X) v H' ∧ (H' = setRow cs :: X ∧ ∃ q, v = .m (.s q) ∧ inS cs s = inS cs q ∧ q.length ≤ s.length ∧ ∀ c, c ∈ q → c ∈ s) := by
  refine gives_of_ret ?_
  refine ret_sh mono rfl rfl rfl rfl rfl ?_
  simp
  refine (?key : ∀ (t : List Nat) (B : List (Nat × List V)), t.length ≤ s.length → (∀ c, c ∈ t → c ∈ s) → inS cs s = inS cs t → Run G c69_B0 (S69_0 (.m (.s t)) (.pt 0 256 0 0) B (setRow cs :: X)) _) s [] (Nat.le_refl _) (fun c h => h) rfl
  refine indM (fun t : List Nat => t.length) fun t ih B ht hm hq => ?_
  unfold c69_B0
  by_cases h0 : t.length = 0
  ·have : t = [] := List.eq_nil_of_length_eq_zero h0
   subst this
   rw [inS_nil] at hq
   simp [hq]
   exact inS_nil cs
  ·obtain ⟨r, a, rfl⟩ : ∃ r a, t = r ++ [a] := ⟨t.dropLast, t.getLast (by intro e; subst e; simp at h0), (List.dropLast_concat_getLast _).symm⟩
   have ha := hb a (hm a (by simp))
   have g := fun H => in_set cs a ha H
   have p1 : (0 : Int) < (r.length : Int) + 1 := by omega
   have w1 : wr .i64 (((r ++ [a]).length : Int) - 1) = r.length := by
    rw [List.length_append, List.length_singleton]
    rw [wr_i64 (by omega) (by simp at ht; omega)]
    omega
   simp only [List.length_append, List.length_singleton] at ht w1
   have w2 : wr .i64 ((r.length : Int) + 1 - 1) = r.length := by rw [wr_i64 (by omega) (by omega)]; omega
   have w3 : (r.length : Int) + 1 - 1 = r.length := by omega
   have w4 : wr .i64 (r.length : Int) = r.length := wr_i64 (by omega) (by omega)
   have hn : nth (r ++ [a]) r.length = some a := by rw [nth_get]; simp
   cases hin : cs.contains a with
   | true =>
    rw [hin] at g
    have hq2 : inS cs s = inS cs r := by rw [hq, inS_snoc, hin, Bool.and_true]
    simp (maxSteps := 2000000) (disch := omega) [gd_in, gd_and, wr_i64, p1, w2, w3, w4, hn, cl (g _)]
    exact ih r (by simp) _ (by omega) (fun c hc => hm c (by simp [hc])) hq2
   | false =>
    rw [hin] at g
    simp (maxSteps := 2000000) (disch := omega) [gd_in, gd_and, wr_i64, p1, w2, w3, w4, hn, cl (g _)]
    exact ⟨hq, ht, fun c hc => hm c (by simpa using hc)⟩
 obtain ⟨v, H', h1, rfl, q, rfl, h2⟩ := key
 exact ⟨q, h1, h2⟩
end Go.Mx.Tryz
