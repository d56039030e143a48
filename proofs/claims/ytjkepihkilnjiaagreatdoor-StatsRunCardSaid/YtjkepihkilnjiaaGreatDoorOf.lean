/- Of: both texts give the same statistics of two generations. -/
import Derived.Test.YtjkepihkilnjiaaGreatDoorTa
import Derived.Test.YtjkepihkilnjiaaGreatDoorArg
import Derived.Test.YtjkepihkilnjiaaGreatDoorAwake
set_option linter.unusedSimpArgs false
set_option linter.unusedVariables false
set_option linter.unusedSectionVars false
set_option maxRecDepth 100000
namespace Go.Mx.Tryz

def cnt {α : Type} (f : α → Bool) (l : List α) : Int := ((l.filter f).length : Int)
theorem cnt_snoc {α : Type} (f : α → Bool) (l : List α) (c : α) : cnt f (l ++ [c]) = cnt f l + if f c = true then 1 else 0 := by
 unfold cnt
 rw [List.filter_append]
 by_cases h : f c = true <;> simp [h]
theorem cnt_range {α : Type} (f : α → Bool) (l : List α) : 0 ≤ cnt f l ∧ cnt f l ≤ l.length := by
 unfold cnt
 have := List.length_filter_le f l
 omega
theorem boxC_4 (p : List Ce) : ∃ x y w h, boxC p = [x, y, w, h] := by
 cases p with
 | nil => exact ⟨_, _, _, _, rfl⟩
 | cons c r =>
  by_cases h : right (c :: r) = true
  ·exact ⟨_, _, _, _, if_pos h⟩
  ·exact ⟨_, _, _, _, if_neg h⟩
def born (p : List Ce) (c : Ce) : Bool := decide (getF p c.x c.y = 0)
def chgd (p : List Ce) (c : Ce) : Bool := decide (¬ getF p c.x c.y = 0 ∧ ¬ getF p c.x c.y = c.s)
def ofV (g : Int) (p q : List Ce) : List Int := if right p = true ∧ right q = true then [g, q.length, cnt (born p) q, cnt (born q) p, cnt (chgd p) q] ++ boxC q else [0, 0, 0, 0, 0, 0, 0, 0, 0]

theorem of_r {v u : I} {p q : List Ce} (hv : IsSl v (cells3 p)) (hu : IsSl u (cells3 q)) (hl : (p.length : Int) ≤ 1000000000) (hl' : (q.length : Int) ≤ 1000000000) (g : Int) (H : Hp) : Gives G 19 [.m (.i .i64 g), .m v, .m u] H (.m (.ag ((ofV g p q).map (.i .i64)))) H := by
 refine gives_pur rfl rfl rfl rfl rfl ?_
 obtain ⟨x, y, w, h, hbx⟩ := boxC_4 q
 have g3 := box_r hu (by omega) []
 unfold boxV at g3
 rw [hbx] at g3
 simp only [List.map_cons, List.map_nil] at g3
 simp (contextual := true) (maxSteps := 2000000) (disch := omega) [test_cx, rest_cx, gcall_cx, gcav_cx, -Int.not_lt, -Int.not_le, -Nat.not_lt, -Nat.not_le, -List.map_take, hv.rules, hu.rules, cl (right_r hv (by omega) []), cl (right_r hu (by omega) []), cl g3]
 refine ⟨fun hr => ⟨fun hr' => ?_, fun hr' => ?_⟩, fun hr => ?_⟩
 ·simp [ofV, hr']
 ·refine (?key : ∀ (i : Nat) (B : List (Nat × List V)), i ≤ q.length → (∃ l : List V, getB B 6 = some l ∧ l.length = 9) → getB B 9 = some [.m (.i .i64 g), .m (.i .i64 q.length), .m (.i .i64 (cnt (born p) (q.take i))), .m (.i .i64 0), .m (.i .i64 (cnt (chgd p) (q.take i))), .m (.i .i64 x), .m (.i .i64 y), .m (.i .i64 w), .m (.i .i64 h)] → Run G c19_B0 (S19_0 (.m v) (.m u) (.fa 6 0) (.fa 9 0) (.m (.i .i64 i)) B []) _) 0 _ (Nat.zero_le _) ⟨_, rfl, rfl⟩ rfl
  refine indM (fun i : Nat => q.length - i) fun i ih B hi h6 h9 => ?_
  unfold c19_B0
  cases hx : q[i]? with
  | none =>
   have : i = q.length := by have := List.getElem?_eq_none_iff.1 hx; omega
   subst this
   simp (contextual := true) (maxSteps := 2000000) (disch := omega) [hv.rules, hu.rules, test_cx, rest_cx, gcall_cx, gcav_cx, -Int.not_lt, -Int.not_le, -Nat.not_lt, -Nat.not_le, -List.map_take]
   refine (?key2 : ∀ (i : Nat) (B : List (Nat × List V)), i ≤ p.length → (∃ l : List V, getB B 6 = some l ∧ l.length = 9) → getB B 9 = some [.m (.i .i64 g), .m (.i .i64 q.length), .m (.i .i64 (cnt (born p) q)), .m (.i .i64 (cnt (born q) (p.take i))), .m (.i .i64 (cnt (chgd p) q)), .m (.i .i64 x), .m (.i .i64 y), .m (.i .i64 w), .m (.i .i64 h)] → Run G c19_B1 (S19_1 (.m v) (.m u) (.fa 6 0) (.fa 9 0) (.m (.i .i64 i)) B []) _) 0 _ (Nat.zero_le _) h6 (by simpa [cnt] using h9)
   clear ih h6 h9
   refine indM (fun i : Nat => p.length - i) fun i ih B hi h6 h9 => ?_
   unfold c19_B1
   cases hx : p[i]? with
   | none =>
    have : i = p.length := by have := List.getElem?_eq_none_iff.1 hx; omega
    subst this
    obtain ⟨l, h6, hl6⟩ := h6
    simp (contextual := true) (maxSteps := 2000000) (disch := omega) [hv.rules, hu.rules, test_cx, rest_cx, gcall_cx, gcav_cx, -Int.not_lt, -Int.not_le, -Nat.not_lt, -Nat.not_le, -List.map_take, h6, h9, hl6]
    simp [ofV, hr, hr', hbx]
   | some c =>
    have hlt := (get_drop hx).1
    have hn := cells3_nth hx
    have ih := ih (i + 1) (by omega)
    simp only [take_succ_get hx, cnt_snoc] at ih
    have := cnt_range (born q) (p.take i)
    have := List.length_take_le i p
    simp (contextual := true) (maxSteps := 2000000) (disch := omega) [test_cx, rest_cx, gcall_cx, gcav_cx, -Int.not_lt, -Int.not_le, -Nat.not_lt, -Nat.not_le, -List.map_take, hv.rules, hu.rules, hn, hlt, wr_i64, h9, cl (get_r hu (by omega) _ _ _)]
    repeat' first | with_reducible apply And.intro | intro _
    all_goals exact ih _ (by omega) (by simpa using h6) (by simp_all [born])
  | some c =>
   have hlt := (get_drop hx).1
   have hn := cells3_nth hx
   have ih := ih (i + 1) (by omega)
   simp only [take_succ_get hx, cnt_snoc] at ih
   have := cnt_range (born p) (q.take i)
   have := cnt_range (chgd p) (q.take i)
   have := List.length_take_le i q
   simp (contextual := true) (maxSteps := 2000000) (disch := omega) [test_cx, rest_cx, gcall_cx, gcav_cx, -Int.not_lt, -Int.not_le, -Nat.not_lt, -Nat.not_le, -List.map_take, hv.rules, hu.rules, hn, hlt, wr_i64, h9, cl (get_r hv (by omega) _ _ _)]
   repeat' first | with_reducible apply And.intro | intro _
   all_goals exact ih _ (by omega) (by simpa using h6) (by simp_all [born, chgd])
 ·simp [ofV, hr]

def occ (q : List Ce) (k : Int × Int) : Bool := q.any fun c => decide ((c.x, c.y) = k)
theorem occ_get {q : List Ce} (hg : ∀ d, d ∈ q → good d = true) (x y : Int) : occ q (x, y) = !decide (getF q x y = 0) := by
 induction q with
 | nil => rfl
 | cons c r ih =>
  have ih := ih fun d hd => hg d (by simp [hd])
  by_cases h : c.x = x ∧ c.y = y
  ·have := hg c (by simp)
   unfold good at this
   simp only [Bool.and_eq_true, decide_eq_true_eq] at this
   have : ¬ c.s = 0 := by omega
   simp [occ, getF, h, this]
  ·have h' : ¬ (c.x, c.y) = (x, y) := by simpa using h
   simp only [occ, List.any_cons, getF, if_neg h, decide_eq_false h', Bool.false_or]
   exact ih
theorem occ_snoc (q : List Ce) (c : Ce) (k : Int × Int) : occ (q ++ [c]) k = (occ q k || decide ((c.x, c.y) = k)) := by simp [occ]
theorem left_length (p q : List Ce) (hg : ∀ d, d ∈ q → good d = true) : (((posM p).filter fun e => !occ q e.1).length : Int) = cnt (born q) p := by
 unfold cnt posM
 rw [List.filter_map, List.length_map]
 refine congrArg (fun f : Ce → Bool => ((p.filter f).length : Int)) (funext fun c => ?_)
 simp [born, occ_get hg]
theorem of_s {v u : I} {p q : List Ce} (hv : IsSl v (cells3 p)) (hu : IsSl u (cells3 q)) (hl : (p.length : Int) ≤ 1000000000) (hl' : (q.length : Int) ≤ 1000000000) (g : Int) (H : Hp) : Gives G 16 [.m (.i .i64 g), .m v, .m u] H (.m (.ag ((ofV g p q).map (.i .i64)))) H := by
 refine gives_pur rfl rfl rfl rfl rfl ?_
 obtain ⟨x, y, w, h, hbx⟩ := boxC_4 q
 have g3 := box_s hu (by omega) []
 unfold boxV at g3
 rw [hbx] at g3
 simp only [List.map_cons, List.map_nil] at g3
 simp (contextual := true) (maxSteps := 2000000) (disch := omega) [test_cx, rest_cx, gcall_cx, gcav_cx, -Int.not_lt, -Int.not_le, -Nat.not_lt, -Nat.not_le, -List.map_take, hv.rules, hu.rules, cl (right_s hv (by omega) []), cl (right_s hu (by omega) []), cl g3]
 refine ⟨fun hr => ⟨fun hr' => ?_, fun hr' => ?_⟩, fun hr => ?_⟩
 ·simp [ofV, hr']
 ·obtain ⟨pp, gp, lp⟩ := right_pwB hr
  obtain ⟨pq, gq, lq⟩ := right_pwB hr'
  refine (?key : ∀ (i : Nat) (B : List (Nat × List V)), i ≤ p.length → (∃ l : List V, getB B 6 = some l ∧ l.length = 9) → getB B 7 = some [.m (.i .i64 g), .m (.i .i64 q.length), .m (.i .i64 0), .m (.i .i64 0), .m (.i .i64 0), .m (.i .i64 x), .m (.i .i64 y), .m (.i .i64 w), .m (.i .i64 h)] → Run G c16_B0 (S16_0 (.m u) (.fa 6 0) (.fa 7 0) (.mp 0) (.m v) (.m (.i .i64 p.length)) (.m (.i .i64 i)) B [mPI (posM (p.take i))]) _) 0 _ (Nat.zero_le _) ⟨_, rfl, rfl⟩ rfl
  refine indM (fun i : Nat => p.length - i) fun i ih B hi h6 h7 => ?_
  unfold c16_B0
  cases hx : p[i]? with
  | none =>
   have : i = p.length := by have := List.getElem?_eq_none_iff.1 hx; omega
   subst this
   simp (contextual := true) (maxSteps := 2000000) (disch := omega) [hv.rules, hu.rules, test_cx, rest_cx, gcall_cx, gcav_cx, -Int.not_lt, -Int.not_le, -Nat.not_lt, -Nat.not_le, -List.map_take]
   have e0 : mPI (posM p) = mPI ((posM p).filter fun e => !occ (q.take 0) e.1) := by rw [show (fun e : (Int × Int) × Int => !occ (q.take 0) e.1) = fun _ => true from funext fun e => rfl, List.filter_eq_self.2 (fun _ _ => rfl)]
   rw [e0]
   refine (?key2 : ∀ (i : Nat) (B : List (Nat × List V)), i ≤ q.length → (∃ l : List V, getB B 6 = some l ∧ l.length = 9) → getB B 7 = some [.m (.i .i64 g), .m (.i .i64 q.length), .m (.i .i64 (cnt (born p) (q.take i))), .m (.i .i64 0), .m (.i .i64 (cnt (chgd p) (q.take i))), .m (.i .i64 x), .m (.i .i64 y), .m (.i .i64 w), .m (.i .i64 h)] → Run G c16_B1 (S16_1 (.fa 6 0) (.fa 7 0) (.mp 0) (.m u) (.m (.i .i64 q.length)) (.m (.i .i64 i)) B [mPI ((posM p).filter fun e => !occ (q.take i) e.1)]) _) 0 _ (Nat.zero_le _) h6 (by simpa [cnt] using h7)
   clear ih h6 h7
   refine indM (fun i : Nat => q.length - i) fun i ih B hi h6 h7 => ?_
   unfold c16_B1
   cases hx : q[i]? with
   | none =>
    have : i = q.length := by have := List.getElem?_eq_none_iff.1 hx; omega
    subst this
    obtain ⟨l, h6, hl6⟩ := h6
    simp (contextual := true) (maxSteps := 2000000) (disch := omega) [hv.rules, hu.rules, test_cx, rest_cx, gcall_cx, gcav_cx, -Int.not_lt, -Int.not_le, -Nat.not_lt, -Nat.not_le, -List.map_take, h6, h7, hl6, left_length p q gq]
    simp [ofV, hr, hr', hbx]
   | some c =>
    have hlt := (get_drop hx).1
    have hn := cells3_nth hx
    have ih := ih (i + 1) (by omega)
    simp only [take_succ_get hx, cnt_snoc, occ_snoc] at ih
    have := cnt_range (born p) (q.take i)
    have := cnt_range (chgd p) (q.take i)
    have := List.length_take_le i q
    simp (contextual := true) (maxSteps := 2000000) (disch := omega) [test_cx, rest_cx, gcall_cx, gcav_cx, -Int.not_lt, -Int.not_le, -Nat.not_lt, -Nat.not_le, -List.map_take, hv.rules, hu.rules, hn, hlt, wr_i64, h7]
    have pq' := pq
    rw [← List.take_append_drop i q, (get_drop hx).2] at pq'
    have o1 : occ (q.take i) (c.x, c.y) = false := by
     unfold occ
     rw [List.any_eq_false]
     intro d hd
     have := (List.pairwise_append.1 pq').2.2 d hd c (by simp)
     unfold less at this
     grind
    have f1 : mfind ((posM p).filter fun e => !occ (q.take i) e.1) (c.x, c.y) = mfind (posM p) (c.x, c.y) := by
     rw [mfind_filter (posM p) (fun k => !occ (q.take i) k)]
     simp [o1]
    have f2 : (mfind (posM p) (c.x, c.y) = none) = (getF p c.x c.y = 0) := by
     have := mfind_isSome gp c.x c.y
     cases hm : mfind (posM p) (c.x, c.y) <;> simp_all
    have f3 : mdel ((posM p).filter fun e => !occ (q.take i) e.1) (c.x, c.y) = (posM p).filter fun e => !(occ (q.take i) e.1 || decide ((c.x, c.y) = e.1)) := by
     rw [mdel_filter ((posM_nodup pp).sublist (List.filter_sublist.map _)), List.filter_filter]
     congr 1
     funext e
     by_cases h : e.1 = (c.x, c.y)
     ·simp [h]
     ·have h' : ¬ (c.x, c.y) = e.1 := fun a => h a.symm
      simp [h, h']
    simp only [f1, f2, f3, mfind_posM, mfind_isSome gp]
    repeat' first | with_reducible apply And.intro | intro _
    all_goals exact ih _ (by omega) (by simpa using h6) (by simp_all [born, chgd])
  | some c =>
   have hlt := (get_drop hx).1
   have hn := cells3_nth hx
   have ih := ih (i + 1) (by omega)
   have pp' := pp
   rw [← List.take_append_drop i p, (get_drop hx).2] at pp'
   have hm := mset_posM pp'
   simp only [take_succ_get hx, ← hm] at ih
   simp (contextual := true) (maxSteps := 2000000) (disch := omega) [test_cx, rest_cx, gcall_cx, gcav_cx, -Int.not_lt, -Int.not_le, -Nat.not_lt, -Nat.not_le, -List.map_take, hv.rules, hu.rules, hn, hlt, wr_i64]
   exact ih _ (by omega) (by simpa using h6) (by simpa using h7)
 ·simp [ofV, hr]

end Go.Mx.Tryz
