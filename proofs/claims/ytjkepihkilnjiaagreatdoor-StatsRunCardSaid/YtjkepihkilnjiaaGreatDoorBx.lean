/- Boxes of patterns; the state of a cell: both texts. -/
import Derived.Test.YtjkepihkilnjiaaGreatDoorPt
set_option linter.unusedSimpArgs false
set_option linter.unusedVariables false
set_option linter.unusedSectionVars false
set_option maxRecDepth 100000
namespace Go.Mx.Tryz

def mnF (m : Int) (l : List Int) : Int := l.foldl min m
def mxF (m : Int) (l : List Int) : Int := l.foldl max m
theorem mnF_snoc (m : Int) (l : List Int) (x : Int) : mnF m (l ++ [x]) = min (mnF m l) x := by simp [mnF]
theorem mxF_snoc (m : Int) (l : List Int) (x : Int) : mxF m (l ++ [x]) = max (mxF m l) x := by simp [mxF]
def boxC (p : List Ce) : List Int := match p with
 | [] => [0, 0, 0, 0]
 | c :: r => if right (c :: r) = true then
   [mnF c.x ((c :: r).map Ce.x), c.y, wr .i64 (wr .i64 (mxF c.x ((c :: r).map Ce.x) - mnF c.x ((c :: r).map Ce.x)) + 1), wr .i64 (wr .i64 (((c :: r).getLast (by simp)).y - c.y) + 1)]
  else [0, 0, 0, 0]
def boxV (p : List Ce) : V := .tu [.m (.ag ((boxC p).map (.i .i64))), .m (.b (!p.isEmpty && right p))]

theorem map_take_snoc {α β : Type} {p : List α} {i : Nat} {c : α} (f : α → β) (h : p[i]? = some c) : (p.take (i + 1)).map f = (p.take i).map f ++ [f c] := by rw [take_succ_get h]; simp
theorem box_s {v : I} {p : List Ce} (hv : IsSl v (cells3 p)) (hl : (p.length : Int) ≤ 9223372036854775807) (H : Hp) : Gives G 31 [.m v] H (boxV p) H := by
 refine gives_pur rfl rfl rfl rfl rfl ?_
 have g := right_s hv hl []
 cases hp : p with
 | nil => subst hp; simp (contextual := true) (maxSteps := 2000000) (disch := omega) [test_cx, rest_cx, gcall_cx, gcav_cx, -Int.not_lt, -Int.not_le, -Nat.not_lt, -Nat.not_le, -List.map_take, hv.rules, boxV, boxC]
 | cons c r =>
  rw [← hp]
  have h0 : p[0]? = some c := by rw [hp]; rfl
  have hn0 := cells3_nth h0
  have e1 : 0 < p.length := by rw [hp]; simp
  obtain ⟨cl, hcl⟩ : ∃ d, p[p.length - 1]? = some d := ⟨p[p.length - 1], List.getElem?_eq_getElem (by omega)⟩
  have hnl := cells3_nth hcl
  have hla : ∀ h, (c :: r).getLast h = cl := fun h => by
   have : p.getLast (by rw [hp]; simp) = cl := by rw [List.getLast_eq_getElem, ← Option.some.injEq, ← hcl, List.getElem?_eq_getElem]
   simpa [hp] using this
  have hw : wr .i64 ((p.length : Int) - 1) = ((p.length - 1 : Nat) : Int) := by rw [wr_i64] <;> omega
  have e2 : ¬ ((p.length : Int) = 0) := by omega
  have e4 : ¬ p = [] := by rw [hp]; simp
  simp (contextual := true) (maxSteps := 2000000) (disch := omega) [test_cx, rest_cx, gcall_cx, gcav_cx, -Int.not_lt, -Int.not_le, -Nat.not_lt, -Nat.not_le, -List.map_take, hv.rules, Mx.Tryz.cl g, hn0, wr_i64, e1, e2, e4]
  refine ⟨fun hr => ?_, fun hr => ?_⟩
  ·rw [hp] at hr ⊢; simp [boxV, boxC, hr]
  refine (?key : ∀ (i : Nat) (B : List (Nat × List V)), i ≤ p.length → (∃ a b d e, getB B 2 = some [a, b, d, e]) → Run G c31_B0 (S31_0 (.m v) (.fa 2 0) (.m (.i .i64 (mnF c.x ((p.take i).map Ce.x)))) (.m (.i .i64 (mxF c.x ((p.take i).map Ce.x)))) (.m v) (.m (.i .i64 p.length)) (.m (.i .i64 i)) B []) _) 0 _ (Nat.zero_le _) ⟨_, _, _, _, rfl⟩
  refine indM (fun i : Nat => p.length - i) fun i ih B hi hB => ?_
  unfold c31_B0
  cases hx : p[i]? with
  | none =>
   have : i = p.length := by have := List.getElem?_eq_none_iff.1 hx; omega
   subst this
   obtain ⟨a, b, d, e, hB⟩ := hB
   have hlt : p.length - 1 < p.length := by omega
   have e3 : ((p.length : Int) - 1).toNat = p.length - 1 := by omega
   simp (contextual := true) (maxSteps := 2000000) (disch := omega) [hv.rules, hn0, hnl, hB, e3, wr_i64, test_cx, rest_cx, gcall_cx, gcav_cx, -Int.not_lt, -Int.not_le, -Nat.not_lt, -Nat.not_le, -List.map_take]
   rw [hp] at hr ⊢
   simp [boxV, boxC, hr, hla]
  | some d =>
   have hlt := (get_drop hx).1
   have hn := cells3_nth hx
   have ih := ih (i + 1) (by omega)
   simp only [map_take_snoc _ hx, mnF_snoc, mxF_snoc] at ih
   simp (contextual := true) (maxSteps := 2000000) (disch := omega) [test_cx, rest_cx, gcall_cx, gcav_cx, -Int.not_lt, -Int.not_le, -Nat.not_lt, -Nat.not_le, -List.map_take, hv.rules, hn, hlt, wr_i64]
   exact ih _ (by omega) (by simpa using hB)

theorem less_trans {a b c : Ce} (h1 : less a b = true) (h2 : less b c = true) : less a c = true := by
 unfold less at *
 grind
theorem chain_pwB : ∀ (p : List Ce) (o : Option Ce), chain o p = true → p.Pairwise (fun a b => less a b = true) ∧ (∀ a, o = some a → ∀ d, d ∈ p → less a d = true) ∧ ∀ d, d ∈ p → good d = true
 | [], _, _ => ⟨.nil, fun _ _ d hd => by simp at hd, fun d hd => by simp at hd⟩
 | c :: r, o, h => by
  have h' : good c = true ∧ (∀ a, o = some a → less a c = true) ∧ chain (some c) r = true := by
   cases o with
   | none =>
    have : (good c && chain (some c) r) = true := h
    rw [Bool.and_eq_true] at this
    exact ⟨this.1, fun _ h => (by cases h), this.2⟩
   | some a =>
    have : (good c && less a c && chain (some c) r) = true := h
    simp only [Bool.and_eq_true] at this
    exact ⟨this.1.1, fun _ h => (by cases h; exact this.1.2), this.2⟩
  obtain ⟨g1, g2, g3⟩ := h'
  obtain ⟨i1, i2, i3⟩ := chain_pwB r (some c) g3
  refine ⟨List.pairwise_cons.2 ⟨fun d hd => i2 c rfl d hd, i1⟩, fun a ha d hd => ?_, fun d hd => ?_⟩
  ·rcases List.mem_cons.1 hd with rfl | hd
   ·exact g2 a ha
   ·exact less_trans (g2 a ha) (i2 c rfl d hd)
  ·rcases List.mem_cons.1 hd with rfl | hd
   ·exact g1
   ·exact i3 d hd
theorem right_pwB {p : List Ce} (h : right p = true) : p.Pairwise (fun a b => less a b = true) ∧ (∀ d, d ∈ p → good d = true) ∧ p.length ≤ 5000 := by
 unfold right at h
 simp only [Bool.and_eq_true, decide_eq_true_eq] at h
 have := chain_pwB p none h.2
 exact ⟨this.1, this.2.2, h.1⟩
theorem mnF_le : ∀ (l : List Int) (m x : Int), (x ≤ m ∧ ∀ y, y ∈ l → x ≤ y) → x ≤ mnF m l
 | [], m, x, h => h.1
 | y :: r, m, x, h => mnF_le r (min m y) x ⟨by have := h.1; have := h.2 y (by simp); omega, fun z hz => h.2 z (by simp [hz])⟩
theorem mnF_ge : ∀ (l : List Int) (m : Int), mnF m l ≤ m ∧ ∀ y, y ∈ l → mnF m l ≤ y
 | [], m => ⟨Int.le_refl _, fun y hy => by simp at hy⟩
 | y :: r, m => by
  obtain ⟨h1, h2⟩ := mnF_ge r (min m y)
  refine ⟨by show mnF (min m y) r ≤ m; omega, fun z hz => ?_⟩
  show mnF (min m y) r ≤ z
  rcases List.mem_cons.1 hz with rfl | hz
  ·omega
  ·exact h2 z hz
theorem mxF_ge : ∀ (l : List Int) (m : Int), m ≤ mxF m l ∧ ∀ y, y ∈ l → y ≤ mxF m l
 | [], m => ⟨Int.le_refl _, fun y hy => by simp at hy⟩
 | y :: r, m => by
  obtain ⟨h1, h2⟩ := mxF_ge r (max m y)
  refine ⟨by show m ≤ mxF (max m y) r; omega, fun z hz => ?_⟩
  show z ≤ mxF (max m y) r
  rcases List.mem_cons.1 hz with rfl | hz
  ·omega
  ·exact h2 z hz
theorem mxF_le : ∀ (l : List Int) (m x : Int), (m ≤ x ∧ ∀ y, y ∈ l → y ≤ x) → mxF m l ≤ x
 | [], m, x, h => h.1
 | y :: r, m, x, h => mxF_le r (max m y) x ⟨by have := h.1; have := h.2 y (by simp); omega, fun z hz => h.2 z (by simp [hz])⟩
theorem right_ys {c d : Ce} {r : List Ce} (h : right (c :: r) = true) (hd : (c :: r)[(c :: r).length - 1]? = some d) : mnF c.y ((c :: r).map Ce.y) = c.y ∧ mxF c.y ((c :: r).map Ce.y) = d.y := by
 obtain ⟨pw, _, _⟩ := right_pwB h
 have first : ∀ y, y ∈ (c :: r).map Ce.y → c.y ≤ y := fun y hy => by
  obtain ⟨e, he, rfl⟩ := List.mem_map.1 hy
  rcases List.mem_cons.1 he with rfl | he
  ·exact Int.le_refl _
  ·have := (List.pairwise_cons.1 pw).1 e he
   unfold less at this
   simp only [decide_eq_true_eq] at this
   omega
 have last : ∀ y, y ∈ (c :: r).map Ce.y → y ≤ d.y := fun y hy => by
  obtain ⟨e, he, rfl⟩ := List.mem_map.1 hy
  obtain ⟨i, hi, rfl⟩ := List.mem_iff_getElem.1 he
  by_cases hil : i = (c :: r).length - 1
  ·subst hil
   rw [List.getElem?_eq_getElem hi] at hd
   cases hd
   exact Int.le_refl _
  ·have hj : (c :: r).length - 1 < (c :: r).length := by simp
   have := List.pairwise_iff_getElem.1 pw i ((c :: r).length - 1) hi hj (by omega)
   rw [List.getElem?_eq_getElem hj] at hd
   cases hd
   unfold less at this
   simp only [decide_eq_true_eq] at this
   omega
 have dm : d.y ∈ (c :: r).map Ce.y := List.mem_map.2 ⟨d, List.mem_of_getElem? hd, rfl⟩
 have c0 := mnF_ge ((c :: r).map Ce.y) c.y
 have c1 := mnF_le ((c :: r).map Ce.y) c.y c.y ⟨Int.le_refl _, first⟩
 have c2 := mxF_ge ((c :: r).map Ce.y) c.y
 have c3 := mxF_le ((c :: r).map Ce.y) c.y d.y ⟨last _ (by simp), last⟩
 have c4 := c2.2 _ dm
 constructor <;> omega
theorem box_r {v : I} {p : List Ce} (hv : IsSl v (cells3 p)) (hl : (p.length : Int) ≤ 9223372036854775807) (H : Hp) : Gives G 37 [.m v] H (boxV p) H := by
 refine gives_pur rfl rfl rfl rfl rfl ?_
 have g := right_r hv hl []
 cases hp : p with
 | nil => subst hp; simp (contextual := true) (maxSteps := 2000000) (disch := omega) [test_cx, rest_cx, gcall_cx, gcav_cx, -Int.not_lt, -Int.not_le, -Nat.not_lt, -Nat.not_le, -List.map_take, hv.rules, boxV, boxC]
 | cons c r =>
  rw [← hp]
  have h0 : p[0]? = some c := by rw [hp]; rfl
  have hn0 := cells3_nth h0
  have e1 : 0 < p.length := by rw [hp]; simp
  obtain ⟨cl, hcl⟩ : ∃ d, p[p.length - 1]? = some d := ⟨p[p.length - 1], List.getElem?_eq_getElem (by omega)⟩
  have hla : ∀ h, (c :: r).getLast h = cl := fun h => by
   have : p.getLast (by rw [hp]; simp) = cl := by rw [List.getLast_eq_getElem, ← Option.some.injEq, ← hcl, List.getElem?_eq_getElem]
   simpa [hp] using this
  have e2 : ¬ ((p.length : Int) = 0) := by omega
  have e4 : ¬ p = [] := by rw [hp]; simp
  simp (contextual := true) (maxSteps := 2000000) (disch := omega) [test_cx, rest_cx, gcall_cx, gcav_cx, -Int.not_lt, -Int.not_le, -Nat.not_lt, -Nat.not_le, -List.map_take, hv.rules, Mx.Tryz.cl g, hn0, wr_i64, e1, e2, e4]
  refine ⟨fun hr => ?_, fun hr => ?_⟩
  ·rw [hp] at hr ⊢; simp [boxV, boxC, hr]
  refine (?key : ∀ (i : Nat) (B : List (Nat × List V)), i ≤ p.length → (∃ a b d e, getB B 2 = some [a, b, d, e]) → Run G c37_B0 (S37_0 (.m v) (.fa 2 0) (.m (.i .i64 (mnF c.x ((p.take i).map Ce.x)))) (.m (.i .i64 (mnF c.y ((p.take i).map Ce.y)))) (.m (.i .i64 (mxF c.x ((p.take i).map Ce.x)))) (.m (.i .i64 (mxF c.y ((p.take i).map Ce.y)))) (.m (.i .i64 i)) B []) _) 0 _ (Nat.zero_le _) ⟨_, _, _, _, rfl⟩
  refine indM (fun i : Nat => p.length - i) fun i ih B hi hB => ?_
  unfold c37_B0
  cases hx : p[i]? with
  | none =>
   have : i = p.length := by have := List.getElem?_eq_none_iff.1 hx; omega
   subst this
   obtain ⟨a, b, d, e, hB⟩ := hB
   have hy := right_ys (hp ▸ hr) (hp ▸ hcl)
   simp (contextual := true) (maxSteps := 2000000) (disch := omega) [hv.rules, hB, wr_i64, test_cx, rest_cx, gcall_cx, gcav_cx, -Int.not_lt, -Int.not_le, -Nat.not_lt, -Nat.not_le, -List.map_take]
   rw [hp] at hr ⊢
   simp only [List.map_cons] at hy
   simp [boxV, boxC, hr, hla, hy.1, hy.2]
  | some d =>
   have hlt := (get_drop hx).1
   have hn := cells3_nth hx
   have ih := ih (i + 1) (by omega)
   simp only [map_take_snoc _ hx, mnF_snoc, mxF_snoc] at ih
   simp (contextual := true) (maxSteps := 2000000) (disch := omega) [test_cx, rest_cx, gcall_cx, gcav_cx, -Int.not_lt, -Int.not_le, -Nat.not_lt, -Nat.not_le, -List.map_take, hv.rules, hn, hlt, wr_i64]
   exact ih _ (by omega) hB
def getF (p : List Ce) (x y : Int) : Int := match p with
 | [] => 0
 | c :: r => if c.x = x ∧ c.y = y then c.s else getF r x y
theorem get_r {v : I} {p : List Ce} (hv : IsSl v (cells3 p)) (hl : (p.length : Int) ≤ 9223372036854775807) (x y : Int) (H : Hp) : Gives G 38 [.m v, .m (.i .i64 x), .m (.i .i64 y)] H (.m (.i .i64 (getF p x y))) H := by
 refine gives_pur rfl rfl rfl rfl rfl ?_
 simp (contextual := true) (maxSteps := 2000000) (disch := omega) [test_cx, rest_cx, gcall_cx, gcav_cx, -Int.not_lt, -Int.not_le, -Nat.not_lt, -Nat.not_le, -List.map_take]
 refine (?key : ∀ (i : Nat), i ≤ p.length → getF p x y = getF (p.drop i) x y → Run G c38_B0 (S38_0 (.m v) (.m (.i .i64 x)) (.m (.i .i64 y)) (.m (.i .i64 i)) [] []) _) 0 (Nat.zero_le _) rfl
 refine indM (fun i : Nat => p.length - i) fun i ih hi hr => ?_
 unfold c38_B0
 cases hx : p[i]? with
 | none =>
  have : i = p.length := by have := List.getElem?_eq_none_iff.1 hx; omega
  subst this
  simp (contextual := true) (maxSteps := 2000000) (disch := omega) [hv.rules, hr, getF]
 | some d =>
  have hlt := (get_drop hx).1
  have hn := cells3_nth hx
  rw [(get_drop hx).2] at hr
  simp (contextual := true) (maxSteps := 2000000) (disch := omega) [test_cx, rest_cx, gcall_cx, gcav_cx, -Int.not_lt, -Int.not_le, -Nat.not_lt, -Nat.not_le, -List.map_take, hv.rules, hn, hlt, wr_i64]
  repeat' first | with_reducible apply And.intro | intro _
  all_goals first
   | (refine ih (i + 1) (by omega) (by omega) ?_; grind [getF])
   | grind [getF]
end Go.Mx.Tryz
