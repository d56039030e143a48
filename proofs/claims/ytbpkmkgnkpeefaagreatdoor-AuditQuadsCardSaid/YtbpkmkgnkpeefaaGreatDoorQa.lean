/- Contents of stores of quadtrees: the plain law. -/
import Derived.Test.YtbpkmkgnkpeefaaGreatDoorLaw
set_option linter.unusedSimpArgs false
set_option linter.unusedVariables false
set_option linter.unusedSectionVars false
set_option maxRecDepth 100000
namespace Go.Mx.Tryz

structure Qd where
 a : Int
 b : Int
 c : Int
 d : Int
deriving DecidableEq
namespace Qd
def ks (x : Qd) : List Int := [x.a, x.b, x.c, x.d]
end Qd
def lvA (s : Int) (L : List Int) (k : Int) : Int := if k < s then 0 else L.getD (k - s).toNat 0
def levF (s : Int) (L : List Int) (x : Qd) : List Int := L ++ [lvA s L x.a + 1]
def levs (s : Int) (l : List Qd) : List Int := l.foldl (levF s) []
theorem levs_snoc (s : Int) (l : List Qd) (x : Qd) : levs s (l ++ [x]) = levs s l ++ [lvA s (levs s l) x.a + 1] := by
 unfold levs
 rw [List.foldl_append]
 rfl
theorem levF_len (s : Int) : ∀ (l : List Qd) (L : List Int), (l.foldl (levF s) L).length = L.length + l.length ∧ (l.foldl (levF s) L).take L.length = L
 | [], L => by simp
 | x :: r, L => by
  obtain ⟨h1, h2⟩ := levF_len s r (levF s L x)
  have e : (levF s L x).length = L.length + 1 := by simp [levF]
  rw [e] at h1 h2
  refine ⟨by rw [List.foldl_cons, h1, List.length_cons]; omega, ?_⟩
  have := congrArg (List.take L.length) h2
  rw [List.take_take, Nat.min_eq_left (by omega)] at this
  rw [List.foldl_cons, this]
  simp [levF]
theorem levs_len (s : Int) (l : List Qd) : (levs s l).length = l.length := by
 have := (levF_len s l []).1
 simpa [levs] using this
theorem levs_app (s : Int) (l r : List Qd) : (levs s (l ++ r)).take l.length = levs s l := by
 unfold levs
 rw [List.foldl_append]
 have := (levF_len s r (l.foldl (levF s) [])).2
 have h := levs_len s l
 unfold levs at h
 rw [h] at this
 exact this
theorem levs_take (s : Int) (l : List Qd) (i : Nat) : (levs s l).take i = levs s (l.take i) := by
 by_cases h : i ≤ l.length
 ·have := levs_app s (l.take i) (l.drop i)
  rw [List.take_append_drop, List.length_take, Nat.min_eq_left h] at this
  exact this
 ·rw [List.take_of_length_le (by rw [levs_len]; omega), List.take_of_length_le (by omega)]
theorem lvA_take {s : Int} {l : List Qd} {i : Nat} {k : Int} (h : k < s + i) (_ : i ≤ l.length) : lvA s (levs s (l.take i)) k = lvA s (levs s l) k := by
 unfold lvA
 by_cases hk : k < s
 ·rw [if_pos hk, if_pos hk]
 ·rw [if_neg hk, if_neg hk, ← levs_take, List.getD_eq_getElem?_getD, List.getD_eq_getElem?_getD, List.getElem?_take, if_pos (by omega)]
def inR (s : Int) (i : Nat) (x : Qd) : Prop := ∀ k, k ∈ x.ks → 0 ≤ k ∧ k < s + (i : Int)
def eqL (s : Int) (L : List Int) (x : Qd) : Prop := ∀ k, k ∈ x.ks → lvA s L k = lvA s L x.a
instance (s : Int) (i : Nat) (x : Qd) : Decidable (inR s i x) := by unfold inR; infer_instance
instance (s : Int) (L : List Int) (x : Qd) : Decidable (eqL s L x) := by unfold eqL; infer_instance
def GoodQ (s : Int) (l : List Qd) (i : Nat) (x : Qd) : Prop := inR s i x ∧ eqL s (levs s (l.take i)) x ∧ lvA s (levs s (l.take i)) x.a < 256 ∧ ¬ x ∈ l.take i
instance (s : Int) (l : List Qd) (i : Nat) (x : Qd) : Decidable (GoodQ s l i x) := by unfold GoodQ; infer_instance
def okQ (s : Int) (l : List Qd) (n : Nat) : Bool := (List.range n).all fun i => (l[i]?).all fun x => decide (GoodQ s l i x)
theorem okQ_succ {s : Int} {l : List Qd} {n : Nat} {x : Qd} (h : l[n]? = some x) : okQ s l (n + 1) = (okQ s l n && decide (GoodQ s l n x)) := by
 unfold okQ
 rw [List.range_succ, List.all_append]
 simp [h]
theorem okQ_get {s : Int} {l : List Qd} {n i : Nat} {x : Qd} (h : okQ s l n = true) (hi : i < n) (hx : l[i]? = some x) : GoodQ s l i x := by
 unfold okQ at h
 have := List.all_eq_true.1 h i (List.mem_range.2 hi)
 rw [hx] at this
 exact of_decide_eq_true this
theorem okQ_le {s : Int} {l : List Qd} {m n : Nat} (hmn : m ≤ n) (h : okQ s l n = true) : okQ s l m = true := by
 unfold okQ at *
 rw [List.all_eq_true] at *
 exact fun i hi => h i (List.mem_range.2 (by have := List.mem_range.1 hi; omega))
def allQ (l : List Qd) (f : Nat → Qd → Bool) : Bool := (List.range l.length).all fun i => (l[i]?).all fun x => f i x
theorem allQ_iff {l : List Qd} {f : Nat → Qd → Bool} : allQ l f = true ↔ ∀ i x, l[i]? = some x → f i x = true := by
 unfold allQ
 rw [List.all_eq_true]
 constructor
 ·intro h i x hx
  have := h i (List.mem_range.2 (List.getElem?_eq_some_iff.1 hx).1)
  rw [hx] at this
  exact this
 ·intro h i hi
  cases hx : l[i]? with
  | none => rfl
  | some x => exact h i x hx
def numQ (s : Int) (l : List Qd) : Int :=
 if s < 2 ∨ 8 < s then 1 else if 100000 < l.length then 2
 else if allQ l (fun i x => decide (inR s i x)) = false then 3
 else if allQ l (fun i x => decide (eqL s (levs s (l.take i)) x)) = false then 4
 else if allQ l (fun i x => decide (lvA s (levs s (l.take i)) x.a < 256)) = false then 5
 else if allQ l (fun i x => decide (¬ x ∈ l.take i)) = false then 6 else 0
def rightQ (s : Int) (l : List Qd) : Bool := !decide (s < 2 ∨ 8 < s) && (!decide (100000 < l.length) && okQ s l l.length)
theorem okQ_all {s : Int} {l : List Qd} : okQ s l l.length = (allQ l (fun i x => decide (inR s i x)) && (allQ l (fun i x => decide (eqL s (levs s (l.take i)) x)) && (allQ l (fun i x => decide (lvA s (levs s (l.take i)) x.a < 256)) && allQ l (fun i x => decide (¬ x ∈ l.take i))))) := by
 rw [Bool.eq_iff_iff, Bool.and_eq_true, Bool.and_eq_true, Bool.and_eq_true]
 have e : okQ s l l.length = allQ l fun i x => decide (GoodQ s l i x) := rfl
 rw [e, allQ_iff, allQ_iff, allQ_iff, allQ_iff, allQ_iff]
 simp only [decide_eq_true_eq]
 constructor
 ·exact fun h => ⟨fun i x hx => (h i x hx).1, fun i x hx => (h i x hx).2.1, fun i x hx => (h i x hx).2.2.1, fun i x hx => (h i x hx).2.2.2⟩
 ·exact fun ⟨h1, h2, h3, h4⟩ i x hx => ⟨h1 i x hx, h2 i x hx, h3 i x hx, h4 i x hx⟩
theorem numQ_0 {s : Int} {l : List Qd} : decide (numQ s l = 0) = rightQ s l := by
 unfold numQ rightQ
 rw [okQ_all]
 generalize allQ l (fun i x => decide (inR s i x)) = a
 generalize allQ l (fun i x => decide (eqL s (levs s (l.take i)) x)) = b
 generalize allQ l (fun i x => decide (lvA s (levs s (l.take i)) x.a < 256)) = c
 generalize allQ l (fun i x => decide (¬ x ∈ l.take i)) = d
 by_cases h1 : s < 2 ∨ 8 < s
 ·rw [if_pos h1, decide_eq_true h1]; rfl
 ·rw [if_neg h1, decide_eq_false h1]
  by_cases h2 : 100000 < l.length
  ·rw [if_pos h2, decide_eq_true h2]; rfl
  ·rw [if_neg h2, decide_eq_false h2]
   cases a <;> cases b <;> cases c <;> cases d <;> rfl
theorem lvA_step {s : Int} {l : List Qd} {n : Nat} (hok : okQ s l n = true) {k : Int} (h1 : s ≤ k) (h2 : k < s + n) {x : Qd} (hx : l[(k - s).toNat]? = some x) : lvA s (levs s l) k = lvA s (levs s l) x.a + 1 ∧ 0 ≤ x.a ∧ x.a < k := by
 obtain ⟨j, hj⟩ : ∃ j, j = (k - s).toNat := ⟨_, rfl⟩
 rw [← hj] at hx
 have hjl := (List.getElem?_eq_some_iff.1 hx).1
 have hg := okQ_get hok (i := j) (by omega) hx
 have ha := hg.1 x.a (by simp [Qd.ks])
 refine ⟨?_, ha.1, by omega⟩
 have e : lvA s (levs s l) k = (levs s l).getD j 0 := by unfold lvA; rw [if_neg (by omega), ← hj]
 have e2 : levs s (l.take (j + 1)) = levs s (l.take j) ++ [lvA s (levs s (l.take j)) x.a + 1] := by
  rw [← levs_snoc]
  congr 1
  rw [List.take_add_one, hx]
  rfl
 rw [e, List.getD_eq_getElem?_getD]
 have e3 : (levs s l)[j]? = (levs s (l.take (j + 1)))[j]? := by
  rw [← levs_take, List.getElem?_take, if_pos (by omega)]
 have hlt : (levs s (l.take j)).length = j := by rw [levs_len, List.length_take]; omega
 rw [e3, e2, List.getElem?_append_right (by omega), hlt, Nat.sub_self]
 show lvA s (levs s (l.take j)) x.a + 1 = _
 rw [lvA_take ha.2 (by omega)]
theorem lvA_nn {s : Int} (l : List Qd) : ∀ y, y ∈ levs s l → 0 ≤ y := by
 suffices h : ∀ n, ∀ y, y ∈ levs s (l.take n) → 0 ≤ y by
  have := h l.length
  rwa [List.take_of_length_le (Nat.le_refl _)] at this
 intro n
 induction n with
 | zero => intro y hy; simp [levs] at hy
 | succ n ih =>
  intro y hy
  cases hx : l[n]? with
  | none =>
   rw [List.take_of_length_le (by have := List.getElem?_eq_none_iff.1 hx; omega)] at hy
   rw [List.take_of_length_le (by have := List.getElem?_eq_none_iff.1 hx; omega)] at ih
   exact ih y hy
  | some x =>
   rw [List.take_add_one, hx] at hy
   show 0 ≤ y
   have hy : y ∈ levs s (l.take n ++ [x]) := hy
   rw [levs_snoc] at hy
   rcases List.mem_append.1 hy with hy | hy
   ·exact ih y hy
   ·rw [List.mem_singleton.1 hy]
    unfold lvA
    split
    ·omega
    ·rw [List.getD_eq_getElem?_getD]
     cases hz : (levs s (l.take n))[(x.a - s).toNat]? with
     | none => simp
     | some z =>
      have := ih z (List.mem_of_getElem? hz)
      simp
      omega
theorem lvA_0 {s : Int} (l : List Qd) (k : Int) : 0 ≤ lvA s (levs s l) k := by
 unfold lvA
 split
 ·omega
 ·rw [List.getD_eq_getElem?_getD]
  cases hz : (levs s l)[(k - s).toNat]? with
  | none => simp
  | some z => exact lvA_nn l z (List.mem_of_getElem? hz)
end Go.Mx.Tryz
