/- Fields of the reference: the grid of a pattern. -/
import Derived.Test.YtjkepihkilnjiaaGreatDoorRa
set_option linter.unusedSimpArgs false
set_option linter.unusedVariables false
set_option linter.unusedSectionVars false
set_option maxRecDepth 100000
namespace Go.Mx.Tryz
open Go.Lib Go.Proofs

theorem isSl_c {y : I} {es : List (List I)} (h : IsSl y es) : cellsV (.m y) = some [.m y] := by
 rcases h with rfl | ⟨rfl, _⟩ <;> rfl
theorem box_f {p : List Ce} (hr : right p = true) : ∃ (bx by_ : Int) (w h : Nat), boxC p = [bx, by_, (w : Int), (h : Int)] ∧ (w ≤ 2097153 ∧ h ≤ 2097153) ∧ (-1048576 ≤ bx ∧ bx ≤ 1048576) ∧ (-1048576 ≤ by_ ∧ by_ ≤ 1048576) ∧ (∀ c, c ∈ p → (bx ≤ c.x ∧ c.x < bx + w) ∧ (by_ ≤ c.y ∧ c.y < by_ + h)) ∧ ((1 ≤ w ∧ 1 ≤ h) ∨ (w = 0 ∧ h = 0)) := by
 cases p with
 | nil => exact ⟨0, 0, 0, 0, rfl, by omega, by omega, by omega, fun c hc => (by cases hc), .inr ⟨rfl, rfl⟩⟩
 | cons a r =>
  obtain ⟨_, hg, _⟩ := right_pwB hr
  have hb : ∀ c, c ∈ a :: r → (-1048576 ≤ c.x ∧ c.x ≤ 1048576) ∧ (-1048576 ≤ c.y ∧ c.y ≤ 1048576) := fun c hc => by
   have := hg c hc
   unfold good placed at this
   simp only [Bool.and_eq_true, decide_eq_true_eq] at this
   omega
  obtain ⟨l, hl⟩ : ∃ d, (a :: r)[(a :: r).length - 1]? = some d := ⟨_, List.getElem?_eq_getElem (by simp)⟩
  obtain ⟨y1, y2⟩ := right_ys hr hl
  have hla : ∀ h, (a :: r).getLast h = l := fun h => by
   rw [List.getLast_eq_getElem, ← Option.some.injEq, ← hl, List.getElem?_eq_getElem]
  have mx := fun (e : Ce) (he : e ∈ a :: r) => (mxF_ge ((a :: r).map Ce.x) a.x).2 _ (List.mem_map_of_mem he)
  have mn := fun (e : Ce) (he : e ∈ a :: r) => (mnF_ge ((a :: r).map Ce.x) a.x).2 _ (List.mem_map_of_mem he)
  have my := fun (e : Ce) (he : e ∈ a :: r) => (mxF_ge ((a :: r).map Ce.y) a.y).2 _ (List.mem_map_of_mem he)
  have ny := fun (e : Ce) (he : e ∈ a :: r) => (mnF_ge ((a :: r).map Ce.y) a.y).2 _ (List.mem_map_of_mem he)
  rw [y2] at my
  rw [y1] at ny
  have bX : mxF a.x ((a :: r).map Ce.x) ≤ 1048576 := mxF_le _ _ _ ⟨(hb a (List.mem_cons_self ..)).1.2, fun y hy => by
   obtain ⟨e, he, rfl⟩ := List.mem_map.1 hy
   exact (hb e he).1.2⟩
  have bN : -1048576 ≤ mnF a.x ((a :: r).map Ce.x) := mnF_le _ _ _ ⟨(hb a (List.mem_cons_self ..)).1.1, fun y hy => by
   obtain ⟨e, he, rfl⟩ := List.mem_map.1 hy
   exact (hb e he).1.1⟩
  have hlb := hb l (List.mem_of_getElem? hl)
  have hab := hb a (List.mem_cons_self ..)
  have m5 := mn a (List.mem_cons_self ..)
  have m6 := mx a (List.mem_cons_self ..)
  have m7 := my a (List.mem_cons_self ..)
  have e : boxC (a :: r) = [mnF a.x ((a :: r).map Ce.x), a.y, wr .i64 (wr .i64 (mxF a.x ((a :: r).map Ce.x) - mnF a.x ((a :: r).map Ce.x)) + 1), wr .i64 (wr .i64 (l.y - a.y) + 1)] := by
   unfold boxC
   dsimp only
   rw [if_pos hr, hla]
  generalize mnF a.x ((a :: r).map Ce.x) = n at *
  generalize mxF a.x ((a :: r).map Ce.x) = m at *
  rw [wr_i64 (x := m - n) (by omega) (by omega), wr_i64 (x := m - n + 1) (by omega) (by omega), wr_i64 (x := l.y - a.y) (by omega) (by omega), wr_i64 (x := l.y - a.y + 1) (by omega) (by omega)] at e
  obtain ⟨w, hw⟩ := Int.eq_ofNat_of_zero_le (show 0 ≤ m - n + 1 by omega)
  obtain ⟨k, hk⟩ := Int.eq_ofNat_of_zero_le (show 0 ≤ l.y - a.y + 1 by omega)
  rw [hw, hk] at e
  refine ⟨n, a.y, w, k, e, by omega, by omega, by omega, fun c hc => ?_, .inl ⟨by omega, by omega⟩⟩
  have h1 := mx c hc
  have h2 := mn c hc
  have h3 := my c hc
  have h4 := ny c hc
  omega
theorem getF_snoc {q : List Ce} {c : Ce} (h : ∀ d, d ∈ q → ¬ (d.x = c.x ∧ d.y = c.y)) (x y : Int) : getF (q ++ [c]) x y = if c.x = x ∧ c.y = y then c.s else getF q x y := by
 induction q with
 | nil => rfl
 | cons d r ih =>
  have ih := ih fun e he => h e (List.mem_cons_of_mem _ he)
  have hd := h d (List.mem_cons_self ..)
  have e1 : getF (d :: r ++ [c]) x y = if d.x = x ∧ d.y = y then d.s else getF (r ++ [c]) x y := rfl
  have e2 : getF (d :: r) x y = if d.x = x ∧ d.y = y then d.s else getF r x y := rfl
  rw [e1, e2, ih]
  by_cases h1 : d.x = x ∧ d.y = y
  ·rw [if_pos h1, if_pos h1, if_neg]
   intro h2
   exact hd ⟨by omega, by omega⟩
  ·rw [if_neg h1, if_neg h1]
theorem getF_no {p : List Ce} {x y : Int} (h : ∀ c, c ∈ p → ¬ (c.x = x ∧ c.y = y)) : getF p x y = 0 := Classical.byContradiction fun hn => by
 obtain ⟨c, hc, h1, h2, _⟩ := getF_mem hn
 exact h c hc ⟨h1, h2⟩
def gridF (p : List Ce) (bx by_ : Int) (w n : Nat) : List Int := (List.range n).map fun k => getF p (bx + ((k % w : Nat) : Int)) (by_ + ((k / w : Nat) : Int))
theorem gridF_len (p : List Ce) (bx by_ : Int) (w n : Nat) : (gridF p bx by_ w n).length = n := by simp [gridF]
theorem divmod {a b w : Nat} (h : a < w) : (b * w + a) / w = b ∧ (b * w + a) % w = a := by
 constructor
 ·rw [Nat.mul_comm, Nat.mul_add_div (by omega), Nat.div_eq_of_lt h]; rfl
 ·rw [Nat.mul_comm, Nat.mul_add_mod, Nat.mod_eq_of_lt h]
theorem grid_get (p : List Ce) (bx by_ : Int) {w n a b : Nat} (ha : a < w) (hn : b * w + a < n) : (gridF p bx by_ w n)[b * w + a]? = some (getF p (bx + a) (by_ + b)) := by
 unfold gridF
 rw [List.getElem?_map, List.getElem?_range hn]
 obtain ⟨h1, h2⟩ := divmod (b := b) ha
 show some (getF p (bx + (((b * w + a) % w : Nat) : Int)) (by_ + (((b * w + a) / w : Nat) : Int))) = _
 rw [h1, h2]
theorem grid_set {q : List Ce} {c : Ce} (bx by_ : Int) {w n a b : Nat} (ha : a < w) (hn : b * w + a < n) (hx : c.x = bx + a) (hy : c.y = by_ + b) (h : ∀ d, d ∈ q → ¬ (d.x = c.x ∧ d.y = c.y)) : gridF (q ++ [c]) bx by_ w n = (gridF q bx by_ w n).set (b * w + a) c.s := by
 refine List.ext_getElem? fun k => ?_
 rw [List.getElem?_set]
 by_cases hk : k < n
 ·have e : ∀ p, (gridF p bx by_ w n)[k]? = some (getF p (bx + ((k % w : Nat) : Int)) (by_ + ((k / w : Nat) : Int))) := fun p => by
   unfold gridF
   rw [List.getElem?_map, List.getElem?_range hk]
   rfl
  rw [e, e, gridF_len, getF_snoc h]
  by_cases hk0 : b * w + a = k
  ·subst hk0
   obtain ⟨h1, h2⟩ := divmod (b := b) ha
   rw [h1, h2, if_pos rfl, if_pos hn, if_pos ⟨hx, hy⟩]
  ·rw [if_neg hk0, if_neg]
   intro ⟨h1, h2⟩
   have e1 : k % w = a := by omega
   have e2 : k / w = b := by omega
   have := Nat.div_add_mod k w
   rw [e1, e2, Nat.mul_comm] at this
   exact hk0 this
 ·have e : ∀ p, (gridF p bx by_ w n)[k]? = none := fun p => List.getElem?_eq_none_iff.2 (by rw [gridF_len]; omega)
  rw [e, e, if_neg (by omega)]
theorem grid_nil (bx by_ : Int) (w n : Nat) : gridF [] bx by_ w n = List.replicate n 0 := by
 unfold gridF
 rw [show (fun k : Nat => getF [] (bx + ((k % w : Nat) : Int)) (by_ + ((k / w : Nat) : Int))) = fun _ => 0 from rfl, List.map_const', List.length_range]
theorem w1_x {l : List Int} {j : Nat} (h : j < l.length) (x : Int) : writeR 1 (rowsI l) j 0 [.m (.i .i64 x)] = some (rowsI (l.set j x)) := by
 have hx : l[j]? = some l[j] := List.getElem?_eq_getElem h
 have hn : nth (rowsI l) j = some [.m (.i .i64 l[j])] := by rw [nth_get]; simp [rowsI, h]
 show (nth (rowsI l) j).bind _ = _
 rw [hn]
 show setEl (rowsI l) j [.m (.i .i64 x)] = _
 rw [setEl_put _ _ _ (by rw [rowsI_len]; exact h)]
 simp [rowsI, List.map_set]
def fldI (fl : Bool) (bx by_ w h : Int) (cs li : I) : I := .ag [.b fl, .i .i64 bx, .i .i64 by_, .i .i64 w, .i .i64 h, cs, li]
structure FldV (p : List Ce) (v x : I) : Prop where
 ex : ∃ (bx by_ : Int) (w h : Nat) (fl : Bool) (cs : I), x = fldI fl bx by_ w h cs v ∧ (w ≤ 2097153 ∧ h ≤ 2097153) ∧ (-1048576 ≤ bx ∧ bx ≤ 1048576) ∧ (-1048576 ≤ by_ ∧ by_ ≤ 1048576) ∧ (∀ c, c ∈ p → (bx ≤ c.x ∧ c.x < bx + w) ∧ (by_ ≤ c.y ∧ c.y < by_ + h)) ∧ ((1 ≤ w ∧ 1 ≤ h) ∨ (w = 0 ∧ h = 0)) ∧ (fl = true → w * h ≤ 40000 ∧ IsSl cs (celI (gridF p bx by_ w (w * h)))) ∧ oneV (.m cs) = true
set_option maxHeartbeats 4000000 in
theorem states_r {v : I} {p : List Ce} (hv : IsSl v (cells3 p)) (hr : right p = true) (H : Hp) : ∃ x, FldV p v x ∧ Gives G 52 [.m v] H (.m x) H := by
 obtain ⟨pw, hg, hl⟩ := right_pwB hr
 have hrv := hv.rules
 simp only [show (cells3 p).length = p.length from by simp [cells3]] at hrv
 have hv1 := isSl_1 hv
 have hvc := isSl_c hv
 obtain ⟨bx, by_, w, h, hbx, hwh, hbx1, hby1, hin, hne⟩ := box_f hr
 have g1 := fun H => box_r hv (by omega) H
 unfold boxV at g1
 rw [hbx] at g1
 simp only [List.map_cons, List.map_nil] at g1
 obtain ⟨P, hP⟩ : ∃ P, P = w * h := ⟨_, rfl⟩
 have hPb : P ≤ 2097153 * 2097153 := by rw [hP]; exact Nat.mul_le_mul hwh.1 hwh.2
 have hPi : (w : Int) * (h : Int) = (P : Int) := by rw [hP]; simp
 have wP : wr .i64 ((w : Int) * (h : Int)) = (P : Int) := by rw [hPi]; exact wr_i64 (by omega) (by omega)
 have key : ∃ x H', Gives G 52 [.m v] H x H' ∧ (H' = H ∧ ∃ y, FldV p v y ∧ x = .m y) := by
  refine gives_of_ret ?_
  refine ret_pur rfl rfl rfl rfl rfl ?_
  generalize hQ : (fun (x : V) (H' : Hp) => H' = H ∧ ∃ y, FldV p v y ∧ x = .m y) = Q
  have qk : ∀ y, FldV p v y → Q (.m y) H := fun y hy => by rw [← hQ]; exact ⟨rfl, y, hy, rfl⟩
  clear hQ
  by_cases hf : P ≤ 40000
  ·have hf2 : (P : Int) ≤ 40000 := by omega
   have hrow : (List.replicate P ([V.m (.i .i64 0)] : List V)) = rowsI (gridF (p.take 0) bx by_ w P) := by rw [List.take_zero, grid_nil]; unfold rowsI; rw [List.map_replicate]
   have hb : (P : Int) ≤ 17592186044416 := by omega
   simp (maxSteps := 2000000) (disch := omega) [gd_in, gd_and, wr_i64, cl (g1 _), wP, hf, hf2, hv1, hvc, hb, hrow]
   refine (?key : ∀ (i b0 : Nat) (B : List (Nat × List V)), i ≤ p.length → b0 ≤ P → getB B 2 = some [.m (.b false), .m (.i .i64 0), .m (.i .i64 0), .m (.i .i64 0), .m (.i .i64 0), .m (.nl 4), .m (.nl 4)] → getB B 3 = some [.m (.i .i64 bx), .m (.i .i64 by_), .m (.i .i64 w), .m (.i .i64 h)] → getB B 5 = some [.m (.b true), .m (.i .i64 bx), .m (.i .i64 by_), .m (.i .i64 w), .m (.i .i64 h), .sl 0 P 1 0 P true, .m v] → Run G c52_B0 (S52_0 (.m v) (.fa 2 0) (.fa 3 0) (.fa 5 0) (.m (.i .i64 (i : Int))) B [Row.cs 3 1 (rowsI (gridF (p.take i) bx by_ w P)) b0 false]) _) 0 0 _ (Nat.zero_le _) (Nat.zero_le _) rfl rfl rfl
   refine indM (fun i : Nat => p.length - i) fun i ih b0 B hi hb0 hB2 hB3 hB5 => ?_
   unfold c52_B0
   cases hx : p[i]? with
   | none =>
    have : i = p.length := by have := List.getElem?_eq_none_iff.1 hx; omega
    subst this
    rw [List.take_length]
    have hvw : view 19 [Row.cs 3 1 (rowsI (gridF p bx by_ w P)) b0 false] (.sl 0 P 1 0 P true) = some (.sl (celI (gridF p bx by_ w P))) := by
     have := viewN (r := 0) (ver := P) (st := 0) (len := P) (lim := true) (base := b0) (fz := false) (l := gridF p bx by_ w P) (H := [Row.cs 3 1 (rowsI (gridF p bx by_ w P)) b0 false]) rfl hb0 17
     rw [List.drop_zero, List.take_of_length_le (by rw [gridF_len]; exact Nat.le_refl _)] at this
     exact this
    have k := qk (fldI true bx by_ w h (.sl (celI (gridF p bx by_ w P))) v) ⟨bx, by_, w, h, true, _, rfl, hwh, hbx1, hby1, hin, hne, fun _ => ⟨by omega, by rw [← hP]; exact isSl_sl _⟩, rfl⟩
    unfold fldI at k
    have hvw2 : viewR [Row.cs 3 1 (rowsI (gridF p bx by_ w P)) b0 false] (.ag [.m (.b true), .m (.i .i64 bx), .m (.i .i64 by_), .m (.i .i64 w), .m (.i .i64 h), .sl 0 P 1 0 P true, .m v]) = some (.m (.ag [.b true, .i .i64 bx, .i .i64 by_, .i .i64 w, .i .i64 h, .sl (celI (gridF p bx by_ w P)), v])) := by
     show Option.bind (Option.bind (optMap (view 19 _) _) _) _ = _
     simp only [optMap, hvw, Option.bind_some]
     rfl
    simp (maxSteps := 2000000) (disch := omega) [gd_in, gd_and, wr_i64, hrv, hB2, hB5, hv1, hvw2]
    exact k
   | some c =>
    have hlt := (get_drop hx).1
    have hlt' : (i : Int) < p.length := by omega
    have hn := cells3_nth hx
    have wi : wr .i64 ((i : Int) + 1) = ((i + 1 : Nat) : Int) := wr_i64 (by omega) (by omega)
    have hci := hin c (List.mem_of_getElem? hx)
    obtain ⟨a, ha⟩ := Int.eq_ofNat_of_zero_le (show 0 ≤ c.x - bx by omega)
    obtain ⟨b, hb⟩ := Int.eq_ofNat_of_zero_le (show 0 ≤ c.y - by_ by omega)
    have haw : a < w := by omega
    have hbh : b < h := by omega
    have hk : b * w + a < P := by
     rw [hP]
     have h1 : (b + 1) * w ≤ h * w := Nat.mul_le_mul_right _ hbh
     rw [Nat.add_mul, Nat.one_mul, Nat.mul_comm h w] at h1
     omega
    obtain ⟨M, hM⟩ : ∃ M, M = b * w := ⟨_, rfl⟩
    have hMi : (b : Int) * (w : Int) = (M : Int) := by rw [hM]; simp
    rw [← hM] at hk
    have w47 : wr .i64 (c.y - by_) = (b : Int) := by rw [hb]; exact wr_i64 (by omega) (by omega)
    have w50 : wr .i64 ((b : Int) * (w : Int)) = (M : Int) := by rw [hMi]; exact wr_i64 (by omega) (by omega)
    have w56 : wr .i64 ((M : Int) + c.x) = (M : Int) + c.x := wr_i64 (by omega) (by omega)
    obtain ⟨k0, hk0⟩ : ∃ k0, k0 = M + a := ⟨_, rfl⟩
    have w59 : wr .i64 ((M : Int) + c.x - bx) = (k0 : Int) := by rw [wr_i64 (by omega) (by omega)]; omega
    have hk1 : k0 < P := by omega
    have hk2 : (k0 : Int) < P := by omega
    have hdis : ∀ d, d ∈ p.take i → ¬ (d.x = c.x ∧ d.y = c.y) := fun d hd => by
     have pw' := pw
     rw [← List.take_append_drop i p, (get_drop hx).2] at pw'
     have := (List.pairwise_append.1 pw').2.2 d hd c (List.mem_cons_self ..)
     unfold less at this
     simp only [decide_eq_true_eq] at this
     omega
    have hgs := grid_set (q := p.take i) (c := c) bx by_ (w := w) (n := P) (a := a) (b := b) haw (by omega) (by omega) (by omega) hdis
    rw [← take_succ_get hx, ← hM, ← hk0] at hgs
    have hw1 := w1_x (l := gridF (p.take i) bx by_ w P) (j := k0) (by rw [gridF_len]; exact hk1) c.s
    rw [← hgs] at hw1
    have kk := ih (i + 1) (by omega) P B (by omega) (Nat.le_refl _) hB2 hB3 hB5
    have hrl : (rowsI (gridF (p.take i) bx by_ w P)).length = P := by rw [rowsI_len, gridF_len]
    simp (maxSteps := 2000000) (disch := omega) [gd_in, gd_and, wr_i64, hrv, hlt, hlt', hn, hB3, hB5, w47, w50, w56, w59, hk1, hk2, hw1, hrl, hb0, wi, -Int.natCast_add]
    exact kk
  ·have hf2 : ¬ (P : Int) ≤ 40000 := by omega
   have k := qk (fldI false bx by_ w h (.nl 4) v) ⟨bx, by_, w, h, false, .nl 4, rfl, hwh, hbx1, hby1, hin, hne, fun h => (by cases h), rfl⟩
   unfold fldI at k
   simp (maxSteps := 2000000) (disch := omega) [gd_in, gd_and, wr_i64, cl (g1 _), wP, hf, hf2, hv1, hvc]
   exact k
 obtain ⟨x, H', h1, rfl, y, h2, rfl⟩ := key
 exact ⟨y, h2, h1⟩
end Go.Mx.Tryz
