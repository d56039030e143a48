/- The least image is the same from every image: the plain law. -/
import Derived.Test.YtchacpbmpgfblaaDoorSi
set_option linter.unusedSimpArgs false
set_option linter.unusedVariables false
set_option linter.unusedSectionVars false
set_option maxRecDepth 100000
namespace Go.Mx.Tryd
open Go.Sort Go.Lib Go.Proofs

theorem cmpI_neg (x y : Int) : cmpI y x = - cmpI x y := by
 unfold cmpI
 split <;> split <;> (try split) <;> omega
theorem cmpC_neg (c d : Ce) : cmpC d c = - cmpC c d := by
 unfold cmpC
 by_cases hy : c.y = d.y
 ·rw [if_pos hy, if_pos hy.symm]
  by_cases hx : c.x = d.x
  ·rw [if_pos hx, if_pos hx.symm, cmpI_neg]
  ·rw [if_neg hx, if_neg (fun h => hx h.symm), cmpI_neg]
 ·rw [if_neg hy, if_neg (fun h => hy h.symm), cmpI_neg]
theorem cmpL_neg : ∀ p q : List Ce, cmpL q p = - cmpL p q
 | [], [] => rfl
 | [], _ :: _ => rfl
 | _ :: _, [] => rfl
 | c :: r, d :: t => by
  unfold cmpL
  have h := cmpC_neg c d
  by_cases h0 : cmpC c d = 0
  ·rw [if_pos h0, if_pos (by omega), cmpL_neg r t]
  ·rw [if_neg h0, if_neg (by omega), h]
theorem cmpI_le {x y : Int} : cmpI x y ≤ 0 ↔ x ≤ y := by
 unfold cmpI
 split
 ·constructor <;> intro h <;> omega
 ·split <;> constructor <;> intro h <;> omega
theorem cmpC_le {c d : Ce} : cmpC c d ≤ 0 ↔ c.y < d.y ∨ (c.y = d.y ∧ (c.x < d.x ∨ (c.x = d.x ∧ c.s ≤ d.s))) := by
 unfold cmpC
 split
 ·split
  ·rw [cmpI_le]; omega
  ·rw [cmpI_le]; omega
 ·rw [cmpI_le]; omega
theorem cmpC_tr {a b c : Ce} (h1 : cmpC a b ≤ 0) (h2 : cmpC b c ≤ 0) : cmpC a c ≤ 0 := by
 rw [cmpC_le] at *
 omega
theorem cmpL_tr : ∀ {a b c : List Ce}, cmpL a b ≤ 0 → cmpL b c ≤ 0 → cmpL a c ≤ 0
 | [], _, [], _, _ => by simp [cmpL]
 | [], _, _ :: _, _, _ => by simp [cmpL]
 | _ :: _, [], _, h, _ => by simp [cmpL] at h
 | _ :: _, _ :: _, [], _, h => by simp [cmpL] at h
 | a :: p, b :: q, c :: r, h1, h2 => by
  unfold cmpL at h1 h2 ⊢
  by_cases e1 : cmpC a b = 0
  ·have := cmpC_0.1 e1
   subst this
   rw [if_pos e1] at h1
   by_cases e2 : cmpC a c = 0
   ·rw [if_pos e2] at h2 ⊢
    exact cmpL_tr h1 h2
   ·rw [if_neg e2] at h2 ⊢
    exact h2
  ·rw [if_neg e1] at h1
   by_cases e2 : cmpC b c = 0
   ·have := cmpC_0.1 e2
    subst this
    rw [if_neg e1]
    exact h1
   ·rw [if_neg e2] at h2
    have h3 := cmpC_tr h1 h2
    by_cases e3 : cmpC a c = 0
    ·have := cmpC_0.1 e3
     subst this
     have := cmpC_neg a b
     omega
    ·rw [if_neg e3]
     exact h3
def IsMin (S : List Ce → Prop) (m : List Ce) : Prop := S m ∧ ∀ x, S x → cmpL m x ≤ 0
theorem isMin_uniq {S : List Ce → Prop} {m m' : List Ce} (h : IsMin S m) (h' : IsMin S m') : m = m' := by
 have h1 := h.2 m' h'.1
 have h2 := h'.2 m h.1
 have h3 := cmpL_neg m m'
 exact cmpL_0.1 (by omega)
theorem best_min (p : List Ce) : ∀ (g : List Int) (b : List Ce), IsMin (fun x => x = b ∨ ∃ k, k ∈ g ∧ x = imgC (modS k) p) (bestC p b g)
 | [], b => ⟨.inl rfl, fun x hx => by
  rcases hx with rfl | ⟨k, hk, _⟩
  ·exact Int.le_of_eq (cmpL_0.2 rfl)
  ·cases hk⟩
 | k :: r, b => by
  obtain ⟨h1, h2⟩ := best_min p r (stepM p b k)
  have e : bestC p b (k :: r) = bestC p (stepM p b k) r := rfl
  rw [e]
  have hs : (stepM p b k = b ∧ cmpL b (imgC (modS k) p) ≤ 0) ∨ (stepM p b k = imgC (modS k) p ∧ cmpL (imgC (modS k) p) b ≤ 0) := by
   unfold stepM
   split
   ·exact .inr ⟨rfl, by omega⟩
   ·have := cmpL_neg (imgC (modS k) p) b
    exact .inl ⟨rfl, by omega⟩
  have hle := h2 (stepM p b k) (.inl rfl)
  constructor
  ·rcases h1 with h1 | ⟨j, hj, h1⟩
   ·rcases hs with ⟨hs, _⟩ | ⟨hs, _⟩
    ·exact .inl (h1.trans hs)
    ·exact .inr ⟨k, List.mem_cons_self .., h1.trans hs⟩
   ·exact .inr ⟨j, List.mem_cons_of_mem _ hj, h1⟩
  ·intro x hx
   rcases hx with rfl | ⟨j, hj, rfl⟩
   ·rcases hs with ⟨hs, _⟩ | ⟨hs, h3⟩
    ·rw [hs] at hle ⊢; exact hle
    ·rw [hs] at hle ⊢; exact cmpL_tr hle h3
   ·rcases List.mem_cons.1 hj with rfl | hj
    ·rcases hs with ⟨hs, h3⟩ | ⟨hs, _⟩
     ·rw [hs] at hle ⊢; exact cmpL_tr hle h3
     ·rw [hs] at hle ⊢; exact hle
    ·exact h2 _ (.inr ⟨j, hj, rfl⟩)
def ImgOf (T : Nat → Bool) (p x : List Ce) : Prop := ∃ j, j < 8 ∧ T j = true ∧ x = imgC j p
theorem grp_T {l g : List Int} (h : Grp l g) : ∃ T, Clo T ∧ T 0 = true ∧ g = intsT T 8 := by
 obtain ⟨T, h1, h2, rfl⟩ := h
 refine ⟨T, h2, h1.1 0 (by omega) ?_, rfl⟩
 unfold seedT
 simp
theorem mem_intsT {T : Nat → Bool} {k : Int} : k ∈ intsT T 8 ↔ ∃ j : Nat, j < 8 ∧ T j = true ∧ k = (j : Int) := by
 unfold intsT
 rw [List.mem_map]
 constructor
 ·rintro ⟨j, hj, rfl⟩
  rw [List.mem_filter, List.mem_range] at hj
  exact ⟨j, hj.1, hj.2, rfl⟩
 ·rintro ⟨j, h1, h2, rfl⟩
  exact ⟨j, List.mem_filter.2 ⟨List.mem_range.2 h1, h2⟩, rfl⟩
theorem modS_nat {j : Nat} (h : j < 8) : modS (j : Int) = j := by unfold modS; omega
theorem best_T {T : Nat → Bool} (h0 : T 0 = true) {p : List Ce} (hp : p.Pairwise (fun a b => less a b = true)) : IsMin (ImgOf T p) (bestC p (homeC p) (intsT T 8)) := by
 obtain ⟨h1, h2⟩ := best_min p (intsT T 8) (homeC p)
 constructor
 ·rcases h1 with h1 | ⟨k, hk, h1⟩
  ·exact ⟨0, by omega, h0, by rw [img_0 hp]; exact h1⟩
  ·obtain ⟨j, hj, hT, rfl⟩ := mem_intsT.1 hk
   rw [modS_nat hj] at h1
   exact ⟨j, hj, hT, h1⟩
 ·rintro x ⟨j, hj, hT, rfl⟩
  exact h2 _ (.inr ⟨(j : Int), mem_intsT.2 ⟨j, hj, hT, rfl⟩, by rw [modS_nat hj]⟩)
theorem compT_inv {a : Nat} (ha : a < 8) : compT a (compT a (compT a a)) = 0 := by
 have : ∀ a : Fin 8, compT a.1 (compT a.1 (compT a.1 a.1)) = 0 := by decide
 exact this ⟨a, ha⟩
theorem compT_as {a b c : Nat} (ha : a < 8) (hb : b < 8) (hc : c < 8) : compT a (compT b c) = compT (compT a b) c := by
 have : ∀ a b c : Fin 8, compT a.1 (compT b.1 c.1) = compT (compT a.1 b.1) c.1 := by decide
 exact this ⟨a, ha⟩ ⟨b, hb⟩ ⟨c, hc⟩
theorem compT_0l {a : Nat} (ha : a < 8) : compT 0 a = a := compT_0 ha
theorem best_same {T : Nat → Bool} (hT : Clo T) (h0 : T 0 = true) {p q : List Ce} (hp : p.Pairwise (fun a b => less a b = true)) (hq : q.Pairwise (fun a b => less a b = true)) {j : Nat} (hj : j < 8) (hTj : T j = true)
  (h : ∀ k, k < 8 → imgC k q = imgC k (imgC j p)) : bestC q (homeC q) (intsT T 8) = bestC p (homeC p) (intsT T 8) := by
 have e : ∀ x, ImgOf T q x ↔ ImgOf T p x := fun x => by
  constructor
  ·rintro ⟨k, hk, hTk, rfl⟩
   refine ⟨compT j k, compT_lt hj hk, hT j k hj hk hTj hTk, ?_⟩
   rw [h k hk, img_img hj hk (pw_apart hp)]
  ·rintro ⟨k, hk, hTk, rfl⟩
   have j2 := compT_lt hj hj
   have j3 := compT_lt hj j2
   have t2 := hT j j hj hj hTj hTj
   have t3 := hT j _ hj j2 hTj t2
   refine ⟨compT (compT j (compT j j)) k, compT_lt j3 hk, hT _ k j3 hk t3 hTk, ?_⟩
   rw [h _ (compT_lt j3 hk), img_img hj (compT_lt j3 hk) (pw_apart hp), compT_as hj j3 hk, compT_inv hj, compT_0 hk]
 have h1 := best_T h0 hp
 have h2 := best_T h0 hq
 refine isMin_uniq h2 ⟨(e _).2 h1.1, fun x hx => h1.2 x ((e x).1 hx)⟩
theorem img_mv {u v : Int} {k : Nat} {p : List Ce} (hp : p.Pairwise apart) : imgC k (p.map (mvC u v)) = imgC k p := by
 unfold imgC
 obtain ⟨u', v', h⟩ := tnC_mv k u v
 rw [List.map_map, show (p.map (tnC k ∘ mvC u v)) = (p.map (tnC k)).map (mvC u' v') from by rw [List.map_map]; exact List.map_congr_left fun c _ => h c, home_mv]
theorem less_pw_mv (a b : Int) {p : List Ce} (h : p.Pairwise (fun a b => less a b = true)) : (p.map (mvC a b)).Pairwise (fun a b => less a b = true) := by
 rw [List.pairwise_map]
 exact h.imp fun {a b} h => by rw [less_mv]; exact h
theorem img_pw (k : Nat) {p : List Ce} (hp : p.Pairwise (fun a b => less a b = true)) : (imgC k p).Pairwise (fun a b => less a b = true) := by
 have ha : (homeC (p.map (tnC k))).Pairwise apart := move_apart _ _ (turn_apart k (pw_apart hp))
 exact sortI_pw ha
theorem span_mv (a b : Int) {p : List Ce} (h : Span p) : Span (p.map (mvC a b)) := fun c d hc hd => by
 obtain ⟨x, hx, rfl⟩ := List.mem_map.1 hc
 obtain ⟨y, hy, rfl⟩ := List.mem_map.1 hd
 have := h x y hx hy
 unfold mvC
 dsimp only
 omega
theorem span_perm {p q : List Ce} (hp : q.Perm p) (h : Span p) : Span q := fun c d hc hd => h c d (hp.mem_iff.1 hc) (hp.mem_iff.1 hd)
theorem span_img (k : Nat) {p : List Ce} (h : Span p) : Span (imgC k p) := span_perm (sortI_perm _) (span_mv _ _ (span_tn k h))
theorem large_of {p : List Ce} (hp : right p = true) (h : Span p) : largeC p = false := by
 cases p with
 | nil => rfl
 | cons a r =>
  obtain ⟨l, hl⟩ : ∃ d, (a :: r)[(a :: r).length - 1]? = some d := ⟨_, List.getElem?_eq_getElem (by simp)⟩
  have hla : ∀ h, (a :: r).getLast h = l := fun h => by
   rw [List.getLast_eq_getElem, ← Option.some.injEq, ← hl, List.getElem?_eq_getElem]
  have hlm := List.mem_of_getElem? hl
  have ham : a ∈ a :: r := List.mem_cons_self ..
  have bx := lowX_bnd hp
  have bX : mxF a.x ((a :: r).map Ce.x) ≤ 1048576 := mxF_le _ _ _ ⟨(right_bnd hp ham).1.2, fun y hy => by
   obtain ⟨e, he, rfl⟩ := List.mem_map.1 hy
   exact (right_bnd hp he).1.2⟩
  have hb1 := right_bnd hp ham
  have hb2 := right_bnd hp hlm
  have m5 : mnF a.x ((a :: r).map Ce.x) ≤ a.x := (mnF_ge ((a :: r).map Ce.x) a.x).1
  have m6 : a.x ≤ mxF a.x ((a :: r).map Ce.x) := (mxF_ge ((a :: r).map Ce.x) a.x).1
  have bx' : -1048576 ≤ mnF a.x ((a :: r).map Ce.x) := bx.1
  have k1 : mxF a.x ((a :: r).map Ce.x) ≤ mnF a.x ((a :: r).map Ce.x) + 1048576 := by
   refine mxF_le _ _ _ ⟨?_, fun y hy => ?_⟩
   ·have : a.x - 1048576 ≤ mnF a.x ((a :: r).map Ce.x) := mnF_le _ _ _ ⟨by omega, fun z hz => by
     obtain ⟨e, he, rfl⟩ := List.mem_map.1 hz
     have := (h a e ham he).1
     omega⟩
    omega
   ·obtain ⟨e, he, rfl⟩ := List.mem_map.1 hy
    have : e.x - 1048576 ≤ mnF a.x ((a :: r).map Ce.x) := mnF_le _ _ _ ⟨by have := (h e a he ham).1; omega, fun z hz => by
     obtain ⟨f, hf, rfl⟩ := List.mem_map.1 hz
     have := (h e f he hf).1
     omega⟩
    omega
  have k2 := (h l a hlm ham).2
  have k3 := (h a l ham hlm).2
  unfold largeC boxC
  dsimp only
  rw [if_pos hp, hla]
  generalize mnF a.x ((a :: r).map Ce.x) = n at *
  generalize mxF a.x ((a :: r).map Ce.x) = m at *
  dsimp only
  rw [wr_i64 (x := m - n) (by omega) (by omega), wr_i64 (x := m - n + 1) (by omega) (by omega), wr_i64 (x := l.y - a.y) (by omega) (by omega), wr_i64 (x := l.y - a.y + 1) (by omega) (by omega)]
  simp only [decide_eq_false_iff_not]
  omega
end Go.Mx.Tryd
