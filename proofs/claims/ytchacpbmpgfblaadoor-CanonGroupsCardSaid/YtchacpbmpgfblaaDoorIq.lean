/- The image of a pattern: both texts give the same; when it is a pattern. -/
import Derived.Test.YtchacpbmpgfblaaDoorIm
set_option linter.unusedSimpArgs false
set_option linter.unusedVariables false
set_option linter.unusedSectionVars false
set_option maxRecDepth 100000
namespace Go.Mx.Tryd
open Go.Sort Go.Lib Go.Proofs

theorem low_glb (g : Ce → Int) {p : List Ce} (hne : p ≠ []) : (∀ c, c ∈ p → lowK g p ≤ g c) ∧ ∀ x, (∀ c, c ∈ p → x ≤ g c) → x ≤ lowK g p := by
 obtain ⟨c, r, rfl⟩ := List.exists_cons_of_ne_nil hne
 refine ⟨fun d hd => (mnF_ge ((c :: r).map g) (g c)).2 _ (List.mem_map_of_mem hd), fun x hx => mnF_le _ _ _ ⟨hx c (List.mem_cons_self ..), fun y hy => ?_⟩⟩
 obtain ⟨d, hd, rfl⟩ := List.mem_map.1 hy
 exact hx d hd
theorem low_perm (g : Ce → Int) {p q : List Ce} (h : q.Perm p) : lowK g q = lowK g p := by
 by_cases hp : p = []
 ·subst hp; rw [h.eq_nil]
 ·have hq : q ≠ [] := fun e => hp (by subst e; exact h.symm.eq_nil)
  obtain ⟨a1, a2⟩ := low_glb g hp
  obtain ⟨b1, b2⟩ := low_glb g hq
  have h1 := a2 (lowK g q) fun c hc => b1 c (h.mem_iff.2 hc)
  have h2 := b2 (lowK g p) fun c hc => a1 c (h.mem_iff.1 hc)
  omega
theorem home_perm {p q : List Ce} (h : q.Perm p) : (homeC q).Perm (homeC p) := by
 unfold homeC
 rw [← lowK_x, ← lowK_y, ← lowK_x, ← lowK_y, low_perm Ce.x h, low_perm Ce.y h]
 exact h.map _
theorem less_mv (a b : Int) (c d : Ce) : less (mvC a b c) (mvC a b d) = less c d := by
 unfold less mvC
 rw [Bool.eq_iff_iff]
 simp only [decide_eq_true_eq]
 omega
theorem home_pw {p : List Ce} (h : p.Pairwise (fun a b => less a b = true)) : (homeC p).Pairwise (fun a b => less a b = true) := by
 unfold homeC
 rw [List.pairwise_map]
 exact h.imp fun {a b} h => by rw [less_mv]; exact h
def imgC (k : Nat) (p : List Ce) : List Ce := sortI (homeC (p.map (tnC k)))
theorem imgQ_eq {k : Nat} {p q : List Ce} (hp : p.Pairwise (fun a b => less a b = true)) (h : ImgQ k p q) : q = imgC k p := by
 obtain ⟨t, ⟨h1, h2⟩, rfl⟩ := h
 have ha : (homeC (p.map (tnC k))).Pairwise apart := move_apart _ _ (turn_apart k (pw_apart hp))
 exact pw_uniq (sortI_pw ha) (home_pw h2) ((home_perm h1).trans (sortI_perm _).symm)
theorem img_s {v : I} {p : List Ce} (hv : IsSl v (cells3 p)) (hp : right p = true) (k : Int) (H : Hp) : Gives G 59 [.m v, .m (.i .i64 k)] H (.m (.sl (cells3 (imgC (modS k) p)))) H := by
 obtain ⟨q, hq, hg⟩ := image_s hv hp k H
 rw [imgQ_eq (right_pw hp).1 hq] at hg
 exact hg
def Span (p : List Ce) : Prop := ∀ c d, c ∈ p → d ∈ p → c.x - d.x ≤ 1048576 ∧ c.y - d.y ≤ 1048576
theorem span_tn (k : Nat) {p : List Ce} (h : Span p) : Span (p.map (tnC k)) := fun c d hc hd => by
 obtain ⟨a, ha, rfl⟩ := List.mem_map.1 hc
 obtain ⟨b, hb, rfl⟩ := List.mem_map.1 hd
 have h1 := h a b ha hb
 have h2 := h b a hb ha
 unfold tnC appT
 split <;> dsimp only <;> omega
theorem span_good {p : List Ce} (h : Span p) (hs : ∀ c, c ∈ p → 1 ≤ c.s ∧ c.s < 8) : ∀ c, c ∈ homeC p → good c = true := fun c hc => by
 obtain ⟨d, hd, rfl⟩ := List.mem_map.1 hc
 have hne : p ≠ [] := fun e => by subst e; cases hd
 obtain ⟨x1, x2⟩ := low_glb Ce.x hne
 obtain ⟨y1, y2⟩ := low_glb Ce.y hne
 have a1 := x1 d hd
 have b1 := y1 d hd
 have a2 := x2 (d.x - 1048576) fun e he => by have := (h d e hd he).1; omega
 have b2 := y2 (d.y - 1048576) fun e he => by have := (h d e hd he).2; omega
 rw [lowK_x] at a1 a2
 rw [lowK_y] at b1 b2
 have := hs d hd
 unfold good placed mvC
 simp only [Bool.and_eq_true, decide_eq_true_eq]
 omega
theorem tn_s {k : Nat} {p : List Ce} (hp : right p = true) : ∀ c, c ∈ p.map (tnC k) → 1 ≤ c.s ∧ c.s < 8 := fun c hc => by
 obtain ⟨d, hd, rfl⟩ := List.mem_map.1 hc
 exact (right_bnd hp hd).2.2
theorem img_good {k : Nat} {p : List Ce} (hp : right p = true) (h : Span p) : ∀ c, c ∈ homeC (p.map (tnC k)) → good c = true := span_good (span_tn k h) (tn_s hp)
theorem img_right {k : Nat} {p : List Ce} (hp : right p = true) (h : Span p) : right (imgC k p) = true := by
 have ha : (homeC (p.map (tnC k))).Pairwise apart := move_apart _ _ (turn_apart k (pw_apart (right_pw hp).1))
 refine right_of (sortI_pw ha) (fun c hc => img_good hp h c ((sortI_perm _).mem_iff.1 hc)) ?_
 unfold imgC
 rw [sortI_len]
 unfold homeC
 rw [List.length_map, List.length_map]
 exact (right_pw hp).2.2
theorem img_r {v : I} {p : List Ce} (hv : IsSl v (cells3 p)) (hp : right p = true) (hs : Span p) (k : Int) (hk : -9223372036854775808 ≤ k ∧ k ≤ 9223372036854775807) (H : Hp) : Gives G 17 [.m v, .m (.i .i64 k)] H (.m (zP (imgC (modS k) p))) H := image_r hv hp k hk H (img_good hp hs)
def largeC (p : List Ce) : Bool := match boxC p with
 | [_, _, w, h] => decide (1048577 < w ∨ 1048577 < h)
 | _ => false
theorem boxC_4 (p : List Ce) : ∃ x y w h, boxC p = [x, y, w, h] := by
 unfold boxC
 split
 ·exact ⟨_, _, _, _, rfl⟩
 ·split
  ·exact ⟨_, _, _, _, rfl⟩
  ·exact ⟨_, _, _, _, rfl⟩
theorem large_s {v : I} {p : List Ce} (hv : IsSl v (cells3 p)) (hl : (p.length : Int) ≤ 9223372036854775807) (H : Hp) : Gives G 25 [.m v] H (.m (.b (largeC p))) H := by
 have gb := fun H => box_s hv hl H
 obtain ⟨x, y, w, h, e⟩ := boxC_4 p
 have e2 : boxV p = .tu [.m (.ag [.i .i64 x, .i .i64 y, .i .i64 w, .i .i64 h]), .m (.b (!p.isEmpty && right p))] := by unfold boxV; rw [e]; rfl
 rw [e2] at gb
 have e3 : largeC p = decide (1048577 < max w h) := by
  unfold largeC
  rw [e]
  dsimp only
  congr 1
  rw [eq_iff_iff]
  omega
 rw [e3]
 refine gives_pur rfl rfl rfl rfl rfl ?_
 simp (maxSteps := 2000000) (disch := omega) [gd_in, gd_and, wr_i64, cl (gb _)]
theorem large_r {v : I} {p : List Ce} (hv : IsSl v (cells3 p)) (hl : (p.length : Int) ≤ 9223372036854775807) (H : Hp) : Gives G 20 [.m v] H (.m (.b (largeC p))) H := by
 have gb := fun H => box_r hv hl H
 obtain ⟨x, y, w, h, e⟩ := boxC_4 p
 have e2 : boxV p = .tu [.m (.ag [.i .i64 x, .i .i64 y, .i .i64 w, .i .i64 h]), .m (.b (!p.isEmpty && right p))] := by unfold boxV; rw [e]; rfl
 rw [e2] at gb
 refine gives_pur rfl rfl rfl rfl rfl ?_
 have e3 : largeC p = decide (1048577 < w ∨ 1048577 < h) := by
  unfold largeC
  rw [e]
 rw [e3]
 by_cases hw : 1048577 < w
 ·simp (maxSteps := 2000000) (disch := omega) [gd_in, gd_and, wr_i64, cl (gb _), hw]
 ·simp (maxSteps := 2000000) (disch := omega) [gd_in, gd_and, wr_i64, cl (gb _), hw]
theorem span_of {p : List Ce} (hp : right p = true) (h : largeC p = false) : Span p := by
 intro c d hc hd
 cases p with
 | nil => cases hc
 | cons a r =>
  obtain ⟨l, hl⟩ : ∃ d, (a :: r)[(a :: r).length - 1]? = some d := ⟨_, List.getElem?_eq_getElem (by simp)⟩
  obtain ⟨y1, y2⟩ := right_ys hp hl
  have hla : ∀ h, (a :: r).getLast h = l := fun h => by
   rw [List.getLast_eq_getElem, ← Option.some.injEq, ← hl, List.getElem?_eq_getElem]
  have mx := fun (e : Ce) (he : e ∈ a :: r) => (mxF_ge ((a :: r).map Ce.x) a.x).2 _ (List.mem_map_of_mem he)
  have mn := fun (e : Ce) (he : e ∈ a :: r) => (mnF_ge ((a :: r).map Ce.x) a.x).2 _ (List.mem_map_of_mem he)
  have my := fun (e : Ce) (he : e ∈ a :: r) => (mxF_ge ((a :: r).map Ce.y) a.y).2 _ (List.mem_map_of_mem he)
  have ny := fun (e : Ce) (he : e ∈ a :: r) => (mnF_ge ((a :: r).map Ce.y) a.y).2 _ (List.mem_map_of_mem he)
  have bx := lowX_bnd hp
  have bX : mxF a.x ((a :: r).map Ce.x) ≤ 1048576 := mxF_le _ _ _ ⟨(right_bnd hp (List.mem_cons_self ..)).1.2, fun y hy => by
   obtain ⟨e, he, rfl⟩ := List.mem_map.1 hy
   exact (right_bnd hp he).1.2⟩
  have hb1 := right_bnd hp (List.mem_cons_self (a := a) (l := r))
  have hb2 := right_bnd hp (List.mem_of_getElem? hl)
  have m1 := mx c hc
  have m2 := mn d hd
  have m3 := my c hc
  have m4 := ny d hd
  have m5 := mn a (List.mem_cons_self ..)
  have m6 := mx a (List.mem_cons_self ..)
  have bx' : -1048576 ≤ mnF a.x ((a :: r).map Ce.x) := bx.1
  unfold largeC boxC at h
  dsimp only at h
  rw [if_pos hp, hla] at h
  rw [y1] at m4
  rw [y2] at m3
  generalize mnF a.x ((a :: r).map Ce.x) = n at *
  generalize mxF a.x ((a :: r).map Ce.x) = m at *
  dsimp only at h
  rw [wr_i64 (x := m - n) (by omega) (by omega), wr_i64 (x := m - n + 1) (by omega) (by omega), wr_i64 (x := l.y - a.y) (by omega) (by omega), wr_i64 (x := l.y - a.y + 1) (by omega) (by omega)] at h
  simp only [decide_eq_false_iff_not] at h
  omega
end Go.Mx.Tryd
