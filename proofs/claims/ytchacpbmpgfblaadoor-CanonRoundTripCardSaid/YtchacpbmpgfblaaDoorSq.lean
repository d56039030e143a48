/- Images of images: plain facts. -/
import Derived.Test.YtchacpbmpgfblaaDoorCp
set_option linter.unusedSimpArgs false
set_option linter.unusedVariables false
set_option linter.unusedSectionVars false
set_option maxRecDepth 100000
namespace Go.Mx.Tryd
open Go.Sort Go.Lib Go.Proofs

theorem low_mv (g : Ce → Int) (d : Int) (f : Ce → Ce) (hf : ∀ c, g (f c) = g c - d) {l : List Ce} (hne : l ≠ []) : lowK g (l.map f) = lowK g l - d := by
 obtain ⟨a1, a2⟩ := low_glb g hne
 obtain ⟨b1, b2⟩ := low_glb g (p := l.map f) (by simpa using hne)
 have h1 := a2 (lowK g (l.map f) + d) fun c hc => by
  have := b1 (f c) (List.mem_map_of_mem hc)
  rw [hf] at this
  omega
 have h2 := b2 (lowK g l - d) fun c hc => by
  obtain ⟨e, he, rfl⟩ := List.mem_map.1 hc
  have := a1 e he
  rw [hf]
  omega
 omega
theorem home_mv (u v : Int) (l : List Ce) : homeC (l.map (mvC u v)) = homeC l := by
 by_cases hl : l = []
 ·subst hl; rfl
 ·have e1 := low_mv Ce.x u (mvC u v) (fun _ => rfl) hl
  have e2 := low_mv Ce.y v (mvC u v) (fun _ => rfl) hl
  rw [lowK_x, lowK_x] at e1
  rw [lowK_y, lowK_y] at e2
  unfold homeC
  rw [e1, e2, List.map_map]
  refine List.map_congr_left fun c _ => ?_
  show mvC _ _ (mvC u v c) = _
  unfold mvC
  congr 1
  ·dsimp only; omega
  ·dsimp only; omega
theorem img_0 {p : List Ce} (hp : p.Pairwise (fun a b => less a b = true)) : imgC 0 p = homeC p := by
 unfold imgC
 have e : p.map (tnC 0) = p := by
  have : ∀ c ∈ p, tnC 0 c = c := fun c _ => rfl
  rw [List.map_congr_left this, List.map_id']
 rw [e]
 exact pw_uniq (home_pw hp) (sortI_pw (pw_apart (home_pw hp))) (sortI_perm _)

theorem home_home (p : List Ce) : homeC (homeC p) = homeC p := home_mv _ _ p
theorem home_len (p : List Ce) : (homeC p).length = p.length := by unfold homeC; simp
def formE (p : List Ce) : Option Int := if right p = true then if largeC p = true then some 5 else none else some 2
theorem formE_none {p : List Ce} (h : formE p = none) : right p = true ∧ largeC p = false := by
 unfold formE at h
 cases hr : right p <;> cases hl : largeC p <;> simp_all
theorem span_mv (a b : Int) {p : List Ce} (h : Span p) : Span (p.map (mvC a b)) := fun c d hc hd => by
 obtain ⟨x, hx, rfl⟩ := List.mem_map.1 hc
 obtain ⟨y, hy, rfl⟩ := List.mem_map.1 hd
 have := h x y hx hy
 unfold mvC
 dsimp only
 omega
theorem large_of {p : List Ce} (hp : right p = true) (h : Span p) : largeC p = false := by
 cases p with
 | nil => rfl
 | cons a r =>
  obtain ⟨l, hl⟩ : ∃ d, (a :: r)[(a :: r).length - 1]? = some d := ⟨_, List.getElem?_eq_getElem (by simp)⟩
  have hla : ∀ h, (a :: r).getLast h = l := fun h => by
   rw [List.getLast_eq_getElem, ← Option.some.injEq, ← hl, List.getElem?_eq_getElem]
  have hlm := List.mem_of_getElem? hl
  have ham : a ∈ a :: r := List.mem_cons_self ..
  have bx := lowX_bnd hp
  have bX : mxF a.x ((a :: r).map Ce.x) ≤ 1048576 := mxF_le _ _ _ ⟨(right_bnd hp ham).1.2, fun y hy => by
   obtain ⟨e, he, rfl⟩ := List.mem_map.1 hy
   exact (right_bnd hp he).1.2⟩
  have hb1 := right_bnd hp ham
  have hb2 := right_bnd hp hlm
  have m5 : mnF a.x ((a :: r).map Ce.x) ≤ a.x := (mnF_ge ((a :: r).map Ce.x) a.x).1
  have m6 : a.x ≤ mxF a.x ((a :: r).map Ce.x) := (mxF_ge ((a :: r).map Ce.x) a.x).1
  have bx' : -1048576 ≤ mnF a.x ((a :: r).map Ce.x) := bx.1
  have k1 : mxF a.x ((a :: r).map Ce.x) ≤ mnF a.x ((a :: r).map Ce.x) + 1048576 := by
   refine mxF_le _ _ _ ⟨?_, fun y hy => ?_⟩
   ·have : a.x - 1048576 ≤ mnF a.x ((a :: r).map Ce.x) := mnF_le _ _ _ ⟨by omega, fun z hz => by
     obtain ⟨e, he, rfl⟩ := List.mem_map.1 hz
     have := (h a e ham he).1
     omega⟩
    omega
   ·obtain ⟨e, he, rfl⟩ := List.mem_map.1 hy
    have : e.x - 1048576 ≤ mnF a.x ((a :: r).map Ce.x) := mnF_le _ _ _ ⟨by have := (h e a he ham).1; omega, fun z hz => by
     obtain ⟨f, hf, rfl⟩ := List.mem_map.1 hz
     have := (h e f he hf).1
     omega⟩
    omega
  have k2 := (h l a hlm ham).2
  have k3 := (h a l ham hlm).2
  unfold largeC boxC
  dsimp only
  rw [if_pos hp, hla]
  generalize mnF a.x ((a :: r).map Ce.x) = n at *
  generalize mxF a.x ((a :: r).map Ce.x) = m at *
  dsimp only
  rw [wr_i64 (x := m - n) (by omega) (by omega), wr_i64 (x := m - n + 1) (by omega) (by omega), wr_i64 (x := l.y - a.y) (by omega) (by omega), wr_i64 (x := l.y - a.y + 1) (by omega) (by omega)]
  simp only [decide_eq_false_iff_not]
  omega
theorem isSl_cel {y : I} {es : List (List I)} (h : IsSl y es) : cellsV (.m y) = some [.m y] ∧ oneV (.m y) = true := by
 rcases h with rfl | ⟨rfl, _⟩ <;> exact ⟨rfl, rfl⟩
end Go.Mx.Tryd
