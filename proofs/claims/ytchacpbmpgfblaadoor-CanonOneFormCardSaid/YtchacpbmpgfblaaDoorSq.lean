/- Images of images: plain facts. -/
import Derived.Test.YtchacpbmpgfblaaDoorFm
set_option linter.unusedSimpArgs false
set_option linter.unusedVariables false
set_option linter.unusedSectionVars false
set_option maxRecDepth 100000
namespace Go.Mx.Tryd
open Go.Sort Go.Lib Go.Proofs

theorem appT_comp {a b : Nat} (ha : a < 8) (hb : b < 8) (x y : Int) : appT (compT a b) x y = appT b (appT a x y).1 (appT a x y).2 := by
 have h1 : a = 0 ∨ a = 1 ∨ a = 2 ∨ a = 3 ∨ a = 4 ∨ a = 5 ∨ a = 6 ∨ a = 7 := by omega
 have h2 : b = 0 ∨ b = 1 ∨ b = 2 ∨ b = 3 ∨ b = 4 ∨ b = 5 ∨ b = 6 ∨ b = 7 := by omega
 rcases h1 with rfl | rfl | rfl | rfl | rfl | rfl | rfl | rfl <;> rcases h2 with rfl | rfl | rfl | rfl | rfl | rfl | rfl | rfl <;> simp [appT, compT]
theorem tnC_comp {a b : Nat} (ha : a < 8) (hb : b < 8) (c : Ce) : tnC (compT a b) c = tnC b (tnC a c) := by
 unfold tnC
 rw [appT_comp ha hb]
theorem tnC_mv (b : Nat) (u v : Int) : ∃ u' v', ∀ c, tnC b (mvC u v c) = mvC u' v' (tnC b c) := by
 refine ⟨(appT b u v).1, (appT b u v).2, fun c => ?_⟩
 unfold tnC mvC appT
 split <;> simp <;> omega
theorem low_mv (g : Ce → Int) (d : Int) (f : Ce → Ce) (hf : ∀ c, g (f c) = g c - d) {l : List Ce} (hne : l ≠ []) : lowK g (l.map f) = lowK g l - d := by
 obtain ⟨a1, a2⟩ := low_glb g hne
 obtain ⟨b1, b2⟩ := low_glb g (p := l.map f) (by simpa using hne)
 have h1 := a2 (lowK g (l.map f) + d) fun c hc => by
  have := b1 (f c) (List.mem_map_of_mem hc)
  rw [hf] at this
  omega
 have h2 := b2 (lowK g l - d) fun c hc => by
  obtain ⟨e, he, rfl⟩ := List.mem_map.1 hc
  have := a1 e he
  rw [hf]
  omega
 omega
theorem home_mv (u v : Int) (l : List Ce) : homeC (l.map (mvC u v)) = homeC l := by
 by_cases hl : l = []
 ·subst hl; rfl
 ·have e1 := low_mv Ce.x u (mvC u v) (fun _ => rfl) hl
  have e2 := low_mv Ce.y v (mvC u v) (fun _ => rfl) hl
  rw [lowK_x, lowK_x] at e1
  rw [lowK_y, lowK_y] at e2
  unfold homeC
  rw [e1, e2, List.map_map]
  refine List.map_congr_left fun c _ => ?_
  show mvC _ _ (mvC u v c) = _
  unfold mvC
  congr 1
  ·dsimp only; omega
  ·dsimp only; omega
theorem sortI_eq {l l' : List Ce} (h : l.Perm l') (ha : l'.Pairwise apart) : sortI l = sortI l' :=
 pw_uniq (sortI_pw ha) (sortI_pw (apart_perm h ha)) ((sortI_perm l).trans (h.trans (sortI_perm l').symm))
theorem img_img {a b : Nat} (ha : a < 8) (hb : b < 8) {p : List Ce} (hp : p.Pairwise apart) : imgC b (imgC a p) = imgC (compT a b) p := by
 unfold imgC
 have hA : (homeC (p.map (tnC (compT a b)))).Pairwise apart := move_apart _ _ (turn_apart _ hp)
 refine sortI_eq ?_ hA
 have h1 : ((sortI (homeC (p.map (tnC a)))).map (tnC b)).Perm ((homeC (p.map (tnC a))).map (tnC b)) := (sortI_perm _).map _
 refine (home_perm h1).trans ?_
 have e : (homeC (p.map (tnC a))).map (tnC b) = ((p.map (tnC (compT a b))).map (mvC (appT b (lowX (p.map (tnC a))) (lowY (p.map (tnC a)))).1 (appT b (lowX (p.map (tnC a))) (lowY (p.map (tnC a)))).2)) := by
  unfold homeC
  rw [List.map_map, List.map_map, List.map_map]
  refine List.map_congr_left fun c _ => ?_
  show tnC b (mvC _ _ (tnC a c)) = mvC _ _ (tnC (compT a b) c)
  rw [tnC_comp ha hb]
  unfold tnC mvC appT
  split <;> simp <;> omega
 rw [e, home_mv]
theorem img_0 {p : List Ce} (hp : p.Pairwise (fun a b => less a b = true)) : imgC 0 p = homeC p := by
 unfold imgC
 have e : p.map (tnC 0) = p := by
  have : ∀ c ∈ p, tnC 0 c = c := fun c _ => rfl
  rw [List.map_congr_left this, List.map_id']
 rw [e]
 exact pw_uniq (home_pw hp) (sortI_pw (pw_apart (home_pw hp))) (sortI_perm _)

theorem compT_0 {a : Nat} (ha : a < 8) : compT 0 a = a := by
 have : ∀ a : Fin 8, compT 0 a.1 = a.1 := by decide
 exact this ⟨a, ha⟩
theorem home_home (p : List Ce) : homeC (homeC p) = homeC p := home_mv _ _ p
end Go.Mx.Tryd
