/- Sort of formulas: its parts. -/
import Derived.Test.YtcdcepfigjohfaaGreatDoorYe
import Derived.Test.YtcdcepfigjohfaaGreatDoorFe
import Derived.Test.YtcdcepfigjohfaaGreatDoorFg
set_option linter.unusedSimpArgs false
set_option linter.unusedVariables false
set_option linter.unusedSectionVars false
set_option maxRecDepth 100000
namespace Go.Mx.Tryz

theorem clone_i {z : I} {c : List Int} (hz : IsSl z (celI c)) (hc : c.length ≤ 1000000) (H : Hp) : ∃ o H1, Gives G 32 [.m z] H o H1 ∧ LF 3 (iI c) o H1 (H.length ≤ ·) ∧ H.length ≤ H1.length ∧ ∀ r, r < H.length → nth H1 r = nth H r := by
 rcases hz with rfl | ⟨rfl, h0⟩
 ·have he : elems H (.m (.sl (celI c))) = some (onV (iI c)) := by
   show some (immS (celI c)) = _
   rw [← on1_iI, immS_on1]
  have hnil : isNil 4 (.m (.sl (celI c))) = some false := rfl
  cases c with
  | nil =>
   refine ⟨.ls [], H, .of_ret (ret_sh mono rfl rfl rfl rfl rfl ?_), .inl ⟨rfl, .inr rfl⟩, Nat.le_refl _, fun _ _ => rfl⟩
   have ha : ∀ B, loudX (fun _ _ _ => none) ⟨B, H⟩ (.app 3 1 8) [.ls [], .m (.sl (celI []))] = some (.ls [], ⟨B, H⟩) := fun B => rfl
   simp [hnil, -loud_app, ha]
  | cons x t =>
   refine ⟨.sl H.length (x :: t).length 1 0 (x :: t).length false, H ++ [.cs 3 1 (onV (iI (x :: t))) 0 false], .of_ret (ret_sh mono rfl rfl rfl rfl rfl ?_), .inr ⟨H.length, 0, Nat.le_refl _, by simp, nl_end H _ 0, Nat.zero_le _, by simp [iI]⟩, by simp, fun r hr => nl_app _ _ _ hr⟩
   have ha : ∀ B, loudX (fun _ _ _ => none) ⟨B, H⟩ (.app 3 1 8) [.ls [], .m (.sl (celI (x :: t)))] = some (.sl H.length (x :: t).length 1 0 (x :: t).length false, ⟨B, H ++ [.cs 3 1 (onV (iI (x :: t))) 0 false]⟩) := fun B => by
    rw [loud_elems he]
    show newRow ⟨B, H⟩ 3 1 8 (onV (iI (x :: t))) = _
    rw [newRow_eq, onV_ok (noAg_iI _), onV_len, iI_len]
    have : Nat.ble ((x :: t).length * 8) 140737488355328 = true := by rw [ble_dec]; exact decide_eq_true (by omega)
    rw [this]
    rfl
   simp [hnil, -loud_app, ha]
 ·have : c = [] := by simpa [celI] using h0
  subst this
  refine ⟨.m (.nl 4), H, .of_ret (ret_sh mono rfl rfl rfl rfl rfl ?_), .inl ⟨rfl, .inl rfl⟩, Nat.le_refl _, fun _ _ => rfl⟩
  have hnil : isNil 4 (.m (.nl 4)) = some true := rfl
  simp [hnil]

def dN : I → Int
 | .i _ x => x
 | _ => 0
theorem dN_iI (l : List Int) : (iI l).map dN = l := by
 unfold iI
 rw [List.map_map]
 exact List.map_id l
theorem iI_dN {l : List Int} {ys : List I} (h : ys.Perm (iI l)) : ys = iI (ys.map dN) := by
 unfold iI
 rw [List.map_map]
 refine (List.map_id ys).symm.trans (List.map_congr_left fun x hx => ?_)
 obtain ⟨y, _, rfl⟩ := List.mem_map.1 (h.mem_iff.1 hx)
 rfl

theorem norm_s {z : I} {c : List Int} (hz : IsSl z (celI c)) (hc : c.length ≤ 1000000) (hs : Sm c) (H : Hp) : ∃ o0 H0 H1 o H2, Gives G 32 [.m z] H o0 H0 ∧ Gives G 33 [o0, .m (.fn 34 [])] H0 (.tu []) H1 ∧ Gives G 35 [o0] H1 o H2 ∧
  noFaV o0 = true ∧ LW 3 (iI (nrm c)) o H2 (H.length ≤ ·) ∧ H.length ≤ H2.length ∧ ∀ r, r < H.length → nth H2 r = nth H r := by
 obtain ⟨o0, H0, g0, a1, a2, a3⟩ := clone_i hz hc H
 obtain ⟨ys, H1, g1, b1, b2, b3, b4, b5⟩ := a1.sort (F := 33) rfl (g := .m (.fn 34 [])) rfl rfl (by simp; omega) (noAg_iI c) (c := fun x y => cfL (dN x) (dN y)) (fun x hx y hy => by
  obtain ⟨a, ha, rfl⟩ := List.mem_map.1 hx
  obtain ⟨b, hb, rfl⟩ := List.mem_map.1 hy
  exact order_s a b (hs a ha) (hs b hb) []) ⟨fun x _ => by rw [cfL_lt]; exact sto_lit.irr _, fun x _ y _ z _ => by rw [cfL_lt, cfL_lt, cfL_lt]; exact sto_lit.tr _ _ _, fun x hx y hy z hz => by
  rw [cfL_lt, cfL_lt, cfL_lt]
  intro h1 h2
  cases h3 : litLt (dN x) (dN z) with
  | false => rfl
  | true =>
   rcases sto_lit.tot (dN x) (dN y) with k | k | k
   ·rw [h1] at k; cases k
   ·rw [← k, h3] at h2; cases h2
   ·have := sto_lit.tr _ _ _ k h3
    rw [h2] at this; cases this⟩
 rw [iI_dN b1] at b3
 have hmem : ∀ y, y ∈ ys.map dN ↔ y ∈ c := fun y => by
  rw [(b1.map dN).mem_iff, dN_iI]
 have hpw : (ys.map dN).Pairwise fun a b => litLt b a = false := by
  rw [List.pairwise_map]
  exact b2.imp fun h => by rw [← cfL_lt]; exact h
 have hlen : (ys.map dN).length = c.length := by
  rw [List.length_map, b1.length_eq, iI_len]
 obtain ⟨o, H2, g2, d1, d2, d3⟩ := compact_s b3 (by omega)
 rw [cmpct_srt sto_lit hpw hmem] at d1
 refine ⟨o0, H0, H1, o, H2, g0, g1, g2, a1.toLW.nf.1, d1, by omega, fun r hr => ?_⟩
 rw [d3 r (by omega), b5 r (by omega), a3 r hr]

theorem comparef_s {z y : I} {c d : List Int} (hz : IsSl z (celI c)) (hy : IsSl y (celI d)) (hc : c.length ≤ 9223372036854775807) (hd : d.length ≤ 9223372036854775807) (hsc : Sm c) (hsd : Sm d) (H : Hp) : Gives G 37 [.m z, .m y, .m (.fn 34 [])] H (.m (.i .i64 (cmpR c d))) H := by
 refine gives_pur rfl rfl rfl rfl rfl ?_
 have hr := hz.rules
 have hr2 := hy.rules
 simp only [celI_len] at hr hr2
 simp (maxSteps := 2000000) (disch := omega) [gd_in, gd_and, wr_i64, hr, hr2]
 refine (?key : ∀ (i : Nat) (B : List (Nat × List V)), i ≤ c.length → i ≤ d.length → cmpR c d = cmpR (c.drop i) (d.drop i) → Run G c37_B0 (S37_0 (.m z) (.m y) (.m (.fn 34 [])) (.m z) (.m (.i .i64 (c.length : Nat))) (.m (.i .i64 i)) B []) _) 0 [] (Nat.zero_le _) (Nat.zero_le _) rfl
 refine indM (fun i : Nat => c.length - i) fun i ih B hi hi2 hq => ?_
 unfold c37_B0
 have fin : (c.drop i = [] ∨ d.drop i = []) → cmpR c d = if c.length < d.length then -1 else if d.length < c.length then 1 else 0 := fun h => by
  rw [hq, cmpR_end h]
  simp only [List.length_drop]
  repeat' split
  all_goals omega
 cases hx : c[i]? with
 | none =>
  have : i = c.length := by have := List.getElem?_eq_none_iff.1 hx; omega
  subst this
  have f := fin (.inl (by simp))
  by_cases h1 : c.length < d.length
  ·have h1' : (c.length : Int) < d.length := by omega
   rw [if_pos h1] at f
   simp (maxSteps := 2000000) (disch := omega) [gd_in, gd_and, wr_i64, hr, hr2, h1, h1', f]
  ·have h1' : ¬ (c.length : Int) < d.length := by omega
   have h2 : ¬ d.length < c.length := by omega
   rw [if_neg h1, if_neg h2] at f
   simp (maxSteps := 2000000) (disch := omega) [gd_in, gd_and, wr_i64, hr, hr2, h1, h1', f]
 | some x =>
  have hlt := (List.getElem?_eq_some_iff.1 hx).1
  have hlt' : (i : Int) < c.length := by omega
  have hn := celI_nth hx
  cases hw : d[i]? with
  | none =>
   have : i = d.length := by have := List.getElem?_eq_none_iff.1 hw; omega
   subst this
   have f := fin (.inr (by simp))
   have h1 : ¬ c.length < d.length := by omega
   rw [if_neg h1, if_pos hlt] at f
   simp (maxSteps := 2000000) (disch := omega) [gd_in, gd_and, wr_i64, hr, hr2, hlt, hlt', hn, f]
  | some w =>
   have hlt2 := (List.getElem?_eq_some_iff.1 hw).1
   have hlt2' : (i : Int) < d.length := by omega
   have hge : ¬ d.length ≤ i := by omega
   have hge' : ¬ (d.length : Int) ≤ (i : Int) := by omega
   have hn2 := celI_nth hw
   have wi : wr .i64 ((i : Int) + 1) = ((i + 1 : Nat) : Int) := wr_i64 (by omega) (by omega)
   have sx := hsc x (List.mem_of_getElem? hx)
   have sw := hsd w (List.mem_of_getElem? hw)
   have g1 := fun H => order_s x w sx sw H
   rw [(get_drop hx).2, (get_drop hw).2] at hq
   have hcf : cfL x w = if litLt x w = true then -1 else if litLt w x = true then 1 else 0 := by
    have e1 := cfL_lt x w
    have e2 := cfL_lt w x
    have e3 : cfL x w = -1 ∨ cfL x w = 0 ∨ cfL x w = 1 := by
     unfold cfL cmpI
     repeat' split
     all_goals omega
    have e4 : cfL w x = -cfL x w := by
     unfold cfL cmpI
     repeat' split
     all_goals omega
    rw [← e1, ← e2, e4]
    simp only [decide_eq_true_eq]
    repeat' split
    all_goals omega
   cases h1 : litLt x w with
   | true =>
    rw [h1, if_pos rfl] at hcf
    rw [hcf] at g1
    rw [cmpR_lt h1] at hq
    simp (maxSteps := 2000000) (disch := omega) [gd_in, gd_and, wr_i64, hr, hr2, hlt, hlt', hlt2, hlt2', hge, hge', hn, hn2, cl (g1 _), hq]
   | false =>
    rw [h1, if_neg (by simp)] at hcf
    cases h2 : litLt w x with
    | true =>
     rw [h2, if_pos rfl] at hcf
     rw [hcf] at g1
     rw [cmpR_gt h2] at hq
     simp (maxSteps := 2000000) (disch := omega) [gd_in, gd_and, wr_i64, hr, hr2, hlt, hlt', hlt2, hlt2', hge, hge', hn, hn2, cl (g1 _), hq]
    | false =>
     rw [h2, if_neg (by simp)] at hcf
     rw [hcf] at g1
     have e := sto_lit.eq h1 h2
     subst e
     rw [cmpR_cons] at hq
     have k := ih (i + 1) (by omega) B (by omega) (by omega) hq
     simp (maxSteps := 2000000) (disch := omega) [gd_in, gd_and, wr_i64, hr, hr2, hlt, hlt', hlt2, hlt2', hge, hge', hn, hn2, cl (g1 _), wi, -Int.natCast_add]
     exact k
theorem sort1_s {z y : I} {c d : List Int} (hz : IsSl z (celI c)) (hy : IsSl y (celI d)) (hc : c.length ≤ 9223372036854775807) (hd : d.length ≤ 9223372036854775807) (hsc : Sm c) (hsd : Sm d) (H : Hp) : Gives G 36 [.m z, .m y] H (.m (.i .i64 (cmpR c d))) H := by
 refine gives_pur rfl rfl rfl rfl rfl ?_
 simp (maxSteps := 2000000) (disch := omega) [gd_in, gd_and, wr_i64, cl (comparef_s hz hy hc hd hsc hsd _)]
theorem sort2_s {z y : I} {c d : List Int} (hz : IsSl z (celI c)) (hy : IsSl y (celI d)) (hc : c.length ≤ 9223372036854775807) (hd : d.length ≤ 9223372036854775807) (hsc : Sm c) (hsd : Sm d) (H : Hp) : Gives G 40 [.m z, .m y, .m (.pt [.fn 36 []])] H (.m (.b (decide (c = d)))) H := by
 refine gives_pur rfl rfl rfl rfl rfl ?_
 have g := fun H => sort1_s hz hy hc hd hsc hsd H
 by_cases e : c = d
 ·have e2 := cmpR_iff.2.2 e
  rw [e2] at g
  simp (maxSteps := 2000000) (disch := omega) [gd_in, gd_and, wr_i64, cl (g _), e]
 ·have e2 : ¬ cmpR c d = 0 := fun h => e (cmpR_iff.2.1 h)
  simp (maxSteps := 2000000) (disch := omega) [gd_in, gd_and, wr_i64, cl (g _), e, e2]
end Go.Mx.Tryz
