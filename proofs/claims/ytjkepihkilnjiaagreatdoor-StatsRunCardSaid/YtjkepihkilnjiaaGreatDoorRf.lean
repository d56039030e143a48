/- Histories of the reference. -/
import Derived.Test.YtjkepihkilnjiaaGreatDoorRe
set_option linter.unusedSimpArgs false
set_option linter.unusedVariables false
set_option linter.unusedSectionVars false
set_option maxRecDepth 100000
namespace Go.Mx.Tryz
open Go.Lib Go.Proofs

set_option maxHeartbeats 4000000 in
theorem his_r {t : TreeC} {h n v : I} {es : List (List I)} {p : List Ce} (hT : TreeV t h n es) (hv : IsSl v (cells3 p)) (hc : chkE t p = 0) (m : Nat) (hm : m ≤ 10000) (H : Hp) : ∃ x, HisV t p m x ∧ Gives G 18 [.m (.ag [.i .i64 t.states, h, n]), .m v, .m (.i .i64 (m : Int))] H x H := by
 obtain ⟨hq, hr, ht⟩ := chkE_ok hc
 have hR := quiet_r hq
 obtain ⟨pw, hg, hl⟩ := right_pwB hr
 have key : ∃ x H', Gives G 18 [.m (.ag [.i .i64 t.states, h, n]), .m v, .m (.i .i64 (m : Int))] H x H' ∧ (H' = H ∧ HisV t p m x) := by
  refine gives_of_ret ?_
  refine ret_pur rfl rfl rfl rfl rfl ?_
  generalize hQ : (fun (x : V) (H' : Hp) => H' = H ∧ HisV t p m x) = Q
  have qe : ∀ ps e, HisQ t p m (ps, e) → ¬ e = 0 → Q (.tu [.m (.nl 4), .m (.i .i64 e)]) H := fun ps e h1 h2 => by rw [← hQ]; exact ⟨rfl, ps, e, h1, .inl ⟨h2, rfl⟩⟩
  have qk : ∀ ps vs, HisQ t p m (ps, 0) → PatL vs ps → Q (.tu [.m (.sl (onesI vs)), .m (.i .i64 0)]) H := fun ps vs h1 h2 => by rw [← hQ]; exact ⟨rfl, ps, 0, h1, .inr ⟨rfl, vs, h2, rfl⟩⟩
  clear hQ
  have g1 := fun H => fits_r hT hv (by omega) H
  rw [hc] at g1
  have m0 : ¬ (m : Int) < 0 := by omega
  have m1 : ¬ (10000 : Int) < m := by omega
  have m2 : ¬ 10000 < m := by omega
  have hb1 := fun c B H => bsf_1 hv c B H
  simp (maxSteps := 2000000) (disch := omega) [gd_in, gd_and, wr_i64, cl (g1 _), m0, m1, m2, hb1]
  refine (?key : ∀ (i : Nat) (vs : List I) (ps : List (List Ce)) (a : List Ce) (o : V) (B : List (Nat × List V)) (H1 : Hp), i ≤ m → getB B 3 = some [.m (.i .i64 t.states), .m h, .m n] → HisR t p (ps ++ [a]) → ps.length = i → PatL vs (ps ++ [a]) → chkE t a = 0 → (∀ u, u ∈ vs → oneV (.m u) = true) → OutL vs o H1 → Run G c18_B0 (S18_0 (.m (.i .i64 (m : Int))) (.fa 3 0) o (.m (.i .i64 (i : Int))) B H1) _) 0 [v] [] p _ _ _ (Nat.zero_le _) rfl .one rfl ⟨rfl, fun i u q hi hq => by
   cases i with
   | zero => cases hi; cases hq; exact hv
   | succ i => simp at hi⟩ hc (fun u hu => by rw [List.mem_singleton.1 hu]; exact isSl_1 hv) ⟨by simp, .inl ⟨rfl, rfl⟩⟩
  refine indM (fun i : Nat => m - i) fun i ih vs ps a o B H1 hi hB hH hps hP hca hone ho => ?_
  unfold c18_B0
  obtain ⟨hnf, hlen⟩ := outL_nf ho
  have hvl : vs.length = i + 1 := by rw [hP.1]; simp [hps]
  by_cases him : i < m
  ·have him2 : (i : Int) < m := by omega
   obtain ⟨u, hu⟩ : ∃ u, vs[i]? = some u := ⟨_, List.getElem?_eq_getElem (by omega)⟩
   have hua : IsSl u (cells3 a) := hP.2 i u a hu (by simp [← hps])
   obtain ⟨pt, r1, r2⟩ := outL_rd ho hu (by omega)
   have w1 : wr .i64 ((vs.length : Int) - 1) = (i : Int) := by rw [wr_i64 (by omega) (by omega)]; omega
   have wi : wr .i64 ((i : Int) + 1) = ((i + 1 : Nat) : Int) := wr_i64 (by omega) (by omega)
   obtain ⟨x, ⟨q, e, hst, rfl⟩, _⟩ := step_q hT hua hca []
   have gs : ∀ H, Gives G 35 [.m (.ag [.i .i64 t.states, h, n]), .m u] H (.tu [.m (zP q), .m (.i .i64 e)]) H := fun H => by
    obtain ⟨x', ⟨q', e', hst', rfl⟩, g⟩ := step_q hT hua hca H
    have := stepR_uniq hst hst'
    cases this
    exact g
   by_cases he : e = 0
   ·subst he
    obtain ⟨hq2, hr2, ht2⟩ := chkE_ok hca
    obtain ⟨k1, k2, k3, k4⟩ := stepR_ok hR ht2 hst
    have hcq := chk_of hq k1 k2 k3 k4
    have hoz := isSl_1 (zP_sl q)
    obtain ⟨o1, H2, ha, hn1, ho1⟩ := outL_push ho (by omega) hone hoz
    have hb2 := fun c B H => bsf_1 (zP_sl q) c B H
    have k := fun B' => ih (i + 1) (by omega) (vs ++ [zP q]) (ps ++ [a]) q o1 B' H2 (by omega)
    simp (maxSteps := 2000000) (disch := omega) [gd_in, gd_and, wr_i64, him, him2, hB, hlen, w1, r1, r2, cl (gs _), hb2, ha, wi, setC_v hnf, setC_v hn1, -Int.natCast_add]
    exact k _ hB (hH.snoc hst) (by simp [hps]) (patL_snoc hP (zP_sl q)) hcq (fun x hx => by
     rcases List.mem_append.1 hx with hx | hx
     ·exact hone x hx
     ·rw [List.mem_singleton.1 hx]; exact hoz) ho1
   ·have hq0 : q = [] := by
     rcases hst with ⟨e1, _⟩ | ⟨_, r, _, _, e1⟩
     ·exact congrArg Prod.fst e1
     ·split at e1
      ·exact congrArg Prod.fst e1
      ·exact absurd (congrArg Prod.snd e1) he
    subst hq0
    have k := qe [] e (.inr ⟨ps, a, by omega, hH, hst, he, rfl⟩) he
    simp (maxSteps := 2000000) (disch := omega) [gd_in, gd_and, wr_i64, him, him2, hB, hlen, w1, r1, r2, cl (gs _), he, setC_v hnf]
    exact k
  ·have : i = m := by omega
   subst this
   have hvw : view 20 H1 o = some (.sl (onesI vs)) := outL_view ho 18
   have k := qk (ps ++ [a]) vs (.inl ⟨rfl, by simp [hps], hH⟩) hP
   simp (maxSteps := 2000000) (disch := omega) [gd_in, gd_and, wr_i64, setC_v hnf, hvw]
   exact ⟨hnf, k⟩
 obtain ⟨x, H', h1, rfl, h2⟩ := key
 exact ⟨x, h2, h1⟩
theorem his_re {t : TreeC} {h n v : I} {es : List (List I)} {p : List Ce} (hT : TreeV t h n es) (hv : IsSl v (cells3 p)) (hl : (p.length : Int) ≤ 9223372036854775806) (hc : ¬ chkE t p = 0) (m : Int) (H : Hp) : Gives G 18 [.m (.ag [.i .i64 t.states, h, n]), .m v, .m (.i .i64 m)] H (.tu [.m (.nl 4), .m (.i .i64 (chkE t p))]) H := by
 have g1 := fun H => fits_r hT hv hl H
 refine gives_pur rfl rfl rfl rfl rfl ?_
 simp (maxSteps := 2000000) (disch := omega) [gd_in, gd_and, wr_i64, cl (g1 _), hc]
theorem his_ro {t : TreeC} {h n v : I} {es : List (List I)} {p : List Ce} (hT : TreeV t h n es) (hv : IsSl v (cells3 p)) (hl : (p.length : Int) ≤ 9223372036854775806) (hc : chkE t p = 0) (m : Int) (hm : m < 0 ∨ 10000 < m) (H : Hp) : Gives G 18 [.m (.ag [.i .i64 t.states, h, n]), .m v, .m (.i .i64 m)] H (.tu [.m (.nl 4), .m (.i .i64 2)]) H := by
 have g1 := fun H => fits_r hT hv hl H
 rw [hc] at g1
 refine gives_pur rfl rfl rfl rfl rfl ?_
 by_cases h0 : m < 0
 ·simp (maxSteps := 2000000) (disch := omega) [gd_in, gd_and, wr_i64, cl (g1 _), h0]
 ·have h1 : (10000 : Int) < m := by omega
  simp (maxSteps := 2000000) (disch := omega) [gd_in, gd_and, wr_i64, cl (g1 _), h0, h1]
theorem his_mo {t : TreeC} {h n v : I} {es : List (List I)} {p : List Ce} (hT : TreeV t h n es) (hv : IsSl v (cells3 p)) (hl : (p.length : Int) ≤ 9223372036854775806) (hc : chkE t p = 0) (m : Int) (hm : m < 0 ∨ 10000 < m) (H : Hp) : Gives G 17 [.m (.ag [.i .i64 t.states, h, n]), .m v, .m (.i .i64 m)] H (.tu [.m (.nl 4), .m (.i .i64 2)]) H := by
 have g1 := fun H => check_s hT hv hl H
 rw [hc] at g1
 refine gives_pur rfl rfl rfl rfl rfl ?_
 by_cases h0 : m < 0
 ·simp (maxSteps := 2000000) (disch := omega) [gd_in, gd_and, wr_i64, cl (g1 _), h0]
 ·have h1 : (10000 : Int) < m := by omega
  simp (maxSteps := 2000000) (disch := omega) [gd_in, gd_and, wr_i64, cl (g1 _), h0, h1]
end Go.Mx.Tryz
