/- Runs of the reference; StatsRun: the law. -/
import Derived.Test.YtjkepihkilnjiaaGreatDoorRf
import Derived.Test.YtjkepihkilnjiaaGreatDoorTi
import Derived.Test.YtjkepihkilnjiaaGreatDoorTh
set_option linter.unusedSimpArgs false
set_option linter.unusedVariables false
set_option linter.unusedSectionVars false
set_option maxRecDepth 100000
namespace Go.Mx.Tryz
open Go.Lib Go.Proofs

set_option maxHeartbeats 4000000 in
theorem runS_q {t : TreeC} {h n v : I} {es : List (List I)} {p : List Ce} (hT : TreeV t h n es) (hv : IsSl v (cells3 p)) (hl : (p.length : Int) ≤ 9223372036854775806) (m : Nat) (hm : m ≤ 10000) (H : Hp) : ∃ x, RunV t p m x ∧ Gives G 7 [.m (.ag [.i .i64 t.states, h, n]), .m v, .m (.i .i64 (m : Int))] H x H := by
 by_cases hc : chkE t p = 0
 rotate_left
 ·have g1 := fun H => his_re hT hv hl hc m H
  refine ⟨.tu [.m (.nl 4), .m (.i .i64 (chkE t p))], ⟨[], _, .inl ⟨hc, rfl⟩, .inl ⟨hc, rfl⟩⟩, ?_⟩
  refine gives_pur rfl rfl rfl rfl rfl ?_
  simp (maxSteps := 2000000) (disch := omega) [gd_in, gd_and, wr_i64, cl (g1 _), hc]
 obtain ⟨hx, ⟨ps, e, hH, hval⟩, g1⟩ := his_r hT hv hc m hm []
 have key : ∃ x H', Gives G 7 [.m (.ag [.i .i64 t.states, h, n]), .m v, .m (.i .i64 (m : Int))] H x H' ∧ (H' = H ∧ RunV t p m x) := by
  refine gives_of_ret ?_
  refine ret_pur rfl rfl rfl rfl rfl ?_
  generalize hQ : (fun (x : V) (H' : Hp) => H' = H ∧ RunV t p m x) = Q
  have qe : ¬ e = 0 → Q (.tu [.m (.nl 4), .m (.i .i64 e)]) H := fun h2 => by rw [← hQ]; exact ⟨rfl, ps, e, .inr ⟨hc, hH⟩, .inl ⟨h2, rfl⟩⟩
  have qk : e = 0 → Q (.tu [.m (z9 (stF ps ps.length)), .m (.i .i64 0)]) H := fun h2 => by rw [← hQ]; exact ⟨rfl, ps, e, .inr ⟨hc, hH⟩, .inr ⟨h2, rfl⟩⟩
  clear hQ
  rcases hval with ⟨he, rfl⟩ | ⟨he, vs, hP, rfl⟩
  ·have k := qe he
   simp (maxSteps := 2000000) (disch := omega) [gd_in, gd_and, wr_i64, cl g1, he]
   exact k
  ·subst he
   have k := qk rfl
   have hR : HisR t p ps := by
    rcases hH with ⟨_, _, h3⟩ | ⟨_, _, _, _, _, h4, _⟩
    ·exact h3
    ·exact absurd rfl h4
   have hpl : ps.length = m + 1 := by
    rcases hH with ⟨_, h3, _⟩ | ⟨_, _, _, _, _, h4, _⟩
    ·exact h3
    ·exact absurd rfl h4
   have hvl := hP.1
   have hrs := (isSl_sl (onesI vs)).rules
   simp only [onesI_len] at hrs
   rw [← hvl] at k hpl
   simp (maxSteps := 2000000) (disch := omega) [gd_in, gd_and, wr_i64, cl g1, hrs.1]
   refine (?key : ∀ (i : Nat) (o : V) (B : List (Nat × List V)) (H1 : Hp), i ≤ vs.length → OutS (stF ps i) o H1 → Run G c7_B0 (S7_0 (.m (.sl (onesI vs))) o (.m (.i .i64 (i : Int))) B H1) _) 0 _ _ _ (Nat.zero_le _) (.inl ⟨rfl, rfl, rfl⟩)
   refine indM (fun i : Nat => vs.length - i) fun i ih o B H1 hi ho => ?_
   unfold c7_B0
   obtain ⟨hvw, hnf⟩ := outS_view ho
   by_cases hiv : i < vs.length
   ·have hiv2 : (i : Int) < vs.length := by omega
    obtain ⟨j, hj⟩ : ∃ j, j = i - 1 := ⟨_, rfl⟩
    obtain ⟨u1, hu1⟩ : ∃ u, vs[j]? = some u := ⟨_, List.getElem?_eq_getElem (by omega)⟩
    obtain ⟨u2, hu2⟩ : ∃ u, vs[i]? = some u := ⟨_, List.getElem?_eq_getElem (by omega)⟩
    obtain ⟨a, ha⟩ : ∃ q, ps[j]? = some q := ⟨_, List.getElem?_eq_getElem (by omega)⟩
    obtain ⟨b, hb⟩ : ∃ q, ps[i]? = some q := ⟨_, List.getElem?_eq_getElem (by omega)⟩
    have s1 := hP.2 j u1 a hu1 ha
    have s2 := hP.2 i u2 b hu2 hb
    have ca := (right_pwB (chkE_ok (hisR_chk hc hR a (List.mem_of_getElem? ha))).2.1).2.2
    have cb := (right_pwB (chkE_ok (hisR_chk hc hR b (List.mem_of_getElem? hb))).2.1).2.2
    have go := fun H => of_r s1 s2 (by omega) (by omega) (i : Int) H
    have eS : stO ps i = ofV i a b := by
     unfold stO
     rw [← hj, List.getD_eq_getElem?_getD, List.getD_eq_getElem?_getD, ha, hb]
     rfl
    obtain ⟨c1, c2, c3, c4, c5, c6, c7, c8, c9, h9⟩ := ofV_9 i a b
    rw [h9] at go eS
    simp only [List.map_cons, List.map_nil] at go
    obtain ⟨o1, H2, hap, hn1, ho1⟩ := outS_push ho (by rw [stF_len]; omega) c1 c2 c3 c4 c5 c6 c7 c8 c9
    rw [← eS, ← stF_succ] at ho1
    have w1 : wr .i64 ((i : Int) - 1) = (i : Int) - 1 := wr_i64 (by omega) (by omega)
    have wm : max (0 : Int) ((i : Int) - 1) = (j : Int) := by omega
    have wn : max ((i : Int) - 1) (0 : Int) = (j : Int) := by omega
    have wi : wr .i64 ((i : Int) + 1) = ((i + 1 : Nat) : Int) := wr_i64 (by omega) (by omega)
    have r1 := ls_ix hu1
    have r2 := ls_ix hu2
    have k2 := ih (i + 1) (by omega) o1 B H2 (by omega) ho1
    simp (maxSteps := 2000000) (disch := omega) [gd_in, gd_and, wr_i64, hiv, hiv2, w1, wm, wn, r1, r2, cl (go _), hap, wi, setC_v hnf, setC_v hn1, -Int.natCast_add]
    exact k2
   ·have : i = vs.length := by omega
    subst this
    simp (maxSteps := 2000000) (disch := omega) [gd_in, gd_and, wr_i64, setC_v hnf, hvw]
    exact ⟨hnf, k⟩
 obtain ⟨x, H', h1, rfl, h2⟩ := key
 exact ⟨x, h2, h1⟩
theorem runS_z {e : Int} {t : TreeC} {h n v : I} {m : Int} (he : ¬ e = 0) (g1 : ∀ H, Gives G 17 [.m (.ag [.i .i64 t.states, h, n]), .m v, .m (.i .i64 m)] H (.tu [.m (.nl 4), .m (.i .i64 e)]) H) (H : Hp) : Gives G 6 [.m (.ag [.i .i64 t.states, h, n]), .m v, .m (.i .i64 m)] H (.tu [.m (.nl 4), .m (.i .i64 e)]) H := by
 refine gives_pur rfl rfl rfl rfl rfl ?_
 simp (maxSteps := 2000000) (disch := omega) [gd_in, gd_and, wr_i64, cl (g1 _), he]
theorem runS_qz {e : Int} {t : TreeC} {h n v : I} {m : Int} (he : ¬ e = 0) (g1 : ∀ H, Gives G 18 [.m (.ag [.i .i64 t.states, h, n]), .m v, .m (.i .i64 m)] H (.tu [.m (.nl 4), .m (.i .i64 e)]) H) (H : Hp) : Gives G 7 [.m (.ag [.i .i64 t.states, h, n]), .m v, .m (.i .i64 m)] H (.tu [.m (.nl 4), .m (.i .i64 e)]) H := by
 refine gives_pur rfl rfl rfl rfl rfl ?_
 simp (maxSteps := 2000000) (disch := omega) [gd_in, gd_and, wr_i64, cl (g1 _), he]
theorem runV_uniq {t : TreeC} {p : List Ce} {m : Nat} {x y : V} (h1 : RunV t p m x) (h2 : RunV t p m y) : x = y := by
 obtain ⟨ps, e, k1, k2⟩ := h1
 obtain ⟨qs, d, k3, k4⟩ := h2
 have he : e = d ∧ (e = 0 → ps = qs) := by
  rcases k1 with ⟨a1, a2⟩ | ⟨a1, a2⟩
  ·rcases k3 with ⟨b1, b2⟩ | ⟨b1, b2⟩
   ·exact ⟨a2.trans b2.symm, fun h => absurd (a2.symm.trans h) a1⟩
   ·exact absurd b1 a1
  ·rcases k3 with ⟨b1, b2⟩ | ⟨b1, b2⟩
   ·exact absurd a1 b1
   ·have := hisQ_uniq a2 b2
    cases this
    exact ⟨rfl, fun _ => rfl⟩
 obtain ⟨rfl, hps⟩ := he
 rcases k2 with ⟨c1, rfl⟩ | ⟨c1, rfl⟩
 ·rcases k4 with ⟨d1, rfl⟩ | ⟨d1, rfl⟩
  ·rfl
  ·exact absurd d1 c1
 ·rcases k4 with ⟨d1, rfl⟩ | ⟨d1, rfl⟩
  ·exact absurd c1 d1
  ·rw [hps c1]
theorem z9_sl (f : List (List Int)) : IsSl (z9 f) (cel9 f) := by
 unfold z9
 split
 ·rename_i h; subst h; exact isSl_nil
 ·exact isSl_sl _
theorem cel9_nth {f : List (List Int)} {i : Nat} {e : List Int} (h : f[i]? = some e) : nth (cel9 f) i = some (e.map (.i .i64)) := by rw [nth_get]; simp [cel9, h]
def Nine (e : List Int) : Prop := ∃ a b c d e' a' b' c' d', e = [a, b, c, d, e', a', b', c', d']
theorem stF_nine (ps : List (List Ce)) (n : Nat) : ∀ e, e ∈ stF ps n → Nine e := fun e he => by
 unfold stF at he
 obtain ⟨i, _, rfl⟩ := List.mem_map.1 he
 exact ofV_9 _ _ _
theorem same_l {v : I} {f : List (List Int)} (hv : IsSl v (cel9 f)) (hl : (f.length : Int) ≤ 9223372036854775806) (h9 : ∀ e, e ∈ f → Nine e) (H : Hp) : Gives G 8 [.m v, .m v] H (.m (.b true)) H := by
 have hrv := hv.rules
 simp only [cel9_len] at hrv
 refine gives_pur rfl rfl rfl rfl rfl ?_
 simp (maxSteps := 2000000) (disch := omega) [gd_in, gd_and, wr_i64, hrv]
 refine (?key : ∀ (i : Nat) (B : List (Nat × List V)), i ≤ f.length → Run G c8_B0 (S8_0 (.m v) (.m v) (.m (.i .i64 f.length)) (.m (.i .i64 (i : Int))) B []) _) 0 _ (Nat.zero_le _)
 refine indM (fun i : Nat => f.length - i) fun i ih B hi => ?_
 unfold c8_B0
 cases hx : f[i]? with
 | none =>
  have : i = f.length := by have := List.getElem?_eq_none_iff.1 hx; omega
  subst this
  simp (maxSteps := 2000000) (disch := omega) [gd_in, gd_and, wr_i64, ]
 | some e =>
  have hlt := (get_drop hx).1
  have hlt' : (i : Int) < f.length := by omega
  have hn := cel9_nth hx
  obtain ⟨c1, c2, c3, c4, c5, c6, c7, c8, c9, rfl⟩ := h9 e (List.mem_of_getElem? hx)
  simp only [List.map_cons, List.map_nil] at hn
  have wi : wr .i64 ((i : Int) + 1) = ((i + 1 : Nat) : Int) := wr_i64 (by omega) (by omega)
  have k := ih (i + 1) (by omega) B (by omega)
  simp (maxSteps := 2000000) (disch := omega) [gd_in, gd_and, wr_i64, hrv, hlt, hlt', hn, wi, -Int.natCast_add]
  exact k
theorem few_u {t : TreeC} {h n v : I} {es : List (List I)} {p : List Ce} (hT : TreeV t h n es) (hv : IsSl v (cells3 p)) (H : Hp) : Gives G 4 [.m (.ag [.i .i64 t.states, h, n]), .m v] H (.m (.b (fewB t && decide ((p.length : Int) ≤ 60)))) H := by
 have g1 := fun H => fewT_l hT H
 have hr := hv.rules
 simp only [show (cells3 p).length = p.length from by simp [cells3]] at hr
 refine gives_pur rfl rfl rfl rfl rfl ?_
 cases hf : fewB t with
 | false =>
  rw [hf] at g1
  simp (maxSteps := 2000000) (disch := omega) [gd_in, gd_and, wr_i64, cl (g1 _)]
 | true =>
  rw [hf] at g1
  simp (maxSteps := 2000000) (disch := omega) [gd_in, gd_and, wr_i64, cl (g1 _), hr]
set_option maxHeartbeats 4000000 in
theorem law_run (gw : Gives G 5 [] [] (.m (.b true)) []) {t : TreeC} {h n v : I} {es : List (List I)} {p : List Ce} (m : Int) (hT : TreeV t h n es) (hv : IsSl v (cells3 p)) : Gives G 3 [.m (.ag [.i .i64 t.states, h, n]), .m v, .m (.i .i64 m)] [] (.m (.b true)) [] := by
 have gf := fun H => few_u hT hv H
 by_cases hfew : (fewB t && decide ((p.length : Int) ≤ 60)) = true
 rotate_left
 ·rw [Bool.not_eq_true] at hfew
  rw [hfew] at gf
  refine gives_pur rfl rfl rfl rfl rfl ?_
  simp (maxSteps := 2000000) (disch := omega) [gd_in, gd_and, wr_i64, cl (gf _), cl gw]
 rw [hfew] at gf
 rw [Bool.and_eq_true, decide_eq_true_eq] at hfew
 have hpl := hfew.2
 have key : ∀ (f : List (List Int)) (z : I) (e : Int), IsSl z (cel9 f) → (f.length : Int) ≤ 1000000 → (∀ x, x ∈ f → Nine x) → (∀ H, Gives G 6 [.m (.ag [.i .i64 t.states, h, n]), .m v, .m (.i .i64 m)] H (.tu [.m z, .m (.i .i64 e)]) H) → (∀ H, Gives G 7 [.m (.ag [.i .i64 t.states, h, n]), .m v, .m (.i .i64 m)] H (.tu [.m z, .m (.i .i64 e)]) H) → (¬ 8 < m ∨ ¬ m ≤ 10000) → Gives G 3 [.m (.ag [.i .i64 t.states, h, n]), .m v, .m (.i .i64 m)] [] (.m (.b true)) [] := fun f z e hz hlf h9 g1 g2 hm => by
  have g3 := fun H => same_l hz (by omega) h9 H
  refine gives_pur rfl rfl rfl rfl rfl ?_
  by_cases h8 : (8 : Int) < m
  ·have hk : ¬ m ≤ 10000 := by omega
   simp (maxSteps := 2000000) (disch := omega) [gd_in, gd_and, wr_i64, gcall_cx, cl (gf _), h8, hk, cl (g1 _), cl (g2 _), cl (g3 _), cl gw]
  ·simp (maxSteps := 2000000) (disch := omega) [gd_in, gd_and, wr_i64, gcall_cx, cl (gf _), h8, cl (g1 _), cl (g2 _), cl (g3 _), cl gw]
 have kz : ∀ e : Int, ¬ e = 0 → (∀ H, Gives G 17 [.m (.ag [.i .i64 t.states, h, n]), .m v, .m (.i .i64 m)] H (.tu [.m (.nl 4), .m (.i .i64 e)]) H) → (∀ H, Gives G 18 [.m (.ag [.i .i64 t.states, h, n]), .m v, .m (.i .i64 m)] H (.tu [.m (.nl 4), .m (.i .i64 e)]) H) → (¬ 8 < m ∨ ¬ m ≤ 10000) → Gives G 3 [.m (.ag [.i .i64 t.states, h, n]), .m v, .m (.i .i64 m)] [] (.m (.b true)) [] := fun e he a1 a2 hm =>
  key [] (.nl 4) e isSl_nil (by simp) (fun x hx => by cases hx) (fun H => runS_z he a1 H) (fun H => runS_qz he a2 H) hm
 by_cases h8 : 8 < m ∧ m ≤ 10000
 ·have h81 := h8.1
  have h82 := h8.2
  refine gives_pur rfl rfl rfl rfl rfl ?_
  simp (maxSteps := 2000000) (disch := omega) [gd_in, gd_and, wr_i64, cl (gf _), h81, h82, cl gw]
 by_cases hc : chkE t p = 0
 rotate_left
 ·exact kz _ hc (fun H => his_e hT hv (by omega) hc m H) (fun H => his_re hT hv (by omega) hc m H) (by omega)
 by_cases ho : m < 0 ∨ 10000 < m
 ·exact kz 2 (by decide) (fun H => his_mo hT hv (by omega) hc m ho H) (fun H => his_ro hT hv (by omega) hc m ho H) (by omega)
 obtain ⟨k, rfl⟩ := Int.eq_ofNat_of_zero_le (show 0 ≤ m by omega)
 obtain ⟨x, hx, _⟩ := runS_m hT hv (by omega) k (by omega) []
 have g1 : ∀ H, Gives G 6 [.m (.ag [.i .i64 t.states, h, n]), .m v, .m (.i .i64 (k : Int))] H x H := fun H => by
  obtain ⟨y, hy, g⟩ := runS_m hT hv (by omega) k (by omega) H
  rw [runV_uniq hx hy]
  exact g
 have g2 : ∀ H, Gives G 7 [.m (.ag [.i .i64 t.states, h, n]), .m v, .m (.i .i64 (k : Int))] H x H := fun H => by
  obtain ⟨y, hy, g⟩ := runS_q hT hv (by omega) k (by omega) H
  rw [runV_uniq hx hy]
  exact g
 obtain ⟨ps, e, hch, hval⟩ := hx
 rcases hval with ⟨he, rfl⟩ | ⟨he, rfl⟩
 ·exact key [] (.nl 4) e isSl_nil (by simp) (fun x hx => by cases hx) g1 g2 (by omega)
 ·have hps : ps.length = k + 1 := by
   rcases hch with ⟨h1, _⟩ | ⟨_, h1⟩
   ·exact absurd hc h1
   ·rcases h1 with ⟨_, h3, _⟩ | ⟨_, _, _, _, _, h4, _⟩
    ·exact h3
    ·exact absurd he h4
  exact key _ _ 0 (z9_sl _) (by rw [stF_len]; omega) (stF_nine _ _) g1 g2 (by omega)
theorem stats_run (us : List V) (h : ArgsOk Go.Proofs.Tryz.prog maxLen 8 Go.Proofs.Tryz.f3.params.toList us) : Gives G 3 us [] (.m (.b true)) [] := by
 have e : Go.Proofs.Tryz.f3.params.toList = [25, 27, 3] := by rw [Go.Proofs.Tryz.params3]
 have h := e ▸ h
 obtain ⟨t, hh, nn, es, _, rfl, hT, h1⟩ := arg_tree (by decide) h
 obtain ⟨p, v, _, hv, hl, rfl, h2⟩ := arg_pat h1
 obtain ⟨m, _, rfl, h3⟩ := arg_int h2
 have := argsOk_nil h3
 subst this
 exact law_run gives_awake m hT hv
end Go.Mx.Tryz
