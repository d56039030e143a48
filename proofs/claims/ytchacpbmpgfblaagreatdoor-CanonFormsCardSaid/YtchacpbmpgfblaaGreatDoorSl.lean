/- CanonForms and CanonAlike: the laws. -/
import Derived.Test.YtchacpbmpgfblaaGreatDoorSi
import Derived.Test.YtchacpbmpgfblaaGreatDoorSh
set_option linter.unusedSimpArgs false
set_option linter.unusedVariables false
set_option linter.unusedSectionVars false
set_option maxRecDepth 100000
namespace Go.Mx.Tryz
open Go.Sort Go.Lib Go.Proofs

theorem ints_nil (H : Hp) : Gives G 10 [.m (.nl 4), .m (.nl 4)] H (.m (.b true)) H := ints_s (l := []) isSl_nil isSl_nil (by simp) H
theorem syms_both {v : I} {p : List Ce} (hv : IsSl v (cells3 p)) (hl : (p.length : Int) ≤ 9223372036854775807) : ∃ l : List Int, l.length ≤ 8 ∧ ∀ H, Gives G 11 [.m v] H (.m (zN l)) H ∧ Gives G 12 [.m v] H (.m (zN l)) H := by
 by_cases h : right p = false ∨ largeC p = true
 ·exact ⟨[], by simp, fun H => ⟨syms_no hv hl h H, symsR_no hv hl h H⟩⟩
 ·have hr : right p = true := by cases hx : right p <;> simp_all
  have hg : largeC p = false := by cases hx : largeC p <;> simp_all
  exact ⟨symL p all8, grp_len (sym_grp (right_pw hr).1), fun H => ⟨syms_s hv hr hg H, symsR_r hv hr hg H⟩⟩
theorem law_forms (gw : Gives G 6 [] [] (.m (.b true)) []) {v z : I} {p : List Ce} {l : List Int} (hv : IsSl v (cells3 p)) (hl : (p.length : Int) ≤ 9223372036854775807) (hz : IsSl z (celI l)) (hk : ∀ k, k ∈ l → -9223372036854775808 ≤ k ∧ k ≤ 9223372036854775807) : Gives G 3 [.m v, .m z] [] (.m (.b true)) [] := by
 have gf := fun H => few_l hv H
 have hrz := hz.rules
 simp only [celI_len] at hrz
 refine gives_pur rfl rfl rfl rfl rfl ?_
 by_cases hfew : (p.length : Int) ≤ 300
 ·rw [decide_eq_true hfew] at gf
  by_cases h20x : (l.length : Int) ≤ 20
  ·have h20 : ¬ (20 : Int) < l.length := by omega
   have h20n : ¬ 20 < l.length := by omega
   obtain ⟨g, hg⟩ := grp_ex l (by omega)
   obtain ⟨w, hw, g1⟩ := form_S hv hl hz (by omega) hg
   have g2 := fun H => form_R hv hl hz (by omega) hk hg H
   have hfl := formC_len p g
   have g3 := fun H => refSame_r hw (zP_sl (formC p g)) (by omega) (by omega) H
   rw [show decide (cmpL (formC p g) (formC p g) = 0) = true from decide_eq_true (cmpL_0.2 rfl)] at g3
   obtain ⟨s, hs8, hsy⟩ := syms_both hv hl
   have g4 := fun H => (hsy H).1
   have g5 := fun H => (hsy H).2
   have g6 := fun H => ints_s (zN_sl s) (zN_sl s) (by omega) H
   have c1 := isSl_cel hw
   simp (maxSteps := 2000000) (disch := omega) [gd_in, gd_and, wr_i64, gcall_cx, cl (gf _), hrz, h20, h20n, cl (g1 _), cl (g2 _), cl (g3 _), cl (g4 _), cl (g5 _), cl (g6 _), cl gw]
  ·have h20 : (20 : Int) < l.length := by omega
   have h20n : 20 < l.length := by omega
   simp (maxSteps := 2000000) (disch := omega) [gd_in, gd_and, wr_i64, gcall_cx, cl (gf _), hrz, h20, h20n, cl gw]
 ·rw [decide_eq_false hfew] at gf
  simp (maxSteps := 2000000) (disch := omega) [gd_in, gd_and, wr_i64, gcall_cx, cl (gf _), cl gw]
theorem law_alike (gw : Gives G 6 [] [] (.m (.b true)) []) {v w z : I} {p q : List Ce} {l : List Int} (hv : IsSl v (cells3 p)) (hw : IsSl w (cells3 q)) (hz : IsSl z (celI l)) (hk : ∀ k, k ∈ l → -9223372036854775808 ≤ k ∧ k ≤ 9223372036854775807) : Gives G 4 [.m v, .m w, .m z] [] (.m (.b true)) [] := by
 have gf := fun H => few_l hv H
 have gf2 := fun H => few_l hw H
 have hrz := hz.rules
 simp only [celI_len] at hrz
 refine gives_pur rfl rfl rfl rfl rfl ?_
 by_cases hfew : (p.length : Int) ≤ 300
 ·rw [decide_eq_true hfew] at gf
  by_cases hfew2 : (q.length : Int) ≤ 300
  ·rw [decide_eq_true hfew2] at gf2
   by_cases h20x : (l.length : Int) ≤ 20
   ·have h20 : ¬ (20 : Int) < l.length := by omega
    have h20n : ¬ 20 < l.length := by omega
    obtain ⟨g, hg⟩ := grp_ex l (by omega)
    have g1 := fun H => alike_s hv hw (by omega) (by omega) hz (by omega) hg H
    have g2 := fun H => alike_r hv hw (by omega) (by omega) hz (by omega) hk hg H
    generalize alikeC p q g = b at *
    cases b <;> simp (maxSteps := 2000000) (disch := omega) [gd_in, gd_and, wr_i64, gcall_cx, cl (gf _), cl (gf2 _), hrz, h20, h20n, cl (g1 _), cl (g2 _), cl gw]
   ·have h20 : (20 : Int) < l.length := by omega
    have h20n : 20 < l.length := by omega
    simp (maxSteps := 2000000) (disch := omega) [gd_in, gd_and, wr_i64, gcall_cx, cl (gf _), cl (gf2 _), hrz, h20, h20n, cl gw]
  ·rw [decide_eq_false hfew2] at gf2
   simp (maxSteps := 2000000) (disch := omega) [gd_in, gd_and, wr_i64, gcall_cx, cl (gf _), cl (gf2 _), cl gw]
 ·rw [decide_eq_false hfew] at gf
  simp (maxSteps := 2000000) (disch := omega) [gd_in, gd_and, wr_i64, gcall_cx, cl (gf _), cl gw]
theorem canon_forms (us : List V) (h : ArgsOk Go.Proofs.Tryz.prog maxLen 8 Go.Proofs.Tryz.f3.params.toList us) : Gives G 3 us [] (.m (.b true)) [] := by
 have e : Go.Proofs.Tryz.f3.params.toList = [23, 24] := by rw [Go.Proofs.Tryz.params3]
 have h := e ▸ h
 have hm : maxLen ≤ 9223372036854775807 := by decide
 obtain ⟨p, v, _, hv, hl, rfl, h1⟩ := arg_pat h
 obtain ⟨l, z, _, hz, hzl, hk, rfl, h2⟩ := arg_ints h1
 have := argsOk_nil h2
 subst this
 exact law_forms gives_awake hv (by omega) hz hk
theorem canon_alike (us : List V) (h : ArgsOk Go.Proofs.Tryz.prog maxLen 8 Go.Proofs.Tryz.f4.params.toList us) : Gives G 4 us [] (.m (.b true)) [] := by
 have e : Go.Proofs.Tryz.f4.params.toList = [23, 23, 24] := by rw [Go.Proofs.Tryz.params4]
 have h := e ▸ h
 obtain ⟨p, v, _, hv, hl, rfl, h1⟩ := arg_pat h
 obtain ⟨q, w, _, hw, hl2, rfl, h2⟩ := arg_pat h1
 obtain ⟨l, z, _, hz, hzl, hk, rfl, h3⟩ := arg_ints h2
 have := argsOk_nil h3
 subst this
 exact law_alike gives_awake hv hw hz hk
end Go.Mx.Tryz
