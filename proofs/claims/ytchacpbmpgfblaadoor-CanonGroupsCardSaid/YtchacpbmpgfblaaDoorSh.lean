/- CanonGroups: the law. -/
import Derived.Test.YtchacpbmpgfblaaDoorSg
import Derived.Test.YtchacpbmpgfblaaDoorAw
import Derived.Test.YtchacpbmpgfblaaDoorArg
set_option linter.unusedSimpArgs false
set_option linter.unusedVariables false
set_option linter.unusedSectionVars false
set_option maxRecDepth 100000
namespace Go.Mx.Tryd
open Go.Sort Go.Lib Go.Proofs

theorem syms_no {v : I} {p : List Ce} (hv : IsSl v (cells3 p)) (hl : (p.length : Int) ≤ 9223372036854775807) (h : right p = false ∨ largeC p = true) (H : Hp) : Gives G 19 [.m v] H (.m (.nl 4)) H := by
 refine gives_pur rfl rfl rfl rfl rfl ?_
 have g1 := fun H => right_s hv hl H
 have g2 := fun H => large_s hv hl H
 cases hr : right p with
 | false =>
  rw [hr] at g1
  simp (maxSteps := 2000000) (disch := omega) [gd_in, gd_and, wr_i64, gcall_cx, cl (g1 _)]
 | true =>
  rw [hr] at g1
  have hg : largeC p = true := by
   rcases h with h | h
   ·rw [hr] at h; cases h
   ·exact h
  rw [hg] at g2
  simp (maxSteps := 2000000) (disch := omega) [gd_in, gd_and, wr_i64, gcall_cx, cl (g1 _), cl (g2 _)]
theorem few_l {v : I} {p : List Ce} (hv : IsSl v (cells3 p)) (H : Hp) : Gives G 7 [.m v] H (.m (.b (decide ((p.length : Int) ≤ 300)))) H := by
 have hr := hv.rules
 simp only [show (cells3 p).length = p.length from by simp [cells3]] at hr
 refine gives_pur rfl rfl rfl rfl rfl ?_
 simp (maxSteps := 2000000) (disch := omega) [gd_in, gd_and, wr_i64, hr]
theorem law_groups (gw : Gives G 8 [] [] (.m (.b true)) []) {v : I} {p : List Ce} (hv : IsSl v (cells3 p)) (hl : (p.length : Int) ≤ 9223372036854775807) : Gives G 6 [.m v] [] (.m (.b true)) [] := by
 have gf := fun H => few_l hv H
 have g1 := fun H => right_r hv hl H
 have g2 := fun H => large_r hv hl H
 refine gives_pur rfl rfl rfl rfl rfl ?_
 by_cases hfew : (p.length : Int) ≤ 300
 ·rw [decide_eq_true hfew] at gf
  cases hr : right p with
  | false =>
   rw [hr] at g1
   have gs := fun H => syms_no hv hl (.inl hr) H
   simp (maxSteps := 2000000) (disch := omega) [gd_in, gd_and, wr_i64, gcall_cx, cl (gf _), cl (g1 _), cl (gs _), cl gw]
  | true =>
   rw [hr] at g1
   cases hg : largeC p with
   | true =>
    rw [hg] at g2
    have gs := fun H => syms_no hv hl (.inr hg) H
    simp (maxSteps := 2000000) (disch := omega) [gd_in, gd_and, wr_i64, gcall_cx, cl (gf _), cl (g1 _), cl (g2 _), cl (gs _), cl gw]
   | false =>
    have gs := fun H => syms_s hv hr hg H
    have hpw := (right_pw hr).1
    have hgr := sym_grp hpw
    have hne := sym_ne hpw
    generalize symL p all8 = l at *
    have hll := grp_len hgr
    have hz := zN_sl l
    have hrl := hz.rules
    simp only [celI_len] at hrl
    have gg := fun H => grp_r hz (by omega) (fun k hk => by have := grp_mem hgr k hk; omega) hgr H
    have gi := fun H => ints_s hz hz (by omega) H
    have hl0 : ¬ (l.length : Int) = 0 := fun h => hne (List.eq_nil_of_length_eq_zero (by omega))
    simp (maxSteps := 2000000) (disch := omega) [gd_in, gd_and, wr_i64, gcall_cx, cl (gf _), cl (gs _), hrl, hl0, hne, cl (gg _), cl (gi _), cl gw]
 ·rw [decide_eq_false hfew] at gf
  simp (maxSteps := 2000000) (disch := omega) [gd_in, gd_and, wr_i64, gcall_cx, cl (gf _), cl gw]
theorem canon_groups (us : List V) (h : ArgsOk Go.Proofs.Tryd.prog maxLen 8 Go.Proofs.Tryd.f6.params.toList us) : Gives G 6 us [] (.m (.b true)) [] := by
 have e : Go.Proofs.Tryd.f6.params.toList = [23] := by rw [Go.Proofs.Tryd.params6]
 have h := e ▸ h
 have hm : maxLen ≤ 9223372036854775807 := by decide
 obtain ⟨p, v, _, hv, hl, rfl, h1⟩ := arg_pat h
 have := argsOk_nil h1
 subst this
 exact law_groups gives_awake hv (by omega)
theorem aggIs : aggT Go.Proofs.Tryd.prog 33 = some false := by unfold aggT; rw [Go.Proofs.Tryd.underlying33]; rfl
theorem fit_ints {es : List (List I)} (h : ∀ x, x ∈ es → ∃ d : Int, x = [.i .i64 d] ∧ -9223372036854775808 ≤ d ∧ d ≤ 9223372036854775807) : ∃ l : List Int, es = celI l ∧ ∀ k, k ∈ l → -9223372036854775808 ≤ k ∧ k ≤ 9223372036854775807 := by
 induction es with
 | nil => exact ⟨[], rfl, by simp⟩
 | cons x r ih =>
  obtain ⟨d, rfl, hd⟩ := h x (by simp)
  obtain ⟨l, rfl, hl⟩ := ih fun x hx => h x (by simp [hx])
  refine ⟨d :: l, rfl, fun k hk => ?_⟩
  rcases List.mem_cons.1 hk with rfl | hk
  ·exact hd
  ·exact hl k hk
theorem arg_ints {B n : Nat} {ts : List TypeId} {us : List V} (h : ArgsOk Go.Proofs.Tryd.prog B (n + 2) (33 :: ts) us) : ∃ (l : List Int) (z : I) (r : List V), IsSl z (celI l) ∧ l.length ≤ B ∧ (∀ k, k ∈ l → -9223372036854775808 ≤ k ∧ k ≤ 9223372036854775807) ∧ us = .m z :: r ∧ ArgsOk Go.Proofs.Tryd.prog B (n + 2) ts r := by
 obtain ⟨ll, r, rfl, hl, h'⟩ := argsOk_cons h
 unfold Fits at hl
 rw [Go.Proofs.Tryd.underlying33] at hl
 simp only at hl
 rcases hl with rfl | ⟨es, rfl, hle, hes⟩ <;> rw [argV_one aggIs]
 ·exact ⟨[], .nl 4, r, isSl_nil, by simp, by simp, rfl, h'⟩
 ·obtain ⟨l, rfl, hb⟩ := fit_ints fun x hx => fit_int (hes x hx)
  exact ⟨l, _, r, isSl_sl _, by rw [celI_len] at hle; exact hle, hb, rfl, h'⟩
end Go.Mx.Tryd
