/- CanonGroups: the law. -/
import Derived.Test.YtchacpbmpgfblaaGreatDoorSg
import Derived.Test.YtchacpbmpgfblaaGreatDoorAw
import Derived.Test.YtchacpbmpgfblaaGreatDoorArg
set_option linter.unusedSimpArgs false
set_option linter.unusedVariables false
set_option linter.unusedSectionVars false
set_option maxRecDepth 100000
namespace Go.Mx.Tryz
open Go.Sort Go.Lib Go.Proofs

theorem syms_no {v : I} {p : List Ce} (hv : IsSl v (cells3 p)) (hl : (p.length : Int) ≤ 9223372036854775807) (h : right p = false ∨ largeC p = true) (H : Hp) : Gives G 11 [.m v] H (.m (.nl 4)) H := by
 refine gives_pur rfl rfl rfl rfl rfl ?_
 have g1 := fun H => right_s hv hl H
 have g2 := fun H => large_s hv hl H
 cases hr : right p with
 | false =>
  rw [hr] at g1
  simp (maxSteps := 2000000) (disch := omega) [gd_in, gd_and, wr_i64, gcall_cx, cl (g1 _)]
 | true =>
  rw [hr] at g1
  have hg : largeC p = true := by
   rcases h with h | h
   ·rw [hr] at h; cases h
   ·exact h
  rw [hg] at g2
  simp (maxSteps := 2000000) (disch := omega) [gd_in, gd_and, wr_i64, gcall_cx, cl (g1 _), cl (g2 _)]
theorem few_l {v : I} {p : List Ce} (hv : IsSl v (cells3 p)) (H : Hp) : Gives G 5 [.m v] H (.m (.b (decide ((p.length : Int) ≤ 300)))) H := by
 have hr := hv.rules
 simp only [show (cells3 p).length = p.length from by simp [cells3]] at hr
 refine gives_pur rfl rfl rfl rfl rfl ?_
 simp (maxSteps := 2000000) (disch := omega) [gd_in, gd_and, wr_i64, hr]
theorem aggIs : aggT Go.Proofs.Tryz.prog 24 = some false := by unfold aggT; rw [Go.Proofs.Tryz.underlying24]; rfl
theorem fit_ints {es : List (List I)} (h : ∀ x, x ∈ es → ∃ d : Int, x = [.i .i64 d] ∧ -9223372036854775808 ≤ d ∧ d ≤ 9223372036854775807) : ∃ l : List Int, es = celI l ∧ ∀ k, k ∈ l → -9223372036854775808 ≤ k ∧ k ≤ 9223372036854775807 := by
 induction es with
 | nil => exact ⟨[], rfl, by simp⟩
 | cons x r ih =>
  obtain ⟨d, rfl, hd⟩ := h x (by simp)
  obtain ⟨l, rfl, hl⟩ := ih fun x hx => h x (by simp [hx])
  refine ⟨d :: l, rfl, fun k hk => ?_⟩
  rcases List.mem_cons.1 hk with rfl | hk
  ·exact hd
  ·exact hl k hk
theorem arg_ints {B n : Nat} {ts : List TypeId} {us : List V} (h : ArgsOk Go.Proofs.Tryz.prog B (n + 2) (24 :: ts) us) : ∃ (l : List Int) (z : I) (r : List V), IsSl z (celI l) ∧ l.length ≤ B ∧ (∀ k, k ∈ l → -9223372036854775808 ≤ k ∧ k ≤ 9223372036854775807) ∧ us = .m z :: r ∧ ArgsOk Go.Proofs.Tryz.prog B (n + 2) ts r := by
 obtain ⟨ll, r, rfl, hl, h'⟩ := argsOk_cons h
 unfold Fits at hl
 rw [Go.Proofs.Tryz.underlying24] at hl
 simp only at hl
 rcases hl with rfl | ⟨es, rfl, hle, hes⟩ <;> rw [argV_one aggIs]
 ·exact ⟨[], .nl 4, r, isSl_nil, by simp, by simp, rfl, h'⟩
 ·obtain ⟨l, rfl, hb⟩ := fit_ints fun x hx => fit_int (hes x hx)
  exact ⟨l, _, r, isSl_sl _, by rw [celI_len] at hle; exact hle, hb, rfl, h'⟩
end Go.Mx.Tryz
