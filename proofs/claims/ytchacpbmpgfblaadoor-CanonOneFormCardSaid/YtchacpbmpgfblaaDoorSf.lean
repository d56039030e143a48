/- Arguments of the laws of chapter 33. -/
import Derived.Test.YtchacpbmpgfblaaDoorFm
import Derived.Test.YtchacpbmpgfblaaDoorArg
set_option linter.unusedSimpArgs false
set_option linter.unusedVariables false
set_option linter.unusedSectionVars false
set_option maxRecDepth 100000
namespace Go.Mx.Tryd
open Go.Sort Go.Lib Go.Proofs

theorem few_l {v : I} {p : List Ce} (hv : IsSl v (cells3 p)) (H : Hp) : Gives G 7 [.m v] H (.m (.b (decide ((p.length : Int) ≤ 300)))) H := by
 have hr := hv.rules
 simp only [show (cells3 p).length = p.length from by simp [cells3]] at hr
 refine gives_pur rfl rfl rfl rfl rfl ?_
 simp (maxSteps := 2000000) (disch := omega) [gd_in, gd_and, wr_i64, hr]
theorem aggIs : aggT Go.Proofs.Tryd.prog 33 = some false := by unfold aggT; rw [Go.Proofs.Tryd.underlying33]; rfl
theorem fit_ints {es : List (List I)} (h : ∀ x, x ∈ es → ∃ d : Int, x = [.i .i64 d] ∧ -9223372036854775808 ≤ d ∧ d ≤ 9223372036854775807) : ∃ l : List Int, es = celI l ∧ ∀ k, k ∈ l → -9223372036854775808 ≤ k ∧ k ≤ 9223372036854775807 := by
 induction es with
 | nil => exact ⟨[], rfl, by simp⟩
 | cons x r ih =>
  obtain ⟨d, rfl, hd⟩ := h x (by simp)
  obtain ⟨l, rfl, hl⟩ := ih fun x hx => h x (by simp [hx])
  refine ⟨d :: l, rfl, fun k hk => ?_⟩
  rcases List.mem_cons.1 hk with rfl | hk
  ·exact hd
  ·exact hl k hk
theorem arg_ints {B n : Nat} {ts : List TypeId} {us : List V} (h : ArgsOk Go.Proofs.Tryd.prog B (n + 2) (33 :: ts) us) : ∃ (l : List Int) (z : I) (r : List V), IsSl z (celI l) ∧ l.length ≤ B ∧ (∀ k, k ∈ l → -9223372036854775808 ≤ k ∧ k ≤ 9223372036854775807) ∧ us = .m z :: r ∧ ArgsOk Go.Proofs.Tryd.prog B (n + 2) ts r := by
 obtain ⟨ll, r, rfl, hl, h'⟩ := argsOk_cons h
 unfold Fits at hl
 rw [Go.Proofs.Tryd.underlying33] at hl
 simp only at hl
 rcases hl with rfl | ⟨es, rfl, hle, hes⟩ <;> rw [argV_one aggIs]
 ·exact ⟨[], .nl 4, r, isSl_nil, by simp, by simp, rfl, h'⟩
 ·obtain ⟨l, rfl, hb⟩ := fit_ints fun x hx => fit_int (hes x hx)
  exact ⟨l, _, r, isSl_sl _, by rw [celI_len] at hle; exact hle, hb, rfl, h'⟩
end Go.Mx.Tryd
