/- CoordsParses: the law. -/
import Derived.Test.YtfllcbohggcmfaaGreatDoorCc
import Derived.Test.YtfllcbohggcmfaaGreatDoorCd
import Derived.Test.YtfllcbohggcmfaaGreatDoorKq
import Derived.Test.YtfllcbohggcmfaaGreatDoorArg
import Derived.Test.YtfllcbohggcmfaaGreatDoorAwake
set_option linter.unusedSimpArgs false
set_option linter.unusedVariables false
set_option linter.unusedSectionVars false
set_option maxRecDepth 100000
namespace Go.Mx.Tryz
open Go.Lib Go.Proofs

theorem parse_rnil (H : Hp) : Gives G 11 [.m (.s [])] H (.tu [.m (.nl 4), .m (.i .i64 1), .m (.i .i64 15)]) H := by
  refine gives_pur rfl rfl rfl rfl rfl ?_
  have gl := fun H => lines_r [] (by simp) H
  have hz : zS (linesA [] []) = .nl 4 := rfl
  rw [hz] at gl
  simp (maxSteps := 2000000) (disch := omega) [gd_in, gd_and, wr_i64, cl (gl _)]
theorem aggStrC : aggT Go.Proofs.Tryz.prog 9 = some false := by unfold aggT; rw [Go.Proofs.Tryz.underlying9]; rfl
theorem arg_strC {B n : Nat} {ts : List TypeId} {us : List V} (h : ArgsOk Go.Proofs.Tryz.prog B (n + 1) (9 :: ts) us) : ∃ (s : List Nat) (r : List V), us = .m (.s s) :: r ∧ s.length ≤ B ∧ (∀ c, c ∈ s → c < 256) ∧ ArgsOk Go.Proofs.Tryz.prog B (n + 1) ts r := by
  obtain ⟨l, r, rfl, hl, h'⟩ := argsOk_cons h
  unfold Fits at hl
  rw [Go.Proofs.Tryz.underlying9] at hl
  obtain ⟨s, rfl, h1, h2⟩ := hl
  rw [argV_one aggStrC]
  exact ⟨s, r, rfl, h1, h2, h'⟩
theorem law_parses (hA : Gives G 9 [] [] (.m (.b true)) []) {s : List Nat} (hs : s.length ≤ 9223372036854775807) (hb : ∀ c, c ∈ s → c < 256) : Gives G 3 [.m (.s s)] [] (.m (.b true)) [] := by
  refine gives_pur rfl rfl rfl rfl rfl ?_
  have gn := fun H => same_r (p := []) isSl_nil isSl_nil (by simp) H
  by_cases h5 : 5000 < s.length
  · have h' : (5000 : Int) < s.length := by omega
    simp (maxSteps := 2000000) (disch := omega) [gd_in, gd_and, wr_i64, h', cl hA]
  · have h' : ¬ (5000 : Int) < s.length := by omega
    by_cases h0 : s = []
    · subst h0
      simp (maxSteps := 2000000) (disch := omega) [gd_in, gd_and, wr_i64, cl (parse_nil _), cl (parse_rnil _), cl (gn _), gcall_cx, cl hA]
    · have gr := fun H => parse_r s (by omega) h0 hb H
      rcases parse_m s (by omega) h0 hb with ⟨n, e, hp, gp⟩ | ⟨f, q, hp, k1, k2, k3, k4, k5, gp⟩
      · rw [hp] at gr
        have gr' : ∀ H, Gives G 11 [.m (.s s)] H (.tu [.m (.nl 4), .m (.i .i64 n), .m (.i .i64 e)]) H := fun H => by
          obtain ⟨v, h1, h2⟩ := gr H
          have h1 : v = .tu [.m (.nl 4), .m (.i .i64 n), .m (.i .i64 e)] := h1
          rw [h1] at h2
          exact h2
        simp (maxSteps := 2000000) (disch := omega) [gd_in, gd_and, wr_i64, h', cl (gp _), cl (gr' _), cl (gn _), gcall_cx, cl hA]
      · rw [hp] at gr
        have gr' : ∀ H, Gives G 11 [.m (.s s)] H (.tu [.m (zP q), .m (.i .i64 0), .m (.i .i64 0)]) H := fun H => by
          obtain ⟨v, ⟨p, j1, j2, j3⟩, h2⟩ := gr H
          have := asc_eq j2 k2 (k1.trans j1.symm)
          subst this
          rw [j3] at h2
          exact h2
        have gs := fun H => same_r (zP_sl q) (zP_sl q) (by omega) H
        simp (maxSteps := 2000000) (disch := omega) [gd_in, gd_and, wr_i64, h', cl (gp _), cl (gr' _), cl (gs _), gcall_cx, cl hA]
theorem coords_parses (us : List V) (h : ArgsOk Go.Proofs.Tryz.prog maxLen 8 Go.Proofs.Tryz.f3.params.toList us) : Gives G 3 us [] (.m (.b true)) [] := by
  have e : Go.Proofs.Tryz.f3.params.toList = [9] := by rw [Go.Proofs.Tryz.params3]
  have h := e ▸ h
  obtain ⟨s, r, rfl, hl, hb, h2⟩ := arg_strC h
  have := argsOk_nil h2
  subst this
  exact law_parses gives_awake hl hb
end Go.Mx.Tryz
