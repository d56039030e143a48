/- The law AuditQuads. -/
import Derived.Test.YtbpkmkgnkpeefaaGreatDoorQm
import Derived.Test.YtbpkmkgnkpeefaaGreatDoorAwake
set_option linter.unusedSimpArgs false
set_option linter.unusedVariables false
set_option linter.unusedSectionVars false
set_option maxRecDepth 100000
namespace Go.Mx.Tryz
open Go.Lib Go.Proofs

theorem law_quads (gw : Gives G 6 [] [] (.m (.b true)) []) {v : I} {s : Int} {l : List Qd} (hv : IsSl v (cellsQ l)) : Gives G 3 [.m (.ag [.i .i64 s, v])] [] (.m (.b true)) [] := by
 have hrv := hv.rules
 simp only [cellsQ_len] at hrv
 have hv1 := isSl_q hv
 refine gives_pur rfl rfl rfl rfl rfl ?_
 by_cases h4 : 400 < (l.length : Int)
 ·have h4n : 400 < l.length := by omega
  simp (maxSteps := 2000000) (disch := omega) [gd_in, gd_and, wr_i64, hv1, hrv, h4, h4n, cl gw]
 ·have h4n : ¬ 400 < l.length := by omega
  have g1 := fun H => quads_q (s := s) hv (by omega) H
  have g2 := fun H => quads_58 (s := s) hv (by omega) H
  have g3 := fun H => right_25 (s := s) hv (by omega) H
  have e := numQ_0 (s := s) (l := l)
  rw [← e] at g3
  simp (maxSteps := 2000000) (disch := omega) [gd_in, gd_and, wr_i64, gcall_cx, hv1, hrv, h4, h4n, cl (g1 _), cl (g2 _), cl (g3 _), cl gw]
theorem audit_quads (us : List V) (h : ArgsOk Go.Proofs.Tryz.prog maxLen 8 Go.Proofs.Tryz.f3.params.toList us) : Gives G 3 us [] (.m (.b true)) [] := by
 have e : Go.Proofs.Tryz.f3.params.toList = [24] := by rw [Go.Proofs.Tryz.params3]
 have h := e ▸ h
 obtain ⟨s, v, l, r, rfl, hv, hl, h1⟩ := arg_quads h
 have := argsOk_nil h1
 subst this
 exact law_quads gives_awake hv
end Go.Mx.Tryz
