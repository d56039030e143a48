/- Arguments of laws, read. -/
import Derived.Test.YtfllcbohggcmfaaGreatDoorLaw
import Derived.Test.YtfllcbohggcmfaaGreatDoorPt
set_option linter.unusedSimpArgs false
set_option linter.unusedVariables false
set_option linter.unusedSectionVars false
set_option maxRecDepth 100000
namespace Go.Mx.Tryz
theorem agg3 : aggT Go.Proofs.Tryz.prog 3 = some false := by unfold aggT; rw [Go.Proofs.Tryz.underlying3]; rfl
theorem fit_int {B n : Nat} {l : List I} (h : Fits Go.Proofs.Tryz.prog B (n + 1) 3 l) : ∃ x : Int, l = [.i .i64 x] ∧ -9223372036854775808 ≤ x ∧ x ≤ 9223372036854775807 := by
 unfold Fits at h
 rw [Go.Proofs.Tryz.underlying3] at h
 simp only at h
 obtain ⟨x, rfl, hx⟩ := h
 have e1 : IntKind.i64.min = -9223372036854775808 := by decide
 have e2 : IntKind.i64.max = 9223372036854775807 := by decide
 rw [e1, e2] at hx
 exact ⟨x, rfl, hx⟩
theorem arg_int {B n : Nat} {ts : List TypeId} {us : List V} (h : ArgsOk Go.Proofs.Tryz.prog B (n + 1) (3 :: ts) us) : ∃ (x : Int) (r : List V), us = .m (.i .i64 x) :: r ∧ ArgsOk Go.Proofs.Tryz.prog B (n + 1) ts r := by
 obtain ⟨l, r, rfl, hl, h'⟩ := argsOk_cons h
 obtain ⟨x, rfl, _⟩ := fit_int hl
 rw [argV_one agg3]
 exact ⟨x, r, rfl, h'⟩
theorem aggPat : aggT Go.Proofs.Tryz.prog 24 = some false := by unfold aggT; rw [Go.Proofs.Tryz.underlying24]; rfl
theorem fit_cell {B n : Nat} {l : List I} (h : Fits Go.Proofs.Tryz.prog B (n + 2) 40 l) : ∃ d : Ce, l = d.i := by
 unfold Fits at h
 rw [Go.Proofs.Tryz.underlying40] at h
 simp only [FitsF] at h
 obtain ⟨x1, y1, rfl, k1, x2, y2, rfl, k2, x3, y3, rfl, k3, rfl⟩ := h
 obtain ⟨u, rfl, _⟩ := fit_int k1
 obtain ⟨v, rfl, _⟩ := fit_int k2
 obtain ⟨w, rfl, _⟩ := fit_int k3
 exact ⟨⟨u, v, w⟩, rfl⟩
theorem fit_cells {es : List (List I)} (h : ∀ x, x ∈ es → ∃ d : Ce, x = d.i) : ∃ p : List Ce, es = cells3 p := by
 induction es with
 | nil => exact ⟨[], rfl⟩
 | cons x r ih =>
  obtain ⟨d, rfl⟩ := h x (by simp)
  obtain ⟨p, rfl⟩ := ih fun x hx => h x (by simp [hx])
  exact ⟨d :: p, rfl⟩
theorem fit_pat {B n : Nat} {l : List I} (h : Fits Go.Proofs.Tryz.prog B (n + 3) 24 l) : ∃ (p : List Ce) (v : I), l = [v] ∧ IsSl v (cells3 p) ∧ p.length ≤ B := by
 unfold Fits at h
 rw [Go.Proofs.Tryz.underlying24] at h
 simp only at h
 rcases h with rfl | ⟨es, rfl, hle, hes⟩
 ·exact ⟨[], _, rfl, isSl_nil, by simp⟩
 ·obtain ⟨p, rfl⟩ := fit_cells fun x hx => fit_cell (hes x hx)
  exact ⟨p, _, rfl, isSl_sl _, by rw [cells3_len] at hle; exact hle⟩
theorem arg_pat {B n : Nat} {ts : List TypeId} {us : List V} (h : ArgsOk Go.Proofs.Tryz.prog B (n + 3) (24 :: ts) us) : ∃ (p : List Ce) (v : I) (r : List V), IsSl v (cells3 p) ∧ p.length ≤ B ∧ us = .m v :: r ∧ ArgsOk Go.Proofs.Tryz.prog B (n + 3) ts r := by
 obtain ⟨l, r, rfl, hl, h'⟩ := argsOk_cons h
 obtain ⟨p, v, rfl, hv, hp⟩ := fit_pat hl
 rw [argV_one aggPat]
 exact ⟨p, v, r, hv, hp, rfl, h'⟩
theorem aggStrC : aggT Go.Proofs.Tryz.prog 9 = some false := by unfold aggT; rw [Go.Proofs.Tryz.underlying9]; rfl
theorem arg_strC {B n : Nat} {ts : List TypeId} {us : List V} (h : ArgsOk Go.Proofs.Tryz.prog B (n + 1) (9 :: ts) us) : ∃ (s : List Nat) (r : List V), us = .m (.s s) :: r ∧ s.length ≤ B ∧ (∀ c, c ∈ s → c < 256) ∧ ArgsOk Go.Proofs.Tryz.prog B (n + 1) ts r := by
 obtain ⟨l, r, rfl, hl, h'⟩ := argsOk_cons h
 unfold Fits at hl
 rw [Go.Proofs.Tryz.underlying9] at hl
 obtain ⟨s, rfl, h1, h2⟩ := hl
 rw [argV_one aggStrC]
 exact ⟨s, r, rfl, h1, h2, h'⟩
end Go.Mx.Tryz
