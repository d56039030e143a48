/- Arguments that are formulas, values, lists of numbers. -/
import Derived.Test.YtcdcepfigjohfaaGreatDoorFd
import Derived.Test.YtcdcepfigjohfaaGreatDoorLaw
set_option linter.unusedSimpArgs false
set_option linter.unusedVariables false
set_option linter.unusedSectionVars false
set_option maxRecDepth 100000
namespace Go.Mx.Tryz

theorem fit_intF {B n : Nat} {l : List I} (h : Fits Go.Proofs.Tryz.prog B (n + 1) 3 l) : ∃ x : Int, l = [.i .i64 x] := by
 unfold Fits at h
 rw [Go.Proofs.Tryz.underlying3] at h
 simp only at h
 obtain ⟨x, rfl, _⟩ := h
 exact ⟨x, rfl⟩
theorem cel_ofF : ∀ {es : List (List I)}, (∀ x, x ∈ es → ∃ y : Int, x = [.i .i64 y]) → es = celI (es.map dE)
 | [], _ => rfl
 | e :: r, h => by
  obtain ⟨y, rfl⟩ := h e (by simp)
  have := cel_ofF (es := r) fun x hx => h x (by simp [hx])
  show _ :: r = [I.i .i64 (dE [I.i .i64 y])] :: celI (r.map dE)
  rw [← this]
  rfl
theorem fit_ints {B n : Nat} {l : List I} (h : Fits Go.Proofs.Tryz.prog B (n + 2) 35 l) : ∃ z : I, l = [z] ∧ IsSl z (celI (dI z)) ∧ (dI z).length ≤ B := by
 unfold Fits at h
 rw [Go.Proofs.Tryz.underlying35] at h
 simp only at h
 rcases h with rfl | ⟨es, rfl, hle, hes⟩
 ·exact ⟨_, rfl, isSl_nil, by simp [dI]⟩
 ·refine ⟨_, rfl, ?_, by simpa [dI] using hle⟩
  show IsSl (.sl es) (celI (es.map dE))
  rw [← cel_ofF fun x hx => fit_intF (hes x hx)]
  exact isSl_sl _
theorem ones_ofF : ∀ {es : List (List I)}, (∀ x, x ∈ es → ∃ z : I, x = [z]) → ∃ zs, es = ones zs
 | [], _ => ⟨[], rfl⟩
 | e :: r, h => by
  obtain ⟨y, rfl⟩ := h e (by simp)
  obtain ⟨zs, rfl⟩ := ones_ofF (es := r) fun x hx => h x (by simp [hx])
  exact ⟨y :: zs, rfl⟩
theorem fit_cls {B n : Nat} {l : List I} (hB : B ≤ 9223372036854775807) (h : Fits Go.Proofs.Tryz.prog B (n + 3) 22 l) : ∃ (z : I) (zs : List I), l = [z] ∧ IsSl z (ones zs) ∧ Cls zs ∧ zs.length ≤ B := by
 unfold Fits at h
 rw [Go.Proofs.Tryz.underlying22] at h
 simp only at h
 rcases h with rfl | ⟨es, rfl, hle, hes⟩
 ·exact ⟨_, [], rfl, isSl_nil, fun z hz => by simp at hz, by simp⟩
 ·obtain ⟨zs, rfl⟩ := ones_ofF fun x hx => let ⟨z, h1, _⟩ := fit_ints (hes x hx); ⟨z, h1⟩
  refine ⟨_, zs, rfl, isSl_sl _, fun z hz => ?_, by simpa using hle⟩
  obtain ⟨z', h1, h2, h3⟩ := fit_ints (hes [z] (by simp [ones, hz]))
  cases h1
  exact ⟨h2, by omega⟩
theorem aggFrm : aggT Go.Proofs.Tryz.prog 24 = some true := by unfold aggT; rw [Go.Proofs.Tryz.underlying24]; rfl
theorem arg_frm {B n : Nat} {ts : List TypeId} {us : List V} (hB : B ≤ 9223372036854775807) (h : ArgsOk Go.Proofs.Tryz.prog B (n + 4) (24 :: ts) us) :
  ∃ (x : Int) (z : I) (zs : List I) (r : List V), us = .m (.ag [.i .i64 x, z]) :: r ∧ IsSl z (ones zs) ∧ Cls zs ∧ zs.length ≤ B ∧ ArgsOk Go.Proofs.Tryz.prog B (n + 4) ts r := by
 obtain ⟨l, r, rfl, hl, h'⟩ := argsOk_cons h
 unfold Fits at hl
 rw [Go.Proofs.Tryz.underlying24] at hl
 simp only [FitsF] at hl
 obtain ⟨x1, y1, rfl, k1, x2, y2, rfl, k2, rfl⟩ := hl
 obtain ⟨x, rfl⟩ := fit_intF k1
 obtain ⟨z, zs, rfl, h1, h2, h3⟩ := fit_cls hB k2
 rw [argV_ag aggFrm]
 exact ⟨x, z, zs, r, rfl, h1, h2, h3, h'⟩
theorem celB_ofF : ∀ {es : List (List I)}, (∀ x, x ∈ es → ∃ y : Bool, x = [.b y]) → ∃ l, es = celB l
 | [], _ => ⟨[], rfl⟩
 | e :: r, h => by
  obtain ⟨y, rfl⟩ := h e (by simp)
  obtain ⟨l, rfl⟩ := celB_ofF (es := r) fun x hx => h x (by simp [hx])
  exact ⟨y :: l, rfl⟩
theorem aggBs : aggT Go.Proofs.Tryz.prog 25 = some false := by unfold aggT; rw [Go.Proofs.Tryz.underlying25]; rfl
theorem arg_bools {B n : Nat} {ts : List TypeId} {us : List V} (h : ArgsOk Go.Proofs.Tryz.prog B (n + 2) (25 :: ts) us) :
  ∃ (v : I) (vs : List Bool) (r : List V), us = .m v :: r ∧ IsSl v (celB vs) ∧ vs.length ≤ B ∧ ArgsOk Go.Proofs.Tryz.prog B (n + 2) ts r := by
 obtain ⟨l, r, rfl, hl, h'⟩ := argsOk_cons h
 unfold Fits at hl
 rw [Go.Proofs.Tryz.underlying25] at hl
 simp only at hl
 rcases hl with rfl | ⟨es, rfl, hle, hes⟩
 ·rw [argV_one aggBs]
  exact ⟨_, [], r, rfl, isSl_nil, by simp, h'⟩
 ·have : ∃ vs, es = celB vs := celB_ofF fun x hx => by
   have := hes x hx
   unfold Fits at this
   rw [Go.Proofs.Tryz.underlying4] at this
   simpa using this
  obtain ⟨vs, rfl⟩ := this
  rw [argV_one aggBs]
  exact ⟨_, vs, r, rfl, isSl_sl _, by simpa using hle, h'⟩
end Go.Mx.Tryz
