/- Contents of stores of quadtrees: values, arguments. -/
import Derived.Test.YtbpkmkgnkpeefaaGreatDoorQa
import Derived.Test.YtbpkmkgnkpeefaaGreatDoorArg
set_option linter.unusedSimpArgs false
set_option linter.unusedVariables false
set_option linter.unusedSectionVars false
set_option maxRecDepth 100000
namespace Go.Mx.Tryz
open Go.Lib Go.Proofs

def Qd.i (x : Qd) : List I := [.i .i64 x.a, .i .i64 x.b, .i .i64 x.c, .i .i64 x.d]
def cellsQ (l : List Qd) : List (List I) := l.map Qd.i
@[simp] theorem cellsQ_len (l : List Qd) : (cellsQ l).length = l.length := by simp [cellsQ]
theorem cellsQ_nth {l : List Qd} {i : Nat} {x : Qd} (h : l[i]? = some x) : nth (cellsQ l) i = some [.i .i64 x.a, .i .i64 x.b, .i .i64 x.c, .i .i64 x.d] := by
 rw [nth_get]
 simp [cellsQ, h, Qd.i]
theorem fit_quad {B n : Nat} {l : List I} (h : Fits Go.Proofs.Tryz.prog B (n + 3) 49 l) : ∃ x : Qd, l = x.i := by
 unfold Fits at h
 rw [Go.Proofs.Tryz.underlying49] at h
 simp only [FitsF] at h
 obtain ⟨x1, y1, rfl, k1, rfl⟩ := h
 unfold Fits at k1
 rw [Go.Proofs.Tryz.underlying47] at k1
 simp only at k1
 obtain ⟨es, rfl, hl, he⟩ := k1
 match es, hl, he with
 | [a, b, c, d], _, he =>
  obtain ⟨x, rfl, _⟩ := fit_int (he a (by simp))
  obtain ⟨y, rfl, _⟩ := fit_int (he b (by simp))
  obtain ⟨z, rfl, _⟩ := fit_int (he c (by simp))
  obtain ⟨w, rfl, _⟩ := fit_int (he d (by simp))
  exact ⟨⟨x, y, z, w⟩, rfl⟩
theorem fit_quads {es : List (List I)} (h : ∀ x, x ∈ es → ∃ d : Qd, x = d.i) : ∃ p, es = cellsQ p := by
 induction es with
 | nil => exact ⟨[], rfl⟩
 | cons x r ih =>
  obtain ⟨d, rfl⟩ := h x (by simp)
  obtain ⟨p, rfl⟩ := ih fun x hx => h x (by simp [hx])
  exact ⟨d :: p, rfl⟩
theorem aggQuads : aggT Go.Proofs.Tryz.prog 24 = some true := by unfold aggT; rw [Go.Proofs.Tryz.underlying24]; rfl
theorem arg_quads {B n : Nat} {ts : List TypeId} {us : List V} (h : ArgsOk Go.Proofs.Tryz.prog B (n + 5) (24 :: ts) us) :
  ∃ (s : Int) (v : I) (l : List Qd) (r : List V), us = .m (.ag [.i .i64 s, v]) :: r ∧ IsSl v (cellsQ l) ∧ l.length ≤ B ∧ ArgsOk Go.Proofs.Tryz.prog B (n + 5) ts r := by
 obtain ⟨l, r, rfl, hl, h'⟩ := argsOk_cons h
 unfold Fits at hl
 rw [Go.Proofs.Tryz.underlying24] at hl
 simp only [FitsF] at hl
 obtain ⟨x1, y1, rfl, k1, x2, y2, rfl, k2, rfl⟩ := hl
 obtain ⟨s, rfl, _⟩ := fit_int k1
 unfold Fits at k2
 rw [Go.Proofs.Tryz.underlying22] at k2
 simp only at k2
 have hv : ∃ (v : I) (p : List Qd), x2 = [v] ∧ IsSl v (cellsQ p) ∧ p.length ≤ B := by
  rcases k2 with rfl | ⟨es, rfl, hle, hes⟩
  ·exact ⟨_, [], rfl, isSl_nil, by simp⟩
  ·obtain ⟨p, rfl⟩ := fit_quads fun x hx => fit_quad (hes x hx)
   exact ⟨_, p, rfl, isSl_sl _, by simpa using hle⟩
 obtain ⟨v, p, rfl, h1, h2⟩ := hv
 rw [argV_ag aggQuads]
 exact ⟨s, v, p, r, rfl, h1, h2, h'⟩
end Go.Mx.Tryz
