/- Form, Alike, Syms of the reference; Alike of the program. -/
import Derived.Test.YtchacpbmpgfblaaDoorSq
set_option linter.unusedSimpArgs false
set_option linter.unusedVariables false
set_option linter.unusedSectionVars false
set_option maxRecDepth 100000
namespace Go.Mx.Tryd
open Go.Sort Go.Lib Go.Proofs

def formE (p : List Ce) : Option Int := if right p = true then if largeC p = true then some 5 else none else some 2
theorem formE_none {p : List Ce} (h : formE p = none) : right p = true ∧ largeC p = false := by
 unfold formE at h
 cases hr : right p <;> cases hl : largeC p <;> simp_all
theorem form_se {v z : I} {p : List Ce} {e : Int} (hv : IsSl v (cells3 p)) (hl : (p.length : Int) ≤ 9223372036854775807) (he : formE p = some e) (H : Hp) : Gives G 14 [.m v, .m z] H (.tu [.m (.nl 4), .m (.i .i64 e)]) H := by
 refine gives_pur rfl rfl rfl rfl rfl ?_
 have g1 := fun H => right_s hv hl H
 have g2 := fun H => large_s hv hl H
 unfold formE at he
 cases hr : right p with
 | false =>
  rw [hr] at g1 he
  cases he
  simp (maxSteps := 2000000) (disch := omega) [gd_in, gd_and, wr_i64, cl (g1 _)]
 | true =>
  rw [hr] at g1 he
  cases hg : largeC p with
  | false => rw [hg] at he; cases he
  | true =>
   rw [hg] at g2 he
   cases he
   simp (maxSteps := 2000000) (disch := omega) [gd_in, gd_and, wr_i64, cl (g1 _), cl (g2 _)]
def formC (p : List Ce) (g : List Int) : List Ce := if formE p = none then bestC p (homeC p) g else []
def codeE (p : List Ce) : Int := (formE p).getD 0
theorem formC_len (p : List Ce) (g : List Int) : (formC p g).length ≤ p.length := by
 unfold formC
 split
 ·rw [bestC_len (home_len p) _ _ rfl]; exact Nat.le_refl _
 ·exact Nat.zero_le _
theorem form_S {v z : I} {p : List Ce} {l g : List Int} (hv : IsSl v (cells3 p)) (hpl : (p.length : Int) ≤ 9223372036854775807) (hz : IsSl z (celI l)) (hl : l.length ≤ 1000000) (hg : Grp l g) :
  ∃ w, IsSl w (cells3 (formC p g)) ∧ ∀ H, Gives G 14 [.m v, .m z] H (.tu [.m w, .m (.i .i64 (codeE p))]) H := by
 cases he : formE p with
 | some e =>
  refine ⟨.nl 4, ?_, fun H => ?_⟩
  ·unfold formC
   rw [he, if_neg (by simp)]
   exact isSl_nil
  ·unfold codeE
   rw [he]
   exact form_se hv hpl he H
 | none =>
  obtain ⟨hr, hlg⟩ := formE_none he
  obtain ⟨w, hw, hg0⟩ := form_s hv hr hlg hz hl hg []
  refine ⟨w, ?_, fun H => ?_⟩
  ·unfold formC
   rw [he, if_pos rfl]
   exact hw
  ·obtain ⟨w', hw', hg1⟩ := form_s hv hr hlg hz hl hg H
   unfold codeE
   rw [he]
   have := gives_view (H := H) (vs := [.m v, .m z]) (is := [v, z]) rfl rfl hg0 rfl (.inl ⟨rfl, rfl⟩)
   exact this
end Go.Mx.Tryd
