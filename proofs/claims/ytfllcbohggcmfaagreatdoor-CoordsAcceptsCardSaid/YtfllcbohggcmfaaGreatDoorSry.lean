/- Sorting cells by their places. -/
import Derived.Test.YtfllcbohggcmfaaGreatDoorSrx
import Derived.Test.YtfllcbohggcmfaaGreatDoorPt
set_option linter.unusedSimpArgs false
set_option linter.unusedVariables false
set_option linter.unusedSectionVars false
set_option maxRecDepth 100000
namespace Go.Mx.Tryz
open Go.Sort Go.Lib
instance : Inhabited Ce := ⟨⟨0, 0, 0⟩⟩
def ceRw : Rw Ce 3 true where
  enc c := c.i.map .m
  val c := .m (.ag c.i)
  len c := rfl
  pos := by decide
  one c := rfl
  ld c := by simp [Ce.i]
  st c := by simp [Ce.i]
def ceCmp (A : Hp) : Cmp ceRw A 45 less where
  ok _ := True
  ext _ _ _ := trivial
  cmp a b := cmpP a.x a.y b.x b.y
  neg a b := by
    unfold cmpP less
    grind [cmpI]
  run a b row C _ := order_s a b _
theorem less_swo : SWO less where
  irrefl x := by simp [less]
  trans x y z h1 h2 := by simp only [less, decide_eq_true_eq] at *; omega
  ntrans x y z h1 h2 := by simp only [less, decide_eq_false_iff_not] at *; omega
end Go.Mx.Tryz
