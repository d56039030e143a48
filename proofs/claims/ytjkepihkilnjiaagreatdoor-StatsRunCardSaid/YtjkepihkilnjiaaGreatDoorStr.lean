/- Rows of strings. -/
import Derived.Test.YtjkepihkilnjiaaGreatDoorSpl
set_option linter.unusedSimpArgs false
set_option linter.unusedVariables false
set_option linter.unusedSectionVars false
set_option maxRecDepth 100000
namespace Go.Mx.Tryz

def rowsS (ws : List (List Nat)) : List (List V) := ws.map fun w => [.m (.s w)]
def celS (ws : List (List Nat)) : List (List I) := ws.map fun w => [.s w]
@[simp] theorem rowsS_len (ws : List (List Nat)) : (rowsS ws).length = ws.length := by simp [rowsS]
@[simp] theorem celS_len (ws : List (List Nat)) : (celS ws).length = ws.length := by simp [celS]
theorem setC_v {s : St} {n : Nat} {x : V} (h : noFaV x = true) : setC s (.v n) x = some { s with E := setE s.E n x } := by
 cases x with
 | fa d o => cases h
 | _ => first | rfl | simp
end Go.Mx.Tryz
