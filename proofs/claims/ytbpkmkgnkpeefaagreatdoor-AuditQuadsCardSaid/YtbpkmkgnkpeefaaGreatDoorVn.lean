/- Rows of numbers, shown. -/
import Derived.Test.YtbpkmkgnkpeefaaGreatDoorStr
set_option linter.unusedSimpArgs false
set_option linter.unusedVariables false
set_option linter.unusedSectionVars false
set_option maxRecDepth 100000
namespace Go.Mx.Tryz

theorem optN (k : Nat) (H : Hp) : ∀ m : List Int, optMap (fun e => optMap (view (k + 1) H) e) (rowsI m) = some (celI m)
 | [] => rfl
 | x :: r => by
  show Option.bind (some [I.i .i64 x]) _ = _
  simp only [Option.bind_some]
  have := optN k H r
  show Option.bind (optMap _ (rowsI r)) _ = _
  rw [this]
  rfl
theorem rowsN_sub (l : List Int) (a n : Nat) : ((rowsI l).drop a).take n = rowsI ((l.drop a).take n) := by
 unfold rowsI; rw [List.map_take, List.map_drop]
theorem elemsN {H : Hp} {r ver st len base : Nat} {lim fz : Bool} {l : List Int} (h : nth H r = some (.cs 3 1 (rowsI l) base fz)) (hb : base ≤ ver) : elems H (.sl r ver 1 st len lim) = some (rowsI ((l.drop st).take len)) := by
 show Option.bind (nth H r) _ = _
 rw [h]
 show gd (Nat.ble base ver && Nat.beq 1 1) (some (((rowsI l).drop st).take len)) = _
 rw [ble_dec, decide_eq_true hb, rowsN_sub]
 rfl
theorem viewN {H : Hp} {r ver st len base : Nat} {lim fz : Bool} {l : List Int} (h : nth H r = some (.cs 3 1 (rowsI l) base fz)) (hb : base ≤ ver) (k : Nat) : view (k + 2) H (.sl r ver 1 st len lim) = some (.sl (celI ((l.drop st).take len))) := by
 show Option.bind (elems H (.sl r ver 1 st len lim)) _ = _
 rw [elemsN h hb]
 show Option.bind (optMap _ (rowsI _)) _ = _
 rw [optN]
 rfl
def zN (l : List Int) : I := if l = [] then .nl 4 else .sl (celI l)
theorem zN_sl (l : List Int) : IsSl (zN l) (celI l) := by
 unfold zN
 split
 ·rename_i h; subst h; exact isSl_nil
 ·exact isSl_sl _
end Go.Mx.Tryz
