/- Clauses as values and rows of the machine. -/
import Derived.Test.YtcdcepfigjohfaaGreatDoorFo
set_option linter.unusedSimpArgs false
set_option linter.unusedVariables false
set_option linter.unusedSectionVars false
set_option maxRecDepth 100000
namespace Go.Mx.Tryz

def zcl (cls : List (List Int)) : List I := cls.map fun c => .sl (celI c)
def clsR (cls : List (List Int)) : List (List V) := cls.map fun c => [.m (.sl (celI c))]
@[simp] theorem zcl_len (cls : List (List Int)) : (zcl cls).length = cls.length := by simp [zcl]
@[simp] theorem clsR_len (cls : List (List Int)) : (clsR cls).length = cls.length := by simp [clsR]
def zC (cls : List (List Int)) : I := if cls = [] then .nl 4 else .sl (ones (zcl cls))
theorem zC_sl (cls : List (List Int)) : IsSl (zC cls) (ones (zcl cls)) := by
 unfold zC
 split
 ·rename_i h; subst h; exact isSl_nil
 ·exact isSl_sl _
theorem dI_celI (c : List Int) : dI (.sl (celI c)) = c := by
 show (celI c).map dE = c
 unfold celI
 rw [List.map_map]
 have : (dE ∘ fun x : Int => [I.i .i64 x]) = id := rfl
 rw [this, List.map_id]
theorem dI_zcl (cls : List (List Int)) : (zcl cls).map dI = cls := by
 unfold zcl
 rw [List.map_map]
 have : (dI ∘ fun c : List Int => I.sl (celI c)) = id := funext dI_celI
 rw [this, List.map_id]
theorem cls_zcl {cls : List (List Int)} (h : ∀ c, c ∈ cls → c.length ≤ 9223372036854775807) : Cls (zcl cls) := fun z hz => by
 unfold zcl at hz
 obtain ⟨c, hc, rfl⟩ := List.mem_map.1 hz
 rw [dI_celI]
 exact ⟨isSl_sl _, h c hc⟩
def frmV (n : Int) (cls : List (List Int)) : V := .tu [.m (.ag [.i .i64 n, zC cls]), .m (.i .i64 0)]
def errV (e : Int) : V := .tu [.m (.ag [.i .i64 0, .nl 4]), .m (.i .i64 e)]
theorem slCells {y : I} {es : List (List I)} (h : IsSl y es) : cellsV (.m y) = some [.m y] := by
 rcases h with rfl | ⟨rfl, _⟩ <;> rfl

theorem frm_lits {n : Int} {zs : List I} (h : frm n zs = true) : n ≤ 65536 ∧ ∀ z, z ∈ zs → lits n (dI z) = true := by
 unfold frm at h
 simp only [Bool.and_eq_true, decide_eq_true_eq, List.all_eq_true] at h
 exact ⟨h.1.2.1, h.2⟩

end Go.Mx.Tryz
