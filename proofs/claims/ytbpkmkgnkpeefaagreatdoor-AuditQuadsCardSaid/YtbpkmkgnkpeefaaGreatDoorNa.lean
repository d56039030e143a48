/- A list of numbers that grows: none, or row 0. -/
import Derived.Test.YtbpkmkgnkpeefaaGreatDoorSeav
import Derived.Test.YtbpkmkgnkpeefaaGreatDoorVn
import Derived.Test.YtbpkmkgnkpeefaaGreatDoorSpl
set_option linter.unusedSimpArgs false
set_option linter.unusedVariables false
set_option linter.unusedSectionVars false
set_option maxRecDepth 100000
namespace Go.Mx.Tryz
open Go.Lib Go.Proofs

def NumA (acc : List Int) (o : V) (H : Hp) : Prop := (acc = [] ∧ o = .m (.nl 4) ∧ H = []) ∨ (acc ≠ [] ∧ o = .sl 0 acc.length 1 0 acc.length false ∧ H = [.cs 3 1 (rowsI acc) 0 false])
theorem numA_push {acc : List Int} {o : V} {H : Hp} (h : NumA acc o H) (hl : acc.length ≤ 1000000) (x : Int) : ∃ o1 H1, (∀ B, appX ⟨B, H⟩ 3 1 8 o [[.m (.i .i64 x)]] = some (o1, ⟨B, H1⟩)) ∧ noFaV o1 = true ∧ NumA (acc ++ [x]) o1 H1 := by
 rcases h with ⟨rfl, rfl, rfl⟩ | ⟨hne, rfl, rfl⟩
 ·exact ⟨_, _, fun B => rfl, rfl, .inr ⟨by simp, rfl, rfl⟩⟩
 ·have ha := fun B => app_row (M := ⟨B, [.cs 3 1 (rowsI acc) 0 false]⟩) (r := 0) (bytes := 8) (xs := [[.m (.i .i64 x)]]) rfl (by simp) (by simp [rowsI_len]; omega) (by simp [rowsI])
  simp only [rowsI_len, List.length_cons, List.length_nil, Nat.zero_add, rowsI_snoc, List.set_cons_zero] at ha
  exact ⟨_, _, ha, rfl, .inr ⟨by simp, by simp, rfl⟩⟩
theorem numA_nf {acc : List Int} {o : V} {H : Hp} (h : NumA acc o H) : noFaV o = true := by
 rcases h with ⟨_, rfl, _⟩ | ⟨_, rfl, _⟩ <;> rfl
theorem numA_call {F : Nat} {acc : List Int} {o x : V} {t0 : I} {H : Hp} (hp : G.prim F = none) (hs : G.sh F = false) (ho : NumA acc o H) (h : ∀ w H, IsSl w (celI acc) → Gives G F [.m t0, .m w] H x H) (hf : flatV x = true) : Gives G F [.m t0, o] H x H := by
 rcases ho with ⟨rfl, rfl, rfl⟩ | ⟨hne, rfl, rfl⟩
 ·exact h _ [] isSl_nil
 ·refine gives_view (is := [t0, .sl (celI acc)]) hp hs (h _ [] (isSl_sl _)) ?_ (.inr ⟨by simp [refs, ref1], hf⟩)
  have := viewN (r := 0) (ver := acc.length) (st := 0) (len := acc.length) (lim := false) (base := 0) (fz := false) (l := acc) (H := [Row.cs 3 1 (rowsI acc) 0 false]) rfl (Nat.zero_le _) 18
  rw [List.drop_zero, List.take_of_length_le (Nat.le_refl _)] at this
  show Option.bind (some _) (fun _ => Option.bind (Option.bind (view 20 _ _) _) _) = _
  rw [this]
  rfl
end Go.Mx.Tryz
