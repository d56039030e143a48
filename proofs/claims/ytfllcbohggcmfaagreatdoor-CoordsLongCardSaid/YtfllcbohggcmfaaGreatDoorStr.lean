/- Rows of strings. -/
import Derived.Test.YtfllcbohggcmfaaGreatDoorSpl
set_option linter.unusedSimpArgs false
set_option linter.unusedVariables false
set_option linter.unusedSectionVars false
set_option maxRecDepth 100000
namespace Go.Mx.Tryz

def rowsS (ws : List (List Nat)) : List (List V) := ws.map fun w => [.m (.s w)]
def celS (ws : List (List Nat)) : List (List I) := ws.map fun w => [.s w]
@[simp] theorem rowsS_len (ws : List (List Nat)) : (rowsS ws).length = ws.length := by simp [rowsS]
@[simp] theorem celS_len (ws : List (List Nat)) : (celS ws).length = ws.length := by simp [celS]
theorem rowsS_snoc (ws : List (List Nat)) (w : List Nat) : rowsS ws ++ [[.m (.s w)]] = rowsS (ws ++ [w]) := by simp [rowsS]
def zS (ws : List (List Nat)) : I := if ws = [] then .nl 4 else .sl (celS ws)
theorem zS_sl (ws : List (List Nat)) : IsSl (zS ws) (celS ws) := by
 unfold zS
 split
 ·rename_i h; subst h; exact isSl_nil
 ·exact isSl_sl _
theorem optS (n : Nat) (H : Hp) : ∀ ws : List (List Nat), optMap (fun e => optMap (view (n + 1) H) e) (rowsS ws) = some (celS ws)
 | [] => rfl
 | w :: r => by
  show Option.bind (some [I.s w]) _ = _
  simp only [Option.bind_some]
  have := optS n H r
  show Option.bind (optMap _ (rowsS r)) _ = _
  rw [this]
  rfl
theorem viewS {H : Hp} {ro base : Nat} {ws : List (List Nat)} (h : nth H ro = some (.cs 9 1 (rowsS ws) base false)) (hb : base ≤ ws.length) : viewR H (.sl ro ws.length 1 0 ws.length false) = some (.m (.sl (celS ws))) := by
 have e : elems H (.sl ro ws.length 1 0 ws.length false) = some (rowsS ws) := by
  show Option.bind (nth H ro) _ = _
  rw [h]
  show gd (Nat.ble base ws.length && Nat.beq 1 1) (some (((rowsS ws).drop 0).take ws.length)) = _
  rw [ble_dec, decide_eq_true hb, List.drop_zero, List.take_of_length_le (by simp)]
  rfl
 show Option.bind (Option.bind (elems H (.sl ro ws.length 1 0 ws.length false)) _) _ = _
 rw [e]
 show Option.bind (Option.bind (optMap _ (rowsS ws)) _) _ = _
 rw [optS]
 rfl

theorem setC_v {s : St} {n : Nat} {x : V} (h : noFaV x = true) : setC s (.v n) x = some { s with E := setE s.E n x } := by
 cases x with
 | fa d o => cases h
 | _ => first | rfl | simp
def OutR (ws : List (List Nat)) (o : V) (H : Hp) : Prop := (ws = [] ∧ o = .m (.nl 4) ∧ H = []) ∨ (ws ≠ [] ∧ o = .sl 0 ws.length 1 0 ws.length false ∧ H = [.cs 9 1 (rowsS ws) 0 false])
theorem outR_push {ws : List (List Nat)} {o : V} {H : Hp} (h : OutR ws o H) (hl : ws.length ≤ 1000000) (w : List Nat) : ∃ o1 H1, (∀ B, appX ⟨B, H⟩ 9 1 16 o [[.m (.s w)]] = some (o1, ⟨B, H1⟩)) ∧ noFaV o1 = true ∧ OutR (ws ++ [w]) o1 H1 := by
 rcases h with ⟨rfl, rfl, rfl⟩ | ⟨hne, rfl, rfl⟩
 ·exact ⟨_, _, fun B => rfl, rfl, .inr ⟨by simp, rfl, rfl⟩⟩
 ·have ha := fun B => app_row (M := ⟨B, [.cs 9 1 (rowsS ws) 0 false]⟩) (r := 0) (bytes := 16) (xs := [[.m (.s w)]]) rfl (by simp) (by simp; omega) rfl
  simp only [rowsS_len, List.length_cons, List.length_nil, Nat.zero_add, rowsS_snoc, List.set_cons_zero] at ha
  exact ⟨_, _, ha, rfl, .inr ⟨by simp, by simp, rfl⟩⟩
theorem outR_view {ws : List (List Nat)} {o : V} {H : Hp} (h : OutR ws o H) : viewR H o = some (.m (zS ws)) := by
 rcases h with ⟨rfl, rfl, rfl⟩ | ⟨hne, rfl, rfl⟩
 ·rfl
 ·rw [viewS (ro := 0) (base := 0) rfl (Nat.zero_le _)]
  unfold zS
  rw [if_neg hne]

end Go.Mx.Tryz
