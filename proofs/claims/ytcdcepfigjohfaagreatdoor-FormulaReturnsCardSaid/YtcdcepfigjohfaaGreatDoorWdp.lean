/- The words of a formula's text, plain: cut into lines and words, and the reference's single pass, which come to the same. -/
import Derived.Test.YtcdcepfigjohfaaGreatDoorSpl
set_option linter.unusedSimpArgs false
set_option linter.unusedVariables false
set_option linter.unusedSectionVars false
set_option maxRecDepth 100000
namespace Go.Mx.Tryz

def lineW (l : List Nat) : List (List Nat) := (spl 32 l).filter fun w => decide (w ≠ [])
def line1 (l : List Nat) : List (List Nat) := if l.take 1 = [99] then [] else lineW l
def txtW (s : List Nat) : List (List Nat) := (spl 10 s).flatMap line1
def fl1 (w : List Nat) : List (List Nat) := if w = [] then [] else [w]
/-- The reference's pass: a word that is being read, within a comment, at the beginning of a line. -/
def rfW : List Nat → Bool → Bool → List Nat → List (List Nat)
  | w, _, _, [] => fl1 w
  | w, cm, bg, x :: r => if x = 10 ∨ x = 32 then fl1 w ++ rfW [] (if bg then decide (x = 99) else cm) (decide (x = 10)) r else rfW (if (if bg then decide (x = 99) else cm) = true then w else w ++ [x]) (if bg then decide (x = 99) else cm) false r

theorem filt_cons (w : List Nat) (l : List (List Nat)) : (w :: l).filter (fun w => decide (w ≠ [])) = fl1 w ++ l.filter fun w => decide (w ≠ []) := by
  unfold fl1
  by_cases h : w = [] <;> simp [h]
theorem lineW_none {s : List Nat} (h : tlB 32 s = none) : lineW s = fl1 s := by
  unfold lineW
  rw [spl_none _ _ h, filt_cons]
  simp
theorem lineW_some {s t : List Nat} (h : tlB 32 s = some t) : lineW s = fl1 (hdB 32 s) ++ lineW t := by
  unfold lineW
  rw [spl_some _ _ _ h, filt_cons]
theorem txtW_none {s : List Nat} (h : tlB 10 s = none) : txtW s = line1 s := by
  unfold txtW
  rw [spl_none _ _ h]
  simp
theorem txtW_some {s t : List Nat} (h : tlB 10 s = some t) : txtW s = line1 (hdB 10 s) ++ txtW t := by
  unfold txtW
  rw [spl_some _ _ _ h, List.flatMap_cons]

/-- Words with one that is being read. -/
def wsA : List Nat → List Nat → List (List Nat)
  | w, [] => fl1 w
  | w, x :: r => if x = 32 then fl1 w ++ wsA [] r else wsA (w ++ [x]) r
theorem wsA_spl : ∀ (s w : List Nat), wsA w s = match spl 32 s with | [] => [] | h :: t => ((w ++ h) :: t).filter fun w => decide (w ≠ [])
  | [], w => by
    show fl1 w = List.filter _ ((w ++ []) :: [])
    rw [filt_cons]
    simp
  | x :: r, w => by
    have e : spl 32 (x :: r) = if x = 32 then [] :: spl 32 r else match spl 32 r with | [] => [[x]] | h :: t => (x :: h) :: t := rfl
    have e2 : wsA w (x :: r) = if x = 32 then fl1 w ++ wsA [] r else wsA (w ++ [x]) r := rfl
    obtain ⟨h, t, hs⟩ := spl_ne 32 r
    rw [e, e2]
    by_cases hx : x = 32
    · rw [if_pos hx, if_pos hx, wsA_spl r [], hs]
      simp only [List.append_nil, List.nil_append]
      rw [filt_cons w]
    · rw [if_neg hx, if_neg hx, wsA_spl r (w ++ [x]), hs]
      simp
theorem wsA_line (s : List Nat) : wsA [] s = lineW s := by
  rw [wsA_spl]
  unfold lineW
  obtain ⟨h, t, hs⟩ := spl_ne 32 s
  rw [hs]
  rfl
def aft (s : List Nat) : List (List Nat) := match tlB 10 s with
  | none => []
  | some t => rfW [] false true t
theorem rfW_bg (cm cm' : Bool) (w s : List Nat) : rfW w cm true s = rfW w cm' true s := by
  cases s with
  | nil => rfl
  | cons x r => rfl
theorem rfW_cm : ∀ s : List Nat, rfW [] true false s = aft s
  | [] => rfl
  | x :: r => by
    have e1 : tlB 10 (x :: r) = if x = 10 then some r else tlB 10 r := rfl
    have e : rfW [] true false (x :: r) = if x = 10 ∨ x = 32 then fl1 [] ++ rfW [] true (decide (x = 10)) r else rfW [] true false r := rfl
    unfold aft
    rw [e, e1]
    by_cases hx : x = 10
    · rw [if_pos (.inl hx), if_pos hx, decide_eq_true hx, rfW_bg true false]; rfl
    · have ih := rfW_cm r
      rw [if_neg hx, decide_eq_false hx]
      have : (if x = 10 ∨ x = 32 then fl1 [] ++ rfW [] true false r else rfW [] true false r) = rfW [] true false r := by
        split <;> rfl
      rw [this, ih]; rfl
theorem rfW_in : ∀ s w : List Nat, rfW w false false s = wsA w (hdB 10 s) ++ aft s
  | [], w => by
    show fl1 w = fl1 w ++ []
    simp
  | x :: r, w => by
    have e1 : tlB 10 (x :: r) = if x = 10 then some r else tlB 10 r := rfl
    have e2 : hdB 10 (x :: r) = if x = 10 then [] else x :: hdB 10 r := rfl
    have e : rfW w false false (x :: r) = if x = 10 ∨ x = 32 then fl1 w ++ rfW [] false (decide (x = 10)) r else rfW (w ++ [x]) false false r := rfl
    unfold aft
    rw [e, e1, e2]
    by_cases hx : x = 10
    · rw [if_pos (.inl hx), if_pos hx, if_pos hx, decide_eq_true hx]; rfl
    · rw [if_neg hx, if_neg hx, decide_eq_false hx]
      have e3 : wsA w (x :: hdB 10 r) = if x = 32 then fl1 w ++ wsA [] (hdB 10 r) else wsA (w ++ [x]) (hdB 10 r) := rfl
      rw [e3]
      by_cases h2 : x = 32
      · rw [if_pos (.inr h2), if_pos h2, rfW_in r [], List.append_assoc]; rfl
      · rw [if_neg (by omega), if_neg h2, rfW_in r (w ++ [x])]; rfl
theorem rfW_txt (s : List Nat) : rfW [] false true s = txtW s := by
  refine indM (P := fun s => rfW [] false true s = txtW s) (fun s : List Nat => s.length) (fun s ih => ?_) s
  have haft : ∀ r : List Nat, r.length < s.length → aft r = match tlB 10 r with | none => [] | some t => txtW t := fun r hr => by
    unfold aft
    cases h : tlB 10 r with
    | none => rfl
    | some t => exact ih t (by have := tlB_len h; omega)
  have hsp : txtW s = line1 (hdB 10 s) ++ match tlB 10 s with | none => [] | some t => txtW t := by
    cases h : tlB 10 s with
    | none => rw [txtW_none h, tlB_none _ _ h]; simp
    | some t => rw [txtW_some h]
  rw [hsp]
  cases s with
  | nil => rfl
  | cons x r =>
    have e1 : tlB 10 (x :: r) = if x = 10 then some r else tlB 10 r := rfl
    have e2 : hdB 10 (x :: r) = if x = 10 then [] else x :: hdB 10 r := rfl
    have hr := haft r (by simp)
    have e : rfW [] false true (x :: r) = if x = 10 ∨ x = 32 then fl1 [] ++ rfW [] (decide (x = 99)) (decide (x = 10)) r else rfW (if decide (x = 99) = true then [] else [] ++ [x]) (decide (x = 99)) false r := rfl
    rw [e, e1, e2]
    by_cases hx : x = 10
    · rw [if_pos (.inl hx), if_pos hx, if_pos hx, decide_eq_true hx, rfW_bg _ false, ih r (by simp)]
      have : line1 [] = [] := rfl
      rw [this]
      rfl
    · rw [if_neg hx, if_neg hx, decide_eq_false hx, ← hr]
      by_cases h2 : x = 32
      · have h9 : decide (x = 99) = false := decide_eq_false (by omega)
        have : line1 (x :: hdB 10 r) = wsA [] (hdB 10 r) := by
          unfold line1
          rw [if_neg (by simp; omega), ← wsA_line, h2]
          rfl
        rw [if_pos (.inr h2), h9, rfW_in, this]; rfl
      · rw [if_neg (by omega)]
        by_cases h9 : x = 99
        · have : line1 (x :: hdB 10 r) = [] := by
            unfold line1
            rw [if_pos (by simp [h9])]
          rw [decide_eq_true h9, if_pos rfl, rfW_cm, this]; rfl
        · have : line1 (x :: hdB 10 r) = wsA [x] (hdB 10 r) := by
            unfold line1
            rw [if_neg (by simp; omega), ← wsA_line]
            show (if x = 32 then _ else _) = _
            rw [if_neg h2]
            rfl
          rw [decide_eq_false h9, this]
          exact rfW_in r [x]
end Go.Mx.Tryz
