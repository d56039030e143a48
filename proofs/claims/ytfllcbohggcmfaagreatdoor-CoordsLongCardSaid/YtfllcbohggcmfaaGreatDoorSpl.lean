/- Cutting at a byte: plain functions, strings.Index of one byte, the closure of strings.SplitSeq with an invariant. -/
import Derived.Test.YtfllcbohggcmfaaGreatDoorSeav
import Derived.Test.YtfllcbohggcmfaaGreatDoorWb
set_option linter.unusedSimpArgs false
set_option linter.unusedVariables false
set_option linter.unusedSectionVars false
set_option maxRecDepth 100000
namespace Go.Mx.Tryz

@[simp] theorem rx_ldb (M : Mem) (ag : Bool) (sz d off : Nat) : readX M (.ldb ag sz) [.fa d off] = (readA M sz (.fa d off)).bind fun cs => valOf ag cs := rfl
@[simp] theorem px_slc_r (esz : Nat) (lo hi mx : Bool) (r ver e st len : Nat) (lim : Bool) (vs : List V) : pureX (.slc esz lo hi mx) (.sl r ver e st len lim :: vs) = gd (eqB false (Nat.beq esz 0)) (gd (Nat.beq esz e) ((bnds len lo hi mx vs).bind fun p => some (.sl r ver e (st + p.1) (p.2 - p.1) (mx || (lim && Nat.beq p.2 len))))) := rfl
@[simp] theorem allM_sl (a b c d e : Nat) (f : Bool) (r : List V) : allM (.sl a b c d e f :: r) = none := rfl
@[simp] theorem view_ag20 (H : Hp) (cs : List V) : view 20 H (.ag cs) = (optMap (view 19 H) cs).bind fun l => some (.ag l) := rfl
@[simp] theorem eqB_ff : eqB false false = true := rfl

def hdB (c : Nat) : List Nat → List Nat
 | [] => []
 | x :: r => if x = c then [] else x :: hdB c r
def tlB (c : Nat) : List Nat → Option (List Nat)
 | [] => none
 | x :: r => if x = c then some r else tlB c r
theorem tlB_none (c : Nat) : ∀ s, tlB c s = none → hdB c s = s
 | [], _ => rfl
 | x :: r, h => by
  have e1 : tlB c (x :: r) = if x = c then some r else tlB c r := rfl
  have e2 : hdB c (x :: r) = if x = c then [] else x :: hdB c r := rfl
  by_cases hx : x = c
  ·rw [e1, if_pos hx] at h; cases h
  ·rw [e1, if_neg hx] at h; rw [e2, if_neg hx, tlB_none c r h]
theorem tlB_some (c : Nat) : ∀ s t, tlB c s = some t → s = hdB c s ++ c :: t
 | [], _, h => by cases h
 | x :: r, t, h => by
  have e1 : tlB c (x :: r) = if x = c then some r else tlB c r := rfl
  have e2 : hdB c (x :: r) = if x = c then [] else x :: hdB c r := rfl
  by_cases hx : x = c
  ·rw [e1, if_pos hx] at h; cases h; rw [e2, if_pos hx, hx]; rfl
  ·rw [e1, if_neg hx] at h; rw [e2, if_neg hx, List.cons_append, ← tlB_some c r t h]
theorem hdB_no (c : Nat) : ∀ s x, x ∈ hdB c s → x ≠ c
 | [], x, h => by cases h
 | y :: r, x, h => by
  have e2 : hdB c (y :: r) = if y = c then [] else y :: hdB c r := rfl
  rw [e2] at h
  split at h
  ·cases h
  ·rename_i hy
   rcases List.mem_cons.1 h with h | h
   ·rw [h]; exact hy
   ·exact hdB_no c r x h
theorem hdB_mem (c : Nat) (s : List Nat) : ∀ x, x ∈ hdB c s → x ∈ s := by
 intro x hx
 cases h : tlB c s with
 | none => rwa [tlB_none c s h] at hx
 | some t => rw [tlB_some c s t h]; exact List.mem_append_left _ hx
theorem tlB_mem {c : Nat} {s t : List Nat} (h : tlB c s = some t) : ∀ x, x ∈ t → x ∈ s := by
 intro x hx
 rw [tlB_some c s t h]; exact List.mem_append_right _ (List.mem_cons_of_mem _ hx)
theorem tlB_len {c : Nat} {s t : List Nat} (h : tlB c s = some t) : s.length = (hdB c s).length + 1 + t.length := by
 have := congrArg List.length (tlB_some c s t h)
 simp only [List.length_append, List.length_cons] at this
 omega
theorem tlB_take {c : Nat} {s t : List Nat} (h : tlB c s = some t) : s.take (hdB c s).length = hdB c s ∧ s.drop ((hdB c s).length + 1) = t := by
 have e := tlB_some c s t h
 generalize hdB c s = p at e
 subst e
 exact ⟨by simp, by rw [show p ++ c :: t = (p ++ [c]) ++ t by simp, show p.length + 1 = (p ++ [c]).length by simp, List.drop_left]⟩
theorem ixB_hd (c : Nat) : ∀ s k, ixB s c k = match tlB c s with | none => -1 | some _ => ((k + (hdB c s).length : Nat) : Int)
 | [], _ => rfl
 | x :: r, k => by
  have e1 : tlB c (x :: r) = if x = c then some r else tlB c r := rfl
  have e2 : hdB c (x :: r) = if x = c then [] else x :: hdB c r := rfl
  unfold ixB
  by_cases hx : x = c
  ·have : Nat.beq x c = true := by rw [hx]; exact Nat.beq_refl c
   rw [this, e1, if_pos hx, e2, if_pos hx]; rfl
  ·have : Nat.beq x c = false := by
    cases h : Nat.beq x c with
    | false => rfl
    | true => exact absurd (Nat.eq_of_beq_eq_true h) hx
   rw [this, e1, if_neg hx, e2, if_neg hx, ixB_hd c r (k + 1)]
   cases tlB c r with
   | none => rfl
   | some t => simp only [List.length_cons]; omega

def spl (c : Nat) : List Nat → List (List Nat)
 | [] => [[]]
 | x :: r => if x = c then [] :: spl c r else match spl c r with
  | [] => [[x]]
  | h :: t => (x :: h) :: t
theorem spl_ne (c : Nat) : ∀ s, ∃ h t, spl c s = h :: t
 | [] => ⟨_, _, rfl⟩
 | x :: r => by
  obtain ⟨h, t, e⟩ := spl_ne c r
  unfold spl
  split
  ·exact ⟨_, _, rfl⟩
  ·rw [e]; exact ⟨_, _, rfl⟩
theorem spl_none (c : Nat) : ∀ s, tlB c s = none → spl c s = [s]
 | [], _ => rfl
 | x :: r, h => by
  have e1 : tlB c (x :: r) = if x = c then some r else tlB c r := rfl
  have e : spl c (x :: r) = if x = c then [] :: spl c r else match spl c r with | [] => [[x]] | h :: t => (x :: h) :: t := rfl
  by_cases hx : x = c
  ·rw [e1, if_pos hx] at h; cases h
  ·rw [e1, if_neg hx] at h
   rw [e, if_neg hx, spl_none c r h]
theorem spl_some (c : Nat) : ∀ s t, tlB c s = some t → spl c s = hdB c s :: spl c t
 | [], _, h => by cases h
 | x :: r, t, h => by
  have e1 : tlB c (x :: r) = if x = c then some r else tlB c r := rfl
  have e2 : hdB c (x :: r) = if x = c then [] else x :: hdB c r := rfl
  have e : spl c (x :: r) = if x = c then [] :: spl c r else match spl c r with | [] => [[x]] | h :: t => (x :: h) :: t := rfl
  by_cases hx : x = c
  ·rw [e1, if_pos hx] at h; cases h
   rw [e, if_pos hx, e2, if_pos hx]
  ·rw [e1, if_neg hx] at h
   have := spl_some c r t h
   rw [e, if_neg hx, this, e2, if_neg hx]

theorem nl_lt {α : Type} {l : List α} {i : Nat} {x : α} (h : nth l i = some x) : i < l.length := by
 rw [nth_get] at h
 exact (List.getElem?_eq_some_iff.1 h).1
theorem nl_set {α : Type} (l : List α) (i j : Nat) (x : α) (h : i < l.length) : nth (l.set i x) j = if i = j then some x else nth l j := by
 rw [nth_get, nth_get, List.getElem?_set]
 by_cases e : i = j
 ·subst e; simp [h]
 ·simp [e]
theorem nl_set_ne {α : Type} {l : List α} {i j : Nat} {x : α} (h : i ≠ j) : nth (l.set i x) j = nth l j := by
 rw [nth_get, nth_get, List.getElem?_set, if_neg h]
theorem nl_set_eq {α : Type} {l : List α} {i : Nat} {x : α} (h : i < l.length) : nth (l.set i x) i = some x := by
 rw [nl_set _ _ _ _ h, if_pos rfl]
theorem nl_app {α : Type} (l m : List α) (j : Nat) (h : j < l.length) : nth (l ++ m) j = nth l j := by
 rw [nth_get, nth_get, List.getElem?_append_left h]
theorem nl_end {α : Type} (l m : List α) (j : Nat) : nth (l ++ m) (l.length + j) = nth m j := by
 rw [nth_get, nth_get, List.getElem?_append_right (by omega)]
 congr 1
 omega
theorem app_row {M : Mem} {ty esz bytes r base : Nat} {es xs : List (List V)} (h : nth M.H r = some (.cs ty esz es base false)) (hx : xs ≠ []) (hb : (es.length + xs.length) * bytes ≤ 140737488355328) (hal : (xs.all fun e => Nat.beq e.length esz && e.all oneV) = true) :
  appX M ty esz bytes (.sl r es.length esz 0 es.length false) xs = some (.sl r (es.length + xs.length) esz 0 (es.length + xs.length) false, { M with H := M.H.set r (.cs ty esz (es ++ xs) base false) }) := by
 obtain ⟨x, t, rfl⟩ := List.exists_cons_of_ne_nil hx
 have e := setEl_put M.H r (.cs ty esz (es ++ x :: t) base false) (nl_lt h)
 have h2 : Nat.ble ((es.length + (x :: t).length) * bytes) 140737488355328 = true := by rw [ble_dec]; exact decide_eq_true hb
 show Option.bind (nth M.H r) _ = _
 rw [h]
 show gd (!false && Nat.beq ty ty && Nat.beq esz esz && Nat.beq esz esz && Nat.beq 0 0 && Nat.beq es.length es.length && Nat.beq es.length es.length && Nat.ble ((es.length + (x :: t).length) * bytes) 140737488355328 && ((x :: t).all fun e => Nat.beq e.length esz && e.all oneV)) _ = _
 simp only [Nat.beq_refl, h2, hal, Bool.and_self, Bool.not_false, gd]
 rw [e]
 rfl
theorem retm {G : Cfg} {f : Nat} {vs : List V} {H : Hp} {Q Q' : V → Hp → Prop} (h : Ret G f vs H Q) (hq : ∀ v H', Q v H' → Q' v H') : Ret G f vs H Q' := by
 obtain ⟨n, v, H', h1, h2⟩ := h
 exact ⟨n, v, H', h1, hq v H' h2⟩

theorem ib_s (s : List Nat) (c : Nat) (hc : c < 256) (H : Hp) : Gives G 93 [.m (.s s), .m (.i .u8 (c : Int))] H (.m (.i .i64 (ixB s c 0))) H := ⟨1, by
 show (gd (Nat.blt c 256) (some (I.i .i64 (ixB s c 0)))).bind (fun i => some (V.m i, H)) = _
 rw [blt_dec, decide_eq_true hc]
 rfl⟩
theorem index_i (s : List Nat) (hl : s.length ≤ 9223372036854775807) (c : Nat) (hc : c < 256) (H : Hp) : Gives G 63 [.m (.s s), .m (.s [c])] H (.m (.i .i64 (ixB s c 0))) H := by
 refine gives_pur rfl rfl rfl rfl rfl ?_
 have g := ib_s s c hc []
 by_cases h : [c] = s
 ·have e : ixB s c 0 = 0 := by
   rw [← h]; unfold ixB; rw [Nat.beq_refl]; rfl
  simp [cl g, ← h, e]
  try (rw [← h] at e; simp [e])
 ·simp [cl g, h]
theorem strIdx_s (s : List Nat) (hl : s.length ≤ 9223372036854775807) (c : Nat) (hc : c < 256) (H : Hp) : Gives G 54 [.m (.s s), .m (.s [c])] H (.m (.i .i64 (ixB s c 0))) H := by
 refine gives_pur rfl rfl rfl rfl rfl ?_
 simp [cl (index_i s hl c hc _)]

@[reducible] def strR (s : List Nat) (b : Nat) : Row := .cs 9 1 [[.m (.s s)]] b false
@[reducible] def zerR (b : Nat) : Row := .cs 3 1 [[.m (.i .i64 0)]] b false
end Go.Mx.Tryz
