/- Cutting at a byte: plain functions, strings.Index of one byte, the closure of strings.SplitSeq with an invariant. -/
import Derived.Test.YtjkepihkilnjiaaGreatDoorSeav
import Derived.Test.YtjkepihkilnjiaaGreatDoorWb
set_option linter.unusedSimpArgs false
set_option linter.unusedVariables false
set_option linter.unusedSectionVars false
set_option maxRecDepth 100000
namespace Go.Mx.Tryz

@[simp] theorem rx_ldb (M : Mem) (ag : Bool) (sz d off : Nat) : readX M (.ldb ag sz) [.fa d off] = (readA M sz (.fa d off)).bind fun cs => valOf ag cs := rfl
@[simp] theorem px_slc_r (esz : Nat) (lo hi mx : Bool) (r ver e st len : Nat) (lim : Bool) (vs : List V) : pureX (.slc esz lo hi mx) (.sl r ver e st len lim :: vs) = gd (eqB false (Nat.beq esz 0)) (gd (Nat.beq esz e) ((bnds len lo hi mx vs).bind fun p => some (.sl r ver e (st + p.1) (p.2 - p.1) (mx || (lim && Nat.beq p.2 len))))) := rfl
@[simp] theorem allM_sl (a b c d e : Nat) (f : Bool) (r : List V) : allM (.sl a b c d e f :: r) = none := rfl
@[simp] theorem view_ag20 (H : Hp) (cs : List V) : view 20 H (.ag cs) = (optMap (view 19 H) cs).bind fun l => some (.ag l) := rfl
@[simp] theorem eqB_ff : eqB false false = true := rfl

theorem nl_lt {α : Type} {l : List α} {i : Nat} {x : α} (h : nth l i = some x) : i < l.length := by
 rw [nth_get] at h
 exact (List.getElem?_eq_some_iff.1 h).1
theorem nl_set {α : Type} (l : List α) (i j : Nat) (x : α) (h : i < l.length) : nth (l.set i x) j = if i = j then some x else nth l j := by
 rw [nth_get, nth_get, List.getElem?_set]
 by_cases e : i = j
 ·subst e; simp [h]
 ·simp [e]
theorem nl_set_eq {α : Type} {l : List α} {i : Nat} {x : α} (h : i < l.length) : nth (l.set i x) i = some x := by
 rw [nl_set _ _ _ _ h, if_pos rfl]
theorem nl_app {α : Type} (l m : List α) (j : Nat) (h : j < l.length) : nth (l ++ m) j = nth l j := by
 rw [nth_get, nth_get, List.getElem?_append_left h]
theorem nl_end {α : Type} (l m : List α) (j : Nat) : nth (l ++ m) (l.length + j) = nth m j := by
 rw [nth_get, nth_get, List.getElem?_append_right (by omega)]
 congr 1
 omega
theorem app_row {M : Mem} {ty esz bytes r base : Nat} {es xs : List (List V)} (h : nth M.H r = some (.cs ty esz es base false)) (hx : xs ≠ []) (hb : (es.length + xs.length) * bytes ≤ 140737488355328) (hal : (xs.all fun e => Nat.beq e.length esz && e.all oneV) = true) :
  appX M ty esz bytes (.sl r es.length esz 0 es.length false) xs = some (.sl r (es.length + xs.length) esz 0 (es.length + xs.length) false, { M with H := M.H.set r (.cs ty esz (es ++ xs) base false) }) := by
 obtain ⟨x, t, rfl⟩ := List.exists_cons_of_ne_nil hx
 have e := setEl_put M.H r (.cs ty esz (es ++ x :: t) base false) (nl_lt h)
 have h2 : Nat.ble ((es.length + (x :: t).length) * bytes) 140737488355328 = true := by rw [ble_dec]; exact decide_eq_true hb
 show Option.bind (nth M.H r) _ = _
 rw [h]
 show gd (!false && Nat.beq ty ty && Nat.beq esz esz && Nat.beq esz esz && Nat.beq 0 0 && Nat.beq es.length es.length && Nat.beq es.length es.length && Nat.ble ((es.length + (x :: t).length) * bytes) 140737488355328 && ((x :: t).all fun e => Nat.beq e.length esz && e.all oneV)) _ = _
 simp only [Nat.beq_refl, h2, hal, Bool.and_self, Bool.not_false, gd]
 rw [e]
 rfl
@[reducible] def strR (s : List Nat) (b : Nat) : Row := .cs 9 1 [[.m (.s s)]] b false
@[reducible] def zerR (b : Nat) : Row := .cs 3 1 [[.m (.i .i64 0)]] b false
end Go.Mx.Tryz
