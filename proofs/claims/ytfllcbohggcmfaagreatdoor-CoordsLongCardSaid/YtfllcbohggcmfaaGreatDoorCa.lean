/- coords.cell at every line; Words, Number, cell of the reference. -/
import Derived.Test.YtfllcbohggcmfaaGreatDoorAu
import Derived.Test.YtfllcbohggcmfaaGreatDoorPt
set_option linter.unusedSimpArgs false
set_option linter.unusedVariables false
set_option linter.unusedSectionVars false
set_option maxRecDepth 100000
namespace Go.Mx.Tryz
open Go.Lib

def chkC (x y z : Int) : Ce × Int := if 1048576 < max x (max (wr .i64 (-x)) (max y (wr .i64 (-y)))) ∨ min x y < -1048576 then (⟨x, y, z⟩, 5) else if z < 1 ∨ 8 ≤ z then (⟨x, y, z⟩, 10) else (⟨x, y, z⟩, 0)
def cfM (l : List Nat) : Ce × Int := match spl 32 l with
 | [a, b] => if numOk a = true ∧ numOk b = true then chkC (numM a) (numM b) 1 else (⟨0, 0, 0⟩, 15)
 | [a, b, c] => if numOk a = true ∧ numOk b = true ∧ numOk c = true then chkC (numM a) (numM b) (numM c) else (⟨0, 0, 0⟩, 15)
 | _ => (⟨0, 0, 0⟩, 15)
theorem spl_mem (c : Nat) : ∀ (n : Nat) (s : List Nat), s.length ≤ n → ∀ w, w ∈ spl c s → w.length ≤ s.length ∧ ∀ x, x ∈ w → x ∈ s
 | n, s, hn, w, hw => by
  cases h : tlB c s with
  | none =>
   rw [spl_none c s h] at hw
   simp at hw
   subst hw
   exact ⟨Nat.le_refl _, fun x hx => hx⟩
  | some t =>
   have hl := tlB_len h
   rw [spl_some c s t h] at hw
   rcases List.mem_cons.1 hw with rfl | hw
   ·exact ⟨by omega, hdB_mem c s⟩
   ·match n, hn with
    | 0, hn => omega
    | n + 1, hn =>
     obtain ⟨k1, k2⟩ := spl_mem c n t (by omega) w hw
     exact ⟨by omega, fun x hx => tlB_mem h x (k2 x hx)⟩
theorem numM_in (s : List Nat) : -9223372036854775808 ≤ numM s ∧ numM s ≤ 9223372036854775807 := by
 unfold numM
 split <;> omega
def cellW (r : Ce × Int) : V := .tu [.m (.ag [.i .i64 r.1.x, .i .i64 r.1.y, .i .i64 r.1.s]), .m (.i .i64 r.2)]
theorem numN_ok {s : List Nat} (h : numOk s = true) : numN s = (numM s, true) := by unfold numN; rw [if_pos h]
theorem numN_no {s : List Nat} (h : numOk s = false) : numN s = (0, false) := by unfold numN; rw [h]; rfl
set_option maxHeartbeats 4000000 in
theorem cell_w (l : List Nat) (hl : l.length ≤ 1000000) (hb : ∀ c, c ∈ l → c < 256) (H : Hp) : Gives G 20 [.m (.s l)] H (cellW (cfM l)) H := by
 refine gives_pur rfl rfl rfl rfl rfl ?_
 have gs := fun H => split_s l hl 32 (by omega) H
 have hm := spl_mem 32 l.length l (Nat.le_refl _)
 have gn : ∀ w, w ∈ spl 32 l → ∀ H, Gives G 41 [.m (.s w)] H (.tu [.m (.i .i64 (numN w).1), .m (.b (numN w).2)]) H := fun w hw H =>
  number_w w (by have := (hm w hw).1; omega) (fun c hc => hb c ((hm w hw).2 c hc)) H
 cases hsp : spl 32 l with
 | nil =>
  obtain ⟨h, t, e⟩ := spl_ne 32 l
  rw [e] at hsp
  cases hsp
 | cons a r =>
  rw [hsp] at gs gn
  cases r with
  | nil =>
   have e : cfM l = (⟨0, 0, 0⟩, 15) := by unfold cfM; rw [hsp]
   rw [e]
   have hz : celS [a] = [[.s a]] := rfl
   rw [hz] at gs
   simp (maxSteps := 2000000) (disch := omega) [gd_in, gd_and, wr_i64, cl (gs _), cellW]
  | cons b r =>
   have ga := gn a (by simp)
   have gb := gn b (by simp)
   obtain ⟨a1, a2⟩ := numM_in a
   obtain ⟨b1, b2⟩ := numM_in b
   cases r with
   | nil =>
    have e : cfM l = if numOk a = true ∧ numOk b = true then chkC (numM a) (numM b) 1 else (⟨0, 0, 0⟩, 15) := by unfold cfM; rw [hsp]
    rw [e]
    have hz : celS [a, b] = [[.s a], [.s b]] := rfl
    rw [hz] at gs
    simp (maxSteps := 2000000) (disch := omega) [gd_in, gd_and, wr_i64, cl (gs _)]
    unfold c20_B0
    cases ha : numOk a with
    | false =>
     rw [numN_no ha] at ga
     simp (maxSteps := 2000000) (disch := omega) [gd_in, gd_and, wr_i64, cl (ga _), cellW]
    | true =>
     rw [numN_ok ha] at ga
     simp (maxSteps := 2000000) (disch := omega) [gd_in, gd_and, wr_i64, cl (ga _)]
     unfold c20_B0
     cases hb : numOk b with
     | false =>
      rw [numN_no hb] at gb
      simp (maxSteps := 2000000) (disch := omega) [gd_in, gd_and, wr_i64, cl (gb _), cellW]
     | true =>
      rw [numN_ok hb] at gb
      simp (maxSteps := 2000000) (disch := omega) [gd_in, gd_and, wr_i64, cl (gb _)]
      unfold c20_B0
      unfold chkC
      generalize numM a = x at *
      generalize numM b = y at *
      generalize hwx : wr .i64 (-x) = nx
      generalize hwy : wr .i64 (-y) = ny
      by_cases m1 : 1048576 < max x (max nx (max y ny))
      ·simp (maxSteps := 2000000) (disch := omega) [gd_in, gd_and, wr_i64, hwx, hwy, m1, cellW]
      ·by_cases m2 : min x y < -1048576
       ·simp (maxSteps := 2000000) (disch := omega) [gd_in, gd_and, wr_i64, hwx, hwy, m1, m2, cellW]
       ·simp (maxSteps := 2000000) (disch := omega) [gd_in, gd_and, wr_i64, hwx, hwy, m1, m2, cellW]
   | cons c r =>
    have gc := gn c (by simp)
    obtain ⟨c1, c2⟩ := numM_in c
    cases r with
    | cons d r =>
     have e : cfM l = (⟨0, 0, 0⟩, 15) := by unfold cfM; rw [hsp]
     rw [e]
     have hz : (celS (a :: b :: c :: d :: r)).length = r.length + 4 := by simp [celS]
     have p1 : ¬ (r.length : Int) + 4 = 2 := by omega
     have p2 : ¬ (r.length : Int) + 4 = 3 := by omega
     generalize celS (a :: b :: c :: d :: r) = z at *
     simp (maxSteps := 2000000) (disch := omega) [gd_in, gd_and, wr_i64, cl (gs _), hz, p1, p2, cellW]
    | nil =>
     have e : cfM l = if numOk a = true ∧ numOk b = true ∧ numOk c = true then chkC (numM a) (numM b) (numM c) else (⟨0, 0, 0⟩, 15) := by unfold cfM; rw [hsp]
     rw [e]
     have hz : celS [a, b, c] = [[.s a], [.s b], [.s c]] := rfl
     rw [hz] at gs
     simp (maxSteps := 2000000) (disch := omega) [gd_in, gd_and, wr_i64, cl (gs _)]
     unfold c20_B0
     cases ha : numOk a with
     | false =>
      rw [numN_no ha] at ga
      simp (maxSteps := 2000000) (disch := omega) [gd_in, gd_and, wr_i64, cl (ga _), cellW]
     | true =>
      rw [numN_ok ha] at ga
      simp (maxSteps := 2000000) (disch := omega) [gd_in, gd_and, wr_i64, cl (ga _)]
      unfold c20_B0
      cases hb : numOk b with
      | false =>
       rw [numN_no hb] at gb
       simp (maxSteps := 2000000) (disch := omega) [gd_in, gd_and, wr_i64, cl (gb _), cellW]
      | true =>
       rw [numN_ok hb] at gb
       simp (maxSteps := 2000000) (disch := omega) [gd_in, gd_and, wr_i64, cl (gb _)]
       unfold c20_B0
       cases hc : numOk c with
       | false =>
        rw [numN_no hc] at gc
        simp (maxSteps := 2000000) (disch := omega) [gd_in, gd_and, wr_i64, cl (gc _), cellW]
       | true =>
        rw [numN_ok hc] at gc
        simp (maxSteps := 2000000) (disch := omega) [gd_in, gd_and, wr_i64, cl (gc _)]
        unfold c20_B0
        unfold chkC
        generalize numM a = x at *
        generalize numM b = y at *
        generalize numM c = z at *
        generalize hwx : wr .i64 (-x) = nx
        generalize hwy : wr .i64 (-y) = ny
        by_cases m1 : 1048576 < max x (max nx (max y ny))
        ·simp (maxSteps := 2000000) (disch := omega) [gd_in, gd_and, wr_i64, hwx, hwy, m1, cellW]
        ·by_cases m2 : min x y < -1048576
         ·simp (maxSteps := 2000000) (disch := omega) [gd_in, gd_and, wr_i64, hwx, hwy, m1, m2, cellW]
         ·by_cases m3 : z < 1
          ·simp (maxSteps := 2000000) (disch := omega) [gd_in, gd_and, wr_i64, hwx, hwy, m1, m2, m3, cellW]
          ·by_cases m4 : 8 ≤ z
           ·simp (maxSteps := 2000000) (disch := omega) [gd_in, gd_and, wr_i64, hwx, hwy, m1, m2, m3, m4, cellW]
           ·simp (maxSteps := 2000000) (disch := omega) [gd_in, gd_and, wr_i64, hwx, hwy, m1, m2, m3, m4, cellW]
end Go.Mx.Tryz
