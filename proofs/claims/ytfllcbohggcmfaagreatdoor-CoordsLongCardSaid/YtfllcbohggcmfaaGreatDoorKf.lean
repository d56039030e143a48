/- coords.Parse at the machine: a round of its loop. -/
import Derived.Test.YtfllcbohggcmfaaGreatDoorAu
import Derived.Test.YtfllcbohggcmfaaGreatDoorFrn
set_option linter.unusedSimpArgs false
set_option linter.unusedVariables false
set_option linter.unusedSectionVars false
set_option maxRecDepth 100000
namespace Go.Mx.Tryz

theorem cell_2 (line : List Nat) (hl : line.length ≤ 1000000) (x y : Int) (hs : spl 32 line = [itoaN x, itoaN y]) (hx : -1048576 ≤ x ∧ x ≤ 1048576) (hy : -1048576 ≤ y ∧ y ≤ 1048576) (H : Hp) :
  Gives G 20 [.m (.s line)] H (.tu [.m (.ag [.i .i64 x, .i .i64 y, .i .i64 1]), .m (.i .i64 0)]) H := by
 refine gives_pur rfl rfl rfl rfl rfl ?_
 have gs := fun H => split_s line hl 32 (by omega) H
 rw [hs] at gs
 have gx := fun H => number_c x (by omega) (by omega) H
 have gy := fun H => number_c y (by omega) (by omega) H
 have hz : celS [itoaN x, itoaN y] = [[.s (itoaN x)], [.s (itoaN y)]] := rfl
 rw [hz] at gs
 have wx : wr .i64 (-x) = -x := wr_i64 (by omega) (by omega)
 have wy : wr .i64 (-y) = -y := wr_i64 (by omega) (by omega)
 have m1 : ¬ 1048576 < max x (max (-x) (max y (-y))) := by omega
 have m2 : ¬ min x y < -1048576 := by omega
 simp (maxSteps := 2000000) (disch := omega) [gd_in, gd_and, wr_i64, cl (gs _)]
 unfold c20_B0
 simp (maxSteps := 2000000) (disch := omega) [gd_in, gd_and, wr_i64, cl (gx _)]
 unfold c20_B0
 simp (maxSteps := 2000000) (disch := omega) [gd_in, gd_and, wr_i64, cl (gy _)]
 unfold c20_B0
 simp (maxSteps := 2000000) (disch := omega) [gd_in, gd_and, wr_i64, wx, wy, m1, m2]
theorem cell_3 (line : List Nat) (hl : line.length ≤ 1000000) (x y z : Int) (hs : spl 32 line = [itoaN x, itoaN y, itoaN z]) (hx : -1048576 ≤ x ∧ x ≤ 1048576) (hy : -1048576 ≤ y ∧ y ≤ 1048576) (hz : 1 ≤ z ∧ z < 8) (H : Hp) :
  Gives G 20 [.m (.s line)] H (.tu [.m (.ag [.i .i64 x, .i .i64 y, .i .i64 z]), .m (.i .i64 0)]) H := by
 refine gives_pur rfl rfl rfl rfl rfl ?_
 have gs := fun H => split_s line hl 32 (by omega) H
 rw [hs] at gs
 have gx := fun H => number_c x (by omega) (by omega) H
 have gy := fun H => number_c y (by omega) (by omega) H
 have gz := fun H => number_c z (by omega) (by omega) H
 have hzs : celS [itoaN x, itoaN y, itoaN z] = [[.s (itoaN x)], [.s (itoaN y)], [.s (itoaN z)]] := rfl
 rw [hzs] at gs
 have wx : wr .i64 (-x) = -x := wr_i64 (by omega) (by omega)
 have wy : wr .i64 (-y) = -y := wr_i64 (by omega) (by omega)
 have m1 : ¬ 1048576 < max x (max (-x) (max y (-y))) := by omega
 have m2 : ¬ min x y < -1048576 := by omega
 have m3 : ¬ z < 1 := by omega
 have m4 : ¬ 8 ≤ z := by omega
 simp (maxSteps := 2000000) (disch := omega) [gd_in, gd_and, wr_i64, cl (gs _)]
 unfold c20_B0
 simp (maxSteps := 2000000) (disch := omega) [gd_in, gd_and, wr_i64, cl (gx _)]
 unfold c20_B0
 simp (maxSteps := 2000000) (disch := omega) [gd_in, gd_and, wr_i64, cl (gy _)]
 unfold c20_B0
 simp (maxSteps := 2000000) (disch := omega) [gd_in, gd_and, wr_i64, cl (gz _)]
 unfold c20_B0
 simp (maxSteps := 2000000) (disch := omega) [gd_in, gd_and, wr_i64, wx, wy, m1, m2, m3, m4]
end Go.Mx.Tryz
namespace Go.Mx.Tryz
open Go.Lib

def OutK (f : List Ce) (o : V) (H : Hp) : Prop := (f = [] ∧ o = .m (.nl 4)) ∨ (f ≠ [] ∧ ∃ r, 8 ≤ r ∧ o = .sl r f.length 3 0 f.length false ∧ nth H r = some (.cs 40 3 (rows3 f) 0 false))
@[reducible] def lpP (st : Nat) (pd : Option (Option Nat)) : Row := .lp st pd [(2, .pt 0 1 0 0), (3, .pt 1 1 0 0), (4, .pt 2 1 0 0), (5, .pt 4 1 0 0), (6, .pt 5 1 0 0)] [22, 23] c10_A0 c10_R0
def seenM (f : List Ce) : List ((Int × Int) × Bool) := f.map fun c => ((c.x, c.y), true)
@[reducible] def patR (b : Nat) : Row := .cs 24 1 [[.m (.nl 4)]] b false
@[reducible] def intR (x : Int) (b : Nat) : Row := .cs 3 1 [[.m (.i .i64 x)]] b false
@[reducible] def errR (x : Int) (b : Nat) : Row := .cs 25 1 [[.m (.i .i64 x)]] b false
@[reducible] def mapR (b : Nat) : Row := .cs 42 1 [[.mp 3]] b false
@[reducible] def celR (o : V) (b : Nat) : Row := .cs 23 1 [[o]] b false
structure Pst (f : List Ce) (H : Hp) : Prop where
 r0 : ∃ b, b ≤ 1 ∧ nth H 0 = some (patR b)
 r1 : ∃ b, b ≤ 1 ∧ nth H 1 = some (intR 0 b)
 r2 : ∃ b, b ≤ 1 ∧ nth H 2 = some (errR 0 b)
 r3 : nth H 3 = some (mpR ekP evB (seenM f))
 r4 : ∃ b, b ≤ 1 ∧ nth H 4 = some (mapR b)
 r5 : ∃ o b, b ≤ 1 ∧ nth H 5 = some (celR o b) ∧ OutK f o H
theorem OutK.set {f : List Ce} {o : V} {H : Hp} (h : OutK f o H) {i : Nat} (hi : i < 8) (x : Row) : OutK f o (H.set i x) := by
 rcases h with h | ⟨hne, r, hr, e, h3⟩
 ·exact .inl h
 ·exact .inr ⟨hne, r, hr, e, by rw [nl_set_ne (by omega)]; exact h3⟩
theorem Pst.set {f : List Ce} {H : Hp} (h : Pst f H) {i : Nat} (h6 : 6 ≤ i) (h8 : i < 8) (x : Row) : Pst f (H.set i x) := by
 obtain ⟨⟨b0, a0, k0⟩, ⟨b1, a1, k1⟩, ⟨b2, a2, k2⟩, k3, ⟨b4, a4, k4⟩, ⟨o, b5, a5, k5, k6⟩⟩ := h
 exact ⟨⟨b0, a0, by rw [nl_set_ne (by omega)]; exact k0⟩, ⟨b1, a1, by rw [nl_set_ne (by omega)]; exact k1⟩, ⟨b2, a2, by rw [nl_set_ne (by omega)]; exact k2⟩, by rw [nl_set_ne (by omega)]; exact k3, ⟨b4, a4, by rw [nl_set_ne (by omega)]; exact k4⟩, ⟨o, b5, a5, by rw [nl_set_ne (by omega)]; exact k5, k6.set h8 x⟩⟩
theorem outK_push {f : List Ce} {o : V} {H : Hp} (h : OutK f o H) (h8 : 8 ≤ H.length) (hl : f.length ≤ 1000000) (c : Ce) : ∃ o1 H1, (∀ B, appX ⟨B, H⟩ 40 3 24 o [[.m (.i .i64 c.x), .m (.i .i64 c.y), .m (.i .i64 c.s)]] = some (o1, ⟨B, H1⟩)) ∧ cellsV o1 = some [o1] ∧ oneV o1 = true ∧ OutK (f ++ [c]) o1 H1 ∧ H.length ≤ H1.length ∧ (∀ i, i < 8 → nth H1 i = nth H i) := by
 have e : rows3 f ++ [[.m (.i .i64 c.x), .m (.i .i64 c.y), .m (.i .i64 c.s)]] = rows3 (f ++ [c]) := by simp [rows3, ceRw, Ce.i]
 rcases h with ⟨rfl, rfl⟩ | ⟨hne, r, hr, rfl, h3⟩
 ·refine ⟨.sl H.length 1 3 0 1 false, H ++ [.cs 40 3 [[.m (.i .i64 c.x), .m (.i .i64 c.y), .m (.i .i64 c.s)]] 0 false], fun B => rfl, rfl, rfl, .inr ⟨by simp, H.length, h8, rfl, nl_end H _ 0⟩, by simp, fun i hi => nl_app _ _ _ (by omega)⟩
 ·have ha := fun B => app_row (M := ⟨B, H⟩) (bytes := 24) (xs := [[.m (.i .i64 c.x), .m (.i .i64 c.y), .m (.i .i64 c.s)]]) h3 (by simp) (by simp; omega) rfl
  simp only [rows3_len, List.length_cons, List.length_nil, Nat.zero_add] at ha
  rw [e] at ha
  exact ⟨_, _, ha, rfl, rfl, .inr ⟨by simp, r, hr, by simp, nl_set_eq (nl_lt h3)⟩, by simp, fun i hi => nl_set_ne (by omega)⟩
theorem seen_get (f : List Ce) (x y : Int) : (mfind (seenM f) (x, y)).getD false = f.any fun d => decide (d.x = x ∧ d.y = y) := by
 induction f with
 | nil => rfl
 | cons d r ih =>
  have e : mfind (seenM (d :: r)) (x, y) = if (d.x, d.y) = (x, y) then some true else mfind (seenM r) (x, y) := rfl
  rw [e, List.any_cons]
  by_cases h : d.x = x ∧ d.y = y
  ·rw [if_pos (by rw [h.1, h.2]), decide_eq_true h]; rfl
  ·rw [if_neg (fun e => h (by simpa using e)), decide_eq_false h, Bool.false_or, ih]
theorem seen_set {f : List Ce} {c : Ce} (h : (f.any fun d => decide (d.x = c.x ∧ d.y = c.y)) = false) : mset (seenM f) (c.x, c.y) true = seenM (f ++ [c]) := by
 rw [mset_new]
 ·simp [seenM]
 ·intro hm
  obtain ⟨p, hp, e⟩ := List.mem_map.1 hm
  obtain ⟨d, hd, rfl⟩ := List.mem_map.1 hp
  rw [Bool.eq_false_iff] at h
  refine h (List.any_eq_true.2 ⟨d, hd, ?_⟩)
  have : d.x = c.x ∧ d.y = c.y := by simpa using e
  exact decide_eq_true this

inductive Stp1 where
 | go (f : List Ce)
 | er (e : Int)
def step (cf : List Nat → Ce × Int) (n : Int) (l : List Nat) (f : List Ce) : Stp1 :=
 if n = 1 then (if l = [35, 99, 101, 108, 108, 115] then .go f else .er 15)
 else if l = [] ∨ l.take 1 = [35] then .go f
 else if (cf l).2 ≠ 0 then .er (cf l).2
 else if (f.any fun d => decide (d.x = (cf l).1.x ∧ d.y = (cf l).1.y)) = true then .er 8
 else if 5000 ≤ f.length then .er 6
 else .go (f ++ [(cf l).1])
def cellV (r : Ce × Int) : V := .tu [.m (.ag [.i .i64 r.1.x, .i .i64 r.1.y, .i .i64 r.1.s]), .m (.i .i64 r.2)]

set_option maxHeartbeats 4000000 in
theorem round_p {f : List Ce} {H : Hp} (hP : Pst f H) (h8 : 8 ≤ H.length) (hrow : nth H 7 = some (lpP 0 none)) (cf : List Nat → Ce × Int) (n : Int) (l : List Nat) (hl : l.length ≤ 1000000) (hf : f.length ≤ 1000000)
  (hcell : n ≠ 1 → l ≠ [] → l.take 1 ≠ [35] → ∀ H, Gives G 20 [.m (.s l)] H (cellV (cf l)) H) :
  Ret G yN [.yl 7, .m (.i .i64 n), .m (.s l)] H fun v H' => match step cf n l f with
   | .go f' => v = .m (.b true) ∧ Pst f' H' ∧ nth H' 6 = nth H 6 ∧ nth H' 7 = some (lpP 0 none) ∧ 8 ≤ H'.length
   | .er e => v = .m (.b false) ∧ nth H' 0 = some (patR 1) ∧ nth H' 1 = some (intR n 1) ∧ nth H' 2 = some (errR e 1) ∧ nth H' 7 = some (lpP 2 (some none)) := by
 refine ret_round mono rfl rfl hrow rfl rfl ?_
 have e1 : begLp 7 H = some (H.set 7 (lpP 1 none)) := by
  unfold begLp
  rw [hrow]
  exact setEl_put _ _ _ (by omega)
 have hP1 := hP.set (i := 7) (by omega) (by omega) (lpP 1 none)
 have hrow1 : nth (H.set 7 (lpP 1 none)) 7 = some (lpP 1 none) := nl_set_eq (by omega)
 have h61 : nth (H.set 7 (lpP 1 none)) 6 = nth H 6 := nl_set_ne (by omega)
 have h81 : 8 ≤ (H.set 7 (lpP 1 none)).length := by simpa using h8
 generalize H.set 7 (lpP 1 none) = H1 at *
 obtain ⟨⟨b0, a0, k0⟩, ⟨b1, a1, k1⟩, ⟨b2, a2, k2⟩, k3, ⟨b4, a4, k4⟩, ⟨o, b5, a5, k5, k6⟩⟩ := hP1
 have s0 : setEl H1 0 (patR 1) = some (H1.set 0 (patR 1)) := setEl_put _ _ _ (by omega)
 have s1 : ∀ x, setEl (H1.set 0 (patR 1)) 1 (intR x 1) = some ((H1.set 0 (patR 1)).set 1 (intR x 1)) := fun x => setEl_put _ _ _ (by simp; omega)
 have s2 : ∀ x e, setEl ((H1.set 0 (patR 1)).set 1 (intR x 1)) 2 (errR e 1) = some (((H1.set 0 (patR 1)).set 1 (intR x 1)).set 2 (errR e 1)) := fun x e => setEl_put _ _ _ (by simp; omega)
 have k1' : nth (H1.set 0 (patR 1)) 1 = some (intR 0 b1) := by rw [nl_set_ne (by omega)]; exact k1
 have k2' : ∀ x, nth ((H1.set 0 (patR 1)).set 1 (intR x 1)) 2 = some (errR 0 b2) := fun x => by rw [nl_set_ne (by omega), nl_set_ne (by omega)]; exact k2
 have l2 : ∀ x e, setLp 7 1 2 (some none) (((H1.set 0 (patR 1)).set 1 (intR x 1)).set 2 (errR e 1)) = some ((((H1.set 0 (patR 1)).set 1 (intR x 1)).set 2 (errR e 1)).set 7 (lpP 2 (some none))) := fun x e => by
  unfold setLp
  rw [nl_set_ne (by omega), nl_set_ne (by omega), nl_set_ne (by omega), hrow1]
  exact setEl_put _ _ _ (by simp; omega)
 have fin2 : ∀ x e, nth ((((H1.set 0 (patR 1)).set 1 (intR x 1)).set 2 (errR e 1)).set 7 (lpP 2 (some none))) 0 = some (patR 1) ∧ nth ((((H1.set 0 (patR 1)).set 1 (intR x 1)).set 2 (errR e 1)).set 7 (lpP 2 (some none))) 1 = some (intR x 1) ∧ nth ((((H1.set 0 (patR 1)).set 1 (intR x 1)).set 2 (errR e 1)).set 7 (lpP 2 (some none))) 2 = some (errR e 1) ∧ nth ((((H1.set 0 (patR 1)).set 1 (intR x 1)).set 2 (errR e 1)).set 7 (lpP 2 (some none))) 7 = some (lpP 2 (some none)) := fun x e =>
  ⟨by rw [nl_set_ne (by omega), nl_set_ne (by omega), nl_set_ne (by omega), nl_set_eq (by omega)], by rw [nl_set_ne (by omega), nl_set_ne (by omega), nl_set_eq (by simp; omega)], by rw [nl_set_ne (by omega), nl_set_eq (by simp; omega)], nl_set_eq (by simp; omega)⟩
 have l0 : setLp 7 1 0 none H1 = some (H1.set 7 (lpP 0 none)) := by
  unfold setLp
  rw [hrow1]
  exact setEl_put _ _ _ (by omega)
 have hP2 : Pst f H1 := ⟨⟨b0, a0, k0⟩, ⟨b1, a1, k1⟩, ⟨b2, a2, k2⟩, k3, ⟨b4, a4, k4⟩, ⟨o, b5, a5, k5, k6⟩⟩
 have stay : Pst f (H1.set 7 (lpP 0 none)) ∧ nth (H1.set 7 (lpP 0 none)) 6 = nth H 6 ∧ nth (H1.set 7 (lpP 0 none)) 7 = some (lpP 0 none) ∧ 8 ≤ H1.length :=
  ⟨hP2.set (by omega) (by omega) _, by rw [nl_set_ne (by omega)]; exact h61, nl_set_eq (by omega), h81⟩
 unfold c10_A0 c10_R0
 unfold step
 by_cases hn : n = 1
 ·subst hn
  rw [if_pos rfl]
  by_cases hh : l = [35, 99, 101, 108, 108, 115]
  ·rw [if_pos hh]
   simp [e1, hh, endR, l0]
   exact stay
  ·rw [if_neg hh]
   have fin2 := fin2 1 15
   simp [e1, hh, k0, a0, s0, k1', a1, s1, k2', a2, s2, endR, l2]
   exact fin2
 rw [if_neg hn]
 by_cases hc : l = [] ∨ l.take 1 = [35]
 ·rw [if_pos hc]
  cases l with
  | nil =>
   simp [e1, hn, endR, l0]
   exact stay
  | cons a r =>
   have ha : a = 35 := by simpa using hc
   subst ha
   have p1 : (0 : Int) < (r.length : Int) + 1 := by omega
   simp (maxSteps := 2000000) (disch := omega) [gd_in, gd_and, wr_i64, e1, hn, p1, endR, l0]
   exact stay
 rw [if_neg hc]
 obtain ⟨a, r, rfl⟩ := List.exists_cons_of_ne_nil (fun h => hc (.inl h) : l ≠ [])
 have ha : ¬ (a : Int) = 35 := fun h => hc (.inr (by simp; omega))
 have p1 : (0 : Int) < (r.length : Int) + 1 := by omega
 have gc := hcell hn (by simp) (fun h => hc (.inr h))
 generalize hcf : cf (a :: r) = w at *
 obtain ⟨c, e⟩ := w
 simp only [cellV] at gc
 by_cases he : e = 0
 ·subst he
  rw [if_neg (by simp)]
  have hsg := seen_get f c.x c.y
  by_cases hse : (f.any fun d => decide (d.x = c.x ∧ d.y = c.y)) = true
  ·rw [if_pos hse]
   rw [hse] at hsg
   have fin2 := fin2 n 8
   simp (maxSteps := 2000000) (disch := omega) [gd_in, gd_and, wr_i64, e1, hn, p1, ha, cl (gc _), k4, a4, k3, hsg, k0, a0, s0, k1', a1, s1, k2', a2, s2, endR, l2]
   exact fin2
  ·rw [if_neg hse]
   rw [Bool.not_eq_true] at hse
   rw [hse] at hsg
   have hlo : pureX (.len false) [o] = some (.m (.i .i64 f.length)) := by
    rcases k6 with ⟨rfl, rfl⟩ | ⟨_, rr, _, rfl, _⟩ <;> rfl
   by_cases h5 : 5000 ≤ f.length
   ·rw [if_pos h5]
    have h5' : (5000 : Int) ≤ f.length := by omega
    have fin2 := fin2 n 6
    simp (maxSteps := 2000000) (disch := omega) [gd_in, gd_and, wr_i64, e1, hn, p1, ha, cl (gc _), k4, a4, k3, hsg, k5, a5, hlo, h5', k0, a0, s0, k1', a1, s1, k2', a2, s2, endR, l2]
    exact fin2
   ·rw [if_neg h5]
    have h5' : ¬ (5000 : Int) ≤ f.length := by omega
    have hms := seen_set hse
    have s3 : setEl H1 3 (mpR ekP evB (seenM (f ++ [c]))) = some (H1.set 3 (mpR ekP evB (seenM (f ++ [c])))) := setEl_put _ _ _ (by omega)
    have k5' : nth (H1.set 3 (mpR ekP evB (seenM (f ++ [c])))) 5 = some (celR o b5) := by rw [nl_set_ne (by omega)]; exact k5
    obtain ⟨o1, H2, q1, q2, q3, q4, q5, q6⟩ := outK_push (k6.set (i := 3) (by omega) (mpR ekP evB (seenM (f ++ [c])))) (by simpa using h81) hf c
    have j0 : ∀ i, i < 8 → i ≠ 3 → nth H2 i = nth H1 i := fun i hi h3 => by rw [q6 i hi, nl_set_ne (by omega)]
    have j3 : nth H2 3 = some (mpR ekP evB (seenM (f ++ [c]))) := by rw [q6 3 (by omega), nl_set_eq (by omega)]
    have hl2 : 8 ≤ H2.length := by simp at q5; omega
    have s5 : setEl H2 5 (celR o1 1) = some (H2.set 5 (celR o1 1)) := setEl_put _ _ _ (by omega)
    have k5'' : nth H2 5 = some (celR o b5) := by rw [j0 5 (by omega) (by omega)]; exact k5
    have l0 : setLp 7 1 0 none (H2.set 5 (celR o1 1)) = some ((H2.set 5 (celR o1 1)).set 7 (lpP 0 none)) := by
     unfold setLp
     rw [nl_set_ne (by omega), j0 7 (by omega) (by omega), hrow1]
     exact setEl_put _ _ _ (by simp; omega)
    have hq4 : OutK (f ++ [c]) o1 ((H2.set 5 (celR o1 1)).set 7 (lpP 0 none)) := (q4.set (by omega) _).set (by omega) _
    have hfin : Pst (f ++ [c]) ((H2.set 5 (celR o1 1)).set 7 (lpP 0 none)) ∧ nth ((H2.set 5 (celR o1 1)).set 7 (lpP 0 none)) 6 = nth H 6 ∧ nth ((H2.set 5 (celR o1 1)).set 7 (lpP 0 none)) 7 = some (lpP 0 none) ∧ 8 ≤ H2.length := by
     have g : ∀ i, i < 8 → i ≠ 3 → i ≠ 5 → i ≠ 7 → nth ((H2.set 5 (celR o1 1)).set 7 (lpP 0 none)) i = nth H1 i := fun i h8 h3 h5 h7 => by
      rw [nl_set_ne (by omega), nl_set_ne (by omega), j0 i h8 h3]
     refine ⟨⟨⟨b0, a0, by rw [g 0 (by omega) (by omega) (by omega) (by omega)]; exact k0⟩, ⟨b1, a1, by rw [g 1 (by omega) (by omega) (by omega) (by omega)]; exact k1⟩, ⟨b2, a2, by rw [g 2 (by omega) (by omega) (by omega) (by omega)]; exact k2⟩, by rw [nl_set_ne (by omega), nl_set_ne (by omega)]; exact j3, ⟨b4, a4, by rw [g 4 (by omega) (by omega) (by omega) (by omega)]; exact k4⟩, ⟨o1, 1, Nat.le_refl _, by rw [nl_set_ne (by omega), nl_set_eq (by omega)], hq4⟩⟩, by rw [g 6 (by omega) (by omega) (by omega) (by omega)]; exact h61, nl_set_eq (by simp; omega), hl2⟩
    simp (maxSteps := 2000000) (disch := omega) [gd_in, gd_and, wr_i64, e1, hn, p1, ha, cl (gc _), k4, a4, k3, hsg, k5, a5, hlo, h5', hms, s3, k5', q1, q2, q3, k5'', s5, endR, l0]
    exact hfin
 ·rw [if_pos he]
  have fin2 := fin2 n e
  simp (maxSteps := 2000000) (disch := omega) [gd_in, gd_and, wr_i64, e1, hn, p1, ha, cl (gc _), he, k0, a0, s0, k1', a1, s1, k2', a2, s2, endR, l2]
  exact fin2
end Go.Mx.Tryz
