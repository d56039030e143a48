/- strings.Split at one byte. -/
import Derived.Test.YtfllcbohggcmfaaGreatDoorStr
set_option linter.unusedSimpArgs false
set_option linter.unusedVariables false
set_option linter.unusedSectionVars false
set_option maxRecDepth 100000
namespace Go.Mx.Tryz

theorem ct_s (s : List Nat) (c : Nat) (H : Hp) : Gives G 73 [.m (.s s), .m (.s [c])] H (.m (.i .i64 (s.count c : Nat))) H := ⟨1, rfl⟩
theorem count_none {c : Nat} {s : List Nat} (h : tlB c s = none) : s.count c = 0 := by
 rw [List.count_eq_zero]
 intro hm
 rw [← tlB_none c s h] at hm
 exact hdB_no c s c hm rfl
theorem count_some {c : Nat} {s t : List Nat} (h : tlB c s = some t) : s.count c = t.count c + 1 := by
 have e := tlB_some c s t h
 have h0 : (hdB c s).count c = 0 := by
  rw [List.count_eq_zero]
  intro hm
  exact hdB_no c s c hm rfl
 have e2 := congrArg (List.count c) e
 rw [List.count_append, List.count_cons_self, h0, Nat.zero_add] at e2
 exact e2
theorem spl_len (c : Nat) : ∀ s : List Nat, (spl c s).length = s.count c + 1
 | [] => rfl
 | x :: r => by
  have ih := spl_len c r
  have e : spl c (x :: r) = if x = c then [] :: spl c r else match spl c r with | [] => [[x]] | h :: t => (x :: h) :: t := rfl
  rw [e, List.count_cons]
  by_cases hx : x = c
  ·rw [if_pos hx, List.length_cons, ih]
   simp [hx]
  ·rw [if_neg hx]
   obtain ⟨h, t, hs⟩ := spl_ne c r
   rw [hs] at ih ⊢
   simp only [List.length_cons] at ih ⊢
   simp [hx]
   omega
theorem rowsS_set (l : List (List Nat)) (i : Nat) (w : List Nat) : (rowsS l).set i [.m (.s w)] = rowsS (l.set i w) := by
 unfold rowsS
 rw [List.map_set]
theorem rowsS_nth {l : List (List Nat)} {i : Nat} (h : i < l.length) : ∃ w, nth (rowsS l) i = some [.m (.s w)] := by
 refine ⟨l[i], ?_⟩
 rw [nth_get]
 simp [rowsS, h]
theorem rowsS_rep (n : Nat) : List.replicate n [V.m (.s [])] = rowsS (List.replicate n []) := by simp [rowsS]
theorem set_app (ws : List (List Nat)) (m : Nat) (w : List Nat) : (ws ++ List.replicate (m + 1) []).set ws.length w = (ws ++ [w]) ++ List.replicate m [] := by
 rw [List.set_append_right _ _ (Nat.le_refl _), Nat.sub_self, List.replicate_succ, List.set_cons_zero, List.append_assoc]
 rfl

set_option maxHeartbeats 1000000 in
theorem gsplit_s (s : List Nat) (hl : s.length ≤ 1000000) (c : Nat) (hc : c < 256) (H : Hp) : Gives G 55 [.m (.s s), .m (.s [c]), .m (.i .i64 0), .m (.i .i64 (-1))] H (.m (.sl (celS (spl c s)))) H := by
 refine gives_pur rfl rfl rfl rfl rfl ?_
 have g0 := fun H => ct_s s c H
 have hcl : s.count c ≤ s.length := List.count_le_length
 generalize hN : s.count c = N at *
 have hmin : min ((N : Int) + 1) ((s.length : Int) + 1) = ((N + 1 : Nat) : Int) := by omega
 have w1 : wr .i64 ((N : Int) + 1) = ((N + 1 : Nat) : Int) := by rw [wr_i64 (by omega) (by omega)]; rfl
 have w2 : wr .i64 ((s.length : Int) + 1) = (s.length : Int) + 1 := wr_i64 (by omega) (by omega)
 have w3 : wr .i64 (((N + 1 : Nat) : Int) - 1) = (N : Int) := by rw [wr_i64 (by omega) (by omega)]; omega
 have hmin2 : min (((N + 1 : Nat)) : Int) ((s.length : Int) + 1) = ((N + 1 : Nat) : Int) := by omega
 have hmk : ∀ B, loudX (fun _ _ _ => none) ⟨B, []⟩ (.mks 9 1 [.m (.s [])] 16) [.m (.i .i64 ((N + 1 : Nat) : Int)), .m (.i .i64 ((N + 1 : Nat) : Int))] = some (.sl 0 (N + 1) 1 0 (N + 1) true, ⟨B, [.cs 9 1 (rowsS (List.replicate (N + 1) [])) 0 false]⟩) := fun B => by
  rw [loud_mks, nat?_cast, Option.bind_some, bnd_in (by omega) (by omega), Option.bind_some, rowsS_rep]
  have e1 : Nat.ble ((N + 1) * 16) 281474976710656 = true := by rw [ble_dec]; exact decide_eq_true (by omega)
  have e2 : Nat.ble (N + 1) 9223372036854775807 = true := by rw [ble_dec]; exact decide_eq_true (by omega)
  have e3 : ((N + 1 : Nat) : Int).toNat = N + 1 := by omega
  rw [e1, e2, e3, Nat.beq_refl]
  rfl
 simp only [Int.natCast_add, Int.cast_ofNat_Int] at w1 w3 hmk hmin hmin2
 have w4 : wr .i64 (N : Int) = N := wr_i64 (by omega) (by omega)
 simp [cl (g0 _), w1, w2, w3, w4, hmin, hmin2, hmk, -loud_mks]
 clear hmk g0 w1 w2 w3 hmin hmin2
 refine (?key : ∀ (i : Nat) (ws : List (List Nat)) (t : List Nat) (b : Nat) (B : List (Nat × List V)), ws.length = i → i + t.count c = N → b ≤ N + 1 → t.length ≤ s.length → spl c s = ws ++ spl c t → Run G c55_B0 (S55_0 (.m (.s t)) (.m (.s [c])) (.m (.i .i64 0)) (.m (.i .i64 (N : Int))) (.sl 0 (N + 1) 1 0 (N + 1) true) (.m (.i .i64 (i : Int))) B [.cs 9 1 (rowsS (ws ++ List.replicate (N + 1 - i) [])) b false]) _) 0 [] s 0 [] rfl (by omega) (by omega) (Nat.le_refl _) rfl
 refine indM (fun i : Nat => N - i) fun i ih ws t b B hws hcnt hb ht hq => ?_
 unfold c55_B0
 have gi := fun H => strIdx_s t (by omega) c hc H
 have wi : wr .i64 ((i : Int) + 1) = (i : Int) + 1 := wr_i64 (by omega) (by omega)
 have hrl : (rowsS (ws ++ List.replicate (N + 1 - i) [])).length = N + 1 := by simp; omega
 cases hs : tlB c t with
 | none =>
  have h0 := count_none hs
  have hiN : i = N := by omega
  have hlt : ¬ (i : Int) < N := by omega
  obtain ⟨w0, hw0⟩ := rowsS_nth (l := ws ++ List.replicate (N + 1 - i) []) (i := i) (by simp; omega)
  have hse : setEl (rowsS (ws ++ List.replicate (N + 1 - i) [])) i [.m (.s t)] = some (rowsS (ws ++ [t])) := by
   rw [setEl_put _ _ _ (by omega), rowsS_set]
   have : N + 1 - i = 0 + 1 := by omega
   rw [this, ← hws, set_app]
   simp
  have hfin : rowsS (ws ++ [t]) = rowsS (spl c s) := by rw [hq, spl_none c t hs]
  have hlen : (spl c s).length = N + 1 := by rw [hq, spl_none c t hs]; simp; omega
  rw [hfin] at hse
  have hN1 : (i : Int) < (N : Int) + 1 := by omega
  have hN2 : (i : Int) + 1 ≤ (N : Int) + 1 := by omega
  have hN3 : i + 1 = N + 1 := by omega
  have hv := viewS (H := [.cs 9 1 (rowsS (spl c s)) (N + 1) false]) (ro := 0) (base := N + 1) rfl (by omega)
  rw [hlen] at hv
  have hv2 : ∀ b : Bool, viewR [.cs 9 1 (rowsS (spl c s)) (N + 1) false] (.sl 0 (N + 1) 1 0 (N + 1) b) = some (.m (.sl (celS (spl c s)))) := fun b => by
   cases b
   ·exact hv
   ·exact hv
  have hl2 : i < N + 1 := by omega
  simp (maxSteps := 2000000) (disch := omega) [gd_in, gd_and, wr_i64, hlt, hN1, hN2, hN3, hrl, hw0, hse, wi, hv2, hlen, hl2]
  try simp (maxSteps := 2000000) (disch := omega) [gd_in, gd_and, wr_i64, hv2, hlen]
 | some u =>
  have h0 := count_some hs
  have hlt : (i : Int) < N := by omega
  have e : ixB t c 0 = (hdB c t).length := by rw [ixB_hd, hs]; simp
  rw [e] at gi
  have hlen := tlB_len hs
  have hth := tlB_take hs
  have n0 : ¬ ((hdB c t).length : Int) < 0 := by omega
  have wh : wr .i64 ((hdB c t).length : Int) = (hdB c t).length := wr_i64 (by omega) (by omega)
  have wh1 : wr .i64 (((hdB c t).length : Int) + 1) = (hdB c t).length + 1 := wr_i64 (by omega) (by omega)
  have n4 : u.take (t.length - ((hdB c t).length + 1)) = u := List.take_of_length_le (by omega)
  obtain ⟨w0, hw0⟩ := rowsS_nth (l := ws ++ List.replicate (N + 1 - i) []) (i := i) (by simp; omega)
  have hse : setEl (rowsS (ws ++ List.replicate (N + 1 - i) [])) i [.m (.s (hdB c t))] = some (rowsS ((ws ++ [hdB c t]) ++ List.replicate (N + 1 - (i + 1)) [])) := by
   rw [setEl_put _ _ _ (by omega), rowsS_set]
   have : N + 1 - i = (N + 1 - (i + 1)) + 1 := by omega
   rw [this, ← hws, set_app]
  generalize hL : (ws ++ [hdB c t]) ++ List.replicate (N + 1 - (i + 1)) [] = L at hse
  have hN1 : (i : Int) < (N : Int) + 1 := by omega
  have hl2 : i < N + 1 := by omega
  have hrl2 : (rowsS ((ws ++ [hdB c t]) ++ List.replicate (N + 1 - (i + 1)) [])).length = N + 1 := by simp; omega
  simp (maxSteps := 2000000) (disch := omega) [gd_in, gd_and, wr_i64, hlt, cl (gi _), n0, wh, wh1, hth.1, hth.2, n4, hN1, hrl, hw0, hse, wi, hl2]
  rw [← hL]
  refine ih (i + 1) (by omega) (ws ++ [hdB c t]) u (N + 1) _ (by simp; omega) (by omega) (by omega) (by omega) ?_
  rw [hq, spl_some c t u hs, List.append_assoc]
  rfl
theorem split_s (s : List Nat) (hl : s.length ≤ 1000000) (c : Nat) (hc : c < 256) (H : Hp) : Gives G 40 [.m (.s s), .m (.s [c])] H (.m (.sl (celS (spl c s)))) H := by
 refine gives_pur rfl rfl rfl rfl rfl ?_
 simp [cl (gsplit_s s hl c hc _)]
end Go.Mx.Tryz
