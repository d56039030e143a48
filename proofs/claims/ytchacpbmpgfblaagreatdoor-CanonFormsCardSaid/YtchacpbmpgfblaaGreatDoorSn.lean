/- Syms of the program. -/
import Derived.Test.YtchacpbmpgfblaaGreatDoorFm
set_option linter.unusedSimpArgs false
set_option linter.unusedVariables false
set_option linter.unusedSectionVars false
set_option maxRecDepth 100000
namespace Go.Mx.Tryz
open Go.Sort Go.Lib Go.Proofs

set_option maxHeartbeats 2000000 in
theorem equal_s {v w : I} {p q : List Ce} (hv : IsSl v (cells3 p)) (hw : IsSl w (cells3 q)) (hl : p.length ≤ 1000000) (hl2 : q.length ≤ 1000000) (H : Hp) : Gives G 52 [.m v, .m w] H (.m (.b (decide (cmpL p q = 0)))) H := by
 refine gives_pur rfl rfl rfl rfl rfl ?_
 have hr := hv.rules
 have hr2 := hw.rules
 simp only [show (cells3 p).length = p.length from by simp [cells3]] at hr
 simp only [show (cells3 q).length = q.length from by simp [cells3]] at hr2
 by_cases hlen : p.length = q.length
 ·have hlen' : (p.length : Int) = q.length := by omega
  simp (maxSteps := 2000000) (disch := omega) [gd_in, gd_and, wr_i64, hr, hr2, hlen]
  refine (?key : ∀ (i : Nat) (B : List (Nat × List V)), i ≤ q.length → cmpL p q = cmpL (p.drop i) (q.drop i) → Run G c52_B0 (S52_0 (.m v) (.m w) (.m (.i .i64 q.length)) (.m (.i .i64 (i : Int))) B []) _) 0 [] (Nat.zero_le _) rfl
  refine indM (fun i : Nat => q.length - i) fun i ih B hi hc => ?_
  unfold c52_B0
  cases hy : q[i]? with
  | some d =>
   have hlt2 := (get_drop hy).1
   obtain ⟨c, hx⟩ : ∃ c, p[i]? = some c := ⟨p[i]'(by omega), List.getElem?_eq_getElem _⟩
   have hlt := (get_drop hx).1
   have hlt2' : (i : Int) < q.length := by omega
   have hn := cells3_nth hx
   have hn2 := cells3_nth hy
   have wi : wr .i64 ((i : Int) + 1) = (i : Int) + 1 := wr_i64 (by omega) (by omega)
   have e1 : cmpL (c :: p.drop (i + 1)) (d :: q.drop (i + 1)) = if cmpC c d = 0 then cmpL (p.drop (i + 1)) (q.drop (i + 1)) else cmpC c d := rfl
   rw [(get_drop hx).2, (get_drop hy).2, e1] at hc
   by_cases he : c.x = d.x ∧ c.y = d.y ∧ c.s = d.s
   ·have e : cmpC c d = 0 := by
     unfold cmpC
     rw [if_pos he.2.1, if_pos he.1, cmpI_0]
     exact he.2.2
    rw [if_pos e] at hc
    simp (maxSteps := 2000000) (disch := omega) [gd_in, gd_and, wr_i64, hr, hr2, hlen, hlt, hlt2, hlt2', hn, hn2, wi, he.1, he.2.1, he.2.2]
    exact ih (i + 1) (by omega) _ (by omega) hc
   ·have e : ¬ cmpC c d = 0 := fun h => he (by rw [cmpC_0.1 h]; exact ⟨rfl, rfl, rfl⟩)
    rw [if_neg e] at hc
    have he1 : (decide (c.x = d.x) && (decide (c.y = d.y) && decide (c.s = d.s))) = false := by
     rw [Bool.eq_false_iff]
     simpa using he
    have he2 : (decide (c.x = d.x) && decide (c.y = d.y) && decide (c.s = d.s)) = false := by
     rw [Bool.and_assoc]; exact he1
    simp (maxSteps := 2000000) (disch := omega) [gd_in, gd_and, wr_i64, hr, hr2, hlen, hlt, hlt2, hlt2', hn, hn2, wi, he1, he2, hc, e]
  | none =>
   have : i = q.length := by have := List.getElem?_eq_none_iff.1 hy; omega
   subst this
   rw [List.drop_length, List.drop_eq_nil_of_le (by omega)] at hc
   have hc' : cmpL p q = 0 := hc
   simp (maxSteps := 2000000) (disch := omega) [gd_in, gd_and, wr_i64, hr, hr2, hlen, hc']
 ·have hlen' : ¬ (p.length : Int) = q.length := by omega
  have e : ¬ cmpL p q = 0 := fun h => hlen (by rw [cmpL_0.1 h])
  simp (maxSteps := 2000000) (disch := omega) [gd_in, gd_and, wr_i64, hr, hr2, hlen, hlen', e]
theorem same_s {v w : I} {p q : List Ce} (hv : IsSl v (cells3 p)) (hw : IsSl w (cells3 q)) (hl : p.length ≤ 1000000) (hl2 : q.length ≤ 1000000) (H : Hp) : Gives G 29 [.m v, .m w] H (.m (.b (decide (cmpL p q = 0)))) H := by
 refine gives_pur rfl rfl rfl rfl rfl ?_
 simp (maxSteps := 2000000) (disch := omega) [gd_in, gd_and, wr_i64, cl (equal_s hv hw hl hl2 _)]
theorem ints_s {v w : I} {l : List Int} (hv : IsSl v (celI l)) (hw : IsSl w (celI l)) (hl : l.length ≤ 1000000) (H : Hp) : Gives G 10 [.m v, .m w] H (.m (.b true)) H := by
 refine gives_pur rfl rfl rfl rfl rfl ?_
 have hr := hv.rules
 have hr2 := hw.rules
 simp only [celI_len] at hr hr2
 simp (maxSteps := 2000000) (disch := omega) [gd_in, gd_and, wr_i64, hr, hr2]
 refine (?key : ∀ (i : Nat) (B : List (Nat × List V)), i ≤ l.length → Run G c10_B0 (S10_0 (.m v) (.m w) (.m (.i .i64 l.length)) (.m (.i .i64 (i : Int))) B []) _) 0 [] (Nat.zero_le _)
 refine indM (fun i : Nat => l.length - i) fun i ih B hi => ?_
 unfold c10_B0
 cases hx : l[i]? with
 | some c =>
  have hlt := (get_drop hx).1
  have hlt' : (i : Int) < l.length := by omega
  have hn : nth (celI l) i = some [.i .i64 c] := by rw [nth_get]; simp [celI, hx]
  have wi : wr .i64 ((i : Int) + 1) = (i : Int) + 1 := wr_i64 (by omega) (by omega)
  simp (maxSteps := 2000000) (disch := omega) [gd_in, gd_and, wr_i64, hr, hr2, hlt, hlt', hn, wi]
  exact ih (i + 1) (by omega) _ (by omega)
 | none =>
  have : i = l.length := by have := List.getElem?_eq_none_iff.1 hx; omega
  subst this
  simp (maxSteps := 2000000) (disch := omega) [gd_in, gd_and, wr_i64, hr, hr2]
end Go.Mx.Tryz
namespace Go.Mx.Tryz
open Go.Sort Go.Lib Go.Proofs

def symK (p : List Ce) (k : Int) : Bool := decide (cmpL (imgC (modS k) p) (homeC p) = 0)
def symL (p : List Ce) (l : List Int) : List Int := l.filter (symK p)
theorem symL_snoc (p : List Ce) (l : List Int) (k : Int) : symL p (l ++ [k]) = symL p l ++ if symK p k = true then [k] else [] := by
 unfold symL
 rw [List.filter_append]
 cases h : symK p k <;> simp [h]
def OutN (acc : List Int) (H : Hp) : Prop := ∃ o b, b ≤ 1 ∧ nth H 0 = some (.cs 24 1 [[o]] b false) ∧ ((acc = [] ∧ o = .m (.nl 4)) ∨ (acc ≠ [] ∧ ∃ ro, 5 ≤ ro ∧ o = .sl ro acc.length 1 0 acc.length false ∧ nth H ro = some (.cs 3 1 (rowsI acc) 0 false)))
theorem outN_set {acc : List Int} {H : Hp} (h : OutN acc H) {i : Nat} (h0 : i ≠ 0) (h5 : i < 5) (x : Row) : OutN acc (H.set i x) := by
 obtain ⟨o, b, hb, k1, k2⟩ := h
 refine ⟨o, b, hb, by rw [nl_set_ne h0]; exact k1, ?_⟩
 rcases k2 with k2 | ⟨hne, ro, hro, e, k3⟩
 ·exact .inl k2
 ·exact .inr ⟨hne, ro, hro, e, by rw [nl_set_ne (by omega)]; exact k3⟩
theorem outN_push {acc : List Int} {H : Hp} (h : OutN acc H) (h5 : 5 ≤ H.length) (hl : acc.length ≤ 1000000) (x : Int) :
  ∃ o b o1 H1, nth H 0 = some (.cs 24 1 [[o]] b false) ∧ b ≤ 1 ∧ (∀ B, appX ⟨B, H⟩ 3 1 8 o [[.m (.i .i64 x)]] = some (o1, ⟨B, H1⟩)) ∧ cellsV o1 = some [o1] ∧ oneV o1 = true ∧ noFaV o1 = true ∧ nth H1 0 = some (.cs 24 1 [[o]] b false) ∧ OutN (acc ++ [x]) (H1.set 0 (.cs 24 1 [[o1]] 1 false)) ∧ (∀ i, i < 5 → nth H1 i = nth H i) ∧ H.length ≤ H1.length := by
 obtain ⟨o, b, hb1, k1, k2⟩ := h
 rcases k2 with ⟨rfl, rfl⟩ | ⟨hne, ro, hro, rfl, k3⟩
 ·refine ⟨_, b, .sl H.length 1 1 0 1 false, H ++ [.cs 3 1 [[.m (.i .i64 x)]] 0 false], k1, hb1, fun B => rfl, rfl, rfl, rfl, by rw [nl_app _ _ _ (nl_lt k1)]; exact k1, ?_, fun i hi => nl_app _ _ _ (by omega), by simp⟩
  have hl1 : 0 < (H ++ [Row.cs 3 1 [[.m (.i .i64 x)]] 0 false]).length := by simp
  refine ⟨_, 1, Nat.le_refl _, nl_set_eq hl1, .inr ⟨by simp, H.length, h5, rfl, ?_⟩⟩
  rw [nl_set_ne (by omega)]
  exact nl_end H _ 0
 ·have ha := fun B => app_row (M := ⟨B, H⟩) (bytes := 8) (xs := [[.m (.i .i64 x)]]) k3 (by simp) (by simp [rowsI_len]; omega) (by simp [rowsI])
  simp only [rowsI_len, List.length_cons, List.length_nil, Nat.zero_add, rowsI_snoc] at ha
  refine ⟨_, b, _, _, k1, hb1, ha, rfl, rfl, rfl, by rw [nl_set_ne (by omega)]; exact k1, ?_, fun i hi => nl_set_ne (by omega), by simp⟩
  have hl1 : 0 < (H.set ro (Row.cs 3 1 (rowsI (acc ++ [x])) 0 false)).length := by have := nl_lt k1; simp; omega
  refine ⟨_, 1, Nat.le_refl _, nl_set_eq hl1, .inr ⟨by simp, ro, hro, by simp, ?_⟩⟩
  rw [nl_set_ne (by omega), nl_set_eq (nl_lt k3)]
theorem outN_view {acc : List Int} {H : Hp} (h : OutN acc H) : ∃ o b, b ≤ 1 ∧ nth H 0 = some (.cs 24 1 [[o]] b false) ∧ noFaV o = true ∧ ∀ x, viewR (H.set 4 x) o = some (.m (zN acc)) := by
 obtain ⟨o, b, hb, k1, k2⟩ := h
 rcases k2 with ⟨rfl, rfl⟩ | ⟨hne, ro, hro, rfl, k3⟩
 ·exact ⟨_, b, hb, k1, rfl, fun x => rfl⟩
 ·refine ⟨_, b, hb, k1, rfl, fun x => ?_⟩
  have k4 : nth (H.set 4 x) ro = some (.cs 3 1 (rowsI acc) 0 false) := by rw [nl_set_ne (by omega)]; exact k3
  have := viewN (ver := acc.length) (st := 0) (len := acc.length) (lim := false) k4 (Nat.zero_le _) 18
  show (view 20 _ _).bind _ = _
  rw [this, List.drop_zero, List.take_of_length_le (Nat.le_refl _)]
  unfold zN
  rw [if_neg hne]
  rfl
def all8 : List Int := [0, 1, 2, 3, 4, 5, 6, 7]
@[reducible] def lpS (st : Nat) : Row := .lp st none [(3, .pt 0 1 0 0), (4, .pt 1 1 0 0)] [19, 20] c11_A0 c11_R0
set_option maxHeartbeats 4000000 in
theorem syms_s {v : I} {p : List Ce} (hv : IsSl v (cells3 p)) (hp : right p = true) (hlg : largeC p = false) (H : Hp) : Gives G 11 [.m v] H (.m (zN (symL p all8))) H := by
 have hpl : p.length ≤ 5000 := (right_pw hp).2.2
 refine gives_pur rfl rfl rfl rfl rfl ?_
 have g1 := fun H => right_s hv (by omega) H
 rw [hp] at g1
 have g2 := fun H => large_s hv (by omega) H
 rw [hlg] at g2
 have g3 := fun H => home_s hv hp H
 obtain ⟨w0, hw0, ew0⟩ : ∃ w0, IsSl w0 (cells3 (homeC p)) ∧ (if p = [] then v else I.sl (cells3 (homeC p))) = w0 := ⟨_, by
  split
  ·rename_i h; subst h; exact hv
  ·exact isSl_sl _, rfl⟩
 rw [ew0] at g3
 have gim : ∀ (a b : V) (_ : cellsV a = some [a]) (_ : cellsV b = some [b]) (_ : noFaV a = true) (_ : noFaV b = true) (H : Hp), Gives G 21 [a, b] H (.fn 38 [.pt (H.length + 1) 1 0 0, .pt H.length 1 0 0]) (H ++ [.cs 23 1 [[a]] 0 false, .cs 24 1 [[b]] 0 false]) := fun a b ha hb hna hnb H => by
  refine .of_ret (ret_sh mono rfl rfl rfl (by simp [hna, hnb]) rfl ?_)
  simp (maxSteps := 2000000) (disch := omega) [gd_in, gd_and, wr_i64, ha, hb]
 have c0 := isSl_cel hw0
 have c1 := isSl_cel hv
 have gim := gim (.m v) (.ls (celI all8)) c1.1 rfl rfl rfl
 have hw1 : writeR 1 [[V.m (.nl 4)]] 0 0 [V.m w0] = some [[V.m w0]] := rfl
 have h8 : celI all8 = [[.i .i64 0], [.i .i64 1], [.i .i64 2], [.i .i64 3], [.i .i64 4], [.i .i64 5], [.i .i64 6], [.i .i64 7]] := rfl
 rw [h8] at gim
 simp (maxSteps := 2000000) (disch := omega) [gd_in, gd_and, wr_i64, gcall_cx, cl (g1 _), cl (g2 _), cl (g3 _), cl (gim _), run_rng, c0, hw1]
 refine images_w (l := all8) (z := .ls (celI all8)) hv hp rfl (fun i k hx => ?_) rfl (by decide) 4 3 2 (fun i H => OutN (symL p (all8.take i)) H ∧ 5 ≤ H.length ∧ nth H 1 = some (.cs 23 1 [[.m w0]] 1 false) ∧ nth H 2 = some (.cs 23 1 [[.m v]] 0 false) ∧ nth H 3 = some (.cs 24 1 [[.ls (celI all8)]] 0 false) ∧ nth H 4 = some (lpS 0)) _ ?_ ?_ ?_ _ ⟨⟨_, 0, by omega, rfl, .inl ⟨rfl, rfl⟩⟩, by simp, rfl, rfl, rfl, rfl⟩
 ·have hi : i < 8 := (get_drop hx).1
  match i, hi with
  | 0, _ => cases hx; rfl
  | 1, _ => cases hx; rfl
  | 2, _ => cases hx; rfl
  | 3, _ => cases hx; rfl
  | 4, _ => cases hx; rfl
  | 5, _ => cases hx; rfl
  | 6, _ => cases hx; rfl
  | 7, _ => cases hx; rfl
 ·intro i H hJ
  obtain ⟨ho, hlH, k1, k2, k3, k4⟩ := hJ
  exact ⟨⟨0, by omega, k3⟩, ⟨0, by omega, k2⟩⟩
 ·intro i k H hJ hx
  obtain ⟨ho, hlH, k1, k2, k3, k4⟩ := hJ
  refine ret_round mono rfl rfl k4 rfl rfl ?_
  have hlt := nl_lt k4
  have e1 : begLp 4 H = some (H.set 4 (lpS 1)) := by
   unfold begLp
   rw [k4]
   exact setEl_put _ _ _ hlt
  have n1 : nth (H.set 4 (lpS 1)) 1 = some (.cs 23 1 [[.m w0]] 1 false) := by rw [nl_set_ne (by omega)]; exact k1
  have htk : all8.take (i + 1) = all8.take i ++ [k] := take_succ_get hx
  have gc := fun H => same_s (isSl_sl (cells3 (imgC (modS k) p))) hw0 (by rw [img_len]; omega) (by rw [home_len]; omega) H
  have es := symL_snoc p (all8.take i) k
  rw [← htk] at es
  have hsl : (symL p (all8.take i)).length ≤ 8 := Nat.le_trans (List.length_filter_le _ _) (by rw [List.length_take]; exact Nat.min_le_right _ _)
  unfold c11_A0 c11_R0
  cases hc : symK p k with
  | true =>
   have hc' := hc
   unfold symK at hc'
   rw [hc'] at gc
   rw [hc, if_pos rfl] at es
   generalize imgC (modS k) p = q at *
   obtain ⟨o, b, o1, H1, m0, hb, ha, hce, hon, hnf, m1, ho1, hk, hll⟩ := outN_push (outN_set ho (i := 4) (by omega) (by omega) (lpS 1)) (by simpa using hlH) (by omega) k
   have hl1 : 5 ≤ H1.length := by simp at hll; omega
   have s0 : setEl H1 0 (.cs 24 1 [[o1]] 1 false) = some (H1.set 0 (.cs 24 1 [[o1]] 1 false)) := setEl_put _ _ _ (by omega)
   have hw2 : ∀ x y : V, writeR 1 [[x]] 0 0 [y] = some [[y]] := fun _ _ => rfl
   have n4 : nth H1 4 = some (lpS 1) := by rw [hk 4 (by omega), nl_set_eq hlt]
   have e3 : setLp 4 1 0 none (H1.set 0 (.cs 24 1 [[o1]] 1 false)) = some ((H1.set 0 (.cs 24 1 [[o1]] 1 false)).set 4 (lpS 0)) := by
    unfold setLp
    rw [nl_set_ne (by omega), n4]
    show setEl (H1.set 0 _) 4 (lpS 0) = _
    rw [setEl_put _ _ _ (by simp; omega)]
   generalize hX : Row.cs 24 1 [[o1]] 1 false = X at *
   simp (maxSteps := 2000000) (disch := omega) [gd_in, gd_and, wr_i64, e1, n1, cl (gc _), m0, hb, ha, hce, hon, m1, hw2, hX, s0, endR, e3]
   refine ⟨by rw [es]; exact outN_set ho1 (by omega) (by omega) _, by omega, ?_, ?_, ?_, ?_⟩
   ·rw [nl_set_ne (by omega), nl_set_ne (by omega), hk 1 (by omega)]; exact n1
   ·rw [nl_set_ne (by omega), nl_set_ne (by omega), hk 2 (by omega), nl_set_ne (by omega)]; exact k2
   ·rw [nl_set_ne (by omega), nl_set_ne (by omega), hk 3 (by omega), nl_set_ne (by omega)]; exact k3
   ·rw [nl_set_eq (by simp; omega)]
  | false =>
   have hc' := hc
   unfold symK at hc'
   rw [hc'] at gc
   rw [hc, if_neg (by simp), List.append_nil] at es
   have e2 : setLp 4 1 0 none (H.set 4 (lpS 1)) = some (H.set 4 (lpS 0)) := by
    unfold setLp
    rw [nl_set_eq hlt]
    show setEl (H.set 4 (lpS 1)) 4 (lpS 0) = _
    rw [setEl_put _ _ _ (by simpa using hlt), List.set_set]
   generalize imgC (modS k) p = q at *
   simp (maxSteps := 2000000) (disch := omega) [gd_in, gd_and, wr_i64, e1, n1, cl (gc _), endR, e2]
   refine ⟨by rw [es]; exact outN_set ho (by omega) (by omega) _, by omega, ?_, ?_, ?_, ?_⟩
   ·rw [nl_set_ne (by omega)]; exact k1
   ·rw [nl_set_ne (by omega)]; exact k2
   ·rw [nl_set_ne (by omega)]; exact k3
   ·rw [nl_set_eq hlt]
 ·intro H hJ
  obtain ⟨ho, hlH, k1, k2, k3, k4⟩ := hJ
  have hlt := nl_lt k4
  have e4 : endLp 4 H = some (.nm, H.set 4 (lpS 3)) := by
   unfold endLp
   rw [k4]
   show (setEl H 4 (lpS 3)).bind _ = _
   rw [setEl_put _ _ _ hlt]
   rfl
  obtain ⟨o, b, hb, m0, hnf, hvw⟩ := outN_view ho
  have n0 : nth (H.set 4 (lpS 3)) 0 = some (.cs 24 1 [[o]] b false) := by rw [nl_set_ne (by omega)]; exact m0
  have hvw := hvw (lpS 3)
  have e8 : symL p (List.take all8.length all8) = symL p all8 := rfl
  rw [e8] at hvw
  simp (maxSteps := 2000000) (disch := omega) [gd_in, gd_and, wr_i64, e4, n0, hb, setC_v hnf, hvw]
  exact hnf
end Go.Mx.Tryz
