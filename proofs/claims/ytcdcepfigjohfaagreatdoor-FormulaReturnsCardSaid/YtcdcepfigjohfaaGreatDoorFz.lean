/- The words of a formula's text at the machine, of the program and of the reference. -/
import Derived.Test.YtcdcepfigjohfaaGreatDoorWdp
import Derived.Test.YtcdcepfigjohfaaGreatDoorFy
set_option linter.unusedSimpArgs false
set_option linter.unusedVariables false
set_option linter.unusedSectionVars false
set_option maxRecDepth 100000
namespace Go.Mx.Tryz

def rowsS (ws : List (List Nat)) : List (List V) := ws.map fun w => [.m (.s w)]
def celS (ws : List (List Nat)) : List (List I) := ws.map fun w => [.s w]
@[simp] theorem rowsS_len (ws : List (List Nat)) : (rowsS ws).length = ws.length := by simp [rowsS]
@[simp] theorem celS_len (ws : List (List Nat)) : (celS ws).length = ws.length := by simp [celS]
theorem rowsS_snoc (ws : List (List Nat)) (w : List Nat) : rowsS ws ++ [[.m (.s w)]] = rowsS (ws ++ [w]) := by simp [rowsS]
def zS (ws : List (List Nat)) : I := if ws = [] then .nl 4 else .sl (celS ws)
theorem zS_sl (ws : List (List Nat)) : IsSl (zS ws) (celS ws) := by
  unfold zS
  split
  · rename_i h; subst h; exact isSl_nil
  · exact isSl_sl _
theorem optS (n : Nat) (H : Hp) : ∀ ws : List (List Nat), optMap (fun e => optMap (view (n + 1) H) e) (rowsS ws) = some (celS ws)
  | [] => rfl
  | w :: r => by
    show Option.bind (some [I.s w]) _ = _
    simp only [Option.bind_some]
    have := optS n H r
    show Option.bind (optMap _ (rowsS r)) _ = _
    rw [this]
    rfl
theorem viewS {H : Hp} {ro base : Nat} {ws : List (List Nat)} (h : nth H ro = some (.cs 9 1 (rowsS ws) base false)) (hb : base ≤ ws.length) : viewR H (.sl ro ws.length 1 0 ws.length false) = some (.m (.sl (celS ws))) := by
  have e : elems H (.sl ro ws.length 1 0 ws.length false) = some (rowsS ws) := by
    rw [elems_row, h]
    show gd (Nat.ble base ws.length && Nat.beq 1 1) (some (((rowsS ws).drop 0).take ws.length)) = _
    rw [ble_dec, decide_eq_true hb, List.drop_zero, List.take_of_length_le (by simp)]
    rfl
  show Option.bind (Option.bind (elems H (.sl ro ws.length 1 0 ws.length false)) _) _ = _
  rw [e]
  show Option.bind (Option.bind (optMap _ (rowsS ws)) _) _ = _
  rw [optS]
  rfl

/-- The words so far, in the variable of row 0; the rows 'bad' are others. -/
def OutOk (ws : List (List Nat)) (H : Hp) (bad : List Nat) : Prop := ∃ o b, b ≤ 1 ∧ nth H 0 = some (.cs 71 1 [[o]] b false) ∧ ((ws = [] ∧ o = .m (.nl 4)) ∨ (ws ≠ [] ∧ ∃ ro, ro ∉ bad ∧ o = .sl ro ws.length 1 0 ws.length false ∧ nth H ro = some (.cs 9 1 (rowsS ws) 0 false)))
theorem OutOk.set {ws : List (List Nat)} {H : Hp} {bad : List Nat} (h : OutOk ws H bad) {i : Nat} (hi : i ∈ bad) (h0 : i ≠ 0) (x : Row) : OutOk ws (H.set i x) bad := by
  obtain ⟨o, b, hb, k1, k2⟩ := h
  refine ⟨o, b, hb, by rw [nl_set_ne h0]; exact k1, ?_⟩
  rcases k2 with k2 | ⟨hne, ro, hro, e, k3⟩
  · exact .inl k2
  · exact .inr ⟨hne, ro, hro, e, by rw [nl_set_ne (fun e => hro (by rw [← e]; exact hi))]; exact k3⟩
theorem OutOk.more {ws : List (List Nat)} {H : Hp} {bad : List Nat} (h : OutOk ws H bad) (l : List Row) (bad' : List Nat) (hb : ∀ i, i ∈ bad' → i ∈ bad ∨ H.length ≤ i) : OutOk ws (H ++ l) bad' := by
  obtain ⟨o, b, hb1, k1, k2⟩ := h
  refine ⟨o, b, hb1, by rw [nl_app _ _ _ (nl_lt k1)]; exact k1, ?_⟩
  rcases k2 with k2 | ⟨hne, ro, hro, e, k3⟩
  · exact .inl k2
  · refine .inr ⟨hne, ro, fun hm => ?_, e, by rw [nl_app _ _ _ (nl_lt k3)]; exact k3⟩
    rcases hb ro hm with h | h
    · exact hro h
    · have := nl_lt k3; omega
theorem OutOk.less {ws : List (List Nat)} {H : Hp} {bad bad' : List Nat} (h : OutOk ws H bad) (hb : ∀ i, i ∈ bad' → i ∈ bad) : OutOk ws H bad' := by
  obtain ⟨o, b, hb1, k1, k2⟩ := h
  refine ⟨o, b, hb1, k1, ?_⟩
  rcases k2 with k2 | ⟨hne, ro, hro, e, k3⟩
  · exact .inl k2
  · exact .inr ⟨hne, ro, fun hm => hro (hb ro hm), e, k3⟩
theorem out_push {ws : List (List Nat)} {H : Hp} {bad : List Nat} (h : OutOk ws H bad) (hb : ∀ i, i ∈ bad → i < H.length) (h0 : 0 ∈ bad) (hl : ws.length ≤ 1000000) (w : List Nat) :
    ∃ o b o1 H1, nth H 0 = some (.cs 71 1 [[o]] b false) ∧ b ≤ 1 ∧ (∀ B, appX ⟨B, H⟩ 9 1 16 o [[.m (.s w)]] = some (o1, ⟨B, H1⟩)) ∧ cellsV o1 = some [o1] ∧ oneV o1 = true ∧ nth H1 0 = some (.cs 71 1 [[o]] b false) ∧ H.length ≤ H1.length ∧
      OutOk (ws ++ [w]) (H1.set 0 (.cs 71 1 [[o1]] 1 false)) bad ∧ (∀ i, i ∈ bad → i ≠ 0 → nth (H1.set 0 (.cs 71 1 [[o1]] 1 false)) i = nth H i) := by
  obtain ⟨o, b, hb1, k1, k2⟩ := h
  rcases k2 with ⟨rfl, rfl⟩ | ⟨hne, ro, hro, rfl, k3⟩
  · refine ⟨_, b, .sl H.length 1 1 0 1 false, H ++ [.cs 9 1 [[.m (.s w)]] 0 false], k1, hb1, fun B => rfl, rfl, rfl, by rw [nl_app _ _ _ (nl_lt k1)]; exact k1, by simp, ?_, fun i hi h => ?_⟩
    · have hl0 := nl_lt k1
      have hl1 : 0 < (H ++ [Row.cs 9 1 [[.m (.s w)]] 0 false]).length := by simp
      refine ⟨_, 1, Nat.le_refl _, nl_set_eq hl1, .inr ⟨by simp, H.length, fun hm => ?_, rfl, ?_⟩⟩
      · have := hb _ hm; omega
      · rw [nl_set_ne (by omega)]
        exact nl_end H _ 0
    · rw [nl_set_ne (fun e => h e.symm), nl_app _ _ _ (hb i hi)]
  · have hr0 : ro ≠ 0 := fun e => hro (e ▸ h0)
    have ha := fun B => app_row (M := ⟨B, H⟩) (bytes := 16) (xs := [[.m (.s w)]]) k3 (by simp) (by simp; omega) rfl
    simp only [rowsS_len, List.length_cons, List.length_nil, Nat.zero_add] at ha
    refine ⟨_, b, _, _, k1, hb1, ha, rfl, rfl, by rw [nl_set_ne hr0]; exact k1, by simp, ?_, fun i hi h => ?_⟩
    · have hl1 : 0 < (H.set ro (Row.cs 9 1 (rowsS ws ++ [[.m (.s w)]]) 0 false)).length := by have := nl_lt k1; simp; omega
      refine ⟨_, 1, Nat.le_refl _, nl_set_eq hl1, .inr ⟨by simp, ro, hro, by simp, ?_⟩⟩
      rw [nl_set_ne (fun e => hr0 e.symm), nl_set_eq (nl_lt k3), rowsS_snoc]
    · rw [nl_set_ne (fun e => h e.symm), nl_set_ne (fun e => hro (by rw [e]; exact hi))]

/-- The loops' records. -/
def E0w : List (Nat × V) := [(3, .pt 0 1 0 0)]
@[reducible] def lpO (st : Nat) : Row := .lp st none [(3, .pt 0 1 0 0)] [8] c54_A1 c54_R1
@[reducible] def lpI (st : Nat) : Row := .lp st none [(3, .pt 0 1 0 0)] [13] c54_A0 c54_R0

/-- A round of the loop over words. -/
theorem round_i {ws : List (List Nat)} {H : Hp} {bad : List Nat} {r : Nat} (h : OutOk ws H bad) (hb : ∀ i, i ∈ bad → i < H.length) (h0 : 0 ∈ bad) (hr : r ∈ bad) (hr0 : r ≠ 0) (hl : ws.length ≤ 1000000) (w : List Nat) (hrow : nth H r = some (lpI 0)) :
    Ret G yN [.yl r, .m (.s w)] H fun v H' => v = .m (.b true) ∧ H.length ≤ H'.length ∧ OutOk (ws ++ fl1 w) H' bad ∧ (∀ i, i ∈ bad → i ≠ 0 → nth H' i = nth H i) := by
  refine ret_round mono rfl rfl hrow rfl rfl ?_
  have hlt := nl_lt hrow
  have e1 : begLp r H = some (H.set r (lpI 1)) := by
    unfold begLp
    rw [hrow]
    exact setEl_put _ _ _ hlt
  unfold c54_A0 c54_R0
  simp [e1]
  by_cases hw : w = []
  · subst hw
    have e2 : setLp r 1 0 none (H.set r (lpI 1)) = some (H.set r (lpI 0)) := by
      unfold setLp
      rw [nl_set_eq hlt]
      show setEl (H.set r (lpI 1)) r (lpI 0) = _
      rw [setEl_put _ _ _ (by simpa using hlt), List.set_set]
    simp [endR, e2]
    refine ⟨?_, fun i hi h0 => ?_⟩
    · have : ws ++ fl1 [] = ws := by simp [fl1]
      rw [this]
      exact h.set hr hr0 _
    · by_cases e : r = i
      · subst e; rw [nl_set_eq hlt, hrow]
      · rw [nl_set_ne e]
  · obtain ⟨o, b, o1, H1, k1, k2, k3, k4, k5, k6, k7, k8, k9⟩ := out_push (h.set hr hr0 (lpI 1)) (fun i hi => by simpa using hb i hi) h0 hl w
    have hl1 := nl_lt k6
    have es : setEl H1 0 (.cs 71 1 [[o1]] 1 false) = some (H1.set 0 (.cs 71 1 [[o1]] 1 false)) := setEl_put _ _ _ hl1
    have e3 : nth (H1.set 0 (.cs 71 1 [[o1]] 1 false)) r = some (lpI 1) := by rw [k9 r hr hr0, nl_set_eq hlt]
    have e2 : setLp r 1 0 none (H1.set 0 (.cs 71 1 [[o1]] 1 false)) = some ((H1.set 0 (.cs 71 1 [[o1]] 1 false)).set r (lpI 0)) := by
      unfold setLp
      rw [e3]
      exact setEl_put _ _ _ (nl_lt e3)
    simp [hw, k1, k2, k3, k4, k5, k6, es, endR, e2]
    have hf : fl1 w = [w] := if_neg hw
    rw [hf]
    refine ⟨by simpa using k7, k8.set hr hr0 _, fun i hi h0 => ?_⟩
    by_cases e : r = i
    · subst e; rw [nl_set_eq (nl_lt e3), hrow]
    · rw [nl_set_ne e, k9 i hi h0, nl_set_ne e]

theorem wsA_len : ∀ s w : List Nat, (wsA w s).length ≤ s.length + 1
  | [], w => by
    show (fl1 w).length ≤ 1
    unfold fl1
    split <;> simp
  | x :: r, w => by
    have h1 := wsA_len r []
    have h2 := wsA_len r (w ++ [x])
    have h3 : (fl1 w).length ≤ 1 := by unfold fl1; split <;> simp
    have e2 : wsA w (x :: r) = if x = 32 then fl1 w ++ wsA [] r else wsA (w ++ [x]) r := rfl
    rw [e2]
    split
    · simp only [List.length_append, List.length_cons]; omega
    · simp only [List.length_cons]; omega
theorem lineW_len (s : List Nat) : (lineW s).length ≤ s.length + 1 := by rw [← wsA_line]; exact wsA_len s []
theorem rfW_len : ∀ (s w : List Nat) (cm bg : Bool), (rfW w cm bg s).length ≤ s.length + 1
  | [], w, cm, bg => by
    show (fl1 w).length ≤ 1
    unfold fl1
    split <;> simp
  | x :: r, w, cm, bg => by
    have h1 := rfW_len r [] (if bg then decide (x = 99) else cm) (decide (x = 10))
    have h2 := rfW_len r (if (if bg then decide (x = 99) else cm) = true then w else w ++ [x]) (if bg then decide (x = 99) else cm) false
    have h3 : (fl1 w).length ≤ 1 := by unfold fl1; split <;> simp
    have e2 : rfW w cm bg (x :: r) = if x = 10 ∨ x = 32 then fl1 w ++ rfW [] (if bg then decide (x = 99) else cm) (decide (x = 10)) r else rfW (if (if bg then decide (x = 99) else cm) = true then w else w ++ [x]) (if bg then decide (x = 99) else cm) false r := rfl
    rw [e2]
    split
    · simp only [List.length_append, List.length_cons]; omega
    · simp only [List.length_cons]; omega
theorem txtW_len (s : List Nat) : (txtW s).length ≤ s.length + 1 := by rw [← rfW_txt]; exact rfW_len s [] false true

theorem round_o {ws : List (List Nat)} {H : Hp} (h : OutOk ws H [0, 1, 2, 3, 4]) (h5 : 5 ≤ H.length) (l : List Nat) (hl : ws.length + l.length + 1 ≤ 1000000) (hrow : nth H 4 = some (lpO 0)) :
    Ret G yN [.yl 4, .m (.s l)] H fun v H' => v = .m (.b true) ∧ H.length ≤ H'.length ∧ OutOk (ws ++ line1 l) H' [0, 1, 2, 3, 4] ∧ (∀ i, 1 ≤ i → i ≤ 4 → nth H' i = nth H i) := by
  refine ret_round mono rfl rfl hrow rfl rfl ?_
  have hlt := nl_lt hrow
  have e1 : begLp 4 H = some (H.set 4 (lpO 1)) := by
    unfold begLp
    rw [hrow]
    exact setEl_put _ _ _ hlt
  unfold c54_A1 c54_R1
  have gp := fun H => pre_s l (by omega) 99 H
  by_cases hc : l.take 1 = [99]
  · have e2 : setLp 4 1 0 none (H.set 4 (lpO 1)) = some (H.set 4 (lpO 0)) := by
      unfold setLp
      rw [nl_set_eq hlt]
      show setEl (H.set 4 (lpO 1)) 4 (lpO 0) = _
      rw [setEl_put _ _ _ (by simpa using hlt), List.set_set]
    have hw : ws ++ line1 l = ws := by unfold line1; rw [if_pos hc]; simp
    rw [decide_eq_true hc] at gp
    simp [e1, cl (gp _), endR, e2]
    rw [hw]
    refine ⟨h.set (by simp) (by omega) _, fun i h1 h4 => ?_⟩
    by_cases e : 4 = i
    · subst e; rw [nl_set_eq hlt, hrow]
    · rw [nl_set_ne e]
  · have hw : ws ++ line1 l = ws ++ lineW l := by unfold line1; rw [if_neg hc]
    have gs := fun H => splitSeq_s l [32] H
    rw [decide_eq_false hc] at gp
    simp [e1, cl (gp _), cl (gs _)]
    rw [hw]
    refine split_w 32 (by omega) (H.length + 3) (H.length + 1) H.length (H.length + 2) (by omega) (by omega) (fun t H' => ∃ ws', H.length + 4 ≤ H'.length ∧ (∃ b, b ≤ 1 ∧ nth H' H.length = some (strR t b)) ∧ (∃ b, b ≤ 1 ∧ nth H' (H.length + 1) = some (strR [32] b)) ∧ (∃ b, b ≤ 1 ∧ nth H' (H.length + 2) = some (zerR b)) ∧
      nth H' (H.length + 3) = some (lpI 0) ∧ nth H' 4 = some (lpO 1) ∧ (∀ i, 1 ≤ i → i ≤ 3 → nth H' i = nth H i) ∧ OutOk ws' H' [0, 1, 2, 3, 4, H.length, H.length + 1, H.length + 2, H.length + 3] ∧ ws' ++ lineW t = ws ++ lineW l ∧ t.length ≤ l.length) _ ?_ ?_ ?_ l _ ?_
    · rintro s H' ⟨ws', k1, k2, k3, k4, k5, k6, k7, k8, k9, k10⟩
      exact ⟨by omega, k2, k3, k4⟩
    · rintro s t H' ⟨ws', k1, ⟨b2, hb2, k2⟩, ⟨b3, hb3, k3⟩, ⟨b4, hb4, k4⟩, k5, k6, k7, k8, k9, k10⟩ ht
      have hw' : ws'.length ≤ 1000000 := by
        have := congrArg List.length k9
        have h2 := lineW_len l
        simp only [List.length_append] at this
        omega
      refine retm (round_i k8 (fun i hi => by simp at hi; omega) (by simp) (r := H.length + 3) (by simp) (by omega) hw' (hdB 32 s) k5) fun v H2 hq => ?_
      obtain ⟨rfl, j1, j2, j3⟩ := hq
      have f := fun i hi h0 => j3 i hi h0
      have r2 : nth H2 H.length = some (strR s b2) := by rw [f _ (by simp) (by omega)]; exact k2
      have r3 : nth H2 (H.length + 1) = some (strR [32] b3) := by rw [f _ (by simp) (by omega)]; exact k3
      refine .inr ⟨rfl, ⟨b2, hb2, r2⟩, ⟨b3, hb3, r3⟩, ws' ++ fl1 (hdB 32 s), by simp; omega, ⟨1, Nat.le_refl _, nl_set_eq (nl_lt r2)⟩, ⟨b3, hb3, by rw [nl_set_ne (by omega)]; exact r3⟩, ⟨b4, hb4, by rw [nl_set_ne (by omega), f _ (by simp) (by omega)]; exact k4⟩, ?_, ?_, ?_, ?_, ?_, ?_⟩
      · rw [nl_set_ne (by omega), f _ (by simp) (by omega)]; exact k5
      · rw [nl_set_ne (by omega), f _ (by simp) (by omega)]; exact k6
      · intro i h1 h3
        rw [nl_set_ne (by omega), f i (by simp; omega) (by omega)]; exact k7 i h1 h3
      · exact j2.set (by simp) (by omega) _
      · rw [← k9, lineW_some ht, List.append_assoc]
      · have := tlB_len ht; omega
    · rintro s H' ⟨ws', k1, ⟨b2, hb2, k2⟩, ⟨b3, hb3, k3⟩, ⟨b4, hb4, k4⟩, k5, k6, k7, k8, k9, k10⟩ ht
      have hw' : ws'.length ≤ 1000000 := by
        have := congrArg List.length k9
        have h2 := lineW_len l
        simp only [List.length_append] at this
        omega
      refine retm (round_i k8 (fun i hi => by simp at hi; omega) (by simp) (r := H.length + 3) (by simp) (by omega) hw' s k5) fun v H2 hq => ?_
      obtain ⟨rfl, j1, j2, j3⟩ := hq
      have f := fun i hi h0 => j3 i hi h0
      have r5 : nth H2 (H.length + 3) = some (lpI 0) := by rw [f _ (by simp) (by omega)]; exact k5
      have r6 : nth H2 4 = some (lpO 1) := by rw [f _ (by simp) (by omega)]; exact k6
      have e3 : endLp (H.length + 3) H2 = some (.nm, H2.set (H.length + 3) (lpI 3)) := by
        unfold endLp
        rw [r5]
        show Option.bind (setEl H2 _ _) _ = _
        rw [setEl_put _ _ _ (nl_lt r5)]
        rfl
      have r7 : nth (H2.set (H.length + 3) (lpI 3)) 4 = some (lpO 1) := by rw [nl_set_ne (by omega)]; exact r6
      have e2 : setLp 4 1 0 none (H2.set (H.length + 3) (lpI 3)) = some ((H2.set (H.length + 3) (lpI 3)).set 4 (lpO 0)) := by
        unfold setLp
        rw [r7]
        exact setEl_put _ _ _ (nl_lt r7)
      rw [← k9, lineW_none ht]
      simp [e3, endR, e2]
      refine ⟨by omega, (((j2.set (by simp) (by omega) _).set (i := 4) (by simp) (by omega) _)).less (fun i hi => by simp at hi ⊢; omega), fun i h1 h4 => ?_⟩
      by_cases e : 4 = i
      · subst e; rw [nl_set_eq (nl_lt r7), hrow]
      · rw [nl_set_ne e, nl_set_ne (by omega), f i (by simp; omega) (by omega)]; exact k7 i h1 (by omega)
    · have hs : OutOk ws (H.set 4 (lpO 1)) [0, 1, 2, 3, 4] := h.set (by simp) (by omega) _
      refine ⟨ws, by simp, ⟨0, by omega, ?_⟩, ⟨0, by omega, ?_⟩, ⟨0, by omega, ?_⟩, ?_, ?_, ?_, ?_, rfl, Nat.le_refl _⟩
      · have := nl_end (H.set 4 (lpO 1)) [strR l 0, strR [32] 0, zerR 0, lpI 0] 0
        simp at this
        exact this
      · have := nl_end (H.set 4 (lpO 1)) [strR l 0, strR [32] 0, zerR 0, lpI 0] 1
        simp at this
        exact this
      · have := nl_end (H.set 4 (lpO 1)) [strR l 0, strR [32] 0, zerR 0, lpI 0] 2
        simp at this
        exact this
      · have := nl_end (H.set 4 (lpO 1)) [strR l 0, strR [32] 0, zerR 0, lpI 0] 3
        simp at this
        exact this
      · rw [nl_app _ _ _ (by simp; omega), nl_set_eq hlt]
      · intro i h1 h3
        rw [nl_app _ _ _ (by simp; omega), nl_set_ne (by omega)]
      · refine hs.more _ _ fun i hi => ?_
        simp at hi ⊢
        omega

theorem words_s (s : List Nat) (hl : s.length ≤ 100000) (H : Hp) : Gives G 54 [.m (.s s)] H (.m (zS (txtW s))) H := by
  refine gives_pur rfl rfl rfl rfl rfl ?_
  have gs := fun H => splitSeq_s s [10] H
  simp [cl (gs _)]
  refine split_w 10 (by omega) 4 2 1 3 (by omega) (by omega) (fun t H' => ∃ ws, 5 ≤ H'.length ∧ (∃ b, b ≤ 1 ∧ nth H' 1 = some (strR t b)) ∧ (∃ b, b ≤ 1 ∧ nth H' 2 = some (strR [10] b)) ∧ (∃ b, b ≤ 1 ∧ nth H' 3 = some (zerR b)) ∧
    nth H' 4 = some (lpO 0) ∧ OutOk ws H' [0, 1, 2, 3, 4] ∧ ws ++ txtW t = txtW s ∧ t.length ≤ s.length) _ ?_ ?_ ?_ s _ ?_
  · rintro t H' ⟨ws, k1, k2, k3, k4, k5, k6, k7, k8⟩
    exact ⟨by omega, k2, k3, k4⟩
  · rintro u t H' ⟨ws, k1, ⟨b2, hb2, k2⟩, ⟨b3, hb3, k3⟩, ⟨b4, hb4, k4⟩, k5, k6, k7, k8⟩ ht
    have hlen := tlB_len ht
    have hw' : ws.length ≤ 100001 := by
      have := congrArg List.length k7
      have h2 := txtW_len s
      simp only [List.length_append] at this
      omega
    refine retm (round_o k6 k1 (hdB 10 u) (by omega) k5) fun v H2 hq => ?_
    obtain ⟨rfl, j1, j2, f⟩ := hq
    have r2 : nth H2 1 = some (strR u b2) := by rw [f 1 (by omega) (by omega)]; exact k2
    have r3 : nth H2 2 = some (strR [10] b3) := by rw [f 2 (by omega) (by omega)]; exact k3
    refine .inr ⟨rfl, ⟨b2, hb2, r2⟩, ⟨b3, hb3, r3⟩, ws ++ line1 (hdB 10 u), by simp; omega, ⟨1, Nat.le_refl _, nl_set_eq (nl_lt r2)⟩, ⟨b3, hb3, by rw [nl_set_ne (by omega)]; exact r3⟩, ⟨b4, hb4, by rw [nl_set_ne (by omega), f 3 (by omega) (by omega)]; exact k4⟩, ?_, ?_, ?_, ?_⟩
    · rw [nl_set_ne (by omega), f 4 (by omega) (by omega)]; exact k5
    · exact j2.set (by simp) (by omega) _
    · rw [← k7, txtW_some ht, List.append_assoc]
    · omega
  · rintro u H' ⟨ws, k1, ⟨b2, hb2, k2⟩, ⟨b3, hb3, k3⟩, ⟨b4, hb4, k4⟩, k5, k6, k7, k8⟩ ht
    have hw' : ws.length ≤ 100001 := by
      have := congrArg List.length k7
      have h2 := txtW_len s
      simp only [List.length_append] at this
      omega
    refine retm (round_o k6 k1 u (by omega) k5) fun v H2 hq => ?_
    obtain ⟨rfl, j1, j2, f⟩ := hq
    have r5 : nth H2 4 = some (lpO 0) := by rw [f 4 (by omega) (by omega)]; exact k5
    have e3 : endLp 4 H2 = some (.nm, H2.set 4 (lpO 3)) := by
      unfold endLp
      rw [r5]
      show Option.bind (setEl H2 _ _) _ = _
      rw [setEl_put _ _ _ (nl_lt r5)]
      rfl
    have hT : ws ++ line1 u = txtW s := by rw [← k7, txtW_none ht]
    rw [hT] at j2
    obtain ⟨o, b, hb, q1, q2⟩ := j2.set (i := 4) (by simp) (by omega) (lpO 3)
    rcases q2 with ⟨hT0, rfl⟩ | ⟨hne, ro, hro, rfl, q3⟩
    · simp [e3, q1, hb, zS, hT0]
    · have hv := viewS q3 (Nat.zero_le _)
      simp [e3, q1, hb, zS, hne, hv]
  · refine ⟨[], by simp, ⟨0, by omega, rfl⟩, ⟨0, by omega, rfl⟩, ⟨0, by omega, rfl⟩, rfl, ⟨_, 0, by omega, rfl, .inl ⟨rfl, rfl⟩⟩, rfl, Nat.le_refl _⟩

theorem setC_v {s : St} {n : Nat} {x : V} (h : noFaV x = true) : setC s (.v n) x = some { s with E := setE s.E n x } := by
  cases x with
  | fa d o => cases h
  | _ => first | rfl | simp
def OutR (ws : List (List Nat)) (o : V) (H : Hp) : Prop := (ws = [] ∧ o = .m (.nl 4) ∧ H = []) ∨ (ws ≠ [] ∧ o = .sl 0 ws.length 1 0 ws.length false ∧ H = [.cs 9 1 (rowsS ws) 0 false])
theorem outR_push {ws : List (List Nat)} {o : V} {H : Hp} (h : OutR ws o H) (hl : ws.length ≤ 1000000) (w : List Nat) : ∃ o1 H1, (∀ B, appX ⟨B, H⟩ 9 1 16 o [[.m (.s w)]] = some (o1, ⟨B, H1⟩)) ∧ noFaV o1 = true ∧ OutR (ws ++ [w]) o1 H1 := by
  rcases h with ⟨rfl, rfl, rfl⟩ | ⟨hne, rfl, rfl⟩
  · exact ⟨_, _, fun B => rfl, rfl, .inr ⟨by simp, rfl, rfl⟩⟩
  · have ha := fun B => app_row (M := ⟨B, [.cs 9 1 (rowsS ws) 0 false]⟩) (r := 0) (bytes := 16) (xs := [[.m (.s w)]]) rfl (by simp) (by simp; omega) rfl
    simp only [rowsS_len, List.length_cons, List.length_nil, Nat.zero_add, rowsS_snoc, List.set_cons_zero] at ha
    exact ⟨_, _, ha, rfl, .inr ⟨by simp, by simp, rfl⟩⟩
theorem outR_view {ws : List (List Nat)} {o : V} {H : Hp} (h : OutR ws o H) : viewR H o = some (.m (zS ws)) := by
  rcases h with ⟨rfl, rfl, rfl⟩ | ⟨hne, rfl, rfl⟩
  · rfl
  · rw [viewS (ro := 0) (base := 0) rfl (Nat.zero_le _)]
    unfold zS
    rw [if_neg hne]

set_option maxHeartbeats 1000000 in
theorem words_r (s : List Nat) (hl : s.length ≤ 100000) (H : Hp) : Gives G 57 [.m (.s s)] H (.m (zS (txtW s))) H := by
  refine gives_pur rfl rfl rfl rfl rfl ?_
  rw [← rfW_txt]
  have hT := rfW_len s [] false true
  simp
  refine (?key : ∀ (i : Nat) (ws : List (List Nat)) (o : V) (w : List Nat) (cm bg : Bool) (B : List (Nat × List V)) (H : Hp), i ≤ s.length + 1 → w.length ≤ i → OutR ws o H → rfW [] false true s = ws ++ (if i ≤ s.length then rfW w cm bg (s.drop i) else []) → Run G c57_B0 (S57_0 (.m (.s s)) o (.m (.s w)) (.m (.b cm)) (.m (.b bg)) (.m (.i .i64 i)) B H) _) 0 [] (.m (.nl 4)) [] false true [] [] (Nat.zero_le _) (Nat.le_refl _) (.inl ⟨rfl, rfl, rfl⟩) (by simp)
  refine indM (fun i : Nat => s.length + 1 - i) fun i ih ws o w cm bg B H hi hw ho hq => ?_
  have hwl : ws.length ≤ 1000000 := by
    have := congrArg List.length hq
    simp only [List.length_append] at this
    omega
  have hnf : noFaV o = true := by
    rcases ho with ⟨_, rfl, _⟩ | ⟨_, rfl, _⟩ <;> rfl
  have wi : wr .i64 ((i : Int) + 1) = (i : Int) + 1 := wr_i64 (by omega) (by omega)
  have hwx : (w.length : Int) + 1 ≤ 9223372036854775807 := by omega
  unfold c57_B0
  by_cases hil : i ≤ s.length
  · rw [if_pos hil] at hq
    have ih := fun ws' o' w' cm' bg' B' H' => ih (i + 1) (by omega) ws' o' w' cm' bg' B' H'
    have hle' : (i : Int) ≤ s.length := by omega
    cases hx : s[i]? with
    | none =>
      have : i = s.length := by have := List.getElem?_eq_none_iff.1 hx; omega
      subst this
      rw [List.drop_length] at hq
      replace hq : rfW [] false true s = ws ++ fl1 w := hq
      have hn : ¬ s.length + 1 ≤ s.length := by omega
      by_cases h0 : w = []
      · subst h0
        replace hq : rfW [] false true s = ws := by rw [hq]; simp [fl1]
        cases bg <;> simp [wi] <;> exact ih _ _ _ _ _ _ _ (by omega) (by simp) ho (by rw [if_neg hn, hq]; simp)
      · obtain ⟨o1, H1, ha, hn1, ho1⟩ := outR_push ho hwl w
        have hf : fl1 w = [w] := if_neg h0
        rw [hf] at hq
        cases bg <;> simp [wi, h0, ha, setC_v hn1] <;> exact ih _ _ _ _ _ _ _ (by omega) (by simp) ho1 (by rw [if_neg hn, hq]; simp)
    | some x =>
      have hlt := (get_drop hx).1
      have hlt' : (i : Int) < s.length := by omega
      have hne' : ¬ (i : Int) = s.length := by omega
      have hnx : nth s i = some x := by rw [nth_get]; exact hx
      rw [(get_drop hx).2] at hq
      have e2 : rfW w cm bg (x :: s.drop (i + 1)) = if x = 10 ∨ x = 32 then fl1 w ++ rfW [] (if bg then decide (x = 99) else cm) (decide (x = 10)) (s.drop (i + 1)) else rfW (if (if bg then decide (x = 99) else cm) = true then w else w ++ [x]) (if bg then decide (x = 99) else cm) false (s.drop (i + 1)) := rfl
      rw [e2] at hq
      have hsl : ((s.drop i).take (i + 1 - i)) = [x] := by rw [(get_drop hx).2, show i + 1 - i = 1 by omega]; rfl
      have hsl' : (i : Int) + 1 ≤ s.length := by omega
      have ih := fun ws' o' w' cm' bg' B' H' (h1 : w'.length ≤ i + 1) (h2 : OutR ws' o' H') (h3 : rfW [] false true s = ws' ++ rfW w' cm' bg' (s.drop (i + 1))) => ih ws' o' w' cm' bg' B' H' (by omega) h1 h2 (by rw [if_pos (by omega)]; exact h3)
      have hw1 : w.length + 1 ≤ 9223372036854775807 := by omega
      have hp1 : (0 : Int) ≤ (i : Int) + 1 := by omega
      have hsl2 : (s.drop i).take 1 = [x] := by rw [(get_drop hx).2]; rfl
      by_cases hs : x = 10 ∨ x = 32
      · rw [if_pos hs, ← List.append_assoc] at hq
        by_cases h0 : w = []
        · subst h0
          have hf : fl1 [] = [] := rfl
          rw [hf, List.append_nil] at hq
          rcases hs with rfl | rfl <;> cases bg <;> simp [hle', hlt, hlt', hnx, hne', wi] <;> exact ih _ _ _ _ _ _ _ (by simp) ho hq
        · obtain ⟨o1, H1, ha, hn1, ho1⟩ := outR_push ho hwl w
          have hf : fl1 w = [w] := if_neg h0
          rw [hf] at hq
          rcases hs with rfl | rfl <;> cases bg <;> simp [hle', hlt, hlt', hnx, hne', wi, h0, ha, setC_v hn1] <;> exact ih _ _ _ _ _ _ _ (by simp) ho1 hq
      · rw [if_neg hs] at hq
        have h10 : ¬ (x : Int) = 10 := by omega
        have h32 : ¬ (x : Int) = 32 := by omega
        cases bg with
        | true =>
          by_cases h99 : x = 99
          · subst h99
            simp [hle', hlt, hlt', hnx, hne', wi]
            exact ih _ _ _ _ _ _ _ (by omega) ho hq
          · have h99' : ¬ (x : Int) = 99 := by omega
            rw [decide_eq_false h99] at hq
            simp [hle', hlt, hlt', hsl', hsl, hp1, hsl2, hnx, hne', wi, h10, h32, h99', hw1]
            exact ih _ _ _ _ _ _ _ (by simp; omega) ho hq
        | false =>
          cases cm with
          | true =>
            simp [hle', hlt, hlt', hsl', hsl, hp1, hsl2, hnx, hne', wi, h10, h32]
            exact ih _ _ _ _ _ _ _ (by omega) ho hq
          | false =>
            simp [hle', hlt, hlt', hsl', hsl, hp1, hsl2, hnx, hne', wi, h10, h32, hw1]
            exact ih _ _ _ _ _ _ _ (by simp; omega) ho hq
  · have : i = s.length + 1 := by omega
    subst this
    rw [if_neg hil, List.append_nil] at hq
    rw [← hq] at ho
    have hv := outR_view ho
    have n1 : ¬ (s.length : Int) + 1 ≤ s.length := by omega
    simp [n1, setC_v hnf, hv, hnf]
end Go.Mx.Tryz
