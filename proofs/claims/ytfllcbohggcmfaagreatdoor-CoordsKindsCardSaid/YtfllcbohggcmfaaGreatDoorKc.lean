/- CoordsKinds: coords.Kind and its reference at the machine; the law. -/
import Derived.Test.YtfllcbohggcmfaaGreatDoorKb
import Derived.Test.YtfllcbohggcmfaaGreatDoorLaw
import Derived.Test.YtfllcbohggcmfaaGreatDoorAwake
set_option linter.unusedSimpArgs false
set_option linter.unusedVariables false
set_option linter.unusedSectionVars false
set_option maxRecDepth 100000
namespace Go.Mx.Tryz
open Go.Proofs

theorem cutD_ok : CutOk [46, 79, 49, 50, 51, 52, 53, 54, 55] := ⟨⟨40, by kernel_rfl⟩, fun B => by kernel_rfl, by simp, by simp⟩
def inD (l : List Nat) : Bool := inS [46, 79, 49, 50, 51, 52, 53, 54, 55] l
theorem inD_nil : inD [] = true := rfl
theorem inD_cons (c : Nat) (r : List Nat) : inD (c :: r) = (decide (c = 46 ∨ c = 79 ∨ (49 ≤ c ∧ c ≤ 55)) && inD r) := by
  have : [46, 79, 49, 50, 51, 52, 53, 54, 55].contains c = decide (c = 46 ∨ c = 79 ∨ (49 ≤ c ∧ c ≤ 55)) := by
    rw [Bool.eq_iff_iff]
    simp
    omega
  show ([46, 79, 49, 50, 51, 52, 53, 54, 55].contains c && inD r) = _
  rw [this]
/-- A line of a drawing; all lines are. -/
def drL (l : List Nat) : Bool := decide (l.take 1 = [33]) || inD l
def drA (ls : List (List Nat)) : Bool := ls.all drL
theorem drA_cons (l : List Nat) (r : List (List Nat)) : drA (l :: r) = (drL l && drA r) := rfl
@[reducible] def bolR (x : Bool) (b : Nat) : Row := .cs 4 1 [[.m (.b x)]] b false
@[reducible] def lpD (st : Nat) : Row := .lp st none [(2, .pt 0 1 0 0)] [7, 8] c34_A0 c34_R0
@[reducible] def lpX : Row := .lp 2 (some none) [(2, .pt 0 1 0 0)] [7, 8] c34_A0 c34_R0

theorem round_d {H : Hp} (hrow : nth H 2 = some (lpD 0)) {b0 : Nat} (hb0 : b0 ≤ 1) (h0 : nth H 0 = some (bolR false b0)) (n : Int) (l : List Nat) (hl : l.length ≤ 9223372036854775807) (hb : ∀ c, c ∈ l → c < 256) :
    Ret G yN [.yl 2, .m (.i .i64 n), .m (.s l)] H fun v H' => (drL l = true ∧ v = .m (.b true) ∧ H' = H.set 2 (lpD 0)) ∨ (drL l = false ∧ v = .m (.b false) ∧ H' = ((H.set 2 (lpD 1)).set 0 (bolR false 1)).set 2 lpX) := by
  refine ret_round mono rfl rfl hrow rfl rfl ?_
  have hlt := nl_lt hrow
  have e1 : begLp 2 H = some (H.set 2 (lpD 1)) := by
    unfold begLp
    rw [hrow]
    exact setEl_put _ _ _ hlt
  have e2 : setLp 2 1 0 none (H.set 2 (lpD 1)) = some (H.set 2 (lpD 0)) := by
    unfold setLp
    rw [nl_set_eq hlt]
    show setEl (H.set 2 (lpD 1)) 2 (lpD 0) = _
    rw [setEl_put _ _ _ (by simpa using hlt), List.set_set]
  unfold c34_A0 c34_R0
  have gp := fun H => hpre_s l hl 33 H
  obtain ⟨q, gt, hq⟩ := trim_c cutD_ok l hl hb (H.set 2 (lpD 1))
  by_cases h33 : l.take 1 = [33]
  · rw [decide_eq_true h33] at gp
    have hd : drL l = true := by unfold drL; rw [decide_eq_true h33]; rfl
    simp [e1, cl (gp _), gcall_cx, endR, e2, hd]
  · rw [decide_eq_false h33] at gp
    have hd : drL l = inD l := by unfold drL; rw [decide_eq_false h33]; rfl
    by_cases h2 : q = []
    · have hd2 : drL l = true := by rw [hd]; exact hq.1 h2
      subst h2
      simp [e1, cl (gp _), gcall_cx, cl gt, endR, e2, hd2]
    · have hd2 : drL l = false := by
        rw [hd]
        cases h : inD l with
        | false => rfl
        | true => exact absurd (hq.2 h) h2
      have k0 : nth (H.set 2 (lpD 1)) 0 = some (bolR false b0) := by rw [nl_set_ne (by omega)]; exact h0
      have e3 : setEl (H.set 2 (lpD 1)) 0 (bolR false 1) = some ((H.set 2 (lpD 1)).set 0 (bolR false 1)) := setEl_put _ _ _ (nl_lt k0)
      have k2 : nth ((H.set 2 (lpD 1)).set 0 (bolR false 1)) 2 = some (lpD 1) := by rw [nl_set_ne (by omega), nl_set_eq hlt]
      have e4 : setLp 2 1 2 (some none) ((H.set 2 (lpD 1)).set 0 (bolR false 1)) = some (((H.set 2 (lpD 1)).set 0 (bolR false 1)).set 2 lpX) := by
        unfold setLp
        rw [k2]
        exact setEl_put _ _ _ (nl_lt k2)
      simp [e1, cl (gp _), gcall_cx, cl gt, h2, k0, e3, endR, e4, hd2]

theorem drawn_s (s : List Nat) (hl : s.length ≤ 100000000) (hb : ∀ c, c ∈ s → c < 256) (H : Hp) : Gives G 34 [.m (.s s)] H (.m (.b (decide (s ≠ []) && drA (linesA [] s)))) H := by
  refine gives_pur rfl rfl rfl rfl rfl ?_
  have gs := fun H => lines_s s H
  simp [cl (gs _)]
  refine lines_w 2 1 (fun n t H' => n + t.length ≤ s.length + 1 ∧ (∃ b, b ≤ 1 ∧ nth H' 0 = some (bolR false b)) ∧ (∃ b, b ≤ 1 ∧ nth H' 1 = some (strR t b)) ∧ nth H' 2 = some (lpD 0) ∧ drA (linesA [] s) = drA (linesA [] t) ∧ ∀ c, c ∈ t → c < 256) _ ?_ ?_ ?_ s _ ?_
  · rintro n t H' ⟨k1, k2, k3, k4, k5, k6⟩
    exact ⟨by omega, k3⟩
  · rintro n t H' ht ⟨k1, ⟨b0, hb0, k2⟩, ⟨b1, hb1, k3⟩, k4, k5, k6⟩
    have hlen : (hdB 10 t).length ≤ t.length := by
      cases hq : tlB 10 t with
      | none => rw [tlB_none 10 t hq]; omega
      | some u => have := tlB_len hq; omega
    refine retm (round_d k4 hb0 k2 n (hdB 10 t) (by omega) fun c hc => k6 c (hdB_mem 10 t c hc)) fun v H2 hq => ?_
    rw [lines_hd ht, drA_cons] at k5
    have hlen2 : ((tlB 10 t).getD []).length + 1 ≤ t.length := by
      cases hq : tlB 10 t with
      | none => have := List.length_pos_iff.2 ht; simp; omega
      | some u => have := tlB_len hq; simp; omega
    rcases hq with ⟨hd, rfl, rfl⟩ | ⟨hd, rfl, rfl⟩
    · rw [hd, Bool.true_and] at k5
      have hlt := nl_lt k4
      have r1 : nth (H'.set 2 (lpD 0)) 1 = some (strR t b1) := by rw [nl_set_ne (by omega)]; exact k3
      refine .inr ⟨rfl, ⟨t, b1, r1⟩, by omega, ⟨b0, hb0, by rw [nl_set_ne (by omega), nl_set_ne (by omega)]; exact k2⟩, ⟨1, Nat.le_refl _, nl_set_eq (nl_lt r1)⟩, by rw [nl_set_ne (by omega), nl_set_eq hlt], k5, fun c hc => ?_⟩
      cases hq : tlB 10 t with
      | none => rw [hq] at hc; cases hc
      | some u => rw [hq] at hc; exact k6 c (tlB_mem hq c hc)
    · rw [hd, Bool.false_and] at k5
      refine .inl ⟨rfl, ?_⟩
      have hlt := nl_lt k4
      have hl0 := nl_lt k2
      have k7 : nth (((H'.set 2 (lpD 1)).set 0 (bolR false 1)).set 2 lpX) 2 = some lpX := nl_set_eq (by simpa using hlt)
      have e3 : endLp 2 (((H'.set 2 (lpD 1)).set 0 (bolR false 1)).set 2 lpX) = some (.ret, (((H'.set 2 (lpD 1)).set 0 (bolR false 1)).set 2 lpX).set 2 (.lp 3 (some none) [(2, .pt 0 1 0 0)] [7, 8] c34_A0 c34_R0)) := by
        unfold endLp
        rw [k7]
        show Option.bind (setEl _ _ _) _ = _
        rw [setEl_put _ _ _ (nl_lt k7)]
        rfl
      have k8 : nth ((((H'.set 2 (lpD 1)).set 0 (bolR false 1)).set 2 lpX).set 2 (.lp 3 (some none) [(2, .pt 0 1 0 0)] [7, 8] c34_A0 c34_R0)) 0 = some (bolR false 1) := by
        rw [nl_set_ne (by omega), nl_set_ne (by omega), nl_set_eq (by simpa using hl0)]
      have k9 : nth (((H'.set 2 (lpD 1)).set 0 (bolR false 1)).set 2 (.lp 3 (some none) [(2, .pt 0 1 0 0)] [7, 8] c34_A0 c34_R0)) 0 = some (bolR false 1) := by
        rw [nl_set_ne (by omega), nl_set_eq (by simpa using hl0)]
      simp [e3, k9, k5]
  · rintro n H' ⟨k1, ⟨b0, hb0, k2⟩, ⟨b1, hb1, k3⟩, k4, k5, k6⟩
    have k5 : drA (linesA [] s) = true := k5
    have e3 : endLp 2 H' = some (.nm, H'.set 2 (lpD 3)) := by
      unfold endLp
      rw [k4]
      show Option.bind (setEl H' _ _) _ = _
      rw [setEl_put _ _ _ (nl_lt k4)]
      rfl
    have k7 : nth (H'.set 2 (lpD 3)) 0 = some (bolR false b0) := by rw [nl_set_ne (by omega)]; exact k2
    have hl0 := nl_lt k7
    have e4 : ∀ x, setEl (H'.set 2 (lpD 3)) 0 (bolR x 1) = some ((H'.set 2 (lpD 3)).set 0 (bolR x 1)) := fun x => setEl_put _ _ _ hl0
    have k8 : ∀ x, nth ((H'.set 2 (lpD 3)).set 0 (bolR x 1)) 0 = some (bolR x 1) := fun x => nl_set_eq hl0
    simp [e3, k7, hb0, e4, k8, k5]
  · exact ⟨by omega, ⟨0, by omega, rfl⟩, ⟨0, by omega, rfl⟩, rfl, rfl, hb⟩

set_option maxHeartbeats 1000000 in
theorem lines_r (s : List Nat) (hl : s.length ≤ 1000000) (H : Hp) : Gives G 22 [.m (.s s)] H (.m (zS (linesA [] s))) H := by
  refine gives_pur rfl rfl rfl rfl rfl ?_
  have hT := linesA_len s []
  simp
  refine (?key : ∀ (i fr : Nat) (ws : List (List Nat)) (o : V) (B : List (Nat × List V)) (H : Hp), i ≤ s.length → fr ≤ i → ws.length ≤ i → OutR ws o H → linesA [] s = ws ++ linesA ((s.drop fr).take (i - fr)) (s.drop i) → Run G c22_B0 (S22_0 (.m (.s s)) o (.m (.i .i64 (fr : Int))) (.m (.i .i64 (i : Int))) B H) _) 0 0 [] (.m (.nl 4)) [] [] (Nat.zero_le _) (Nat.le_refl _) (Nat.le_refl _) (.inl ⟨rfl, rfl, rfl⟩) (by simp)
  refine indM (fun i : Nat => s.length - i) fun i ih fr ws o B H hi hfr hwi ho hq => ?_
  have hnf : noFaV o = true := by
    rcases ho with ⟨_, rfl, _⟩ | ⟨_, rfl, _⟩ <;> rfl
  have wi : wr .i64 ((i : Int) + 1) = (i : Int) + 1 := wr_i64 (by omega) (by omega)
  unfold c22_B0
  cases hx : s[i]? with
  | none =>
    have : i = s.length := by have := List.getElem?_eq_none_iff.1 hx; omega
    subst this
    rw [List.drop_length] at hq
    have htk : (s.drop fr).take (s.length - fr) = s.drop fr := List.take_of_length_le (by rw [List.length_drop]; omega)
    rw [htk] at hq
    have hq2 : linesA [] s = ws ++ linesA.fl0 (s.drop fr) := hq
    by_cases hf : fr < s.length
    · have hf' : (fr : Int) < s.length := by omega
      have hne : s.drop fr ≠ [] := fun e => by have := congrArg List.length e; rw [List.length_drop] at this; simp at this; omega
      obtain ⟨o1, H1, ha, hn1, ho1⟩ := outR_push ho (by omega) (s.drop fr)
      unfold linesA.fl0 at hq2
      rw [if_neg hne] at hq2
      rw [← hq2] at ho1
      have hv := outR_view ho1
      simp (maxSteps := 2000000) (disch := omega) [gd_in, gd_and, wr_i64, hf', htk, ha, setC_v hn1, hv, hn1]
    · have hf' : ¬ (fr : Int) < s.length := by omega
      have hne : s.drop fr = [] := List.drop_of_length_le (by omega)
      unfold linesA.fl0 at hq2
      rw [if_pos hne, List.append_nil] at hq2
      rw [← hq2] at ho
      have hv := outR_view ho
      simp (maxSteps := 2000000) (disch := omega) [gd_in, gd_and, wr_i64, hf', setC_v hnf, hv, hnf]
  | some x =>
    have hlt := (get_drop hx).1
    have hlt' : (i : Int) < s.length := by omega
    have hnx : nth s i = some x := by rw [nth_get]; exact hx
    rw [(get_drop hx).2] at hq
    have e3 : linesA ((s.drop fr).take (i - fr)) (x :: s.drop (i + 1)) = if x = 10 then (s.drop fr).take (i - fr) :: linesA [] (s.drop (i + 1)) else linesA ((s.drop fr).take (i - fr) ++ [x]) (s.drop (i + 1)) := rfl
    rw [e3] at hq
    by_cases h10 : x = 10
    · subst h10
      rw [if_pos rfl] at hq
      obtain ⟨o1, H1, ha, hn1, ho1⟩ := outR_push ho (by omega) ((s.drop fr).take (i - fr))
      simp (maxSteps := 2000000) (disch := omega) [gd_in, gd_and, wr_i64, hlt, hlt', hnx, ha, setC_v hn1, wi]
      exact ih (i + 1) (by omega) (i + 1) _ _ _ _ (by omega) (Nat.le_refl _) (by simp; omega) ho1 (by rw [hq]; simp)
    · have h10' : ¬ (x : Int) = 10 := by omega
      rw [if_neg h10] at hq
      simp (maxSteps := 2000000) (disch := omega) [gd_in, gd_and, wr_i64, hlt, hlt', hnx, h10', wi]
      refine ih (i + 1) (by omega) fr _ _ _ _ (by omega) (by omega) (by omega) ho ?_
      have hg : (s.drop fr)[i - fr]? = some x := by rw [List.getElem?_drop, show fr + (i - fr) = i by omega]; exact hx
      rw [hq, show i + 1 - fr = (i - fr) + 1 by omega, take_succ_get hg]

theorem drl_r (l : List Nat) (hl : l.length ≤ 9000000000) (H : Hp) : Gives G 38 [.m (.s l)] H (.m (.b (drL l))) H := by
  refine gives_pur rfl rfl rfl rfl rfl ?_
  simp
  by_cases h33 : l.take 1 = [33]
  · have hd : drL l = true := by unfold drL; rw [decide_eq_true h33]; rfl
    cases l with
    | nil => cases h33
    | cons a r =>
      have : a = 33 := by simpa using h33
      subst this
      have p1 : (0 : Int) < (r.length : Int) + 1 := by omega
      unfold c38_B0
      simp (maxSteps := 2000000) (disch := omega) [gd_in, gd_and, wr_i64, p1, hd]
  · have hd : drL l = inD l := by unfold drL; rw [decide_eq_false h33]; rfl
    rw [hd]
    refine (?key : ∀ (i : Nat) (B : List (Nat × List V)), i ≤ l.length → inD l = inD (l.drop i) → Run G c38_B0 (S38_0 (.m (.s l)) (.m (.i .i64 (i : Int))) B []) _) 0 [] (Nat.zero_le _) rfl
    refine indM (fun i : Nat => l.length - i) fun i ih B hi hq => ?_
    unfold c38_B0
    cases hx : l[i]? with
    | none =>
      have : i = l.length := by have := List.getElem?_eq_none_iff.1 hx; omega
      subst this
      have hq : inD l = true := by rw [hq, List.drop_length]; rfl
      simp (maxSteps := 2000000) (disch := omega) [gd_in, gd_and, wr_i64, hq]
    | some x =>
      have hlt := (get_drop hx).1
      have hlt' : (i : Int) < l.length := by omega
      have hnx : nth l i = some x := by rw [nth_get]; exact hx
      have wi : wr .i64 ((i : Int) + 1) = (i : Int) + 1 := wr_i64 (by omega) (by omega)
      obtain ⟨a, r, hlr⟩ := List.exists_cons_of_length_pos (l := l) (by omega)
      have hn0 : nth l 0 = some a := by rw [hlr]; rfl
      have ha : ¬ (a : Int) = 33 := fun h => h33 (by rw [hlr]; simp; omega)
      have hl0 : 0 < l.length := by omega
      rw [(get_drop hx).2, inD_cons] at hq
      by_cases c1 : x = 46
      · subst c1
        have hq : inD l = inD (l.drop (i + 1)) := by rw [hq]; simp
        simp (maxSteps := 2000000) (disch := omega) [gd_in, gd_and, wr_i64, hlt, hlt', hnx, hn0, ha, hl0, wi]
        exact ih (i + 1) (by omega) _ (by omega) hq
      have c1' : ¬ (x : Int) = 46 := by omega
      by_cases c2 : x = 79
      · subst c2
        have hq : inD l = inD (l.drop (i + 1)) := by rw [hq]; simp
        simp (maxSteps := 2000000) (disch := omega) [gd_in, gd_and, wr_i64, hlt, hlt', hnx, hn0, ha, hl0, wi]
        exact ih (i + 1) (by omega) _ (by omega) hq
      have c2' : ¬ (x : Int) = 79 := by omega
      by_cases c3 : x < 49
      · have c3' : (x : Int) < 49 := by omega
        have hq : inD l = false := by rw [hq, decide_eq_false (by omega)]; rfl
        simp (maxSteps := 2000000) (disch := omega) [gd_in, gd_and, wr_i64, hlt, hlt', hnx, hn0, ha, hl0, c1', c2', c3', hq]
      have c3' : ¬ (x : Int) < 49 := by omega
      by_cases c4 : 55 < x
      · have c4' : (55 : Int) < x := by omega
        have hq : inD l = false := by rw [hq, decide_eq_false (by omega)]; rfl
        simp (maxSteps := 2000000) (disch := omega) [gd_in, gd_and, wr_i64, hlt, hlt', hnx, hn0, ha, hl0, c1', c2', c3', c4', hq]
      have c4' : ¬ (55 : Int) < x := by omega
      have hq : inD l = inD (l.drop (i + 1)) := by rw [hq, decide_eq_true (by omega), Bool.true_and]
      simp (maxSteps := 2000000) (disch := omega) [gd_in, gd_and, wr_i64, hlt, hlt', hnx, hn0, ha, hl0, c1', c2', c3', c4', wi]
      exact ih (i + 1) (by omega) _ (by omega) hq

def kindN (s : List Nat) : Int := if hdB 10 s = [35, 99, 101, 108, 108, 115] then 3 else if (decide (s ≠ []) && drA (linesA [] s)) = true then 2 else if s.contains 33 = true then 1 else 0
theorem kind_s (s : List Nat) (hl : s.length ≤ 100000) (hb : ∀ c, c ∈ s → c < 256) (H : Hp) : Gives G 16 [.m (.s s)] H (.m (.i .i64 (kindN s))) H := by
  refine gives_pur rfl rfl rfl rfl rfl ?_
  have g1 := fun H => cut_s s (by omega) 10 (by omega) H
  have g2 := fun H => drawn_s s (by omega) hb H
  have g3 := fun H => contains1_s s (by omega) 33 (by omega) H
  unfold kindN
  by_cases h1 : hdB 10 s = [35, 99, 101, 108, 108, 115]
  · simp [cl (g1 _), cutT, h1]
  · generalize (decide (s ≠ []) && drA (linesA [] s)) = d at *
    generalize s.contains 33 = e at *
    cases d <;> cases e <;> simp [cl (g1 _), cutT, h1, cl (g2 _), cl (g3 _)]

set_option maxHeartbeats 1000000 in
theorem kind_r (s : List Nat) (hl : s.length ≤ 100000) (H : Hp) : Gives G 18 [.m (.s s)] H (.m (.i .i64 (kindN s))) H := by
  refine gives_pur rfl rfl rfl rfl rfl ?_
  have g1 := fun H => lines_r s (by omega) H
  have hT := linesA_len s []
  have hmem := fun u hu => linesA_mem s [] u hu
  have hz := zS_sl (linesA [] s)
  have hr := hz.rules
  have hk : kindN s = if hdB 10 s = [35, 99, 101, 108, 108, 115] then 3 else if (decide (s ≠ []) && drA (linesA [] s)) = true then 2 else if s.contains 33 = true then 1 else 0 := rfl
  have hhead : 0 < (linesA [] s).length → nth (celS (linesA [] s)) 0 = some [.s (hdB 10 s)] := fun h => by
    have hs : s ≠ [] := fun e => by subst e; simp [linesA, linesA.fl0] at h
    rw [lines_hd hs]; rfl
  have hnil : ¬ 0 < (linesA [] s).length → hdB 10 s = [] := fun h => by
    by_cases hs : s = []
    · subst hs; rfl
    · rw [lines_hd hs] at h; simp at h
  rw [hk]; clear hk
  have cont : ¬ hdB 10 s = [35, 99, 101, 108, 108, 115] → Run G c18_B0 (S18_0 (.m (.s s)) (.m (zS (linesA [] s))) (.m (.b (decide (s ≠ [])))) (.m (.i .i64 (0 : Int))) [] []) (.seq c18_L0 (.blk 0 (.seq (.seq (.seq (.reg [⟨.v 34, .p .mv, [.v 4], none⟩]) (.ite (.v 34) (.seq (.reg [⟨.v 2, .p .mv, [.k (.m (.i .i64 2))], none⟩]) .ret) .skip)) (.seq (.seq (.reg [⟨.v 6, .p .mv, [.k (.m (.i .i64 0))], none⟩]) (.blk 2 c18_L1)) (.seq (.reg [⟨.v 2, .p .mv, [.k (.m (.i .i64 0))], none⟩]) .ret))) (.pur [.t 2] H fun v' _ => v' = .m (.i .i64 (if hdB 10 s = [35, 99, 101, 108, 108, 115] then 3 else if (decide (s ≠ []) && drA (linesA [] s)) = true then 2 else if s.contains 33 = true then 1 else 0)))))) := fun h1 => by
    rw [if_neg h1]
    generalize hd0 : decide (s ≠ []) = d0
    generalize hls : linesA [] s = ls at *
    generalize hres : (if (d0 && drA ls) = true then (2 : Int) else if s.contains 33 = true then 1 else 0) = res
    refine (?key : ∀ (i : Nat) (d : Bool) (B : List (Nat × List V)), i ≤ ls.length → (d0 && drA ls) = (d && drA (ls.drop i)) → Run G c18_B0 (S18_0 (.m (.s s)) (.m (zS ls)) (.m (.b d)) (.m (.i .i64 (i : Int))) B []) _) 0 d0 [] (Nat.zero_le _) rfl
    refine indM (fun i : Nat => ls.length - i) fun i ih d B hi hq => ?_
    unfold c18_B0
    have wi : wr .i64 ((i : Int) + 1) = (i : Int) + 1 := wr_i64 (by omega) (by omega)
    cases hx : ls[i]? with
    | some x =>
      have hlt := (get_drop hx).1
      have hlt' : (i : Int) < ls.length := by omega
      have hn : nth (celS ls) i = some [.s x] := by rw [nth_get]; simp [celS, hx]
      have hxm := hmem x (List.mem_of_getElem? hx)
      have gd := fun H => drl_r x (by have := hxm.1; simp only [List.length_nil] at this; omega) H
      rw [(get_drop hx).2, drA_cons] at hq
      cases d with
      | true =>
        simp (maxSteps := 2000000) (disch := omega) [gd_in, gd_and, wr_i64, hr, hlt, hlt', hn, cl (gd _), gcall_cx, wi]
        exact ih (i + 1) (by omega) _ _ (by omega) (by rw [hq, Bool.true_and])
      | false =>
        simp (maxSteps := 2000000) (disch := omega) [gd_in, gd_and, wr_i64, hr, hlt, hlt', gcall_cx, wi]
        exact ih (i + 1) (by omega) _ _ (by omega) (by rw [hq, Bool.false_and, Bool.false_and])
    | none =>
      have : i = ls.length := by have := List.getElem?_eq_none_iff.1 hx; omega
      subst this
      have hq : (d0 && drA ls) = d := by rw [hq, List.drop_length]; show (d && true) = d; simp
      rw [hq] at hres
      cases d with
      | true =>
        rw [if_pos rfl] at hres
        simp (maxSteps := 2000000) (disch := omega) [gd_in, gd_and, wr_i64, hr, ← hres]
      | false =>
        rw [if_neg (by simp)] at hres
        simp (maxSteps := 2000000) (disch := omega) [gd_in, gd_and, wr_i64, hr]
        refine (?key2 : ∀ (j : Nat) (B : List (Nat × List V)), j ≤ s.length → s.contains 33 = (s.drop j).contains 33 → Run G c18_B1 (S18_1 (.m (.s s)) (.m (.i .i64 (j : Int))) B []) _) 0 _ (Nat.zero_le _) rfl
        refine indM (fun j : Nat => s.length - j) fun j ihj B hj hc => ?_
        unfold c18_B1
        have wj : wr .i64 ((j : Int) + 1) = (j : Int) + 1 := wr_i64 (by omega) (by omega)
        cases hy : s[j]? with
        | none =>
          have : j = s.length := by have := List.getElem?_eq_none_iff.1 hy; omega
          subst this
          have hc : s.contains 33 = false := by rw [hc, List.drop_length]; rfl
          rw [hc, if_neg (by simp)] at hres
          simp (maxSteps := 2000000) (disch := omega) [gd_in, gd_and, wr_i64, ← hres]
        | some y =>
          have hlty := (get_drop hy).1
          have hlty' : (j : Int) < s.length := by omega
          have hny : nth s j = some y := by rw [nth_get]; exact hy
          rw [(get_drop hy).2, List.contains_cons] at hc
          by_cases h33 : y = 33
          · subst h33
            have hc2 : s.contains 33 = true := by rw [hc]; simp
            rw [hc2, if_pos rfl] at hres
            simp (maxSteps := 2000000) (disch := omega) [gd_in, gd_and, wr_i64, hlty, hlty', hny, ← hres]
          · have h33' : ¬ (y : Int) = 33 := by omega
            have hc2 : s.contains 33 = (s.drop (j + 1)).contains 33 := by rw [hc]; simp; omega
            simp (maxSteps := 2000000) (disch := omega) [gd_in, gd_and, wr_i64, hlty, hlty', hny, h33', wj]
            exact ihj (j + 1) (by omega) _ (by omega) hc2
  by_cases h0 : 0 < (linesA [] s).length
  · have h0' : (0 : Int) < (linesA [] s).length := by omega
    by_cases h1 : hdB 10 s = [35, 99, 101, 108, 108, 115]
    · simp (maxSteps := 2000000) (disch := omega) [gd_in, gd_and, wr_i64, cl (g1 _), hr, h0, h0', hhead h0, h1]
    · simp (maxSteps := 2000000) (disch := omega) [gd_in, gd_and, wr_i64, cl (g1 _), hr, h0, h0', hhead h0, h1]
      simpa [h1] using cont h1
  · have h0' : ¬ (0 : Int) < (linesA [] s).length := by omega
    have h1 : ¬ hdB 10 s = [35, 99, 101, 108, 108, 115] := by rw [hnil h0]; simp
    simp (maxSteps := 2000000) (disch := omega) [gd_in, gd_and, wr_i64, cl (g1 _), hr, h0, h0', h1]
    simpa [h1] using cont h1
theorem aggStrK : aggT Go.Proofs.Tryz.prog 9 = some false := by unfold aggT; rw [Go.Proofs.Tryz.underlying9]; rfl
theorem arg_strK {B n : Nat} {ts : List TypeId} {us : List V} (h : ArgsOk Go.Proofs.Tryz.prog B (n + 1) (9 :: ts) us) : ∃ (s : List Nat) (r : List V), us = .m (.s s) :: r ∧ s.length ≤ B ∧ (∀ c, c ∈ s → c < 256) ∧ ArgsOk Go.Proofs.Tryz.prog B (n + 1) ts r := by
  obtain ⟨l, r, rfl, hl, h'⟩ := argsOk_cons h
  unfold Fits at hl
  rw [Go.Proofs.Tryz.underlying9] at hl
  obtain ⟨s, rfl, h1, h2⟩ := hl
  rw [argV_one aggStrK]
  exact ⟨s, r, rfl, h1, h2, h'⟩
theorem law_kinds (hA : Gives G 9 [] [] (.m (.b true)) []) {s : List Nat} (hs : s.length ≤ 9223372036854775807) (hb : ∀ c, c ∈ s → c < 256) : Gives G 8 [.m (.s s)] [] (.m (.b true)) [] := by
  refine gives_pur rfl rfl rfl rfl rfl ?_
  by_cases h : 5000 < s.length
  · have h' : (5000 : Int) < s.length := by omega
    simp [h', gcall_cx, cl hA]
  · have h' : ¬ (5000 : Int) < s.length := by omega
    have g1 := fun H => kind_s s (by omega) hb H
    have g2 := fun H => kind_r s (by omega) H
    simp [h', gcall_cx, cl (g1 _), cl (g2 _), cl hA]
theorem coords_kinds (us : List V) (h : ArgsOk Go.Proofs.Tryz.prog maxLen 8 Go.Proofs.Tryz.f8.params.toList us) : Gives G 8 us [] (.m (.b true)) [] := by
  have e : Go.Proofs.Tryz.f8.params.toList = [9] := by rw [Go.Proofs.Tryz.params8]
  have h := e ▸ h
  have hm : maxLen ≤ 9223372036854775807 := by decide
  obtain ⟨s, _, rfl, hs, hb, h2⟩ := arg_strK h
  have := argsOk_nil h2
  subst this
  exact law_kinds gives_awake (by omega) hb
end Go.Mx.Tryz
