/- CoordsKinds: coords.Kind and its reference at the machine; the law. -/
import Derived.Test.YtfllcbohggcmfaaGreatDoorKb
import Derived.Test.YtfllcbohggcmfaaGreatDoorLaw
import Derived.Test.YtfllcbohggcmfaaGreatDoorAwake
set_option linter.unusedSimpArgs false
set_option linter.unusedVariables false
set_option linter.unusedSectionVars false
set_option maxRecDepth 100000
namespace Go.Mx.Tryz
open Go.Proofs

theorem cutD_ok : CutOk [46, 79, 49, 50, 51, 52, 53, 54, 55] := ⟨⟨40, by kernel_rfl⟩, fun B => by kernel_rfl, by simp, by simp⟩
def inD (l : List Nat) : Bool := inS [46, 79, 49, 50, 51, 52, 53, 54, 55] l
theorem inD_nil : inD [] = true := rfl
theorem inD_cons (c : Nat) (r : List Nat) : inD (c :: r) = (decide (c = 46 ∨ c = 79 ∨ (49 ≤ c ∧ c ≤ 55)) && inD r) := by
  have : [46, 79, 49, 50, 51, 52, 53, 54, 55].contains c = decide (c = 46 ∨ c = 79 ∨ (49 ≤ c ∧ c ≤ 55)) := by
    rw [Bool.eq_iff_iff]
    simp
    omega
  show ([46, 79, 49, 50, 51, 52, 53, 54, 55].contains c && inD r) = _
  rw [this]
/-- A line of a drawing; all lines are. -/
def drL (l : List Nat) : Bool := decide (l.take 1 = [33]) || inD l
def drA (ls : List (List Nat)) : Bool := ls.all drL
theorem drA_cons (l : List Nat) (r : List (List Nat)) : drA (l :: r) = (drL l && drA r) := rfl
@[reducible] def bolR (x : Bool) (b : Nat) : Row := .cs 4 1 [[.m (.b x)]] b false
@[reducible] def lpD (st : Nat) : Row := .lp st none [(2, .pt 0 1 0 0)] [7, 8] c34_A0 c34_R0
@[reducible] def lpX : Row := .lp 2 (some none) [(2, .pt 0 1 0 0)] [7, 8] c34_A0 c34_R0

theorem round_d {H : Hp} (hrow : nth H 2 = some (lpD 0)) {b0 : Nat} (hb0 : b0 ≤ 1) (h0 : nth H 0 = some (bolR false b0)) (n : Int) (l : List Nat) (hl : l.length ≤ 9223372036854775807) (hb : ∀ c, c ∈ l → c < 256) :
    Ret G yN [.yl 2, .m (.i .i64 n), .m (.s l)] H fun v H' => (drL l = true ∧ v = .m (.b true) ∧ H' = H.set 2 (lpD 0)) ∨ (drL l = false ∧ v = .m (.b false) ∧ H' = ((H.set 2 (lpD 1)).set 0 (bolR false 1)).set 2 lpX) := by
  refine ret_round mono rfl rfl hrow rfl rfl ?_
  have hlt := nl_lt hrow
  have e1 : begLp 2 H = some (H.set 2 (lpD 1)) := by
    unfold begLp
    rw [hrow]
    exact setEl_put _ _ _ hlt
  have e2 : setLp 2 1 0 none (H.set 2 (lpD 1)) = some (H.set 2 (lpD 0)) := by
    unfold setLp
    rw [nl_set_eq hlt]
    show setEl (H.set 2 (lpD 1)) 2 (lpD 0) = _
    rw [setEl_put _ _ _ (by simpa using hlt), List.set_set]
  unfold c34_A0 c34_R0
  have gp := fun H => hpre_s l hl 33 H
  obtain ⟨q, gt, hq⟩ := trim_c cutD_ok l hl hb (H.set 2 (lpD 1))
  by_cases h33 : l.take 1 = [33]
  · rw [decide_eq_true h33] at gp
    have hd : drL l = true := by unfold drL; rw [decide_eq_true h33]; rfl
    simp [e1, cl (gp _), gcall_cx, endR, e2, hd]
  · rw [decide_eq_false h33] at gp
    have hd : drL l = inD l := by unfold drL; rw [decide_eq_false h33]; rfl
    by_cases h2 : q = []
    · have hd2 : drL l = true := by rw [hd]; exact hq.1 h2
      subst h2
      simp [e1, cl (gp _), gcall_cx, cl gt, endR, e2, hd2]
    · have hd2 : drL l = false := by
        rw [hd]
        cases h : inD l with
        | false => rfl
        | true => exact absurd (hq.2 h) h2
      have k0 : nth (H.set 2 (lpD 1)) 0 = some (bolR false b0) := by rw [nl_set_ne (by omega)]; exact h0
      have e3 : setEl (H.set 2 (lpD 1)) 0 (bolR false 1) = some ((H.set 2 (lpD 1)).set 0 (bolR false 1)) := setEl_put _ _ _ (nl_lt k0)
      have k2 : nth ((H.set 2 (lpD 1)).set 0 (bolR false 1)) 2 = some (lpD 1) := by rw [nl_set_ne (by omega), nl_set_eq hlt]
      have e4 : setLp 2 1 2 (some none) ((H.set 2 (lpD 1)).set 0 (bolR false 1)) = some (((H.set 2 (lpD 1)).set 0 (bolR false 1)).set 2 lpX) := by
        unfold setLp
        rw [k2]
        exact setEl_put _ _ _ (nl_lt k2)
      simp [e1, cl (gp _), gcall_cx, cl gt, h2, k0, e3, endR, e4, hd2]

theorem drawn_s (s : List Nat) (hl : s.length ≤ 100000000) (hb : ∀ c, c ∈ s → c < 256) (H : Hp) : Gives G 34 [.m (.s s)] H (.m (.b (decide (s ≠ []) && drA (linesA [] s)))) H := by
  refine gives_pur rfl rfl rfl rfl rfl ?_
  have gs := fun H => lines_s s H
  simp [cl (gs _)]
  refine lines_w 2 1 (fun n t H' => n + t.length ≤ s.length + 1 ∧ (∃ b, b ≤ 1 ∧ nth H' 0 = some (bolR false b)) ∧ (∃ b, b ≤ 1 ∧ nth H' 1 = some (strR t b)) ∧ nth H' 2 = some (lpD 0) ∧ drA (linesA [] s) = drA (linesA [] t) ∧ ∀ c, c ∈ t → c < 256) _ ?_ ?_ ?_ s _ ?_
  · rintro n t H' ⟨k1, k2, k3, k4, k5, k6⟩
    exact ⟨by omega, k3⟩
  · rintro n t H' ht ⟨k1, ⟨b0, hb0, k2⟩, ⟨b1, hb1, k3⟩, k4, k5, k6⟩
    have hlen : (hdB 10 t).length ≤ t.length := by
      cases hq : tlB 10 t with
      | none => rw [tlB_none 10 t hq]; omega
      | some u => have := tlB_len hq; omega
    refine retm (round_d k4 hb0 k2 n (hdB 10 t) (by omega) fun c hc => k6 c (hdB_mem 10 t c hc)) fun v H2 hq => ?_
    rw [lines_hd ht, drA_cons] at k5
    have hlen2 : ((tlB 10 t).getD []).length + 1 ≤ t.length := by
      cases hq : tlB 10 t with
      | none => have := List.length_pos_iff.2 ht; simp; omega
      | some u => have := tlB_len hq; simp; omega
    rcases hq with ⟨hd, rfl, rfl⟩ | ⟨hd, rfl, rfl⟩
    · rw [hd, Bool.true_and] at k5
      have hlt := nl_lt k4
      have r1 : nth (H'.set 2 (lpD 0)) 1 = some (strR t b1) := by rw [nl_set_ne (by omega)]; exact k3
      refine .inr ⟨rfl, ⟨t, b1, r1⟩, by omega, ⟨b0, hb0, by rw [nl_set_ne (by omega), nl_set_ne (by omega)]; exact k2⟩, ⟨1, Nat.le_refl _, nl_set_eq (nl_lt r1)⟩, by rw [nl_set_ne (by omega), nl_set_eq hlt], k5, fun c hc => ?_⟩
      cases hq : tlB 10 t with
      | none => rw [hq] at hc; cases hc
      | some u => rw [hq] at hc; exact k6 c (tlB_mem hq c hc)
    · rw [hd, Bool.false_and] at k5
      refine .inl ⟨rfl, ?_⟩
      have hlt := nl_lt k4
      have hl0 := nl_lt k2
      have k7 : nth (((H'.set 2 (lpD 1)).set 0 (bolR false 1)).set 2 lpX) 2 = some lpX := nl_set_eq (by simpa using hlt)
      have e3 : endLp 2 (((H'.set 2 (lpD 1)).set 0 (bolR false 1)).set 2 lpX) = some (.ret, (((H'.set 2 (lpD 1)).set 0 (bolR false 1)).set 2 lpX).set 2 (.lp 3 (some none) [(2, .pt 0 1 0 0)] [7, 8] c34_A0 c34_R0)) := by
        unfold endLp
        rw [k7]
        show Option.bind (setEl _ _ _) _ = _
        rw [setEl_put _ _ _ (nl_lt k7)]
        rfl
      have k8 : nth ((((H'.set 2 (lpD 1)).set 0 (bolR false 1)).set 2 lpX).set 2 (.lp 3 (some none) [(2, .pt 0 1 0 0)] [7, 8] c34_A0 c34_R0)) 0 = some (bolR false 1) := by
        rw [nl_set_ne (by omega), nl_set_ne (by omega), nl_set_eq (by simpa using hl0)]
      have k9 : nth (((H'.set 2 (lpD 1)).set 0 (bolR false 1)).set 2 (.lp 3 (some none) [(2, .pt 0 1 0 0)] [7, 8] c34_A0 c34_R0)) 0 = some (bolR false 1) := by
        rw [nl_set_ne (by omega), nl_set_eq (by simpa using hl0)]
      simp [e3, k9, k5]
  · rintro n H' ⟨k1, ⟨b0, hb0, k2⟩, ⟨b1, hb1, k3⟩, k4, k5, k6⟩
    have k5 : drA (linesA [] s) = true := k5
    have e3 : endLp 2 H' = some (.nm, H'.set 2 (lpD 3)) := by
      unfold endLp
      rw [k4]
      show Option.bind (setEl H' _ _) _ = _
      rw [setEl_put _ _ _ (nl_lt k4)]
      rfl
    have k7 : nth (H'.set 2 (lpD 3)) 0 = some (bolR false b0) := by rw [nl_set_ne (by omega)]; exact k2
    have hl0 := nl_lt k7
    have e4 : ∀ x, setEl (H'.set 2 (lpD 3)) 0 (bolR x 1) = some ((H'.set 2 (lpD 3)).set 0 (bolR x 1)) := fun x => setEl_put _ _ _ hl0
    have k8 : ∀ x, nth ((H'.set 2 (lpD 3)).set 0 (bolR x 1)) 0 = some (bolR x 1) := fun x => nl_set_eq hl0
    simp [e3, k7, hb0, e4, k8, k5]
  · exact ⟨by omega, ⟨0, by omega, rfl⟩, ⟨0, by omega, rfl⟩, rfl, rfl, hb⟩

def kindN (s : List Nat) : Int := if hdB 10 s = [35, 99, 101, 108, 108, 115] then 3 else if (decide (s ≠ []) && drA (linesA [] s)) = true then 2 else if s.contains 33 = true then 1 else 0
theorem kind_s (s : List Nat) (hl : s.length ≤ 100000) (hb : ∀ c, c ∈ s → c < 256) (H : Hp) : Gives G 16 [.m (.s s)] H (.m (.i .i64 (kindN s))) H := by
  refine gives_pur rfl rfl rfl rfl rfl ?_
  have g1 := fun H => cut_s s (by omega) 10 (by omega) H
  have g2 := fun H => drawn_s s (by omega) hb H
  have g3 := fun H => contains1_s s (by omega) 33 (by omega) H
  unfold kindN
  by_cases h1 : hdB 10 s = [35, 99, 101, 108, 108, 115]
  · simp [cl (g1 _), cutT, h1]
  · generalize (decide (s ≠ []) && drA (linesA [] s)) = d at *
    generalize s.contains 33 = e at *
    cases d <;> cases e <;> simp [cl (g1 _), cutT, h1, cl (g2 _), cl (g3 _)]

end Go.Mx.Tryz
