/- formula.number at the machine. -/
import Derived.Test.YtcdcepfigjohfaaGreatDoorFz
set_option linter.unusedSimpArgs false
set_option linter.unusedVariables false
set_option linter.unusedSectionVars false
set_option maxRecDepth 100000
namespace Go.Mx.Tryz

def okN (s : List Nat) : Bool := (tpr s).all okD && decide (1 ≤ (tpr s).length) && decide ((tpr s).length ≤ 9) && !(decide ((tpr s).take 1 = [48]) && decide (s ≠ [48]))
def numI (s : List Nat) : Int × Bool := if okN s = true then (if s = tpr s then ((dval 0 (tpr s) : Nat) : Int) else -((dval 0 (tpr s) : Nat) : Int), true) else (0, false)
theorem tpr_45 (r : List Nat) : tpr (45 :: r) = r := rfl
theorem tpr_ne {a : Nat} (h : a ≠ 45) (r : List Nat) : tpr (a :: r) = a :: r := by
  unfold tpr
  split
  · rename_i e; cases e; exact absurd rfl h
  · rfl
theorem posR_ok (d : List Nat) : (posR d).2 = (d.all okD && decide (1 ≤ d.length) && decide (d.length ≤ 9) && !(decide (d.take 1 = [48]) && decide (1 < d.length))) := by
  unfold posR
  cases d with
  | nil => simp
  | cons a r =>
    by_cases h9 : 9 < (a :: r).length
    · rw [if_pos (.inr (.inl h9))]
      have : decide ((a :: r).length ≤ 9) = false := decide_eq_false (by omega)
      rw [this, Bool.and_false, Bool.false_and]
    · by_cases h1 : 1 < (a :: r).length ∧ (a :: r).take 1 = [48]
      · rw [if_pos (.inr (.inr h1)), decide_eq_true h1.1, decide_eq_true h1.2]
        simp
      · rw [if_neg (by rintro (h | h | h); · cases h
                       · exact h9 h
                       · exact h1 h)]
        have e1 : decide (1 ≤ (a :: r).length) = true := decide_eq_true (by simp)
        have e2 : decide ((a :: r).length ≤ 9) = true := decide_eq_true (by omega)
        have e3 : (decide ((a :: r).take 1 = [48]) && decide (1 < (a :: r).length)) = false := by
          rw [Bool.eq_false_iff]
          simp only [ne_eq, Bool.and_eq_true, decide_eq_true_eq]
          exact fun h => h1 ⟨h.2, h.1⟩
        rw [e1, e2, e3]
        split <;> simp_all
theorem posR_v {d : List Nat} (h : (posR d).2 = true) : posR d = (((dval 0 d : Nat) : Int), true) := by
  unfold posR at h ⊢
  split
  · rename_i h1; rw [if_pos h1] at h; cases h
  · rename_i h1
    rw [if_neg h1] at h
    split
    · rfl
    · rename_i h2; rw [if_neg h2] at h; cases h
theorem dval_ge : ∀ (a : Nat) (l : List Nat), a ≤ dval a l
  | a, [] => Nat.le_refl _
  | a, c :: r => by
    show a ≤ dval (10 * a + (c - 48)) r
    have := dval_ge (10 * a + (c - 48)) r
    omega
theorem numI_eq (s : List Nat) : numI s = if (numR s).2 = true then ((numR s).1, true) else (0, false) := by
  have base : ∀ d : List Nat, d.take 1 ≠ [45] → tpr d = d → numI d = if (posR d).2 = true then ((posR d).1, true) else (0, false) := fun d h45 ht => by
    have e : okN d = (posR d).2 := by
      rw [posR_ok]
      unfold okN
      rw [ht]
      congr 2
      by_cases h : d.take 1 = [48]
      · rw [decide_eq_true h, Bool.true_and, Bool.true_and]
        congr 1
        cases d with
        | nil => cases h
        | cons a r =>
          have : a = 48 := by simpa using h
          subst this
          cases r <;> simp
      · rw [decide_eq_false h]; rfl
    unfold numI
    rw [e, ht]
    by_cases hp : (posR d).2 = true
    · rw [if_pos hp, if_pos hp, if_pos rfl, posR_v hp]
    · rw [if_neg hp, if_neg hp]
  cases s with
  | nil => exact base [] (by simp) rfl
  | cons a r =>
    by_cases ha : a = 45
    · subst ha
      by_cases hr : r = []
      · subst hr; rfl
      · have e : numR (45 :: r) = (-(numR r).1, (numR r).2 && decide (0 < (numR r).1)) := if_pos ⟨rfl, hr⟩
        rw [e]
        have hok : okN (45 :: r) = ((numR r).2 && decide (0 < (numR r).1)) := by
          have e0 : okN (45 :: r) = (r.all okD && decide (1 ≤ r.length) && decide (r.length ≤ 9) && !(decide (r.take 1 = [48]))) := by
            unfold okN
            rw [tpr_45]
            have : decide ((45 :: r : List Nat) ≠ [48]) = true := decide_eq_true (by simp)
            rw [this, Bool.and_true]
          rw [e0]
          obtain ⟨b, t, rfl⟩ := List.exists_cons_of_ne_nil hr
          by_cases hb : b = 45
          · subst hb
            have e1 : ((45 :: t).all okD) = false := by simp [okD]
            rw [e1]
            have : (numR (45 :: t)).2 = true → (numR (45 :: t)).1 ≤ 0 := fun h => by
              unfold numR at h ⊢
              split
              · rename_i h2
                rw [if_pos h2] at h
                simp only [Bool.and_eq_true, decide_eq_true_eq] at h
                show -(numR t).1 ≤ 0
                omega
              · rename_i h2
                rw [if_neg h2, posR_ok] at h
                simp [okD] at h
            cases hn : (numR (45 :: t)).2 with
            | false => simp
            | true => have := this hn; simp; omega
          · have e1 : numR (b :: t) = posR (b :: t) := if_neg (by simp [hb])
            rw [e1, posR_ok]
            by_cases h48 : b = 48
            · subst h48
              have e2 : decide ((48 :: t).take 1 = [48]) = true := decide_eq_true rfl
              rw [e2]
              by_cases ht : t = []
              · subst ht; rfl
              · have e3 : decide (1 < (48 :: t).length) = true := decide_eq_true (by have := List.length_pos_iff.2 ht; simp; omega)
                rw [e3]
                simp
            · have e2 : decide ((b :: t).take 1 = [48]) = false := decide_eq_false (by simpa using h48)
              rw [e2, Bool.false_and, Bool.not_false, Bool.and_true]
              by_cases hok : ((b :: t).all okD && decide (1 ≤ (b :: t).length) && decide ((b :: t).length ≤ 9)) = true
              · have hv : (posR (b :: t)).2 = true := by rw [posR_ok, hok, e2]; rfl
                have hd : 48 ≤ b ∧ b ≤ 57 := by
                  simp only [Bool.and_eq_true, List.all_cons] at hok
                  have := hok.1.1.1
                  unfold okD at this
                  exact of_decide_eq_true this
                have hpos : 0 < dval 0 (b :: t) := by
                  show 0 < dval (10 * 0 + (b - 48)) t
                  have := dval_ge (10 * 0 + (b - 48)) t
                  omega
                rw [hok, posR_v hv]
                simp
                omega
              · rw [Bool.not_eq_true] at hok
                rw [hok]; rfl
        unfold numI
        rw [hok, tpr_45, if_neg (show ¬ (45 :: r = r) from fun h => by have := congrArg List.length h; simp at this)]
        cases hb : ((numR r).2 && decide (0 < (numR r).1)) with
        | false => rfl
        | true =>
          have h0 : okN (45 :: r) = true := by rw [hok, hb]
          simp only [Bool.and_eq_true] at hb
          have hrr : r.take 1 ≠ [45] := fun h => by
            obtain ⟨b, t, rfl⟩ := List.exists_cons_of_ne_nil hr
            have : b = 45 := by simpa using h
            subst this
            unfold okN at h0
            simp [okD, tpr_45] at h0
          have e1 : numR r = posR r := by
            obtain ⟨b, t, rfl⟩ := List.exists_cons_of_ne_nil hr
            exact if_neg fun h => hrr (by simp [h.1])
          rw [e1] at hb ⊢
          rw [posR_v hb.1]
    · have e : numR (a :: r) = posR (a :: r) := if_neg (by simp [ha])
      rw [e]
      exact base (a :: r) (by simpa using ha) (tpr_ne ha r)

theorem numI_le (s : List Nat) : -1000000000 < (numI s).1 ∧ (numI s).1 < 1000000000 := by
  rw [numI_eq]
  have := numR_le s
  split
  · exact this
  · exact ⟨by show (-1000000000 : Int) < 0; omega, by show (0 : Int) < 1000000000; omega⟩

theorem number_s (s : List Nat) (hl : s.length ≤ 1000000) (hb : ∀ c, c ∈ s → c < 256) (H : Hp) : Gives G 55 [.m (.s s)] H (numV (numI s)) H := by
  refine gives_pur rfl rfl rfl rfl rfl ?_
  have gt := fun H => trim_s s hl H
  have hdl : (tpr s).length ≤ s.length := by
    cases s with
    | nil => exact Nat.le_refl _
    | cons a r =>
      by_cases ha : a = 45
      · subst ha; rw [tpr_45]; simp
      · rw [tpr_ne ha]; exact Nat.le_refl _
  have hs2 : pureX .s2b [.m (.s (tpr s))] = some (.m (.sl (byI (tpr s)))) := by
    show gd (Nat.ble (tpr s).length _) (some (V.m (.sl (byI (tpr s))))) = _
    rw [ble_dec, decide_eq_true (by omega)]
    rfl
  have hr := (isSl_sl (byI (tpr s))).rules
  simp [cl (gt _), hs2, hr]
  refine (?key : ∀ (i : Nat) (B : List (Nat × List V)), i ≤ (tpr s).length → (tpr s).all okD = ((tpr s).drop i).all okD → Run G c55_B0 (S55_0 (.m (.s s)) (.m (.s (tpr s))) (.m (.sl (byI (tpr s)))) (.m (.i .i64 (tpr s).length)) (.m (.i .i64 i)) B []) _) 0 [] (Nat.zero_le _) rfl
  refine indM (fun i : Nat => (tpr s).length - i) fun i ih B hi hq => ?_
  unfold c55_B0
  have wi : wr .i64 ((i : Int) + 1) = (i : Int) + 1 := wr_i64 (by omega) (by omega)
  cases hx : (tpr s)[i]? with
  | none =>
    have : i = (tpr s).length := by have := List.getElem?_eq_none_iff.1 hx; omega
    subst this
    have hq : (tpr s).all okD = true := by rw [hq, List.drop_length]; rfl
    by_cases h0 : (tpr s).length < 1
    · have e : numI s = (0, false) := if_neg (by unfold okN; simp only [Bool.and_eq_true, decide_eq_true_eq]; omega)
      have h0' : ((tpr s).length : Int) < 1 := by omega
      rw [e]
      simp [hr, h0', numV]
    · have h0' : ¬ ((tpr s).length : Int) < 1 := by omega
      by_cases h9 : 9 < (tpr s).length
      · have e : numI s = (0, false) := if_neg (by unfold okN; simp only [Bool.and_eq_true, decide_eq_true_eq]; omega)
        have h9' : (9 : Int) < (tpr s).length := by omega
        rw [e]
        simp [hr, h0', h9', numV]
      · have h9' : ¬ (9 : Int) < (tpr s).length := by omega
        obtain ⟨a, r, hd⟩ := List.exists_cons_of_length_pos (l := tpr s) (by omega)
        have h1' : 0 < (tpr s).length := by omega
        have hn0 : nth (tpr s) 0 = some a := by rw [hd]; rfl
        have htk : (tpr s).take 1 = [a] := by rw [hd]; rfl
        by_cases hz : a = 48 ∧ s ≠ [48]
        · have e : numI s = (0, false) := if_neg (by unfold okN; rw [htk]; simp [hz.1, hz.2])
          rw [e]
          have ha := hz.1
          subst ha
          simp [hr, h0', h9', hn0, h1', hz.2, numV]
        · have e : numI s = (if s = tpr s then ((dval 0 (tpr s) : Nat) : Int) else -((dval 0 (tpr s) : Nat) : Int), true) := if_pos (by
            unfold okN
            rw [htk, hq, decide_eq_true (by omega), decide_eq_true (by omega)]
            by_cases ha : a = 48
            · have : s = [48] := Decidable.byContradiction fun h => hz ⟨ha, h⟩
              simp [this]
            · simp [ha])
          rw [e]
          have hat : ∀ H, Gives G 73 [.m (.s s)] H (.tu [.m (.i .i64 (if s = tpr s then ((dval 0 (tpr s) : Nat) : Int) else -((dval 0 (tpr s) : Nat) : Int))), .m (.nl 3)]) H := fun H => by
            by_cases hst : s = tpr s
            · rw [if_pos hst]
              have := atoi_s_pos (tpr s) (by omega) (by omega) hq H
              rw [← hst] at this ⊢
              exact this
            · rw [if_neg hst]
              have h45 : s = 45 :: tpr s := by
                cases s with
                | nil => exact absurd rfl hst
                | cons b t =>
                  by_cases hb : b = 45
                  · subst hb; rfl
                  · exact absurd (tpr_ne hb t).symm hst
              have := atoi_s_neg (tpr s) (by omega) (by omega) hq H
              rw [← h45] at this
              exact this
          by_cases ha : a = 48
          · have hs48 : s = [48] := Decidable.byContradiction fun h => hz ⟨ha, h⟩
            subst ha
            simp [hr, h0', h9', hn0, h1', hs48]
            rw [hs48] at hat
            simp [cl (hat _), isNil_33, numV, hs48, tpr_ne]
          · have ha' : ¬ (a : Int) = 48 := by omega
            simp [hr, h0', h9', hn0, h1', ha', cl (hat _), isNil_33, numV]
  | some c =>
    have hlt := (get_drop hx).1
    have hnx := byI_nth hx
    rw [(get_drop hx).2, List.all_cons] at hq
    by_cases h1 : c < 48
    · have e1 : okD c = false := by unfold okD; exact decide_eq_false (by omega)
      rw [e1] at hq
      have h1' : (c : Int) < 48 := by omega
      have e : numI s = (0, false) := if_neg (by unfold okN; rw [hq]; simp)
      rw [e]
      simp [hr, hlt, hnx, h1', numV]
    · have h1' : ¬ (c : Int) < 48 := by omega
      by_cases h2 : 57 < c
      · have e1 : okD c = false := by unfold okD; exact decide_eq_false (by omega)
        rw [e1] at hq
        have h2' : (57 : Int) < c := by omega
        have e : numI s = (0, false) := if_neg (by unfold okN; rw [hq]; simp)
        rw [e]
        simp [hr, hlt, hnx, h1', h2', numV]
      · have e1 : okD c = true := by unfold okD; exact decide_eq_true (by omega)
        rw [e1, Bool.true_and] at hq
        have h2' : ¬ (57 : Int) < c := by omega
        simp [hr, hlt, hnx, h1', h2', wi]
        exact ih (i + 1) (by omega) _ (by omega) hq
end Go.Mx.Tryz
