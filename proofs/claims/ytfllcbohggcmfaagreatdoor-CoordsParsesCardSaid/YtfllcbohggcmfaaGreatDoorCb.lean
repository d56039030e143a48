/- Words, Number and cell of the reference at every line. -/
import Derived.Test.YtfllcbohggcmfaaGreatDoorCa
import Derived.Test.YtfllcbohggcmfaaGreatDoorStr
set_option linter.unusedSimpArgs false
set_option linter.unusedVariables false
set_option linter.unusedSectionVars false
set_option maxRecDepth 100000
namespace Go.Mx.Tryz
open Go.Lib

def splA : List Nat → List Nat → List (List Nat)
  | a, [] => [a]
  | a, x :: t => if x = 32 then a :: splA [] t else splA (a ++ [x]) t
theorem splA_eq : ∀ (s a : List Nat), ∃ h r, spl 32 s = h :: r ∧ splA a s = (a ++ h) :: r
  | [], a => ⟨[], [], rfl, by simp [splA]⟩
  | x :: t, a => by
    obtain ⟨h, r, h1, h2⟩ := splA_eq t (a ++ [x])
    obtain ⟨h', r', h1', h2'⟩ := splA_eq t []
    have e : splA a (x :: t) = if x = 32 then a :: splA [] t else splA (a ++ [x]) t := rfl
    rw [e]
    by_cases hx : x = 32
    · subst hx
      have e2 : tlB 32 (32 :: t) = if (32 : Nat) = 32 then some t else tlB 32 t := rfl
      have e3 : hdB 32 (32 :: t) = if (32 : Nat) = 32 then [] else 32 :: hdB 32 t := rfl
      rw [if_pos rfl] at e2 e3
      refine ⟨[], spl 32 t, ?_, ?_⟩
      · rw [spl_some 32 _ _ e2, e3]
      · rw [if_pos rfl, h2', h1']
        simp
    · rw [if_neg hx]
      refine ⟨x :: h, r, ?_, by rw [h2]; simp⟩
      have e2 : tlB 32 (x :: t) = if x = 32 then some t else tlB 32 t := rfl
      have e3 : hdB 32 (x :: t) = if x = 32 then [] else x :: hdB 32 t := rfl
      rw [if_neg hx] at e2 e3
      cases ht : tlB 32 t with
      | none =>
        rw [spl_none 32 t ht] at h1
        rw [spl_none 32 (x :: t) (by rw [e2, ht])]
        cases h1
        rfl
      | some u =>
        rw [spl_some 32 t u ht] at h1
        rw [spl_some 32 (x :: t) u (by rw [e2, ht]), e3]
        cases h1
        rfl
theorem splA_spl (s : List Nat) : splA [] s = spl 32 s := by
  obtain ⟨h, r, h1, h2⟩ := splA_eq s []
  rw [h1, h2, List.nil_append]
set_option maxHeartbeats 1000000 in
theorem words_r (s : List Nat) (hl : s.length ≤ 1000000) (H : Hp) : Gives G 46 [.m (.s s)] H (.m (.sl (celS (spl 32 s)))) H := by
  refine gives_pur rfl rfl rfl rfl rfl ?_
  have hz : zS (spl 32 s) = .sl (celS (spl 32 s)) := by
    obtain ⟨h, t, e⟩ := spl_ne 32 s
    unfold zS
    rw [if_neg (by rw [e]; simp)]
  simp
  refine (?key : ∀ (i fr : Nat) (ws : List (List Nat)) (o : V) (B : List (Nat × List V)) (H : Hp), i ≤ s.length → fr ≤ i → ws.length ≤ i → OutR ws o H → spl 32 s = ws ++ splA ((s.drop fr).take (i - fr)) (s.drop i) → Run G c46_B0 (S46_0 (.m (.s s)) o (.m (.i .i64 (fr : Int))) (.m (.i .i64 (i : Int))) B H) _) 0 0 [] (.m (.nl 4)) [] [] (Nat.zero_le _) (Nat.le_refl _) (Nat.le_refl _) (.inl ⟨rfl, rfl, rfl⟩) (by simp [splA_spl])
  refine indM (fun i : Nat => s.length - i) fun i ih fr ws o B H hi hfr hwi ho hq => ?_
  have hnf : noFaV o = true := by
    rcases ho with ⟨_, rfl, _⟩ | ⟨_, rfl, _⟩ <;> rfl
  have wi : wr .i64 ((i : Int) + 1) = (i : Int) + 1 := wr_i64 (by omega) (by omega)
  unfold c46_B0
  cases hx : s[i]? with
  | none =>
    have : i = s.length := by have := List.getElem?_eq_none_iff.1 hx; omega
    subst this
    rw [List.drop_length] at hq
    have htk : (s.drop fr).take (s.length - fr) = s.drop fr := List.take_of_length_le (by rw [List.length_drop]; omega)
    rw [htk] at hq
    have hq2 : spl 32 s = ws ++ [s.drop fr] := hq
    obtain ⟨o1, H1, ha, hn1, ho1⟩ := outR_push ho (by omega) (s.drop fr)
    rw [← hq2] at ho1
    have hv := outR_view ho1
    rw [hz] at hv
    have p1 : (fr : Int) ≤ s.length := by omega
    simp (maxSteps := 2000000) (disch := omega) [gd_in, gd_and, wr_i64, htk, p1, ha, setC_v hn1, hv, hn1]
  | some x =>
    have hlt := (get_drop hx).1
    have hlt' : (i : Int) < s.length := by omega
    have hnx : nth s i = some x := by rw [nth_get]; exact hx
    rw [(get_drop hx).2] at hq
    have e3 : splA ((s.drop fr).take (i - fr)) (x :: s.drop (i + 1)) = if x = 32 then (s.drop fr).take (i - fr) :: splA [] (s.drop (i + 1)) else splA ((s.drop fr).take (i - fr) ++ [x]) (s.drop (i + 1)) := rfl
    rw [e3] at hq
    by_cases h10 : x = 32
    · subst h10
      rw [if_pos rfl] at hq
      obtain ⟨o1, H1, ha, hn1, ho1⟩ := outR_push ho (by omega) ((s.drop fr).take (i - fr))
      simp (maxSteps := 2000000) (disch := omega) [gd_in, gd_and, wr_i64, hlt, hlt', hnx, ha, setC_v hn1, wi]
      exact ih (i + 1) (by omega) (i + 1) _ _ _ _ (by omega) (Nat.le_refl _) (by simp; omega) ho1 (by rw [hq]; simp)
    · have h10' : ¬ (x : Int) = 32 := by omega
      rw [if_neg h10] at hq
      simp (maxSteps := 2000000) (disch := omega) [gd_in, gd_and, wr_i64, hlt, hlt', hnx, h10', wi]
      refine ih (i + 1) (by omega) fr _ _ _ _ (by omega) (by omega) (by omega) ho ?_
      have hg : (s.drop fr)[i - fr]? = some x := by rw [List.getElem?_drop, show fr + (i - fr) = i by omega]; exact hx
      rw [hq, show i + 1 - fr = (i - fr) + 1 by omega, take_succ_get hg]

/-- The value of a numeral, kept within a milliard. -/
def numC (s : List Nat) : Int := if s.take 1 = [45] then -((min (dval 0 (tpr s)) 1000000000 : Nat) : Int) else (min (dval 0 (tpr s)) 1000000000 : Nat)
def numR (s : List Nat) : Int × Bool := if numOk s = true then (numC s, true) else (0, false)
theorem inS_cons' (c : Nat) (r : List Nat) : inS digS (c :: r) = (okD c && inS digS r) := by
  rw [inS_cons]
  congr 1
  unfold digS okD
  rw [Bool.eq_iff_iff]
  simp
  omega
theorem inS_get {d : List Nat} (h : inS digS d = true) {i c : Nat} (hc : d[i]? = some c) : 48 ≤ c ∧ c ≤ 57 := okD_iff.1 (List.all_eq_true.1 (inS_dig h) c (List.mem_of_getElem? hc))
theorem inS_no : ∀ {d : List Nat}, inS digS d = false → ∃ (i c : Nat), d[i]? = some c ∧ okD c = false ∧ ∀ (j x : Nat), j < i → d[j]? = some x → okD x = true
  | [], h => by cases h
  | c :: r, h => by
    rw [inS_cons'] at h
    cases hc : okD c with
    | false => exact ⟨0, c, rfl, hc, fun j x hj => by omega⟩
    | true =>
      rw [hc, Bool.true_and] at h
      obtain ⟨i, x, h1, h2, h3⟩ := inS_no h
      refine ⟨i + 1, x, by simpa using h1, h2, fun j y hj hy => ?_⟩
      cases j with
      | zero => simp at hy; subst hy; exact hc
      | succ j => exact h3 j y (by omega) (by simpa using hy)
set_option maxHeartbeats 1000000 in
theorem num_loop (d : List Nat) (hl : d.length ≤ 1000000) (hb : ∀ c, c ∈ d → c < 256) (ng : Bool) (K : K)
    (hfail : inS digS d = false → ∀ (E : Env) (B : List (Nat × List V)) (H : Hp), getE E 2 = some (.m (.i .i64 0)) → getE E 3 = some (.m (.b false)) → At' G .ret ⟨E, [], ⟨B, H⟩⟩ K)
    (hend : inS digS d = true → ∀ (B : List (Nat × List V)) (H : Hp), At' G (.ex 0) ⟨[(0, .m (.s d)), (4, .m (.b ng)), (5, .m (.i .i64 ((min (dval 0 d) 1000000000 : Nat) : Int))), (6, .m (.i .i64 (d.length : Int))), (37, .m (.b false))], [], ⟨B, H⟩⟩ K) (B : List (Nat × List V)) (H : Hp) :
    Run G c47_B0 (S47_0 (.m (.s d)) (.m (.b ng)) (.m (.i .i64 0)) (.m (.i .i64 0)) B H) (.seq c47_L0 K) := by
  refine (?key : ∀ (i n : Nat) (B : List (Nat × List V)) (H : Hp), i ≤ d.length → n = min (dval 0 (d.take i)) 1000000000 → (∀ j x, j < i → d[j]? = some x → okD x = true) → Run G c47_B0 (S47_0 (.m (.s d)) (.m (.b ng)) (.m (.i .i64 (n : Int))) (.m (.i .i64 (i : Int))) B H) (.seq c47_L0 K)) 0 0 B H (Nat.zero_le _) rfl (fun j x hj => by omega)
  refine indM (fun i : Nat => d.length - i) fun i ih n B H hi hn hok => ?_
  unfold c47_B0
  cases hx : d[i]? with
  | none =>
    have : i = d.length := by have := List.getElem?_eq_none_iff.1 hx; omega
    subst this
    have hin : inS digS d = true := by
      cases h : inS digS d with
      | true => rfl
      | false =>
        obtain ⟨k, c, h1, h2, _⟩ := inS_no h
        have := hok k c (by have := (get_drop h1).1; omega) h1
        rw [this] at h2
        cases h2
    rw [List.take_length] at hn
    subst hn
    have := hend hin B H
    simp (maxSteps := 2000000) (disch := omega) [gd_in, gd_and, wr_i64, ]
    exact this
  | some x =>
    have hlt := (get_drop hx).1
    have hlt' : (i : Int) < d.length := by omega
    have hnx : nth d i = some x := by rw [nth_get]; exact hx
    have wi : wr .i64 ((i : Int) + 1) = (i : Int) + 1 := wr_i64 (by omega) (by omega)
    by_cases hc : 48 ≤ x ∧ x ≤ 57
    · have c1 : ¬ (x : Int) < 48 := by omega
      have c2 : ¬ (57 : Int) < x := by omega
      have w8 : wr .u8 ((x : Int) - 48) = (x : Int) - 48 := wr_u8 (by omega) (by omega)
      have w64 : wr .i64 ((x : Int) - 48) = (x : Int) - 48 := wr_i64 (by omega) (by omega)
      have hn9 : n ≤ 1000000000 := by omega
      have w10 : wr .i64 (10 * (n : Int)) = 10 * (n : Int) := wr_i64 (by omega) (by omega)
      have w11 : wr .i64 (10 * (n : Int) + ((x : Int) - 48)) = 10 * (n : Int) + ((x : Int) - 48) := wr_i64 (by omega) (by omega)
      have hm : min (10 * (n : Int) + ((x : Int) - 48)) 1000000000 = ((min (dval 0 (d.take (i + 1))) 1000000000 : Nat) : Int) := by
        rw [take_succ_get hx, dval_app]
        omega
      have k := ih (i + 1) (by omega) (min (dval 0 (d.take (i + 1))) 1000000000) B H (by omega) rfl (fun j y hj hy => by
        by_cases h : j = i
        · subst h
          rw [hx] at hy
          cases hy
          exact okD_iff.2 hc
        · exact hok j y (by omega) hy)
      generalize min (dval 0 (d.take (i + 1))) 1000000000 = n2 at *
      simp [hlt', hlt, hnx, c1, c2, w8, w64, w10, w11, hm, wi]
      exact k
    · have hF : inS digS d = false := by
        cases h : inS digS d with
        | false => rfl
        | true => exact absurd (inS_get h hx) hc
      have k := hfail hF
      by_cases c1 : (x : Int) < 48
      · simp [hlt', hlt, hnx, c1]
        exact k _ _ _ rfl rfl
      · have c2 : (57 : Int) < x := by omega
        simp [hlt', hlt, hnx, c1, c2]
        exact k _ _ _ rfl rfl
set_option maxHeartbeats 1000000 in
theorem number_r (s : List Nat) (hl : s.length ≤ 1000000) (hb : ∀ c, c ∈ s → c < 256) (H : Hp) : Gives G 47 [.m (.s s)] H (.tu [.m (.i .i64 (numR s).1), .m (.b (numR s).2)]) H := by
  refine gives_pur rfl rfl rfl rfl rfl ?_
  rcases tpr_cases s with ⟨h1, h2⟩ | ⟨h1, h2⟩
  · -- with a sign
    have hC : numC s = -((min (dval 0 (tpr s)) 1000000000 : Nat) : Int) := by unfold numC; rw [if_pos h1]
    have hss : ¬ tpr s = s := fun e => by rw [e] at h2; have := congrArg List.length h2; simp at this
    have hO : numOk s = (!decide (tpr s = []) && !decide ((tpr s).take 1 = [48]) && inS digS (tpr s)) := by
      unfold numOk
      simp [hss]
    have hR : numR s = if numOk s = true then (numC s, true) else (0, false) := rfl
    rw [hC, hO] at hR
    generalize tpr s = d at *
    subst h2
    rw [hR]
    cases d with
    | nil => simp (maxSteps := 2000000) (disch := omega) [gd_in, gd_and, wr_i64, ]
    | cons a r =>
      have p1 : (0 : Int) < (r.length : Int) + 1 := by omega
      have p2 : (1 : Int) ≤ (r.length : Int) + 1 + 1 := by omega
      have p4 : (0 : Int) < (r.length : Int) + 1 + 1 := by omega
      have p5 : ¬ (r.length : Int) + 1 = 0 := by omega
      by_cases h48 : a = 48
      · subst h48
        by_cases hr : r = []
        · subst hr
          simp (maxSteps := 2000000) (disch := omega) [gd_in, gd_and, wr_i64, ]
        · have p3 : (1 : Int) < (r.length : Int) + 1 := by have := List.length_pos_iff.2 hr; omega
          simp (maxSteps := 2000000) (disch := omega) [gd_in, gd_and, wr_i64, p1, p2, p3, p4, p5]
      · have h48' : ¬ (a : Int) = 48 := by omega
        have e : (!decide (a :: r = []) && !decide ((a :: r).take 1 = [48]) && inS digS (a :: r)) = inS digS (a :: r) := by simp [h48]
        rw [e]
        generalize hres : (if inS digS (a :: r) = true then (-((min (dval 0 (a :: r)) 1000000000 : Nat) : Int), true) else ((0 : Int), false)) = res
        simp (maxSteps := 2000000) (disch := omega) [gd_in, gd_and, wr_i64, p1, p2, p4, p5, h48']
        refine num_loop (a :: r) (by simp at hl ⊢; omega) (fun c hc => hb c (List.mem_cons_of_mem _ hc)) true _ (fun hF E B H k1 k2 => ?_) (fun hT B H => ?_) _ _
        · rw [hF] at hres
          subst hres
          simp [k1, k2]
        · rw [hT, if_pos rfl] at hres
          subst hres
          generalize hmn : min (dval 0 (a :: r)) 1000000000 = m
          have hm9 : m ≤ 1000000000 := by omega
          have wn : wr .i64 (-(m : Int)) = -(m : Int) := wr_i64 (by omega) (by omega)
          simp [wn]
  · have hC : numC s = ((min (dval 0 (tpr s)) 1000000000 : Nat) : Int) := by unfold numC; rw [if_neg h1]
    have hO : numOk s = (!decide (tpr s = []) && (!decide ((tpr s).take 1 = [48]) || decide ((tpr s).length = 1)) && inS digS (tpr s)) := by
      unfold numOk
      simp [h2]
    have hR : numR s = if numOk s = true then (numC s, true) else (0, false) := rfl
    rw [hC, hO, h2] at hR
    rw [hR]
    cases s with
    | nil => simp (maxSteps := 2000000) (disch := omega) [gd_in, gd_and, wr_i64, ]
    | cons a r =>
      have p1 : (0 : Int) < (r.length : Int) + 1 := by omega
      have p5 : ¬ (r.length : Int) + 1 = 0 := by omega
      have h45 : ¬ (a : Int) = 45 := by
        have : ¬ a = 45 := by simpa using h1
        omega
      by_cases hbad : a = 48 ∧ r ≠ []
      · obtain ⟨rfl, hr⟩ := hbad
        have p3 : (1 : Int) < (r.length : Int) + 1 := by have := List.length_pos_iff.2 hr; omega
        have e : (!decide (48 :: r = []) && (!decide ((48 :: r).take 1 = [48]) || decide ((48 :: r).length = 1)) && inS digS (48 :: r)) = false := by simp [hr]
        rw [e]
        simp (maxSteps := 2000000) (disch := omega) [gd_in, gd_and, wr_i64, p1, p3, p5]
      · have e : (!decide (a :: r = []) && (!decide ((a :: r).take 1 = [48]) || decide ((a :: r).length = 1)) && inS digS (a :: r)) = inS digS (a :: r) := by
          by_cases h48 : a = 48
          · have hr : r = [] := Classical.byContradiction fun h => hbad ⟨h48, h⟩
            simp [hr]
          · simp [h48]
        rw [e]
        generalize hres : (if inS digS (a :: r) = true then (((min (dval 0 (a :: r)) 1000000000 : Nat) : Int), true) else ((0 : Int), false)) = res
        by_cases h48 : a = 48
        · have hr : r = [] := Classical.byContradiction fun h => hbad ⟨h48, h⟩
          subst hr
          subst h48
          simp (maxSteps := 2000000) (disch := omega) [gd_in, gd_and, wr_i64, ]
          refine num_loop [48] (by simp) hb false _ (fun hF E B H k1 k2 => ?_) (fun hT B H => ?_) _ _
          · rw [hF] at hres
            subst hres
            simp [k1, k2]
          · rw [hT, if_pos rfl] at hres
            subst hres
            simp
        · have h48' : ¬ (a : Int) = 48 := by omega
          simp (maxSteps := 2000000) (disch := omega) [gd_in, gd_and, wr_i64, p1, p5, h45, h48']
          refine num_loop (a :: r) hl hb false _ (fun hF E B H k1 k2 => ?_) (fun hT B H => ?_) _ _
          · rw [hF] at hres
            subst hres
            simp [k1, k2]
          · rw [hT, if_pos rfl] at hres
            subst hres
            simp
theorem numR_2 (s : List Nat) : (numR s).2 = numOk s := by
  unfold numR
  cases h : numOk s <;> simp
theorem numR_ok {s : List Nat} (h : numOk s = true) : (numR s).1 = numC s := by
  unfold numR
  rw [if_pos h]
/-- What the reference's cell makes of a line. -/
def cfC (l : List Nat) : Ce × Bool := match spl 32 l with
  | [a, b] => (⟨(numR a).1, (numR b).1, 1⟩, numOk a && numOk b)
  | [a, b, c] => (⟨(numR a).1, (numR b).1, (numR c).1⟩, numOk a && (numOk b && numOk c))
  | _ => (⟨0, 0, 0⟩, false)
set_option maxHeartbeats 4000000 in
theorem cell_r (l : List Nat) (hl : l.length ≤ 1000000) (hb : ∀ c, c ∈ l → c < 256) (H : Hp) : Gives G 23 [.m (.s l)] H (.tu [.m (.ag [.i .i64 (cfC l).1.x, .i .i64 (cfC l).1.y, .i .i64 (cfC l).1.s]), .m (.b (cfC l).2)]) H := by
  refine gives_pur rfl rfl rfl rfl rfl ?_
  have gs := fun H => words_r l hl H
  have hm := spl_mem 32 l.length l (Nat.le_refl _)
  have gn : ∀ w, w ∈ spl 32 l → ∀ H, Gives G 47 [.m (.s w)] H (.tu [.m (.i .i64 (numR w).1), .m (.b (numOk w))]) H := fun w hw H => by
    rw [← numR_2]
    exact number_r w (by have := (hm w hw).1; omega) (fun c hc => hb c ((hm w hw).2 c hc)) H
  cases hsp : spl 32 l with
  | nil =>
    obtain ⟨h, t, e⟩ := spl_ne 32 l
    rw [e] at hsp
    cases hsp
  | cons a r =>
    rw [hsp] at gs gn
    cases r with
    | nil =>
      have e : cfC l = (⟨0, 0, 0⟩, false) := by unfold cfC; rw [hsp]
      rw [e]
      have hz : celS [a] = [[.s a]] := rfl
      rw [hz] at gs
      simp (maxSteps := 2000000) (disch := omega) [gd_in, gd_and, wr_i64, cl (gs _)]
    | cons b r =>
      have ga := gn a (by simp)
      have gb := gn b (by simp)
      cases r with
      | nil =>
        have e : cfC l = (⟨(numR a).1, (numR b).1, 1⟩, numOk a && numOk b) := by unfold cfC; rw [hsp]
        rw [e]
        have hz : celS [a, b] = [[.s a], [.s b]] := rfl
        rw [hz] at gs
        generalize (numR a).1 = x at *
        generalize (numR b).1 = y at *
        cases ha : numOk a <;> cases hb : numOk b <;> (rw [ha] at ga; rw [hb] at gb; simp (maxSteps := 2000000) (disch := omega) [gd_in, gd_and, wr_i64, cl (gs _), cl (ga _), cl (gb _)])
      | cons c r =>
        have gc := gn c (by simp)
        cases r with
        | cons d r =>
          have e : cfC l = (⟨0, 0, 0⟩, false) := by unfold cfC; rw [hsp]
          rw [e]
          have hz : (celS (a :: b :: c :: d :: r)).length = r.length + 4 := by simp [celS]
          have p1 : ¬ (r.length : Int) + 4 < 2 := by omega
          have p2 : (3 : Int) < (r.length : Int) + 4 := by omega
          generalize celS (a :: b :: c :: d :: r) = z at *
          simp (maxSteps := 2000000) (disch := omega) [gd_in, gd_and, wr_i64, cl (gs _), hz, p1, p2]
        | nil =>
          have e : cfC l = (⟨(numR a).1, (numR b).1, (numR c).1⟩, numOk a && (numOk b && numOk c)) := by unfold cfC; rw [hsp]
          rw [e]
          have hz : celS [a, b, c] = [[.s a], [.s b], [.s c]] := rfl
          rw [hz] at gs
          generalize (numR a).1 = x at *
          generalize (numR b).1 = y at *
          generalize (numR c).1 = z at *
          cases ha : numOk a <;> cases hb : numOk b <;> cases hc : numOk c <;> (rw [ha] at ga; rw [hb] at gb; rw [hc] at gc; simp (maxSteps := 2000000) (disch := omega) [gd_in, gd_and, wr_i64, cl (gs _), cl (ga _), cl (gb _), cl (gc _)])
/-- What the program's cell says, by the reference's. -/
def inB (x : Int) : Prop := -1048576 ≤ x ∧ x ≤ 1048576
theorem nums (s : List Nat) (h : numOk s = true) : -1000000000 ≤ (numR s).1 ∧ (numR s).1 ≤ 1000000000 ∧ (-9223372036854775808 ≤ numM s ∧ numM s ≤ 9223372036854775807) ∧ (-1000000000 < (numR s).1 ∧ (numR s).1 < 1000000000 → numM s = (numR s).1) ∧ ((numR s).1 = 1000000000 → 1000000000 ≤ numM s) ∧ ((numR s).1 = -1000000000 → numM s ≤ -1000000000 ∨ 1000000000 ≤ numM s) := by
  rw [numR_ok h]
  unfold numC numM numV
  generalize dval 0 (tpr s) = d
  split <;> split <;> omega
theorem neg64 {v : Int} (hv : -9223372036854775808 ≤ v ∧ v ≤ 9223372036854775807) : (v = -9223372036854775808 ∧ wr .i64 (-v) = -9223372036854775808) ∨ wr .i64 (-v) = -v := by
  by_cases e : v = -9223372036854775808
  · subst e
    exact .inl ⟨rfl, by decide⟩
  · exact .inr (wr_i64 (by omega) (by omega))
theorem rng_iff {x y : Int} (hx : -9223372036854775808 ≤ x ∧ x ≤ 9223372036854775807) (hy : -9223372036854775808 ≤ y ∧ y ≤ 9223372036854775807) : (1048576 < max x (max (wr .i64 (-x)) (max y (wr .i64 (-y)))) ∨ min x y < -1048576) ↔ ¬ (inB x ∧ inB y) := by
  unfold inB
  have h1 := neg64 hx
  have h2 := neg64 hy
  generalize wr .i64 (-x) = nx at *
  generalize wr .i64 (-y) = ny at *
  rcases h1 with ⟨rfl, rfl⟩ | rfl <;> rcases h2 with ⟨rfl, rfl⟩ | rfl <;> omega
theorem inB_eq {x x' : Int} (hx : (-9223372036854775808 ≤ x ∧ x ≤ 9223372036854775807) ∧ (-1000000000 < x' ∧ x' < 1000000000 → x = x') ∧ (x' = 1000000000 → 1000000000 ≤ x) ∧ (x' = -1000000000 → x ≤ -1000000000 ∨ 1000000000 ≤ x) ∧ -1000000000 ≤ x' ∧ x' ≤ 1000000000) : ((inB x → inB x') ∧ (inB x' → inB x)) ∧ (inB x' → x = x') := by
  unfold inB
  omega
theorem chk_rel {x y z x' y' z' : Int} (hx : (-9223372036854775808 ≤ x ∧ x ≤ 9223372036854775807) ∧ (-1000000000 < x' ∧ x' < 1000000000 → x = x') ∧ (x' = 1000000000 → 1000000000 ≤ x) ∧ (x' = -1000000000 → x ≤ -1000000000 ∨ 1000000000 ≤ x) ∧ -1000000000 ≤ x' ∧ x' ≤ 1000000000)
    (hy : (-9223372036854775808 ≤ y ∧ y ≤ 9223372036854775807) ∧ (-1000000000 < y' ∧ y' < 1000000000 → y = y') ∧ (y' = 1000000000 → 1000000000 ≤ y) ∧ (y' = -1000000000 → y ≤ -1000000000 ∨ 1000000000 ≤ y) ∧ -1000000000 ≤ y' ∧ y' ≤ 1000000000)
    (hz : (-1000000000 < z' ∧ z' < 1000000000 → z = z') ∧ (z' = 1000000000 → 1000000000 ≤ z) ∧ (z' = -1000000000 → z ≤ -1000000000 ∨ 1000000000 ≤ z) ∧ -1000000000 ≤ z' ∧ z' ≤ 1000000000) :
    (¬ (inB x' ∧ inB y') → (chkC x y z).2 = 5) ∧ (inB x' → inB y' → ¬ (1 ≤ z' ∧ z' < 8) → (chkC x y z).2 = 10) ∧ (inB x' → inB y' → 1 ≤ z' ∧ z' < 8 → chkC x y z = (⟨x', y', z'⟩, 0)) := by
  have hr := rng_iff hx.1 hy.1
  have fx := inB_eq hx
  have fy := inB_eq hy
  have fz : 1 ≤ z' ∧ z' < 8 ↔ 1 ≤ z ∧ z < 8 := by omega
  have fz2 : 1 ≤ z' ∧ z' < 8 → z = z' := by omega
  unfold chkC
  refine ⟨fun h => ?_, fun h1 h2 h3 => ?_, fun h1 h2 h3 => ?_⟩
  · rw [if_pos (hr.2 fun k => h ⟨fx.1.1 k.1, fy.1.1 k.2⟩)]
  · rw [if_neg (fun k => hr.1 k ⟨fx.1.2 h1, fy.1.2 h2⟩), if_pos (by rw [fz] at h3; omega)]
  · rw [if_neg (fun k => hr.1 k ⟨fx.1.2 h1, fy.1.2 h2⟩), if_neg (by rw [fz] at h3; omega), fx.2 h1, fy.2 h2, fz2 h3]
theorem cf_rel (l : List Nat) : ((cfC l).2 = false → (cfM l).2 = 15) ∧ ((cfC l).2 = true → (¬ (inB (cfC l).1.x ∧ inB (cfC l).1.y) → (cfM l).2 = 5) ∧ (inB (cfC l).1.x → inB (cfC l).1.y → ¬ (1 ≤ (cfC l).1.s ∧ (cfC l).1.s < 8) → (cfM l).2 = 10) ∧ (inB (cfC l).1.x → inB (cfC l).1.y → 1 ≤ (cfC l).1.s ∧ (cfC l).1.s < 8 → cfM l = ((cfC l).1, 0))) := by
  have n1 := fun (s : List Nat) (h : numOk s = true) => nums s h
  unfold cfC cfM
  generalize spl 32 l = w
  match w with
  | [a, b] =>
    simp only
    cases ha : numOk a with
    | false => simp
    | true =>
      cases hb : numOk b with
      | false => simp
      | true =>
        simp only [Bool.and_self, and_self, if_true]
        obtain ⟨a1, a2, a3, a4, a5, a6⟩ := n1 a ha
        obtain ⟨b1, b2, b3, b4, b5, b6⟩ := n1 b hb
        exact ⟨fun h => (by cases h), fun _ => chk_rel ⟨a3, a4, a5, a6, a1, a2⟩ ⟨b3, b4, b5, b6, b1, b2⟩ ⟨fun _ => rfl, fun h => by omega, fun h => by omega, by omega, by omega⟩⟩
  | [a, b, c] =>
    simp only
    cases ha : numOk a with
    | false => simp
    | true =>
      cases hb : numOk b with
      | false => simp
      | true =>
        cases hc : numOk c with
        | false => simp
        | true =>
          simp only [Bool.and_self, and_self, if_true]
          obtain ⟨a1, a2, a3, a4, a5, a6⟩ := n1 a ha
          obtain ⟨b1, b2, b3, b4, b5, b6⟩ := n1 b hb
          obtain ⟨c1, c2, c3, c4, c5, c6⟩ := n1 c hc
          exact ⟨fun h => (by cases h), fun _ => chk_rel ⟨a3, a4, a5, a6, a1, a2⟩ ⟨b3, b4, b5, b6, b1, b2⟩ ⟨c4, c5, c6, c1, c2⟩⟩
  | [] => exact ⟨fun _ => rfl, fun h => by cases h⟩
  | [_] => exact ⟨fun _ => rfl, fun h => by cases h⟩
  | _ :: _ :: _ :: _ :: _ => exact ⟨fun _ => rfl, fun h => by cases h⟩
end Go.Mx.Tryz
