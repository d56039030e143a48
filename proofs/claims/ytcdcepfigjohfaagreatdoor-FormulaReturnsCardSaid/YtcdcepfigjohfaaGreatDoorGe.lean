/- cellularref40.Parse at the machine. -/
import Derived.Test.YtcdcepfigjohfaaGreatDoorGd
set_option linter.unusedSimpArgs false
set_option linter.unusedVariables false
set_option linter.unusedSectionVars false
set_option maxRecDepth 100000
namespace Go.Mx.Tryz

theorem numsR_I : ∀ (k : Nat) (l : List (List Nat)) (x : List Int), numsR k l = some x → numsI l = some x
  | _, [], x, h => h
  | k, w :: r, x, h => by
    have e1 : numsR k (w :: r) = if (numR w).2 = true ∧ ¬ (0 < k ∧ (numR w).1 < 0) then (numsR (k - 1) r).map fun l => (numR w).1 :: l else none := rfl
    have e2 : numsI (w :: r) = if (numR w).2 = true then (numsI r).map fun l => (numR w).1 :: l else none := rfl
    rw [e1] at h
    split at h
    · rename_i hc
      cases hr : numsR (k - 1) r with
      | none => rw [hr] at h; cases h
      | some y =>
        rw [hr] at h
        rw [e2, if_pos hc.1, numsR_I (k - 1) r y hr]
        exact h
    · cases h
theorem numsR_nn : ∀ (k : Nat) (l : List (List Nat)) (x : List Int), numsR k l = some x → ∀ (i : Nat) (y : Int), i < k → x[i]? = some y → 0 ≤ y
  | _, [], x, h, i, y, _, hy => by cases h; simp at hy
  | k, w :: r, x, h, i, y, hi, hy => by
    have e1 : numsR k (w :: r) = if (numR w).2 = true ∧ ¬ (0 < k ∧ (numR w).1 < 0) then (numsR (k - 1) r).map fun l => (numR w).1 :: l else none := rfl
    rw [e1] at h
    split at h
    · rename_i hc
      cases hr : numsR (k - 1) r with
      | none => rw [hr] at h; cases h
      | some z =>
        rw [hr] at h
        cases h
        cases i with
        | zero =>
          simp at hy
          have := hc.2
          omega
        | succ i => exact numsR_nn (k - 1) r z hr i y (by omega) (by simpa using hy)
    · cases h
theorem clO_push {c : List Int} {o : V} {H : Hp} {bad : List Nat} (h : ClO c o H bad) (hb : ∀ i, i ∈ bad → i < H.length) (hl : c.length ≤ 1000000) (x : Int) :
    ∃ o1 H1, (∀ B, appX ⟨B, H⟩ 3 1 8 o [[.m (.i .i64 x)]] = some (o1, ⟨B, H1⟩)) ∧ ClO (c ++ [x]) o1 H1 bad ∧ H.length ≤ H1.length ∧ (∀ i, i ∈ bad → nth H1 i = nth H i) ∧ (∀ cls out bad', OutC cls out H bad' → OutC cls out H1 bad') := by
  rcases h with ⟨rfl, rfl⟩ | ⟨hne, r, hr, rfl, h3⟩
  · refine ⟨.sl H.length 1 1 0 1 false, H ++ [.cs 3 1 [[.m (.i .i64 x)]] 0 false], fun B => rfl, .inr ⟨by simp, H.length, fun hm => ?_, rfl, ?_⟩, by simp, fun i hi => ?_, fun cls out bad' ho => ?_⟩
    · have := hb _ hm; omega
    · exact nl_end H _ 0
    · exact nl_app _ _ _ (hb i hi)
    · exact ho.keep fun i hi => nl_app _ _ _ hi
  · have ha := fun B => app_row (M := ⟨B, H⟩) (bytes := 8) (xs := [[.m (.i .i64 x)]]) h3 (by simp) (by simp [rowsI_len]; omega) rfl
    simp only [rowsI_len, List.length_cons, List.length_nil, Nat.zero_add, rowsI_snoc] at ha
    refine ⟨_, _, ha, .inr ⟨by simp, r, hr, by simp, nl_set_eq (nl_lt h3)⟩, by simp, fun i hi => nl_set_ne fun e => hr (by rw [e]; exact hi), fun cls out bad' ho => ?_⟩
    rcases ho with ho | ⟨hne', r', hr', e, h4⟩
    · exact .inl ho
    · refine .inr ⟨hne', r', hr', e, ?_⟩
      show nth (H.set r _) r' = _
      rw [nl_set_ne fun e => by subst e; rw [h3] at h4; cases h4]
      exact h4
theorem ClO.keep {c : List Int} {o : V} {H H' : Hp} {bad : List Nat} (h : ClO c o H bad) (hk : ∀ i, i < H.length → nth H' i = nth H i) : ClO c o H' bad := by
  rcases h with h | ⟨hne, r, hr, e, h3⟩
  · exact .inl h
  · exact .inr ⟨hne, r, hr, e, by rw [hk r (nl_lt h3)]; exact h3⟩

set_option maxHeartbeats 2000000 in
theorem parse_r (s : List Nat) (hl : s.length ≤ 65536) (hb : ∀ c, c ∈ s → c < 256) (H : Hp) : Gives G 26 [.m (.s s)] H (parseV s) H := by
  refine gives_pur rfl rfl rfl rfl rfl ?_
  have hlS : ¬ (65536 : Int) < s.length := by omega
  have hw := fun H => words_r s (by omega) H
  have hwl := txtW_len s
  have hmem : ∀ w, w ∈ txtW s → w.length ≤ 65536 ∧ ∀ c, c ∈ w → c < 256 := fun w hw => by
    obtain ⟨h1, h2⟩ := txtW_mem hw
    exact ⟨by omega, fun c hc => hb c (h2 c hc)⟩
  have hP : parseV s = if headOk (txtW s) = true then numsV (numsR 2 ((txtW s).drop 2)) else errV 15 := by rw [numsR_V]; rfl
  rw [hP]; clear hP
  generalize txtW s = ws at *
  by_cases h4 : ws.length < 4
  · have hh : headOk ws = false := by unfold headOk; rw [decide_eq_false (by omega)]; rfl
    have h4' : (ws.length : Int) < 4 := by omega
    have hr := (zS_sl ws).rules
    rw [hh]
    simp [hlS, cl (hw _), hr, h4', errV]
  obtain ⟨w0, t, rfl⟩ := List.exists_cons_of_length_pos (l := ws) (by omega)
  obtain ⟨w1, rest, rfl⟩ := List.exists_cons_of_length_pos (l := t) (by simp only [List.length_cons] at h4; omega)
  simp only [List.length_cons] at h4 hwl
  have h4' : ¬ (rest.length : Int) + 1 + 1 < 4 := by omega
  have hz : zS (w0 :: w1 :: rest) = .sl ([.s w0] :: [.s w1] :: celS rest) := if_neg (by simp)
  have hr := (isSl_sl ([.s w0] :: [.s w1] :: celS rest)).rules
  rw [hz] at hw
  by_cases hh : w0 = [112] ∧ w1 = [99, 110, 102]
  · obtain ⟨rfl, rfl⟩ := hh
    have hh : headOk ([112] :: [99, 110, 102] :: rest) = true := by
      unfold headOk
      rw [decide_eq_true (by simp only [List.length_cons]; omega)]
      simp
    have hrest : ∀ w, w ∈ rest → w.length ≤ 65536 ∧ ∀ c, c ∈ w → c < 256 := fun w hw => hmem w (by simp [hw])
    rw [hh, if_pos rfl]
    simp (maxSteps := 2000000) (disch := omega) [gd_in, gd_and, wr_i64, hlS, cl (hw _), hr, h4']
    clear hw hmem hz hh
    refine (?key : ∀ (i : Nat) (acc : List Int) (o : V) (B : List (Nat × List V)) (H' : Hp), i ≤ rest.length → getB B 2 = some [.m (.i .i64 0), .m (.nl 4)] → acc.length = i → NumO acc o H' → numsR 2 rest = (numsR (2 - i) (rest.drop i)).map (fun l => acc ++ l) → Run G c26_B0 (S26_0 (.fa 2 0) (.m (.sl ([.s [112]] :: [.s [99, 110, 102]] :: celS rest))) o (.m (.i .i64 ((i : Int) + 2))) B H') _) 0 [] (.m (.nl 4)) [(2, [.m (.i .i64 0), .m (.nl 4)])] [] (Nat.zero_le _) rfl rfl (.inl ⟨rfl, rfl, rfl⟩) (by simp)
    refine indM (fun i : Nat => rest.length - i) fun i ih acc o B H' hi hB2 hal ho hq => ?_
    unfold c26_B0
    have hnf : noFaV o = true := by
      rcases ho with ⟨_, rfl, _⟩ | ⟨_, rfl, _⟩ <;> rfl
    cases hx : rest[i]? with
    | some w =>
      have hlt := (get_drop hx).1
      have hlt2 : (i : Int) + 2 < (rest.length : Int) + 1 + 1 := by omega
      have hn : nth ([I.s [112]] :: [.s [99, 110, 102]] :: celS rest) (i + 2) = some [.s w] := celS_nth hx
      have hwm := hrest w (List.mem_of_getElem? hx)
      have wi : wr .i64 ((i : Int) + 2 + 1) = (i : Int) + 1 + 2 := by rw [wr_i64 (by omega) (by omega)]; omega
      have htn : ((i : Int) + 2).toNat = i + 2 := by omega
      have gn := fun H => num_r w (by omega) hwm.2 H
      rw [(get_drop hx).2] at hq
      have e2 : numsR (2 - i) (w :: rest.drop (i + 1)) = if (numR w).2 = true ∧ ¬ (0 < 2 - i ∧ (numR w).1 < 0) then (numsR (2 - i - 1) (rest.drop (i + 1))).map fun l => (numR w).1 :: l else none := rfl
      rw [e2] at hq
      obtain ⟨o1, H1, ha, hn1, ho1⟩ := numO_push ho (by omega) (numR w).1
      generalize hnr : numR w = nw at *
      obtain ⟨x, ok⟩ := nw
      cases ok with
      | false =>
        rw [if_neg (fun h => by cases h.1)] at hq
        rw [hq]
        simp (maxSteps := 2000000) (disch := omega) [gd_in, gd_and, wr_i64, hr, hlt2, hn, htn, cl (gn _), numV, hB2, numsV, errV]
      | true =>
        by_cases hi2 : i < 2
        · have hi2' : (i : Int) + 2 < 4 := by omega
          by_cases hx0 : x < 0
          · rw [if_neg (fun h => h.2 ⟨by omega, hx0⟩)] at hq
            rw [hq]
            simp (maxSteps := 2000000) (disch := omega) [gd_in, gd_and, wr_i64, hr, hlt2, hn, htn, cl (gn _), numV, hi2', hx0, hB2, numsV, errV]
          · rw [if_pos ⟨rfl, fun h => hx0 h.2⟩] at hq
            simp (maxSteps := 2000000) (disch := omega) [gd_in, gd_and, wr_i64, hr, hlt2, hn, htn, cl (gn _), numV, hi2', hx0, ha, setC_v hn1, wi]
            refine ih (i + 1) (by omega) _ _ _ _ (by omega) (by simpa using hB2) (by simp [hal]) ho1 ?_
            rw [hq, Option.map_map, show 2 - i - 1 = 2 - (i + 1) by omega]
            congr 1
            funext l
            simp
        · have hi2' : ¬ (i : Int) + 2 < 4 := by omega
          rw [if_pos ⟨rfl, fun h => by omega⟩] at hq
          simp (maxSteps := 2000000) (disch := omega) [gd_in, gd_and, wr_i64, hr, hlt2, hn, htn, cl (gn _), numV, hi2', ha, setC_v hn1, wi]
          refine ih (i + 1) (by omega) _ _ _ _ (by omega) (by simpa using hB2) (by simp [hal]) ho1 ?_
          rw [hq, Option.map_map, show 2 - i - 1 = 2 - (i + 1) by omega]
          congr 1
          funext l
          simp
    | none =>
      have : i = rest.length := by have := List.getElem?_eq_none_iff.1 hx; omega
      subst this
      rw [List.drop_length] at hq
      replace hq : numsR 2 rest = some acc := by rw [hq]; cases rest <;> simp [numsR]
      have hle := numsI_le rest acc (numsR_I _ _ _ hq)
      have hnn := numsR_nn _ _ _ hq
      rw [hq]
      clear hq ih hrest hx
      obtain ⟨a, t, rfl⟩ := List.exists_cons_of_length_pos (l := acc) (by omega)
      obtain ⟨b, l, rfl⟩ := List.exists_cons_of_length_pos (l := t) (by simp only [List.length_cons] at hal; omega)
      have ha1 := hle a (by simp)
      have hb1 := hle b (by simp)
      have ha0 := hnn 0 a (by omega) rfl
      have hb0 := hnn 1 b (by omega) rfl
      have hll : l.length ≤ 65537 := by simp only [List.length_cons] at hal; omega
      rcases ho with ⟨h, _⟩ | ⟨_, rfl, rfl⟩
      · cases h
      have hlt2 : ¬ (rest.length : Int) + 2 < (rest.length : Int) + 1 + 1 := by omega
      have hrr : rowsI (a :: b :: l) = [.m (.i .i64 a)] :: [.m (.i .i64 b)] :: rowsI l := rfl
      have hV : numsV (some (a :: b :: l)) = if a < 0 ∨ b < 0 then errV 15 else if 65536 < a then errV 5 else if l.any (outside a) = true then errV 5 else if 262144 < b then errV 6 else cutV a (cutI b.toNat l []) := rfl
      rw [hV, if_neg (by omega)]
      by_cases ha6 : 65536 < a
      · rw [if_pos ha6]
        simp (maxSteps := 2000000) (disch := omega) [gd_in, gd_and, wr_i64, hr, hlt2, hrr, ha6, hB2, errV]
      rw [if_neg ha6]
      generalize hres : (if l.any (outside a) = true then errV 5 else if 262144 < b then errV 6 else cutV a (cutI b.toNat l [])) = res
      have hnl : (a :: b :: l).length = l.length + 1 + 1 := rfl
      clear hV hle hal hnf hi hwl h4 h4' hl hb hlS hnn
      simp (maxSteps := 2000000) (disch := omega) [gd_in, gd_and, wr_i64, hr, hlt2, hrr, ha6, hB2]
      clear hr hlt2
      refine (?key2 : ∀ (j : Nat) (B : List (Nat × List V)), j ≤ l.length → getB B 2 = some [.m (.i .i64 0), .m (.nl 4)] → l.any (outside a) = (l.drop j).any (outside a) → Run G c26_B1 (S26_1 (.fa 2 0) (.sl 0 (l.length + 1 + 1) 1 0 (l.length + 1 + 1) false) (.m (.i .i64 a)) (.m (.i .i64 b)) (.m (.i .i64 ((j : Int) + 2))) B [.cs 3 1 ([.m (.i .i64 a)] :: [.m (.i .i64 b)] :: rowsI l) 0 false]) _) 0 B (Nat.zero_le _) hB2 rfl
      clear hB2 B
      refine indM (fun j : Nat => l.length - j) fun j ihj B hj hB2 hjq => ?_
      unfold c26_B1
      have htn : ((j : Int) + 2).toNat = j + 2 := by omega
      cases hxj : l[j]? with
      | some x =>
        have hltj := (get_drop hxj).1
        have hltj2 : (j : Int) + 2 < (l.length : Int) + 1 + 1 := by omega
        have hnj : nth ([V.m (.i .i64 a)] :: [.m (.i .i64 b)] :: rowsI l) (j + 2) = some [.m (.i .i64 x)] := by
          rw [nth_get]
          simp [rowsI, hxj]
        have wj : wr .i64 ((j : Int) + 2 + 1) = (j : Int) + 1 + 2 := by rw [wr_i64 (by omega) (by omega)]; omega
        have wa : wr .i64 (-a) = -a := wr_i64 (by omega) (by omega)
        rw [(get_drop hxj).2, List.any_cons] at hjq
        by_cases h2 : x < -a
        · have ho : outside a x = true := by unfold outside; rw [decide_eq_true h2, Bool.or_true]
          rw [ho, Bool.true_or] at hjq
          rw [hjq, if_pos rfl] at hres
          simp (maxSteps := 2000000) (disch := omega) [gd_in, gd_and, wr_i64, hltj2, hnj, htn, h2, wa, hB2, ← hres, errV]
        · by_cases h1 : a < x
          · have ho : outside a x = true := by unfold outside; rw [decide_eq_true h1]; rfl
            rw [ho, Bool.true_or] at hjq
            rw [hjq, if_pos rfl] at hres
            simp (maxSteps := 2000000) (disch := omega) [gd_in, gd_and, wr_i64, hltj2, hnj, htn, h1, h2, wa, hB2, ← hres, errV]
          · have ho : outside a x = false := by unfold outside; rw [decide_eq_false h1, decide_eq_false h2]; rfl
            rw [ho, Bool.false_or] at hjq
            simp (maxSteps := 2000000) (disch := omega) [gd_in, gd_and, wr_i64, hltj2, hnj, htn, h1, h2, wa, wj]
            exact ihj (j + 1) (by omega) _ (by omega) (by simpa using hB2) hjq
      | none =>
        have : j = l.length := by have := List.getElem?_eq_none_iff.1 hxj; omega
        subst this
        have hltj2 : ¬ (l.length : Int) + 2 < (l.length : Int) + 1 + 1 := by omega
        rw [List.drop_length] at hjq
        replace hjq : l.any (outside a) = false := hjq
        rw [hjq, if_neg (by simp)] at hres
        clear hxj ihj hjq
        by_cases hb6 : 262144 < b
        · rw [if_pos hb6] at hres
          simp (maxSteps := 2000000) (disch := omega) [gd_in, gd_and, wr_i64, hltj2, hb6, hB2, ← hres, errV]
        rw [if_neg hb6] at hres
        have hbn : ((b.toNat : Nat) : Int) = b := by omega
        have hrc := rcut_cut b.toNat l b.toNat [] [] (by simp) (by simp) (fun _ => rfl)
        rw [List.nil_append] at hrc
        rw [← hrc] at hres
        clear hrc
        simp (maxSteps := 2000000) (disch := omega) [gd_in, gd_and, wr_i64, hltj2, hb6]
        clear hltj2 htn
        refine (?key3 : ∀ (j : Nat) (cls : List (List Int)) (c : List Int) (o oc : V) (B : List (Nat × List V)) (H' : Hp), j ≤ l.length → getB B 2 = some [.m (.i .i64 0), .m (.nl 4)] → getB B 12 = some [.m (.i .i64 a), o] → nth H' 0 = some (.cs 3 1 (rowsI (a :: b :: l)) 0 false) → OutC cls o H' [0] → ClO c oc H' [0] → cls.length ≤ j → c.length ≤ j → rcut b.toNat [] [] l = rcut b.toNat cls c (l.drop j) →
          Run G c26_B2 (S26_2 (.fa 2 0) (.sl 0 (l.length + 1 + 1) 1 0 (l.length + 1 + 1) false) (.m (.i .i64 b)) (.fa 12 0) oc (.m (.i .i64 ((j : Int) + 2))) B H') _) 0 [] [] (.m (.nl 4)) (.ls []) _ _ (Nat.zero_le _) (by simpa using hB2) (by simp) rfl (.inl ⟨rfl, rfl⟩) (.inl ⟨rfl, rfl⟩) (Nat.le_refl _) (Nat.le_refl _) rfl
        clear hB2 B
        refine indM (fun j : Nat => l.length - j) fun j ihi cls c o oc B H' hj hB2 hB12 hrow ho hoc hclj hcj hcq => ?_
        unfold c26_B2
        have htn : ((j : Int) + 2).toNat = j + 2 := by omega
        have hH0 := nl_lt hrow
        obtain ⟨n1, n2, n3, n4⟩ := ho.nf
        obtain ⟨m1, m2, m3⟩ := hoc.nf
        cases hxj : l[j]? with
        | some x =>
          have hltj := (get_drop hxj).1
          have hltj2 : (j : Int) + 2 < (l.length : Int) + 1 + 1 := by omega
          have hnj : nth (rowsI (a :: b :: l)) (j + 2) = some [.m (.i .i64 x)] := by
            rw [nth_get]
            simp [rowsI, hxj]
          have wj : wr .i64 ((j : Int) + 2 + 1) = (j : Int) + 1 + 2 := by rw [wr_i64 (by omega) (by omega)]; omega
          rw [(get_drop hxj).2] at hcq
          have e3 : rcut b.toNat cls c (x :: l.drop (j + 1)) = if cls.length = b.toNat then (3, []) else if x = 0 then rcut b.toNat (cls ++ [c]) [] (l.drop (j + 1)) else rcut b.toNat cls (c ++ [x]) (l.drop (j + 1)) := rfl
          rw [e3] at hcq
          by_cases hcb : cls.length = b.toNat
          · have hcb' : (cls.length : Int) = b := by omega
            rw [if_pos hcb] at hcq
            have hcv : cutV a (rcut b.toNat [] [] l) = errV 3 := by rw [hcq]; rfl
            rw [hcv] at hres
            simp (maxSteps := 2000000) (disch := omega) [gd_in, gd_and, wr_i64, hltj2, hB12, n4, hcb', hB2, ← hres, errV]
          · have hcb' : ¬ (cls.length : Int) = b := by omega
            rw [if_neg hcb] at hcq
            by_cases hx0 : x = 0
            · rw [if_pos hx0] at hcq
              subst hx0
              obtain ⟨H2, q1, q2, q3, q4⟩ := bsf_clo hoc
              have ho1 := q4 cls o [0] ho
              obtain ⟨o2, H3, j1, j2, j3, j4, j5⟩ := outC_push ho1 (by simp; omega) (by omega) c
              obtain ⟨p1, p2, p3, p4⟩ := j2.nf
              simp (maxSteps := 2000000) (disch := omega) [gd_in, gd_and, wr_i64, hltj2, hB12, n4, hcb', hrow, hnj, htn, q1, j1, p2, p3, wj]
              refine ihi (j + 1) (by omega) _ _ _ _ _ _ (by omega) (by simpa using hB2) (by simp) ?_ j2 (.inl ⟨rfl, rfl⟩) (by simp; omega) (by simp) hcq
              rw [j4 0 (by simp), q3 0 (by simp)]
              exact hrow
            · rw [if_neg hx0] at hcq
              obtain ⟨o2, H3, j1, j2, j3, j4, j5⟩ := clO_push hoc (by simp; omega) (by omega) x
              obtain ⟨p1, p2, p3⟩ := j2.nf
              simp (maxSteps := 2000000) (disch := omega) [gd_in, gd_and, wr_i64, hltj2, hB12, n4, hcb', hrow, hnj, htn, hx0, j1, setC_v p1, wj]
              refine ihi (j + 1) (by omega) _ _ _ _ _ _ (by omega) (by simpa using hB2) (by simpa using hB12) ?_ (j5 _ _ _ ho) j2 (by omega) (by simp; omega) hcq
              rw [j4 0 (by simp)]
              exact hrow
        | none =>
          have : j = l.length := by have := List.getElem?_eq_none_iff.1 hxj; omega
          subst this
          have hltj2 : ¬ (l.length : Int) + 2 < (l.length : Int) + 1 + 1 := by omega
          rw [List.drop_length] at hcq
          have e3 : rcut b.toNat cls c [] = if cls.length < b.toNat then (4, []) else (0, cls) := rfl
          rw [e3] at hcq
          by_cases hn : cls.length < b.toNat
          · have hn' : (cls.length : Int) < b := by omega
            rw [if_pos hn] at hcq
            have hcv : cutV a (rcut b.toNat [] [] l) = errV 4 := by rw [hcq]; rfl
            rw [hcv] at hres
            simp (maxSteps := 2000000) (disch := omega) [gd_in, gd_and, wr_i64, hltj2, hB12, n4, hn', hB2, ← hres, errV, setC_v m1]
          · have hn' : ¬ (cls.length : Int) < b := by omega
            rw [if_neg hn] at hcq
            have hcv : cutV a (rcut b.toNat [] [] l) = frmV a cls := by rw [hcq]; rfl
            rw [hcv] at hres
            have hv := viewC ho 17
            rcases ho with ⟨rfl, rfl⟩ | ⟨hne, ro, hro, rfl, h3⟩
            · have hn0 : ¬ (0 : Int) < b := by simpa using hn'
              simp (maxSteps := 2000000) (disch := omega) [gd_in, gd_and, wr_i64, hltj2, hB12, n4, hn0, hB2, ← hres, frmV, zC]
            · simp (maxSteps := 2000000) (disch := omega) [gd_in, gd_and, wr_i64, hltj2, hB12, n4, hn', hB2, ← hres, frmV, hv]
  · have hh' : headOk (w0 :: w1 :: rest) = false := by
      unfold headOk
      have : decide ((w0 :: w1 :: rest).take 2 = [[112], [99, 110, 102]]) = false := decide_eq_false fun h => hh (by simpa using h)
      rw [this, Bool.and_false]
    rw [hh']
    by_cases h0 : w0 = [112]
    · have h1 : ¬ w1 = [99, 110, 102] := fun h => hh ⟨h0, h⟩
      simp (maxSteps := 2000000) (disch := omega) [gd_in, gd_and, wr_i64, hlS, cl (hw _), hr, h4', h0, h1, errV]
    · simp (maxSteps := 2000000) (disch := omega) [gd_in, gd_and, wr_i64, hlS, cl (hw _), hr, h4', h0, errV]
end Go.Mx.Tryz
