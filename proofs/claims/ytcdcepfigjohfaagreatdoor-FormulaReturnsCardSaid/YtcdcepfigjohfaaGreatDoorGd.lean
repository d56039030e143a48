/- formula.Parse at the machine. -/
import Derived.Test.YtcdcepfigjohfaaGreatDoorGc
set_option linter.unusedSimpArgs false
set_option linter.unusedVariables false
set_option linter.unusedSectionVars false
set_option maxRecDepth 100000
namespace Go.Mx.Tryz

theorem rfW_mem : ∀ (s w : List Nat) (cm bg : Bool) (u : List Nat), u ∈ rfW w cm bg s → u.length ≤ w.length + s.length ∧ ∀ c, c ∈ u → c ∈ w ∨ c ∈ s
  | [], w, cm, bg, u, h => by
    have h : u ∈ fl1 w := h
    unfold fl1 at h
    split at h
    · cases h
    · simp at h; subst h; exact ⟨by simp, fun c hc => .inl hc⟩
  | x :: r, w, cm, bg, u, h => by
    have e2 : rfW w cm bg (x :: r) = if x = 10 ∨ x = 32 then fl1 w ++ rfW [] (if bg then decide (x = 99) else cm) (decide (x = 10)) r else rfW (if (if bg then decide (x = 99) else cm) = true then w else w ++ [x]) (if bg then decide (x = 99) else cm) false r := rfl
    rw [e2] at h
    split at h
    · rcases List.mem_append.1 h with h | h
      · unfold fl1 at h
        split at h
        · cases h
        · simp at h; subst h; exact ⟨by simp, fun c hc => .inl hc⟩
      · obtain ⟨h1, h2⟩ := rfW_mem r _ _ _ u h
        refine ⟨by simp only [List.length_nil, List.length_cons] at *; omega, fun c hc => ?_⟩
        rcases h2 c hc with h | h
        · cases h
        · exact .inr (by simp [h])
    · obtain ⟨h1, h2⟩ := rfW_mem r _ _ _ u h
      have hw : (if (if bg then decide (x = 99) else cm) = true then w else w ++ [x]).length ≤ w.length + 1 := by
        generalize (if bg then decide (x = 99) else cm) = q
        cases q <;> simp
      refine ⟨by simp only [List.length_cons]; omega, fun c hc => ?_⟩
      rcases h2 c hc with h | h
      · generalize (if bg then decide (x = 99) else cm) = q at h
        cases q
        · rcases List.mem_append.1 h with h | h
          · exact .inl h
          · simp at h; exact .inr (by simp [h])
        · exact .inl h
      · exact .inr (by simp [h])
theorem txtW_mem {s u : List Nat} (h : u ∈ txtW s) : u.length ≤ s.length ∧ ∀ c, c ∈ u → c ∈ s := by
  rw [← rfW_txt] at h
  obtain ⟨h1, h2⟩ := rfW_mem s [] false true u h
  refine ⟨by simpa using h1, fun c hc => ?_⟩
  rcases h2 c hc with h | h
  · cases h
  · exact h
theorem celS_nth {ws : List (List Nat)} {i : Nat} {w : List Nat} (h : ws[i]? = some w) : nth (celS ws) i = some [.s w] := by
  rw [nth_get]; simp [celS, h]
theorem celS_slc2 (w0 w1 : List Nat) (rest : List (List Nat)) : pureX (.slc 1 true false false) [.m (.sl ([.s w0] :: [.s w1] :: celS rest)), .m (.i .i64 2)] = some (.m (.sl (celS rest))) := by
  show some (V.m (.sl ((celS rest).take ((celS rest).length + 1 + 1 - 2)))) = _
  rw [List.take_of_length_le (by omega)]

set_option maxHeartbeats 2000000 in
theorem parse_s (s : List Nat) (hl : s.length ≤ 65536) (hb : ∀ c, c ∈ s → c < 256) (H : Hp) : Gives G 25 [.m (.s s)] H (parseV s) H := by
  refine gives_pur rfl rfl rfl rfl rfl ?_
  have hlS : ¬ (65536 : Int) < s.length := by omega
  have hw := fun H => words_s s (by omega) H
  have hwl := txtW_len s
  have hmem : ∀ w, w ∈ txtW s → w.length ≤ 65536 ∧ ∀ c, c ∈ w → c < 256 := fun w hw => by
    obtain ⟨h1, h2⟩ := txtW_mem hw
    exact ⟨by omega, fun c hc => hb c (h2 c hc)⟩
  have hP : parseV s = if headOk (txtW s) = true then numsV (numsI ((txtW s).drop 2)) else errV 15 := rfl
  rw [hP]; clear hP
  generalize txtW s = ws at *
  by_cases h4 : ws.length < 4
  · have hh : headOk ws = false := by unfold headOk; rw [decide_eq_false (by omega)]; rfl
    have h4' : (ws.length : Int) < 4 := by omega
    have hr := (zS_sl ws).rules
    rw [hh]
    simp [hlS, cl (hw _), hr, h4', errV]
  obtain ⟨w0, t, rfl⟩ := List.exists_cons_of_length_pos (l := ws) (by omega)
  obtain ⟨w1, rest, rfl⟩ := List.exists_cons_of_length_pos (l := t) (by simp only [List.length_cons] at h4; omega)
  simp only [List.length_cons] at h4 hwl
  have h4' : ¬ (rest.length : Int) + 1 + 1 < 4 := by omega
  have hz : zS (w0 :: w1 :: rest) = .sl ([.s w0] :: [.s w1] :: celS rest) := if_neg (by simp)
  have hr := (isSl_sl ([.s w0] :: [.s w1] :: celS rest)).rules
  rw [hz] at hw
  by_cases hh : w0 = [112] ∧ w1 = [99, 110, 102]
  · obtain ⟨rfl, rfl⟩ := hh
    have hh : headOk ([112] :: [99, 110, 102] :: rest) = true := by
      unfold headOk
      rw [decide_eq_true (by simp only [List.length_cons]; omega)]
      simp
    have hslc := celS_slc2 [112] [99, 110, 102] rest
    have hrest : ∀ w, w ∈ rest → w.length ≤ 65536 ∧ ∀ c, c ∈ w → c < 256 := fun w hw => hmem w (by simp [hw])
    rw [hh, if_pos rfl]
    have hr2 := (isSl_sl (celS rest)).rules
    simp (maxSteps := 2000000) (disch := omega) [gd_in, gd_and, wr_i64, hlS, cl (hw _), hr, h4', hslc, hr2]
    clear hw hmem hz hr hslc hh
    refine (?key : ∀ (i : Nat) (acc : List Int) (o : V) (B : List (Nat × List V)) (H' : Hp), i ≤ rest.length → getB B 2 = some [.m (.i .i64 0), .m (.nl 4)] → acc.length = i → NumO acc o H' → numsI rest = (numsI (rest.drop i)).map (fun l => acc ++ l) → Run G c25_B0 (S25_0 (.fa 2 0) o (.m (.sl (celS rest))) (.m (.i .i64 rest.length)) (.m (.i .i64 i)) B H') _) 0 [] (.m (.nl 4)) [(2, [.m (.i .i64 0), .m (.nl 4)])] [] (Nat.zero_le _) rfl rfl (.inl ⟨rfl, rfl, rfl⟩) (by simp)
    refine indM (fun i : Nat => rest.length - i) fun i ih acc o B H' hi hB2 hal ho hq => ?_
    unfold c25_B0
    have hnf : noFaV o = true := by
      rcases ho with ⟨_, rfl, _⟩ | ⟨_, rfl, _⟩ <;> rfl
    cases hx : rest[i]? with
    | some w =>
      have hlt := (get_drop hx).1
      have hn := celS_nth hx
      have hwm := hrest w (List.mem_of_getElem? hx)
      have wi : wr .i64 ((i : Int) + 1) = (i : Int) + 1 := wr_i64 (by omega) (by omega)
      have gn := fun H => number_s w (by omega) hwm.2 H
      rw [(get_drop hx).2] at hq
      have e2 : numsI (w :: rest.drop (i + 1)) = if (numR w).2 = true then (numsI (rest.drop (i + 1))).map fun l => (numR w).1 :: l else none := rfl
      rw [e2] at hq
      have hnI := numI_eq w
      by_cases hok : (numR w).2 = true
      · rw [if_pos hok] at hq hnI
        rw [hnI] at gn
        obtain ⟨o1, H1, ha, hn1, ho1⟩ := numO_push ho (by omega) (numR w).1
        simp [hr2, hlt, hn, cl (gn _), numV, ha, setC_v hn1, wi]
        refine ih (i + 1) (by omega) _ _ _ _ (by omega) (by simpa using hB2) (by simp [hal]) ho1 ?_
        rw [hq, Option.map_map]
        congr 1
        funext l
        simp
      · rw [if_neg hok] at hq hnI
        rw [hnI] at gn
        rw [hq]
        simp [hr2, hlt, hn, cl (gn _), numV, hB2, numsV, errV]
    | none =>
      have : i = rest.length := by have := List.getElem?_eq_none_iff.1 hx; omega
      subst this
      rw [List.drop_length] at hq
      replace hq : numsI rest = some acc := by rw [hq]; simp [numsI]
      have hle := numsI_le rest acc hq
      rw [hq]
      clear hq ih hr2 hrest hx
      obtain ⟨a, t, rfl⟩ := List.exists_cons_of_length_pos (l := acc) (by omega)
      obtain ⟨b, l, rfl⟩ := List.exists_cons_of_length_pos (l := t) (by simp only [List.length_cons] at hal; omega)
      have ha1 := hle a (by simp)
      have hb1 := hle b (by simp)
      have hll : l.length ≤ 65537 := by simp only [List.length_cons] at hal; omega
      rcases ho with ⟨h, _⟩ | ⟨_, rfl, rfl⟩
      · cases h
      have hrr : rowsI (a :: b :: l) = [.m (.i .i64 a)] :: [.m (.i .i64 b)] :: rowsI l := rfl
      have hV : numsV (some (a :: b :: l)) = if a < 0 ∨ b < 0 then errV 15 else if 65536 < a then errV 5 else if l.any (outside a) = true then errV 5 else if 262144 < b then errV 6 else cutV a (cutI b.toNat l []) := rfl
      rw [hV]
      by_cases ha0 : a < 0
      · rw [if_pos (.inl ha0)]
        simp (maxSteps := 2000000) (disch := omega) [gd_in, gd_and, wr_i64, hrr, ha0, hB2, errV]
      by_cases hb0 : b < 0
      · rw [if_pos (.inr hb0)]
        simp (maxSteps := 2000000) (disch := omega) [gd_in, gd_and, wr_i64, hrr, ha0, hb0, hB2, errV]
      rw [if_neg (by omega)]
      by_cases ha6 : 65536 < a
      · rw [if_pos ha6]
        simp (maxSteps := 2000000) (disch := omega) [gd_in, gd_and, wr_i64, hrr, ha0, hb0, ha6, hB2, errV]
      rw [if_neg ha6]
      generalize hres : (if l.any (outside a) = true then errV 5 else if 262144 < b then errV 6 else cutV a (cutI b.toNat l [])) = res
      have hnl : (a :: b :: l).length = l.length + 1 + 1 := rfl
      clear hV hle hal hnf hi hwl h4 h4' hl hb hlS
      simp (maxSteps := 2000000) (disch := omega) [gd_in, gd_and, wr_i64, hrr, ha0, hb0, ha6, hB2]
      refine (?key2 : ∀ (j : Nat) (B : List (Nat × List V)), j ≤ l.length → getB B 2 = some [.m (.i .i64 0), .m (.nl 4)] → l.any (outside a) = (l.drop j).any (outside a) → Run G c25_B1 (S25_1 (.fa 2 0) (.sl 0 (l.length + 1 + 1) 1 2 l.length false) (.m (.i .i64 a)) (.m (.i .i64 b)) (.sl 0 (l.length + 1 + 1) 1 2 l.length false) (.m (.i .i64 l.length)) (.m (.i .i64 j)) B [.cs 3 1 ([.m (.i .i64 a)] :: [.m (.i .i64 b)] :: rowsI l) 0 false]) _) 0 B (Nat.zero_le _) hB2 rfl
      clear hB2 B
      refine indM (fun j : Nat => l.length - j) fun j ihj B hj hB2 hjq => ?_
      unfold c25_B1
      cases hxj : l[j]? with
      | some x =>
        have hltj := (get_drop hxj).1
        have hnj : nth ([V.m (.i .i64 a)] :: [.m (.i .i64 b)] :: rowsI l) (2 + j) = some [.m (.i .i64 x)] := by
          rw [nth_get, show 2 + j = j + 1 + 1 by omega]
          simp [rowsI, hxj]
        have wj : wr .i64 ((j : Int) + 1) = (j : Int) + 1 := wr_i64 (by omega) (by omega)
        have wa : wr .i64 (-a) = -a := wr_i64 (by omega) (by omega)
        rw [(get_drop hxj).2, List.any_cons] at hjq
        by_cases h1 : a < x
        · have ho : outside a x = true := by unfold outside; rw [decide_eq_true h1]; rfl
          rw [ho, Bool.true_or] at hjq
          rw [hjq, if_pos rfl] at hres
          simp (maxSteps := 2000000) (disch := omega) [gd_in, gd_and, wr_i64, hltj, hnj, h1, hB2, ← hres, errV]
        · by_cases h2 : x < -a
          · have ho : outside a x = true := by unfold outside; rw [decide_eq_true h2, Bool.or_true]
            rw [ho, Bool.true_or] at hjq
            rw [hjq, if_pos rfl] at hres
            simp (maxSteps := 2000000) (disch := omega) [gd_in, gd_and, wr_i64, hltj, hnj, h1, h2, wa, hB2, ← hres, errV]
          · have ho : outside a x = false := by unfold outside; rw [decide_eq_false h1, decide_eq_false h2]; rfl
            rw [ho, Bool.false_or] at hjq
            simp (maxSteps := 2000000) (disch := omega) [gd_in, gd_and, wr_i64, hltj, hnj, h1, h2, wa, wj]
            exact ihj (j + 1) (by omega) _ (by omega) (by simpa using hB2) hjq
      | none =>
        have : j = l.length := by have := List.getElem?_eq_none_iff.1 hxj; omega
        subst this
        rw [List.drop_length] at hjq
        replace hjq : l.any (outside a) = false := hjq
        rw [hjq, if_neg (by simp)] at hres
        clear hxj ihj hjq
        by_cases hb6 : 262144 < b
        · rw [if_pos hb6] at hres
          simp (maxSteps := 2000000) (disch := omega) [gd_in, gd_and, wr_i64, hb6, hB2, ← hres, errV]
        rw [if_neg hb6] at hres
        have hbn : ((b.toNat : Nat) : Int) = b := by omega
        simp (maxSteps := 2000000) (disch := omega) [gd_in, gd_and, wr_i64, hb6]
        refine (?key3 : ∀ (i st : Nat) (cls : List (List Int)) (o : V) (B : List (Nat × List V)) (H' : Hp), i ≤ b.toNat → st ≤ l.length + 1 + 1 → getB B 2 = some [.m (.i .i64 0), .m (.nl 4)] → getB B 14 = some [.m (.i .i64 a), o] → nth H' 0 = some (.cs 3 1 (rowsI (a :: b :: l)) 0 false) → OutC cls o H' [0] → cutI b.toNat l [] = cutI (b.toNat - i) ((a :: b :: l).drop st) cls → cls.length = i →
          Run G c25_B2 (S25_2 (.fa 2 0) (.sl 0 (l.length + 1 + 1) 1 st (l.length + 1 + 1 - st) false) (.fa 14 0) (.m (.i .i64 b)) (.m (.i .i64 i)) B H') _) 0 2 [] (.m (.nl 4)) _ _ (Nat.zero_le _) (by omega) (by simpa using hB2) (by simp) rfl (.inl ⟨rfl, rfl⟩) rfl rfl
        clear hB2 B
        refine indM (fun i : Nat => b.toNat - i) fun i ihi st cls o B H' hi hst hB2 hB14 hrow ho hcq hcl => ?_
        unfold c25_B2
        have hH0 := nl_lt hrow
        have hdl : ((a :: b :: l).drop st).length = l.length + 1 + 1 - st := by rw [List.length_drop, hnl]
        have htk : ((a :: b :: l).drop st).take (l.length + 1 + 1 - st) = (a :: b :: l).drop st := List.take_of_length_le (by omega)
        by_cases hib : i < b.toNat
        · have hib' : (i : Int) < b := by omega
          have gi := fun B' : Nat => ixs_row (st := st) (ver := l.length + 1 + 1) (len := l.length + 1 + 1 - st) (lim := false) hrow (Nat.zero_le _) (by omega)
          rw [htk, ixz_brk] at gi
          have e2 : b.toNat - i = (b.toNat - (i + 1)) + 1 := by omega
          rw [e2] at hcq
          have e3 : cutI (b.toNat - (i + 1) + 1) ((a :: b :: l).drop st) cls = match brk ((a :: b :: l).drop st) with | none => (4, []) | some p => cutI (b.toNat - (i + 1)) p.2 (cls ++ [p.1]) := rfl
          rw [e3] at hcq
          have wi : wr .i64 ((i : Int) + 1) = (i : Int) + 1 := wr_i64 (by omega) (by omega)
          cases hbr : brk ((a :: b :: l).drop st) with
          | none =>
            rw [hbr] at gi hcq
            have hcv : cutV a (cutI b.toNat l []) = errV 4 := by rw [hcq]; rfl
            rw [hcv] at hres
            simp (maxSteps := 2000000) (disch := omega) [gd_in, gd_and, wr_i64, hib', cl (gi 0), hB2, ← hres, errV]
          | some p =>
            obtain ⟨c, r⟩ := p
            rw [hbr] at gi hcq
            simp only [Nat.zero_add] at gi hcq
            obtain ⟨hb1', hb2'⟩ := brk_some _ _ _ hbr
            have hlc : c.length + 1 + r.length = l.length + 1 + 1 - st := by
              have := congrArg List.length hb1'
              rw [hdl] at this
              simp only [List.length_append, List.length_cons] at this
              omega
            have htc : ((a :: b :: l).drop st).take c.length = c := by rw [hb1']; simp
            have hdr : (a :: b :: l).drop (st + (c.length + 1)) = r := by
              rw [← List.drop_drop, hb1', show c ++ 0 :: r = (c ++ [0]) ++ r by simp, show c.length + 1 = (c ++ [0]).length by simp, List.drop_left]
            have hc0 : ¬ ((c.length : Nat) : Int) < 0 := by omega
            have wc : wr .i64 ((c.length : Int) + 1) = (c.length : Int) + 1 := wr_i64 (by omega) (by omega)
            obtain ⟨oc, H1, gc, k1, k2, k3⟩ := clone_row (ver := l.length + 1 + 1) (st := st) (len := c.length) (lim := false) hrow (Nat.zero_le _) (by omega)
            rw [htc] at k1
            have k1 := k1 [0] (by simp; omega)
            obtain ⟨H2, q1, q2, q3, q4⟩ := bsf_clo k1
            have ho1 := q4 cls o [0] (ho.keep k3)
            obtain ⟨o2, H3, j1, j2, j3, j4, j5⟩ := outC_push ho1 (by simp; omega) (by omega) c
            obtain ⟨n1, n2, n3, n4⟩ := j2.nf
            have hsub : l.length + 1 + 1 - st - (c.length + 1) = l.length + 1 + 1 - (st + (c.length + 1)) := by omega
            simp (maxSteps := 2000000) (disch := omega) [gd_in, gd_and, wr_i64, hib', cl (gi 0), hc0, hB14, cl gc, q1, j1, n2, n3, wc, wi, hsub]
            refine ihi (i + 1) (by omega) _ _ _ _ _ (by omega) (by omega) (by simpa using hB2) (by simp) ?_ j2 (by rw [hcq, hdr]) (by simp [hcl])
            rw [j4 0 (by simp), q3 0 (by simp), k3 0 hH0]
            exact hrow
        · have hib' : ¬ (i : Int) < b := by omega
          rw [show b.toNat - i = 0 by omega] at hcq
          have e3 : cutI 0 ((a :: b :: l).drop st) cls = if (a :: b :: l).drop st = [] then (0, cls) else (3, []) := rfl
          rw [e3] at hcq
          by_cases hn : l.length + 1 + 1 - st = 0
          · have he : (a :: b :: l).drop st = [] := List.eq_nil_of_length_eq_zero (by omega)
            rw [if_pos he] at hcq
            have hcv : cutV a (cutI b.toNat l []) = frmV a cls := by rw [hcq]; rfl
            rw [hcv] at hres
            have hv := viewC ho 17
            rcases ho with ⟨rfl, rfl⟩ | ⟨hne, ro, hro, rfl, h3⟩
            · simp (maxSteps := 2000000) (disch := omega) [gd_in, gd_and, wr_i64, hib', hn, hB2, hB14, ← hres, frmV, zC]
            · simp (maxSteps := 2000000) (disch := omega) [gd_in, gd_and, wr_i64, hib', hn, hB2, hB14, ← hres, frmV, hv]
          · have he : ¬ (a :: b :: l).drop st = [] := fun h => by rw [h] at hdl; simp at hdl; omega
            rw [if_neg he] at hcq
            have hcv : cutV a (cutI b.toNat l []) = errV 3 := by rw [hcq]; rfl
            rw [hcv] at hres
            have hn' : 0 < l.length + 1 + 1 - st := by omega
            have hn2 : (0 : Int) < ((l.length + 1 + 1 - st : Nat) : Int) := by omega
            simp (maxSteps := 2000000) (disch := omega) [gd_in, gd_and, wr_i64, hib', hn', hn2, hB2, ← hres, errV]
  · have hh' : headOk (w0 :: w1 :: rest) = false := by
      unfold headOk
      have : decide ((w0 :: w1 :: rest).take 2 = [[112], [99, 110, 102]]) = false := decide_eq_false fun h => hh (by simpa using h)
      rw [this, Bool.and_false]
    rw [hh']
    by_cases h0 : w0 = [112]
    · have h1 : ¬ w1 = [99, 110, 102] := fun h => hh ⟨h0, h⟩
      simp (maxSteps := 2000000) (disch := omega) [gd_in, gd_and, wr_i64, hlS, cl (hw _), hr, h4', h0, h1, errV]
    · simp (maxSteps := 2000000) (disch := omega) [gd_in, gd_and, wr_i64, hlS, cl (hw _), hr, h4', h0, errV]
end Go.Mx.Tryz
