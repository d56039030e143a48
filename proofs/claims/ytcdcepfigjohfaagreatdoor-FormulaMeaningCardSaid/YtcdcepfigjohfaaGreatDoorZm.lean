/- The law FormulaMeaning. -/
import Derived.Test.YtcdcepfigjohfaaGreatDoorZk
import Derived.Test.YtcdcepfigjohfaaGreatDoorFu
set_option linter.unusedSimpArgs false
set_option linter.unusedVariables false
set_option linter.unusedSectionVars false
set_option maxRecDepth 100000
namespace Go.Mx.Tryz

def hol (vs : List Bool) (c : List Int) : Bool := c.all fun x => lit vs.length x && lit1 vs x
theorem hol_iff {vs : List Bool} {c : List Int} : hol vs c = true ↔ ∀ x, x ∈ c → lit vs.length x = true ∧ lit1 vs x = true := by simp [hol]
theorem lit_neg {n x : Int} (h : lit n x = true) : lit n (-x) = true := by
 unfold lit at h ⊢
 simp only [decide_eq_true_eq] at h ⊢
 omega
theorem lit1_neg {vs : List Bool} {x : Int} (h : lit vs.length x = true) : lit1 vs (-x) = !lit1 vs x := by
 obtain ⟨b, h1, h2⟩ := lit_place h
 obtain ⟨b', k1, k2⟩ := lit_place (lit_neg h)
 have h0 : x ≠ 0 := by
  unfold lit at h
  simp only [decide_eq_true_eq] at h
  exact h.1
 have e : (if -x < 0 then - -x else -x) = if x < 0 then -x else x := by
  by_cases hx : x < 0
  ·rw [if_pos hx, if_neg (by omega)]
  ·rw [if_neg hx, if_pos (by omega)]
   omega
 rw [e, h1] at k1
 cases k1
 rw [h2, k2]
 have e2 : decide (0 < -x) = !decide (0 < x) := by
  rw [Bool.eq_iff_iff]
  simp only [decide_eq_true_eq, Bool.not_eq_true', decide_eq_false_iff_not]
  omega
 rw [e2]
 cases b <;> cases decide (0 < x) <;> rfl
theorem evF_iff {vs : List Bool} {c : List Int} : evF1 vs c = true ↔ ∃ x, x ∈ c ∧ lit1 vs x = true := by simp [evF1]
theorem lits_iff {n : Int} {c : List Int} : lits n c = true ↔ ∀ x, x ∈ c → lit n x = true := by simp [lits]
theorem evalB_map (zs : List I) (vs : List Bool) : evalB zs vs = (zs.map dI).all (evF1 vs) := by
 unfold evalB
 rw [List.all_map]
 rfl
theorem srt_ev {vs : List Bool} {D : List (List Int)} (h : ∀ c, c ∈ D → lits vs.length c = true) : (srtC D).all (evF1 vs) = D.all (evF1 vs) := by
 rw [Bool.eq_iff_iff, List.all_eq_true, List.all_eq_true]
 constructor
 ·intro k c hc
  cases ho : opp (nrm c) with
  | true =>
   obtain ⟨x, h1, h2⟩ := opp_iff.1 ho
   rw [mem_nrm] at h1 h2
   have hl := lits_iff.1 (h c hc) x h1
   have hn := lit1_neg hl
   refine evF_iff.2 ?_
   cases e : lit1 vs x with
   | true => exact ⟨x, h1, e⟩
   | false =>
    rw [e] at hn
    exact ⟨-x, h2, hn⟩
  | false =>
   obtain ⟨x, h1, h2⟩ := evF_iff.1 (k (nrm c) (mem_srtC.2 ⟨⟨c, hc, rfl⟩, ho⟩))
   exact evF_iff.2 ⟨x, mem_nrm.1 h1, h2⟩
 ·intro k d hd
  obtain ⟨⟨c, hc, rfl⟩, _⟩ := mem_srtC.1 hd
  obtain ⟨x, h1, h2⟩ := evF_iff.1 (k c hc)
  exact evF_iff.2 ⟨x, mem_nrm.2 h1, h2⟩
theorem mem_asm {l d : List Int} {D : List (List Int)} : d ∈ asm l D ↔ ∃ c, c ∈ D ∧ sat l c = false ∧ rst l c = d := by
 simp only [asm, List.mem_map, List.mem_filter, Bool.not_eq_true', and_assoc]
theorem asm_ev {vs : List Bool} {l : List Int} {D : List (List Int)} (hl : hol vs l = true) : (asm l D).all (evF1 vs) = D.all (evF1 vs) := by
 have hl := hol_iff.1 hl
 rw [Bool.eq_iff_iff, List.all_eq_true, List.all_eq_true]
 constructor
 ·intro k c hc
  cases hs : sat l c with
  | true =>
   obtain ⟨x, h1, h2⟩ := sat_iff.1 hs
   exact evF_iff.2 ⟨x, h1, (hl x h2).2⟩
  | false =>
   obtain ⟨x, h1, h2⟩ := evF_iff.1 (k _ (mem_asm.2 ⟨c, hc, hs, rfl⟩))
   exact evF_iff.2 ⟨x, rst_mem h1, h2⟩
 ·intro k d hd
  obtain ⟨c, hc, _, rfl⟩ := mem_asm.1 hd
  obtain ⟨x, h1, h2⟩ := evF_iff.1 (k c hc)
  refine evF_iff.2 ⟨x, mem_rst.2 ⟨h1, fun h3 => ?_⟩, h2⟩
  obtain ⟨h4, h5⟩ := hl _ h3
  have := lit1_neg h4
  rw [Int.neg_neg, h2, h5] at this
  cases this
theorem uc_true {vs : List Bool} {l : List Int} {D : List (List Int)} (hl : hol vs l = true) (hD : ∀ c, c ∈ D → lits vs.length c = true) (he : D.all (evF1 vs) = true) {x : Int} (h : UC D l x) : lit vs.length x = true ∧ lit1 vs x = true := by
 have hl := hol_iff.1 hl
 rw [List.all_eq_true] at he
 induction h with
 | base h => exact hl _ h
 | @unit c x hc hx _ ih =>
  obtain ⟨z, h1, h2⟩ := evF_iff.1 (he c hc)
  refine ⟨lits_iff.1 (hD c hc) x hx, ?_⟩
  by_cases e : z = x
  ·rw [← e]; exact h2
  ·obtain ⟨h3, h4⟩ := ih z h1 e
   have := lit1_neg h3
   rw [Int.neg_neg, h2, h4] at this
   cases this
theorem not_conf {vs : List Bool} {l : List Int} {D : List (List Int)} (hl : hol vs l = true) (hD : ∀ c, c ∈ D → lits vs.length c = true) (he : D.all (evF1 vs) = true) : ¬ Conf D l := by
 rintro (h | ⟨c, hc, h⟩)
 ·obtain ⟨x, h1, h2⟩ := opp_iff.1 h
  obtain ⟨h3, h4⟩ := hol_iff.1 hl x h1
  have := lit1_neg h3
  rw [(hol_iff.1 hl _ h2).2, h4] at this
  cases this
 ·obtain ⟨x, h1, h2⟩ := evF_iff.1 (List.all_eq_true.1 he c hc)
  obtain ⟨h3, h4⟩ := uc_true hl hD he (h x h1)
  have := lit1_neg h3
  rw [Int.neg_neg, h2, h4] at this
  cases this
theorem hol_opp {vs : List Bool} {l : List Int} (hl : hol vs l = true) : opp l = false := by
 cases h : opp l with
 | false => rfl
 | true =>
  obtain ⟨x, h1, h2⟩ := opp_iff.1 h
  obtain ⟨h3, h4⟩ := hol_iff.1 hl x h1
  have := lit1_neg h3
  rw [(hol_iff.1 hl _ h2).2, h4] at this
  cases this
theorem frm_asm {n : Int} {l : List Int} {zs ys : List I} (h : frm n zs = true) (e : ys.map dI = asm l (zs.map dI)) : frm n ys = true := by
 have hlen : ys.length ≤ zs.length := by
  have e1 := congrArg List.length e
  have e2 := asm_len l (zs.map dI)
  rw [List.length_map] at e1 e2
  omega
 obtain ⟨_, h2⟩ := frm_lits h
 unfold frm at h ⊢
 simp only [Bool.and_eq_true, decide_eq_true_eq, List.all_eq_true] at h ⊢
 refine ⟨⟨h.1.1, h.1.2.1, by omega⟩, fun y hy => ?_⟩
 have hm : dI y ∈ asm l (zs.map dI) := by rw [← e]; exact List.mem_map.2 ⟨y, hy, rfl⟩
 obtain ⟨c, hc, _, hr⟩ := mem_asm.1 hm
 obtain ⟨z, hz, rfl⟩ := List.mem_map.1 hc
 rw [← hr]
 exact lits_mem (h2 z hz) fun x hx => rst_mem hx
theorem frm_ext2 {n : Int} {zs ys : List I} (h : zs.map dI = ys.map dI) : frm n zs = frm n ys := by
 have hl : zs.length = ys.length := by
  have := congrArg List.length h
  simpa using this
 have ha : ∀ l : List I, (l.all fun z => lits n (dI z)) = (l.map dI).all (lits n) := fun l => by
  rw [List.all_map]
  rfl
 unfold frm
 rw [ha, ha, h, hl]

set_option maxHeartbeats 1000000 in
theorem holds_s {v z : I} {vs : List Bool} {c : List Int} (hv : IsSl v (celB vs)) (hl : vs.length ≤ 65536) (hz : IsSl z (celI c)) (hc : c.length ≤ 9223372036854775807) (hR : ∀ x, x ∈ c → -9223372036854775808 ≤ x ∧ x ≤ 9223372036854775807) (H : Hp) : Gives G 27 [.m z, .m v] H (.m (.b (hol vs c))) H := by
 refine gives_pur rfl rfl rfl rfl rfl ?_
 have hr := hz.rules
 simp only [celI_len] at hr
 have hrv := hv.rules
 simp only [celB_len] at hrv
 simp (maxSteps := 2000000) (disch := omega) [gd_in, gd_and, wr_i64, hr]
 refine (?key : ∀ (i : Nat) (B : List (Nat × List V)), i ≤ c.length → hol vs c = hol vs (c.drop i) → Run G c27_B0 (S27_0 (.m z) (.m v) (.m (.i .i64 (c.length : Int))) (.m (.i .i64 (i : Int))) B []) _) 0 [] (Nat.zero_le _) rfl
 refine indM (fun i : Nat => c.length - i) fun i ih B hi hq => ?_
 unfold c27_B0
 cases hx : c[i]? with
 | none =>
  have : i = c.length := by have := List.getElem?_eq_none_iff.1 hx; omega
  subst this
  have e : hol vs c = true := by rw [hq]; simp [hol]
  simp (maxSteps := 2000000) (disch := omega) [gd_in, gd_and, wr_i64, hr, e]
 | some x =>
  have hlt := (List.getElem?_eq_some_iff.1 hx).1
  have hlt' : (i : Int) < c.length := by omega
  have hn := celI_nth hx
  have wi : wr .i64 ((i : Int) + 1) = ((i + 1 : Nat) : Int) := wr_i64 (by omega) (by omega)
  have hxR := hR x (List.mem_of_getElem? hx)
  have hq2 : hol vs c = ((lit vs.length x && lit1 vs x) && hol vs (c.drop (i + 1))) := by
   rw [hq, (get_drop hx).2]
   rfl
  cases hlx : lit vs.length x with
  | true =>
   obtain ⟨m, b, m1, m2, m3, m4, m5, m6⟩ := lit_m hl hlx
   have w1 : wr .i64 ((m : Int) + 1 - 1) = (m : Int) := by rw [wr_i64 (by omega) (by omega)]; omega
   have l1 : ¬ ((m : Int) + 1 < 1) := by omega
   have l2 : ¬ ((vs.length : Int) < (m : Int) + 1) := by omega
   have l3 : (m : Int) < vs.length := by omega
   rw [hlx, m6, Bool.true_and] at hq2
   cases hb : (b == decide (0 < x)) with
   | true =>
    rw [hb] at hq2
    have k := ih (i + 1) (by omega) B (by omega) hq2
    have hb2 : b = decide (0 < x) := by simpa using hb
    simp (maxSteps := 2000000) (disch := omega) [gd_in, gd_and, wr_i64, gcall_cx, hr, hrv, hlt, hlt', hn, m1, m2, m3, m4, w1, l1, l2, l3, hb2, wi, -Int.natCast_add]
    exact k
   | false =>
    rw [hb] at hq2
    have e : hol vs c = false := hq2
    have hb2 : b = !decide (0 < x) := by
     revert hb
     cases b <;> cases decide (0 < x) <;> simp
    simp (maxSteps := 2000000) (disch := omega) [gd_in, gd_and, wr_i64, gcall_cx, hr, hrv, hlt, hlt', hn, m1, m2, m3, m4, w1, l1, l2, l3, hb2, e, -Int.natCast_add]
  | false =>
   have e : hol vs c = false := by rw [hq2, hlx]; rfl
   obtain ⟨u, hu, hu2⟩ : ∃ u : Int, wr .i64 (-x) = u ∧ (max x u < 1 ∨ (vs.length : Int) < max x u) := by
    unfold lit at hlx
    simp only [decide_eq_false_iff_not] at hlx
    by_cases hmin : x = -9223372036854775808
    ·subst hmin
     exact ⟨-9223372036854775808, rfl, .inl (by omega)⟩
    ·exact ⟨-x, wr_i64 (by omega) (by omega), by omega⟩
   by_cases h1 : max x u < 1
   ·simp (maxSteps := 2000000) (disch := omega) [gd_in, gd_and, wr_i64, gcall_cx, hr, hrv, hlt, hlt', hn, hu, h1, e, -Int.natCast_add]
   ·have h2 := hu2.resolve_left h1
    simp (maxSteps := 2000000) (disch := omega) [gd_in, gd_and, wr_i64, gcall_cx, hr, hrv, hlt, hlt', hn, hu, h1, h2, e, -Int.natCast_add]
end Go.Mx.Tryz
namespace Go.Mx.Tryz

theorem fit_intR {B n : Nat} {l : List I} (h : Fits Go.Proofs.Tryz.prog B (n + 1) 3 l) : ∃ x : Int, l = [.i .i64 x] ∧ -9223372036854775808 ≤ x ∧ x ≤ 9223372036854775807 := by
 unfold Fits at h
 rw [Go.Proofs.Tryz.underlying3] at h
 simp only at h
 obtain ⟨x, rfl, h1, h2⟩ := h
 exact ⟨x, rfl, h1, h2⟩
theorem arg_intsR {B n : Nat} {ts : List TypeId} {us : List V} (h : ArgsOk Go.Proofs.Tryz.prog B (n + 2) (35 :: ts) us) :
  ∃ (y : I) (c : List Int) (r : List V), us = .m y :: r ∧ IsSl y (celI c) ∧ c.length ≤ B ∧ (∀ x, x ∈ c → -9223372036854775808 ≤ x ∧ x ≤ 9223372036854775807) ∧ ArgsOk Go.Proofs.Tryz.prog B (n + 2) ts r := by
 obtain ⟨l, r, rfl, hl, h'⟩ := argsOk_cons h
 obtain ⟨z, rfl, hz, hle⟩ := fit_ints hl
 rw [argV_one aggIs]
 refine ⟨z, dI z, r, rfl, hz, hle, fun x hx => ?_, h'⟩
 unfold Fits at hl
 rw [Go.Proofs.Tryz.underlying35] at hl
 simp only at hl
 rcases hl with e | ⟨es, e, _, hes⟩
 ·cases e
  cases hx
 ·cases e
  have hx : x ∈ es.map dE := hx
  obtain ⟨u, hu, rfl⟩ := List.mem_map.1 hx
  obtain ⟨w, rfl, h1, h2⟩ := fit_intR (hes u hu)
  exact ⟨h1, h2⟩
theorem eval_ok {v z : I} {vs : List Bool} {zs : List I} (hv : IsSl v (celB vs)) (hz : IsSl z (ones zs)) (hc : Cls zs) (hl : zs.length ≤ 9223372036854775807) (hl' : vs.length ≤ 9223372036854775807) (hf : frm vs.length zs = true) {b : Bool} (hb : (zs.map dI).all (evF1 vs) = b) (H : Hp) :
  Gives G 11 [.m (.ag [.i .i64 vs.length, z]), .m v] H (.tu [.m (.b b), .m (.i .i64 0)]) H := by
 have h := eval_s hv hz hc hl hl' vs.length H
 unfold evalV at h
 rw [if_pos ⟨hf, rfl⟩, evalB_map, hb] at h
 exact h

set_option maxHeartbeats 4000000 in
theorem law_meaning (hA : Gives G 10 [] [] (.m (.b true)) []) {z v y : I} {vs : List Bool} {zs : List I} {l : List Int} (hz : IsSl z (ones zs)) (hc : Cls zs) (hlz : zs.length ≤ 9223372036854775807) (hv : IsSl v (celB vs)) (hlv : vs.length ≤ 9223372036854775807) (hy : IsSl y (celI l)) (hly : l.length ≤ 9223372036854775807) (hR : ∀ x, x ∈ l → -9223372036854775808 ≤ x ∧ x ≤ 9223372036854775807) (n : Int) :
  Gives G 8 [.m (.ag [.i .i64 n, z]), .m v, .m y] [] (.m (.b true)) [] := by
 have gA : ∀ H, Gives G 10 [] H (.m (.b true)) H := fun H => gives_immZ (is := []) rfl rfl hA H
 have hry := hy.rules
 simp only [celI_len] at hry
 have hrv := hv.rules
 simp only [celB_len] at hrv
 refine gives_pur rfl rfl rfl rfl rfl ?_
 have g0 := fun H => few_s hz hc hlz n H
 by_cases hf : (decide (zs.length ≤ 60) && zs.all fun z => decide ((dI z).length ≤ 30)) = true
 ·rw [hf] at g0
  simp only [Bool.and_eq_true, decide_eq_true_eq, List.all_eq_true] at hf
  by_cases hl5 : vs.length ≤ 5000
  ·have hl5' : ¬ (5000 : Int) < (vs.length : Int) := by omega
   by_cases hl : l.length ≤ 30
   ·have hl' : ¬ (30 : Int) < (l.length : Int) := by omega
    by_cases hfn : frm n zs = true ∧ (vs.length : Int) = n
    ·obtain ⟨hfr, rfl⟩ := hfn
     obtain ⟨hn65, hlits⟩ := frm_lits hfr
     have hD : ∀ c, c ∈ zs.map dI → lits vs.length c = true := fun c hc' => by
      obtain ⟨u, hu, rfl⟩ := List.mem_map.1 hc'
      exact hlits u hu
     obtain ⟨a, ha⟩ : ∃ a, (zs.map dI).all (evF1 vs) = a := ⟨_, rfl⟩
     have e1 := fun H => eval_ok hv hz hc hlz hlv hfr ha H
     obtain ⟨v1, a1, b1⟩ := sort_s hz hc hf.1 hf.2 (n := vs.length) []
     have a1 := fun H => gives_imm1 rfl rfl a1 H
     unfold SortQ at b1
     rw [hfr] at b1
     simp only [if_true] at b1
     obtain ⟨z1, zs1, rfl, p1, p2, p3⟩ := b1
     have hf1 : frm vs.length zs1 = true := by
      rw [frm_ext2 (ys := zcl (srtC (zs.map dI))) (by rw [p3, dI_zcl])]
      exact frm_srtC hfr
     have hl1 : zs1.length ≤ 60 := by
      have h1 := congrArg List.length p3
      have h2 := srtC_len (zs.map dI)
      rw [List.length_map] at h1 h2
      omega
     have e2 := fun H => eval_ok hv p1 p2 (by omega) hlv hf1 (b := a) (by rw [p3, srt_ev hD]; exact ha) H
     have gh := fun H => holds_s hv (by omega) hy (by omega) hR H
     cases hh : hol vs l with
     | false =>
      rw [hh] at gh
      simp (maxSteps := 2000000) (disch := omega) [gd_in, gd_and, wr_i64, gcall_cx, slCells hz, slOn hz, hry, hrv, hl5', hl', cl (g0 _), cl (e1 _), cl (a1 _), slCells p1, slOn p1, cl (e2 _), cl (gh _), cl (gA _)]
     | true =>
      rw [hh] at gh
      have hll : lits vs.length l = true := lits_iff.2 fun x hx => (hol_iff.1 hh x hx).1
      have hop := hol_opp hh
      obtain ⟨v2, a2, b2⟩ := assume_s hz hc hy hl hf.1 hf.2 (n := vs.length) []
      have a2 := fun H => gives_imm2 rfl rfl a2 H
      unfold AsmQ at b2
      rw [hfr, hll, hop, if_pos (by rfl)] at b2
      obtain ⟨z2, zs2, rfl, q1, q2, q3⟩ := b2
      have hl2 : zs2.length ≤ 60 := by
       have h1 := congrArg List.length q3
       have h2 := asm_len l (zs.map dI)
       rw [List.length_map] at h1 h2
       omega
      have e3 := fun H => eval_ok hv q1 q2 (by omega) hlv (frm_asm hfr q3) (b := a) (by rw [q3, asm_ev hh]; exact ha) H
      obtain ⟨v3, H3, a3, b3⟩ := units_s hz hc hy hl hf.1 hf.2 (n := vs.length)
      unfold UniS at b3
      rw [hfr, hll, if_pos (by rfl)] at b3
      have hfl := flat_len (C := zs.map dI) fun c hc' => by
       obtain ⟨u, hu, rfl⟩ := List.mem_map.1 hc'
       exact hf.2 u hu
      rw [List.length_map] at hfl
      cases a with
      | false =>
       obtain ⟨o, b, hv3, hnf⟩ : ∃ o b, v3 = .tu [o, .m (.b b), .m (.i .i64 0)] ∧ noFaV o = true := by
        rcases b3 with ⟨_, rfl⟩ | ⟨q, o, _, rfl, h2⟩
        ·exact ⟨_, _, rfl, rfl⟩
        ·exact ⟨_, _, rfl, h2.nf.1⟩
       subst hv3
       simp (maxSteps := 2000000) (disch := omega) [gd_in, gd_and, wr_i64, gcall_cx, slCells hz, slOn hz, hry, hrv, hl5', hl', cl (g0 _), cl (e1 _), cl (a1 _), slCells p1, slOn p1, cl (e2 _), cl (gh _), cl (a2 _), slCells q1, slOn q1, cl (e3 _), cl a3, setC_v hnf, cl (gA _)]
      | true =>
       rcases b3 with ⟨h1, _⟩ | ⟨q, o, h1, rfl, h2⟩
       ·exact absurd h1 (not_conf hh hD ha)
       ·have hnf := h2.nf.1
        have hq : hol vs q = true := hol_iff.2 fun x hx => uc_true hh hD ha ((h1.2.2 x).1 hx).1
        have gq := h2.call (F := 27) (ys := [v]) (v := .m (.b true)) (H0 := []) rfl rfl (fun w hw => by
         rw [on1_iI] at hw
         have := holds_s hv (by omega) hw (by have := h1.len; omega) (fun x hx => by
          have := (hol_iff.1 hq x hx).1
          unfold lit at this
          simp only [decide_eq_true_eq] at this
          omega) []
         rwa [hq] at this) rfl
        simp only [List.map_cons, List.map_nil] at gq
        simp (maxSteps := 2000000) (disch := omega) [gd_in, gd_and, wr_i64, gcall_cx, slCells hz, slOn hz, hry, hrv, hl5', hl', cl (g0 _), cl (e1 _), cl (a1 _), slCells p1, slOn p1, cl (e2 _), cl (gh _), cl (a2 _), slCells q1, slOn q1, cl (e3 _), cl a3, setC_v hnf, cl gq, cl (gA _)]
    ·have ev : ∀ H, Gives G 11 [.m (.ag [.i .i64 n, z]), .m v] H (.tu [.m (.b false), .m (.i .i64 2)]) H := fun H => by
      have := eval_s hv hz hc hlz hlv n H
      unfold evalV at this
      rwa [if_neg hfn] at this
     simp (maxSteps := 2000000) (disch := omega) [gd_in, gd_and, wr_i64, gcall_cx, slCells hz, slOn hz, hry, hrv, hl5', hl', cl (g0 _), cl (ev _), cl (gA _)]
   ·have hl' : (30 : Int) < (l.length : Int) := by omega
    simp (maxSteps := 2000000) (disch := omega) [gd_in, gd_and, wr_i64, gcall_cx, slCells hz, slOn hz, hry, hrv, hl5', hl', cl (g0 _), cl (gA _)]
  ·have hl5' : (5000 : Int) < (vs.length : Int) := by omega
   simp (maxSteps := 2000000) (disch := omega) [gd_in, gd_and, wr_i64, gcall_cx, slCells hz, slOn hz, hry, hrv, hl5', cl (g0 _), cl (gA _)]
 ·rw [Bool.not_eq_true] at hf
  rw [hf] at g0
  simp (maxSteps := 2000000) (disch := omega) [gd_in, gd_and, wr_i64, gcall_cx, slCells hz, slOn hz, cl (g0 _), cl (gA _)]
theorem formula_meaning (us : List V) (h : ArgsOk Go.Proofs.Tryz.prog maxLen 8 Go.Proofs.Tryz.f8.params.toList us) : Gives G 8 us [] (.m (.b true)) [] := by
 have e : Go.Proofs.Tryz.f8.params.toList = [24, 25, 35] := by rw [Go.Proofs.Tryz.params8]
 have h := e ▸ h
 have hm : maxLen ≤ 9223372036854775807 := by decide
 obtain ⟨n, z, zs, _, rfl, hz, hc, hl, h1⟩ := arg_frm hm h
 obtain ⟨v, vs, _, rfl, hv, hlv, h2⟩ := arg_bools h1
 obtain ⟨y, l, _, rfl, hy, hl', hR, h3⟩ := arg_intsR h2
 have := argsOk_nil h3
 subst this
 exact law_meaning gives_awake hz hc (by omega) hv (by omega) hy (by omega) hR n
end Go.Mx.Tryz
