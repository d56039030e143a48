/- StatsBalance: the law. -/
import Derived.Test.YtjkepihkilnjiaaDoorTh
import Derived.Test.YtjkepihkilnjiaaDoorTi
set_option linter.unusedSimpArgs false
set_option linter.unusedVariables false
set_option linter.unusedSectionVars false
set_option maxRecDepth 100000
namespace Go.Mx.Tryd
open Go.Lib Go.Proofs

theorem few_t {t : TreeC} {h n v : I} {es : List (List I)} {p : List Ce} (hT : TreeV t h n es) (hv : IsSl v (cells3 p)) (H : Hp) : Gives G 20 [.m (.ag [.i .i64 t.states, h, n]), .m v] H (.m (.b (fewB t && decide ((p.length : Int) ≤ 60)))) H := by
 have g1 := fun H => fewT_l hT H
 have hr := hv.rules
 simp only [show (cells3 p).length = p.length from by simp [cells3]] at hr
 refine gives_pur rfl rfl rfl rfl rfl ?_
 cases hf : fewB t with
 | false =>
  rw [hf] at g1
  simp (maxSteps := 2000000) (disch := omega) [gd_in, gd_and, wr_i64, cl (g1 _)]
 | true =>
  rw [hf] at g1
  simp (maxSteps := 2000000) (disch := omega) [gd_in, gd_and, wr_i64, cl (g1 _), hr]
theorem cel9_nth {f : List (List Int)} {i : Nat} {e : List Int} (h : f[i]? = some e) : nth (cel9 f) i = some (e.map (.i .i64)) := by rw [nth_get]; simp [cel9, h]
theorem stF_get (ps : List (List Ce)) {n i : Nat} (h : i < n) : (stF ps n)[i]? = some (stO ps i) := by
 unfold stF
 rw [List.getElem?_map, List.getElem?_range h]
 rfl
theorem stO_9 {ps : List (List Ce)} (hall : ∀ q, q ∈ ps → right q = true) {i : Nat} {a b : List Ce} (ha : ps[i - 1]? = some a) (hb : ps[i]? = some b) : ∃ e a' b' c' d', stO ps i = [(i : Int), b.length, cnt (born a) b, cnt (born b) a, e, a', b', c', d'] := by
 unfold stO
 rw [List.getD_eq_getElem?_getD, List.getD_eq_getElem?_getD, ha, hb]
 obtain ⟨x, y, w, h, hbx⟩ := boxC_4 b
 refine ⟨cnt (chgd a) b, x, y, w, h, ?_⟩
 show ofV i a b = _
 rw [ofV, if_pos ⟨hall a (List.mem_of_getElem? ha), hall b (List.mem_of_getElem? hb)⟩, hbx]
 rfl
set_option maxHeartbeats 4000000 in
theorem law_bal (gw : Gives G 8 [] [] (.m (.b true)) []) {t : TreeC} {h n v : I} {es : List (List I)} {p : List Ce} (kn : Nat) (hkn : kn < 256) (hT : TreeV t h n es) (hv : IsSl v (cells3 p)) : Gives G 7 [.m (.ag [.i .i64 t.states, h, n]), .m v, .m (.i .u8 (kn : Int))] [] (.m (.b true)) [] := by
 have gf := fun H => few_t hT hv H
 have hrv := hv.rules
 simp only [show (cells3 p).length = p.length from by simp [cells3]] at hrv
 refine gives_pur rfl rfl rfl rfl rfl ?_
 by_cases hfew : (fewB t && decide ((p.length : Int) ≤ 60)) = true
 rotate_left
 ·rw [Bool.not_eq_true] at hfew
  rw [hfew] at gf
  simp (maxSteps := 2000000) (disch := omega) [gd_in, gd_and, wr_i64, cl (gf _), cl gw]
 rw [hfew] at gf
 rw [Bool.and_eq_true, decide_eq_true_eq] at hfew
 have hpl := hfew.2
 obtain ⟨m, hm⟩ : ∃ m, m = kn % 8 := ⟨_, rfl⟩
 have hm8 : m < 8 := by rw [hm]; exact Nat.mod_lt _ (by decide)
 have erem : ((kn : Int)).tmod 8 = (m : Int) := by rw [hm]; rfl
 have wk : wr .i64 (kn : Int) = (kn : Int) := wr_i64 (by omega) (by omega)
 obtain ⟨x, ⟨ps, e, hch, hval⟩, g1⟩ := runS_m hT hv (by omega) m (by omega) []
 rcases hval with ⟨he, rfl⟩ | ⟨he, rfl⟩
 ·simp (maxSteps := 2000000) (disch := omega) [gd_in, gd_and, wr_i64, cl (gf _), wk, erem, cl g1, he, cl gw]
 ·subst he
  have hc : chkE t p = 0 := by
   rcases hch with ⟨h1, h2⟩ | ⟨h1, _⟩
   ·exact h2.symm
   ·exact h1
  have hQ : HisQ t p m (ps, 0) := by
   rcases hch with ⟨h1, h2⟩ | ⟨_, h1⟩
   ·exact absurd hc h1
   ·exact h1
  have hR : HisR t p ps := by
   rcases hQ with ⟨_, _, h3⟩ | ⟨_, _, _, _, _, h4, _⟩
   ·exact h3
   ·exact absurd rfl h4
  have hplen : ps.length = m + 1 := by
   rcases hQ with ⟨_, h3, _⟩ | ⟨_, _, _, _, _, h4, _⟩
   ·exact h3
   ·exact absurd rfl h4
  have hall : ∀ q, q ∈ ps → right q = true := fun q hq => (chkE_ok (hisR_chk hc hR q hq)).2.1
  obtain ⟨r, hpr⟩ := hisR_hd hR
  have hp0 : ps[0]? = some p := by rw [hpr]; rfl
  have hrp := hall p (by rw [hpr]; simp)
  have gr := fun H => right_r hv (by omega) H
  rw [hrp] at gr
  have hz : z9 (stF ps ps.length) = .sl (cel9 (stF ps ps.length)) := by
   unfold z9
   rw [if_neg (fun h => by have := congrArg List.length h; rw [stF_len, List.length_nil] at this; omega)]
  have hrs := (isSl_sl (cel9 (stF ps ps.length))).rules
  simp only [cel9_len, stF_len] at hrs
  rw [hz] at g1
  have hlenm : (ps.length : Int) = (m : Int) + 1 := by omega
  have wm : wr .i64 ((m : Int) + 1) = (ps.length : Int) := by rw [wr_i64 (by omega) (by omega)]; omega
  obtain ⟨e0, a0, b0, c0, d0, h0⟩ := stO_9 hall (i := 0) hp0 hp0
  have n0 : nth (cel9 (stF ps ps.length)) 0 = some ((stO ps 0).map (.i .i64)) := cel9_nth (stF_get ps (by omega))
  rw [h0] at n0
  simp only [List.map_cons, List.map_nil] at n0
  have hl0 : 0 < ps.length := by omega
  have hl0' : (0 : Int) < ps.length := by omega
  generalize hcnt1 : cnt (born p) p = z1 at n0
  simp (maxSteps := 2000000) (disch := omega) [gd_in, gd_and, wr_i64, gcall_cx, cl (gf _), wk, erem, cl g1, hrs, wm, n0, hl0, hl0', hrv]
  refine (?key : ∀ (i : Nat) (B : List (Nat × List V)), 1 ≤ i → i ≤ ps.length → Run G c7_B0 (S7_0 (.m v) (.m (.sl (cel9 (stF ps ps.length)))) (.m (.i .i64 (i : Int))) B []) _) 1 _ (Nat.le_refl _) (by omega)
  refine indM (fun i : Nat => ps.length - i) fun i ih B hi1 hi => ?_
  unfold c7_B0
  by_cases hip : i < ps.length
  ·have hip2 : (i : Int) < ps.length := by omega
   obtain ⟨j, hj⟩ : ∃ j, i = j + 1 := ⟨i - 1, by omega⟩
   subst hj
   obtain ⟨a, ha⟩ : ∃ q, ps[j]? = some q := ⟨_, List.getElem?_eq_getElem (by omega)⟩
   obtain ⟨b, hb⟩ : ∃ q, ps[j + 1]? = some q := ⟨_, List.getElem?_eq_getElem (by omega)⟩
   obtain ⟨a2, ha2⟩ : ∃ q, ps[j - 1]? = some q := ⟨_, List.getElem?_eq_getElem (by omega)⟩
   obtain ⟨e1, x1, x2, x3, x4, s1⟩ := stO_9 hall (i := j) ha2 ha
   obtain ⟨e2, y1, y2, y3, y4, s2⟩ := stO_9 hall (i := j + 1) ha hb
   have n1 : nth (cel9 (stF ps ps.length)) j = some ((stO ps j).map (.i .i64)) := cel9_nth (stF_get ps (by omega))
   have n2 : nth (cel9 (stF ps ps.length)) (j + 1) = some ((stO ps (j + 1)).map (.i .i64)) := cel9_nth (stF_get ps (by omega))
   rw [s1] at n1
   rw [s2] at n2
   simp only [List.map_cons, List.map_nil] at n1 n2
   have hbal := bal (hall a (List.mem_of_getElem? ha)) (hall b (List.mem_of_getElem? hb))
   have ca := (right_pwB (hall a (List.mem_of_getElem? ha))).2.2
   have cb := (right_pwB (hall b (List.mem_of_getElem? hb))).2.2
   have r1 := cnt_range (born a) b
   have r2 := cnt_range (born b) a
   generalize cnt (born a) b = q1 at *
   generalize cnt (born b) a = q2 at *
   generalize cnt (born a2) a = q3 at *
   generalize cnt (born a) a2 = q4 at *
   have hj1 : j < ps.length := by omega
   have hj2 : (j : Int) < ps.length := by omega
   have w1 : wr .i64 (((j + 1 : Nat) : Int) - 1) = (j : Int) := by rw [wr_i64 (by omega) (by omega)]; omega
   have w2 : wr .i64 ((a.length : Int) + q1) = (a.length : Int) + q1 := wr_i64 (by omega) (by omega)
   have w3 : wr .i64 ((a.length : Int) + q1 - q2) = (b.length : Int) := by rw [wr_i64 (by omega) (by omega)]; omega
   have wi : wr .i64 (((j + 1 : Nat) : Int) + 1) = ((j + 2 : Nat) : Int) := by rw [wr_i64 (by omega) (by omega)]; omega
   have k := fun B' => ih (j + 2) (by omega) B' (by omega) (by omega)
   simp (maxSteps := 2000000) (disch := omega) [gd_in, gd_and, wr_i64, hip, hip2, hrs, n1, n2, hj1, hj2, w1, w2, w3, wi, -Int.natCast_add]
   exact k _
  ·have : i = ps.length := by omega
   subst this
   simp (maxSteps := 2000000) (disch := omega) [gd_in, gd_and, wr_i64, gcall_cx, hrs, cl (gr _), cl gw]
theorem aggU8 : aggT Go.Proofs.Tryd.prog 5 = some false := by unfold aggT; rw [Go.Proofs.Tryd.underlying5]; rfl
theorem arg_u8 {B n : Nat} {ts : List TypeId} {us : List V} (h : ArgsOk Go.Proofs.Tryd.prog B (n + 1) (5 :: ts) us) : ∃ (k : Nat) (r : List V), k < 256 ∧ us = .m (.i .u8 (k : Int)) :: r ∧ ArgsOk Go.Proofs.Tryd.prog B (n + 1) ts r := by
 obtain ⟨l, r, rfl, hl, h'⟩ := argsOk_cons h
 unfold Fits at hl
 rw [Go.Proofs.Tryd.underlying5] at hl
 simp only at hl
 obtain ⟨x, rfl, hx⟩ := hl
 have e1 : IntKind.u8.min = 0 := by decide
 have e2 : IntKind.u8.max = 255 := by decide
 rw [e1, e2] at hx
 obtain ⟨k, rfl⟩ := Int.eq_ofNat_of_zero_le hx.1
 rw [argV_one aggU8]
 exact ⟨k, r, by omega, rfl, h'⟩
theorem stats_bal (us : List V) (h : ArgsOk Go.Proofs.Tryd.prog maxLen 8 Go.Proofs.Tryd.f7.params.toList us) : Gives G 7 us [] (.m (.b true)) [] := by
 have e : Go.Proofs.Tryd.f7.params.toList = [47, 23, 5] := by rw [Go.Proofs.Tryd.params7]
 have h := e ▸ h
 obtain ⟨t, hh, nn, es, _, rfl, hT, h1⟩ := arg_tree (by decide) h
 obtain ⟨p, v, _, hv, hl, rfl, h2⟩ := arg_pat h1
 obtain ⟨kn, _, hkn, rfl, h3⟩ := arg_u8 h2
 have := argsOk_nil h3
 subst this
 exact law_bal gives_awake kn hkn hT hv
end Go.Mx.Tryd
