/- One step of the reference. -/
import Derived.Test.YtjkepihkilnjiaaGreatDoorRd
import Derived.Test.YtjkepihkilnjiaaGreatDoorFi
import Derived.Test.YtjkepihkilnjiaaGreatDoorTg
set_option linter.unusedSimpArgs false
set_option linter.unusedVariables false
set_option linter.unusedSectionVars false
set_option maxRecDepth 100000
namespace Go.Mx.Tryz
open Go.Lib Go.Proofs

theorem valid_r (x y : Int) (H : Hp) : Gives G 55 [.m (.i .i64 x), .m (.i .i64 y)] H (.m (.b (placed x y))) H := by
 refine gives_pur rfl rfl rfl rfl rfl ?_
 simp (contextual := true) [test_cx, rest_cx, gcall_cx, gcav_cx, -Int.not_lt, -Int.not_le, -Nat.not_lt, -Nat.not_le, -List.map_take, placed]
theorem near_r {p : List Ce} {v f : I} (hv : IsSl v (cells3 p)) (hl : p.length ≤ 5000) (hg : ∀ c, c ∈ p → good c = true) (hF : FldV p v f) (H : Hp) : ∃ acc, NearQ p acc ∧ Gives G 53 [.m f] H (.m (z2 acc)) H := by
 obtain ⟨bx, by_, w, h, fl, cs, rfl, hwh, hbx, hby, hin, hne, hfl, _⟩ := hF.ex
 cases fl with
 | false => exact near_no hv hl hg H
 | true =>
  have hP := (hfl rfl).1
  have h4 : (w + 4) * (h + 4) ≤ 1000000 ∧ w ≤ 1000000 ∧ h ≤ 1000000 := by
   have e : (w + 4) * (h + 4) = w * h + w * 4 + 4 * h + 16 := by rw [Nat.add_mul, Nat.mul_add, Nat.mul_add]; omega
   rw [e]
   rcases hne with ⟨h1, h2⟩ | ⟨rfl, rfl⟩
   ·have a1 := Nat.le_mul_of_pos_right w h2
    have a2 := Nat.le_mul_of_pos_left h h1
    generalize w * h = P at *
    omega
   ·omega
  exact near_fl h4.1 h4.2 hbx hby hin H
theorem outP_any {F : Nat} {f : List Ce} {o x : V} {H : Hp} (hp : G.prim F = none) (hs : G.sh F = false) (ho : OutP f o H) (h : ∀ H, Gives G F [.m (zP f)] H x H) : ∃ H2, Gives G F [o] H x H2 := by
 rcases ho with ⟨rfl, rfl, rfl⟩ | ⟨hne, rfl, rfl⟩
 ·exact ⟨_, h _⟩
 ·have hz : zP f = .sl (cells3 f) := by unfold zP; rw [if_neg hne]
  rw [hz] at h
  have hv : optMap (view 20 [Row.cs 42 3 (rows3 f) 0 false]) [V.sl 0 f.length 3 0 f.length false] = some [.sl (cells3 f)] := by
   have := viewP (r := 0) (b := 0) (X := []) (A := []) (q := f) (n := f.length) rfl (Nat.zero_le _) 18
   show (view 20 _ _).bind _ = _
   rw [this]
   rfl
  cases hf : flatV x with
  | true => exact ⟨_, gives_view (is := [.sl (cells3 f)]) hp hs (h []) hv (.inr ⟨by simp [refs, ref1], hf⟩)⟩
  | false =>
   have hfz : freeze ([V.sl 0 f.length 3 0 f.length false].flatMap refs) [Row.cs 42 3 (rows3 f) 0 false] = some [Row.cs 42 3 (rows3 f) 0 true] := by
    show Option.bind (gd ((rows3 f).all fun e => e.all isM) (some (Row.cs 42 3 (rows3 f) 0 true))) _ = _
    rw [rows3_isM]
    rfl
   exact ⟨_, gives_view_fr (is := [.sl (cells3 f)]) hp hs (h []) hv (by simp [refs, ref1]) hf rfl hfz⟩
theorem outP_len2 {f : List Ce} {o : V} {H : Hp} (h : OutP f o H) : pureX (.len false) [o] = some (.m (.i .i64 (f.length : Nat))) := by
 rcases h with ⟨rfl, rfl, rfl⟩ | ⟨_, rfl, _⟩ <;> rfl
def stepL (t : TreeC) (p : List Ce) (acc : List (Int × Int)) : List Ce := (acc.filter fun k => !decide (nextF t p k.1 k.2 = 0)).map fun k => ⟨k.1, k.2, nextF t p k.1 k.2⟩
def stepO (t : TreeC) (p : List Ce) (acc : List (Int × Int)) : Bool := acc.any fun k => !decide (nextF t p k.1 k.2 = 0) && !placed k.1 k.2
theorem stepL_snoc (t : TreeC) (p : List Ce) (acc : List (Int × Int)) (k : Int × Int) : stepL t p (acc ++ [k]) = stepL t p acc ++ if nextF t p k.1 k.2 = 0 then [] else [⟨k.1, k.2, nextF t p k.1 k.2⟩] := by
 unfold stepL
 rw [List.filter_append]
 by_cases h : nextF t p k.1 k.2 = 0 <;> simp [h]
theorem stepO_snoc (t : TreeC) (p : List Ce) (acc : List (Int × Int)) (k : Int × Int) : stepO t p (acc ++ [k]) = (stepO t p acc || (!decide (nextF t p k.1 k.2 = 0) && !placed k.1 k.2)) := by
 unfold stepO
 simp
theorem stepL_mem {t : TreeC} {p : List Ce} {acc : List (Int × Int)} {c : Ce} : c ∈ stepL t p acc ↔ (c.x, c.y) ∈ acc ∧ c.s = nextF t p c.x c.y ∧ ¬ c.s = 0 := by
 unfold stepL
 rw [List.mem_map]
 constructor
 ·rintro ⟨k, hk, rfl⟩
  obtain ⟨h1, h2⟩ := List.mem_filter.1 hk
  exact ⟨h1, rfl, by simpa using h2⟩
 ·rintro ⟨h1, h2, h3⟩
  refine ⟨(c.x, c.y), List.mem_filter.2 ⟨h1, ?_⟩, ?_⟩
  ·dsimp only
   rw [← h2]
   simpa using h3
  ·obtain ⟨a, b, s⟩ := c
   dsimp only at h2 ⊢
   rw [← h2]
theorem stepL_apart {t : TreeC} {p : List Ce} {acc : List (Int × Int)} (h : acc.Nodup) : (stepL t p acc).Pairwise apart := by
 unfold stepL
 rw [List.pairwise_map]
 exact (h.sublist List.filter_sublist).imp fun {a b} hab ⟨h1, h2⟩ => hab (Prod.ext h1 h2)
theorem near_all {t : TreeC} (hq : quietT t = true) {p : List Ce} {acc : List (Int × Int)} (hN : NearQ p acc) {x y : Int} (h : ¬ nextF t p x y = 0) : (x, y) ∈ acc := by
 obtain ⟨c, o, hc, ho, rfl, rfl⟩ := next_nbr hq h
 have := hoodOk_mem (quiet_r hq).hood o ho
 refine hN.all c _ hc ?_
 unfold nr
 dsimp only
 omega
theorem stepL_len (t : TreeC) (p : List Ce) (acc : List (Int × Int)) : (stepL t p acc).length ≤ acc.length := by
 unfold stepL
 rw [List.length_map]
 exact List.length_filter_le _ _
set_option maxHeartbeats 4000000 in
theorem step_q {t : TreeC} {h n v : I} {es : List (List I)} {p : List Ce} (hT : TreeV t h n es) (hv : IsSl v (cells3 p)) (hc : chkE t p = 0) (H : Hp) : ∃ x, StepQ t p x ∧ Gives G 35 [.m (.ag [.i .i64 t.states, h, n]), .m v] H x H := by
 obtain ⟨hq, hr, ht⟩ := chkE_ok hc
 have hR := quiet_r hq
 obtain ⟨pw, hg, hl⟩ := right_pwB hr
 have g1 := fun H => fits_r hT hv (by omega) H
 rw [hc] at g1
 obtain ⟨f, hF, g2⟩ := states_r hv hr []
 have g4 := fun x y hx hy H => next_q hT hR hv hl hF ht x y hx hy H
 obtain ⟨acc, hN, g3⟩ := near_r hv hl hg hF []
 obtain ⟨bx, by_, w, k, fl, cs, rfl, _, _, _, _, _, _, hcs⟩ := hF.ex
 have hv1 := isSl_1 hv
 have key : ∃ x H', Gives G 35 [.m (.ag [.i .i64 t.states, h, n]), .m v] H x H' ∧ (H' = H ∧ StepQ t p x) := by
  refine gives_of_ret ?_
  refine ret_pur rfl rfl rfl rfl rfl ?_
  generalize hQ : (fun (x : V) (H' : Hp) => H' = H ∧ StepQ t p x) = Q
  have qn : ∀ e, StepR t p ([], e) → Q (.tu [.m (.nl 4), .m (.i .i64 e)]) H := fun e hs => by rw [← hQ]; exact ⟨rfl, [], e, hs, rfl⟩
  have qa : ∀ q, StepR t p (q, 0) → Q (.tu [.m (zP q), .m (.i .i64 0)]) H := fun q hs => by rw [← hQ]; exact ⟨rfl, q, 0, hs, rfl⟩
  clear hQ
  have hra := (z2_sl acc).rules
  simp only [cells2_len] at hra
  unfold fldI at g2 g3 g4
  simp (maxSteps := 2000000) (disch := omega) [gd_in, gd_and, wr_i64, cl (g1 _), cl g2, cl g3, hcs, hv1]
  refine (?key : ∀ (i : Nat) (b : Bool) (o : V) (B : List (Nat × List V)) (H1 : Hp), i ≤ acc.length → getB B 2 = some [.m (.i .i64 t.states), .m h, .m n] → getB B 7 = some [.m (.b fl), .m (.i .i64 bx), .m (.i .i64 by_), .m (.i .i64 w), .m (.i .i64 k), .m cs, .m v] → b = stepO t p (acc.take i) → OutP (stepL t p (acc.take i)) o H1 → Run G c35_B0 (S35_0 (.fa 2 0) (.fa 7 0) (.m (z2 acc)) o (.m (.b b)) (.m (.i .i64 (i : Int))) B H1) _) 0 false _ _ _ (Nat.zero_le _) rfl rfl rfl (.inl ⟨rfl, rfl, rfl⟩)
  refine indM (fun i : Nat => acc.length - i) fun i ih b o B H1 hi hB2 hB7 hb ho => ?_
  unfold c35_B0
  have hnf := (outP_view ho).2
  have hol := outP_len2 ho
  have hlen := hN.len
  have hsl := stepL_len t p (acc.take i)
  cases hx : acc[i]? with
  | none =>
   have : i = acc.length := by have := List.getElem?_eq_none_iff.1 hx; omega
   subst this
   rw [List.take_length] at hb ho hol hsl
   cases b with
   | true =>
    have hb := hb.symm
    unfold stepO at hb
    obtain ⟨k, hk, hk2⟩ := List.any_eq_true.1 hb
    rw [Bool.and_eq_true, Bool.not_eq_true', decide_eq_false_iff_not, Bool.not_eq_true'] at hk2
    have k1 := qn 5 (stI_out hk2.1 hk2.2)
    simp (maxSteps := 2000000) (disch := omega) [gd_in, gd_and, wr_i64, hra]
    exact k1
   | false =>
    have hpl : ∀ x y, ¬ nextF t p x y = 0 → placed x y = true := fun x y hn => by
     have hm := near_all hq hN hn
     cases hpp : placed x y with
     | true => rfl
     | false =>
      exfalso
      have : stepO t p acc = true := by
       unfold stepO
       refine List.any_eq_true.2 ⟨(x, y), hm, ?_⟩
       dsimp only
       rw [hpp, decide_eq_false hn]
       rfl
      rw [this] at hb
      cases hb
    have hmem : ∀ c, c ∈ stepL t p acc ↔ c.s = nextF t p c.x c.y ∧ ¬ c.s = 0 := fun c => stepL_mem.trans ⟨fun h => h.2, fun h => ⟨near_all hq hN (by rw [← h.1]; exact h.2), h⟩⟩
    have hap := stepL_apart (t := t) (p := p) hN.nd
    have hgood : ∀ c, c ∈ stepL t p acc → good c = true := fun c hc => by
     obtain ⟨h1, h2⟩ := (hmem c).1 hc
     have h3 := hpl c.x c.y (by rw [← h1]; exact h2)
     have h4 := next_rng hR ht c.x c.y
     rw [← h1] at h4
     have := hR.s8
     unfold good
     rw [h3]
     simp only [Bool.true_and, Bool.and_eq_true, decide_eq_true_eq]
     omega
    have hst : StepR t p (if 5000 < (sortI (stepL t p acc)).length then ([], 6) else (sortI (stepL t p acc), 0)) := .inr ⟨hpl, _, sortI_pw hap, fun c => ((sortI_perm _).mem_iff).trans (hmem c), rfl⟩
    rw [sortI_len] at hst
    by_cases h5 : 5000 < (stepL t p acc).length
    ·have h5' : (5000 : Int) < (stepL t p acc).length := by omega
     rw [if_pos h5] at hst
     have k1 := qn 6 hst
     simp (maxSteps := 2000000) (disch := omega) [gd_in, gd_and, wr_i64, hra, hol, h5, h5']
     exact k1
    ·have h5' : ¬ (5000 : Int) < (stepL t p acc).length := by omega
     rw [if_neg h5] at hst
     have k1 := qa _ hst
     have gF := fun H => refFrom_r (zP_sl (stepL t p acc)) (by omega) hgood hap H
     obtain ⟨H2, gG⟩ := outP_any rfl rfl ho gF
     generalize zP (sortI (stepL t p acc)) = zz at *
     simp (maxSteps := 2000000) (disch := omega) [gd_in, gd_and, wr_i64, hra, hol, h5, h5', cl gG]
     exact k1
  | some k0 =>
   obtain ⟨x, y⟩ := k0
   have hlt := (get_drop hx).1
   have hlt' : (i : Int) < acc.length := by omega
   have hox := cells2_nth hx
   have hbk := hN.bnd _ (List.mem_of_getElem? hx)
   have wi : wr .i64 ((i : Int) + 1) = ((i + 1 : Nat) : Int) := wr_i64 (by omega) (by omega)
   dsimp only at hox hbk
   have gn := fun H => g4 x y (by omega) (by omega) H
   have gp := fun H => valid_r x y H
   have hrg := next_rng hR ht x y
   have eL := stepL_snoc t p (acc.take i) (x, y)
   have eO := stepO_snoc t p (acc.take i) (x, y)
   rw [← take_succ_get hx] at eL eO
   dsimp only at eL eO
   by_cases hz : nextF t p x y = 0
   ·rw [if_pos hz, List.append_nil] at eL
    rw [decide_eq_true hz, Bool.not_true, Bool.false_and, Bool.or_false] at eO
    rw [hz] at gn
    have kk := fun B' => ih (i + 1) (by omega) b o B' H1 (by omega)
    simp (maxSteps := 2000000) (disch := omega) [gd_in, gd_and, wr_i64, hra, hlt, hlt', hox, hB2, hB7, cl (gn _), wi, setC_v hnf, -Int.natCast_add]
    exact kk _ (by simpa using hB2) (by simpa using hB7) (by rw [eO]; exact hb) (by rw [eL]; exact ho)
   ·rw [if_neg hz] at eL
    rw [decide_eq_false hz, Bool.not_false, Bool.true_and, ← hb] at eO
    obtain ⟨o1, H2, hap, hn1, ho1⟩ := outP_push ho (by rw [List.length_take] at hsl; omega) ⟨x, y, nextF t p x y⟩
    dsimp only at hap
    rw [← eL] at ho1
    have kk := fun b' B' => ih (i + 1) (by omega) b' o1 B' H2 (by omega)
    generalize nextF t p x y = nx at *
    cases b with
    | true =>
     simp (maxSteps := 2000000) (disch := omega) [gd_in, gd_and, wr_i64, gcall_cx, hra, hlt, hlt', hox, hB2, hB7, cl (gn _), hz, hap, wi, setC_v hnf, setC_v hn1, -Int.natCast_add]
     exact kk true _ (by simpa using hB2) (by simpa using hB7) (by rw [eO]; rfl) ho1
    | false =>
     cases hpp : placed x y with
     | true =>
      rw [hpp] at gp eO
      simp (maxSteps := 2000000) (disch := omega) [gd_in, gd_and, wr_i64, gcall_cx, hra, hlt, hlt', hox, hB2, hB7, cl (gn _), hz, hap, cl (gp _), wi, setC_v hnf, setC_v hn1, -Int.natCast_add]
      exact kk false _ (by simpa using hB2) (by simpa using hB7) (by rw [eO]; rfl) ho1
     | false =>
      rw [hpp] at gp eO
      simp (maxSteps := 2000000) (disch := omega) [gd_in, gd_and, wr_i64, gcall_cx, hra, hlt, hlt', hox, hB2, hB7, cl (gn _), hz, hap, cl (gp _), wi, setC_v hnf, setC_v hn1, -Int.natCast_add]
      exact kk true _ (by simpa using hB2) (by simpa using hB7) (by rw [eO]; rfl) ho1
 obtain ⟨x, H', h1, rfl, h2⟩ := key
 exact ⟨x, h2, h1⟩
end Go.Mx.Tryz
