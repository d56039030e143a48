/- StatsBalance: the statistics of a run; the law. -/
import Derived.Test.YtjkepihkilnjiaaGreatDoorTg
import Derived.Test.YtjkepihkilnjiaaGreatDoorBal
set_option linter.unusedSimpArgs false
set_option linter.unusedVariables false
set_option linter.unusedSectionVars false
set_option maxRecDepth 100000
namespace Go.Mx.Tryz
open Go.Lib Go.Proofs

theorem hisR_chk {t : TreeC} {p : List Ce} (hc : chkE t p = 0) {l : List (List Ce)} (h : HisR t p l) : ∀ q, q ∈ l → chkE t q = 0 := by
 obtain ⟨hq, _, _⟩ := chkE_ok hc
 have hR := quiet_r hq
 induction h with
 | one => intro q hm; rw [List.mem_singleton.1 hm]; exact hc
 | @snoc ps a b h1 h2 ih =>
  intro q hm
  rcases List.mem_append.1 hm with hm | hm
  ·exact ih q hm
  ·rw [List.mem_singleton.1 hm]
   obtain ⟨_, _, ht2⟩ := chkE_ok (ih a (by simp))
   obtain ⟨k1, k2, k3, k4⟩ := stepR_ok hR ht2 h2
   exact chk_of hq k1 k2 k3 k4
def stO (ps : List (List Ce)) (i : Nat) : List Int := ofV i (ps.getD (i - 1) []) (ps.getD i [])
def stF (ps : List (List Ce)) (n : Nat) : List (List Int) := (List.range n).map (stO ps)
def cel9 (f : List (List Int)) : List (List I) := f.map fun e => e.map (.i .i64)
def rows9 (f : List (List Int)) : List (List V) := f.map fun e => e.map fun x => .m (.i .i64 x)
@[simp] theorem cel9_len (f : List (List Int)) : (cel9 f).length = f.length := by simp [cel9]
@[simp] theorem rows9_len (f : List (List Int)) : (rows9 f).length = f.length := by simp [rows9]
theorem stF_len (ps : List (List Ce)) (n : Nat) : (stF ps n).length = n := by simp [stF]
theorem stF_succ (ps : List (List Ce)) (n : Nat) : stF ps (n + 1) = stF ps n ++ [stO ps n] := by simp [stF, List.range_succ]
theorem ofV_9 (g : Int) (p q : List Ce) : ∃ a b c d e a' b' c' d', ofV g p q = [a, b, c, d, e, a', b', c', d'] := by
 obtain ⟨x, y, w, h, hbx⟩ := boxC_4 q
 by_cases hr : right p = true ∧ right q = true
 ·exact ⟨_, _, _, _, _, x, y, w, h, by rw [ofV, if_pos hr, hbx]; rfl⟩
 ·exact ⟨_, _, _, _, _, _, _, _, _, if_neg hr⟩
def OutS (f : List (List Int)) (o : V) (H : Hp) : Prop := (f = [] ∧ o = .m (.nl 4) ∧ H = []) ∨ (f ≠ [] ∧ o = .sl 0 f.length 9 0 f.length false ∧ H = [.cs 46 9 (rows9 f) 0 false])
theorem outS_push {f : List (List Int)} {o : V} {H : Hp} (h : OutS f o H) (hl : f.length ≤ 1000000) (a b c d e a' b' c' d' : Int) : ∃ o1 H1, (∀ B, appX ⟨B, H⟩ 46 9 72 o [[.m (.i .i64 a), .m (.i .i64 b), .m (.i .i64 c), .m (.i .i64 d), .m (.i .i64 e), .m (.i .i64 a'), .m (.i .i64 b'), .m (.i .i64 c'), .m (.i .i64 d')]] = some (o1, ⟨B, H1⟩)) ∧ noFaV o1 = true ∧ OutS (f ++ [[a, b, c, d, e, a', b', c', d']]) o1 H1 := by
 have es : rows9 f ++ [[V.m (.i .i64 a), .m (.i .i64 b), .m (.i .i64 c), .m (.i .i64 d), .m (.i .i64 e), .m (.i .i64 a'), .m (.i .i64 b'), .m (.i .i64 c'), .m (.i .i64 d')]] = rows9 (f ++ [[a, b, c, d, e, a', b', c', d']]) := by simp [rows9]
 rcases h with ⟨rfl, rfl, rfl⟩ | ⟨hne, rfl, rfl⟩
 ·exact ⟨_, _, fun B => rfl, rfl, .inr ⟨by simp, rfl, rfl⟩⟩
 ·have ha := fun B => app_row (M := ⟨B, [.cs 46 9 (rows9 f) 0 false]⟩) (r := 0) (bytes := 72) (xs := [[V.m (.i .i64 a), .m (.i .i64 b), .m (.i .i64 c), .m (.i .i64 d), .m (.i .i64 e), .m (.i .i64 a'), .m (.i .i64 b'), .m (.i .i64 c'), .m (.i .i64 d')]]) rfl (by simp) (by simp; omega) rfl
  simp only [rows9_len, List.length_cons, List.length_nil, Nat.zero_add, es, List.set_cons_zero] at ha
  exact ⟨_, _, ha, rfl, .inr ⟨by simp, by simp, rfl⟩⟩
def z9 (f : List (List Int)) : I := if f = [] then .nl 4 else .sl (cel9 f)
theorem opt1 (k : Nat) (H : Hp) : ∀ e : List Int, optMap (view (k + 1) H) (e.map fun x => V.m (.i .i64 x)) = some (e.map (.i .i64))
 | [] => rfl
 | x :: r => by
  have := opt1 k H r
  show Option.bind (some (I.i .i64 x)) _ = _
  simp only [Option.bind_some, List.map_cons]
  rw [this]
  rfl
theorem opt9 (k : Nat) (H : Hp) : ∀ f : List (List Int), optMap (fun e => optMap (view (k + 1) H) e) (rows9 f) = some (cel9 f)
 | [] => rfl
 | x :: r => by
  have h1 := opt1 k H x
  have h2 := opt9 k H r
  show Option.bind (optMap (view (k + 1) H) (x.map fun x => V.m (.i .i64 x))) _ = _
  rw [h1]
  simp only [Option.bind_some]
  show Option.bind (optMap _ (rows9 r)) _ = _
  rw [h2]
  rfl
theorem view9 {H : Hp} {r : Nat} {f : List (List Int)} (h : nth H r = some (.cs 46 9 (rows9 f) 0 false)) (k : Nat) : view (k + 2) H (.sl r f.length 9 0 f.length false) = some (.sl (cel9 f)) := by
 have e : elems H (.sl r f.length 9 0 f.length false) = some (rows9 f) := by
  show Option.bind (nth H r) _ = _
  rw [h]
  show gd (Nat.ble 0 f.length && Nat.beq 9 9) (some (((rows9 f).drop 0).take f.length)) = _
  rw [ble_dec, decide_eq_true (Nat.zero_le _), List.drop_zero, List.take_of_length_le (by simp)]
  rfl
 show Option.bind (elems H (.sl r f.length 9 0 f.length false)) _ = _
 rw [e]
 show Option.bind (optMap _ (rows9 f)) _ = _
 rw [opt9]
 rfl
theorem outS_view {f : List (List Int)} {o : V} {H : Hp} (h : OutS f o H) : view 20 H o = some (z9 f) ∧ noFaV o = true := by
 rcases h with ⟨rfl, rfl, rfl⟩ | ⟨hne, rfl, rfl⟩
 ·exact ⟨rfl, rfl⟩
 ·refine ⟨?_, rfl⟩
  have := view9 (H := [.cs 46 9 (rows9 f) 0 false]) (r := 0) (f := f) rfl 18
  unfold z9
  rw [if_neg hne]
  exact this
def RunV (t : TreeC) (p : List Ce) (n : Nat) (x : V) : Prop := ∃ ps e, ((¬ chkE t p = 0 ∧ e = chkE t p) ∨ (chkE t p = 0 ∧ HisQ t p n (ps, e))) ∧ ((¬ e = 0 ∧ x = .tu [.m (.nl 4), .m (.i .i64 e)]) ∨ (e = 0 ∧ x = .tu [.m (z9 (stF ps ps.length)), .m (.i .i64 0)]))
theorem ls_ix {vs : List I} {i : Nat} {u : I} (h : vs[i]? = some u) : pureX (.ixa 1) [.m (.sl (onesI vs)), .m (.i .i64 (i : Int))] = some (.m (.pt [u])) := by
 have hr := (isSl_sl (onesI vs)).rules
 simp only [onesI_len] at hr
 have hlt := (get_drop h).1
 have hlt' : (i : Int) < vs.length := by omega
 have hn := onesI_nth h
 simp (maxSteps := 2000000) (disch := omega) [gd_in, gd_and, wr_i64, hr, hlt, hlt', hn]
set_option maxHeartbeats 4000000 in
theorem runS_m {t : TreeC} {h n v : I} {es : List (List I)} {p : List Ce} (hT : TreeV t h n es) (hv : IsSl v (cells3 p)) (hl : (p.length : Int) ≤ 9223372036854775806) (m : Nat) (hm : m ≤ 10000) (H : Hp) : ∃ x, RunV t p m x ∧ Gives G 6 [.m (.ag [.i .i64 t.states, h, n]), .m v, .m (.i .i64 (m : Int))] H x H := by
 by_cases hc : chkE t p = 0
 rotate_left
 ·have g1 := fun H => his_e hT hv hl hc m H
  refine ⟨.tu [.m (.nl 4), .m (.i .i64 (chkE t p))], ⟨[], _, .inl ⟨hc, rfl⟩, .inl ⟨hc, rfl⟩⟩, ?_⟩
  refine gives_pur rfl rfl rfl rfl rfl ?_
  simp (maxSteps := 2000000) (disch := omega) [gd_in, gd_and, wr_i64, cl (g1 _), hc]
 obtain ⟨hx, ⟨ps, e, hH, hval⟩, g1⟩ := his_m hT hv hc m hm []
 have key : ∃ x H', Gives G 6 [.m (.ag [.i .i64 t.states, h, n]), .m v, .m (.i .i64 (m : Int))] H x H' ∧ (H' = H ∧ RunV t p m x) := by
  refine gives_of_ret ?_
  refine ret_pur rfl rfl rfl rfl rfl ?_
  generalize hQ : (fun (x : V) (H' : Hp) => H' = H ∧ RunV t p m x) = Q
  have qe : ¬ e = 0 → Q (.tu [.m (.nl 4), .m (.i .i64 e)]) H := fun h2 => by rw [← hQ]; exact ⟨rfl, ps, e, .inr ⟨hc, hH⟩, .inl ⟨h2, rfl⟩⟩
  have qk : e = 0 → Q (.tu [.m (z9 (stF ps ps.length)), .m (.i .i64 0)]) H := fun h2 => by rw [← hQ]; exact ⟨rfl, ps, e, .inr ⟨hc, hH⟩, .inr ⟨h2, rfl⟩⟩
  clear hQ
  rcases hval with ⟨he, rfl⟩ | ⟨he, vs, hP, rfl⟩
  ·have k := qe he
   simp (maxSteps := 2000000) (disch := omega) [gd_in, gd_and, wr_i64, cl g1, he]
   exact k
  ·subst he
   have k := qk rfl
   have hR : HisR t p ps := by
    rcases hH with ⟨_, _, h3⟩ | ⟨_, _, _, _, _, h4, _⟩
    ·exact h3
    ·exact absurd rfl h4
   have hpl : ps.length = m + 1 := by
    rcases hH with ⟨_, h3, _⟩ | ⟨_, _, _, _, _, h4, _⟩
    ·exact h3
    ·exact absurd rfl h4
   have hvl := hP.1
   have hrs := (isSl_sl (onesI vs)).rules
   simp only [onesI_len] at hrs
   rw [← hvl] at k hpl
   simp (maxSteps := 2000000) (disch := omega) [gd_in, gd_and, wr_i64, cl g1, hrs.1]
   refine (?key : ∀ (i : Nat) (o : V) (B : List (Nat × List V)) (H1 : Hp), i ≤ vs.length → OutS (stF ps i) o H1 → Run G c6_B0 (S6_0 (.m (.sl (onesI vs))) o (.m (.i .i64 vs.length)) (.m (.i .i64 (i : Int))) B H1) _) 0 _ _ _ (Nat.zero_le _) (.inl ⟨rfl, rfl, rfl⟩)
   refine indM (fun i : Nat => vs.length - i) fun i ih o B H1 hi ho => ?_
   unfold c6_B0
   obtain ⟨hvw, hnf⟩ := outS_view ho
   by_cases hiv : i < vs.length
   ·have hiv2 : (i : Int) < vs.length := by omega
    obtain ⟨j, hj⟩ : ∃ j, j = i - 1 := ⟨_, rfl⟩
    obtain ⟨u1, hu1⟩ : ∃ u, vs[j]? = some u := ⟨_, List.getElem?_eq_getElem (by omega)⟩
    obtain ⟨u2, hu2⟩ : ∃ u, vs[i]? = some u := ⟨_, List.getElem?_eq_getElem (by omega)⟩
    obtain ⟨a, ha⟩ : ∃ q, ps[j]? = some q := ⟨_, List.getElem?_eq_getElem (by omega)⟩
    obtain ⟨b, hb⟩ : ∃ q, ps[i]? = some q := ⟨_, List.getElem?_eq_getElem (by omega)⟩
    have s1 := hP.2 j u1 a hu1 ha
    have s2 := hP.2 i u2 b hu2 hb
    have ca := (right_pwB (chkE_ok (hisR_chk hc hR a (List.mem_of_getElem? ha))).2.1).2.2
    have cb := (right_pwB (chkE_ok (hisR_chk hc hR b (List.mem_of_getElem? hb))).2.1).2.2
    have go := fun H => of_s s1 s2 (by omega) (by omega) (i : Int) H
    have eS : stO ps i = ofV i a b := by
     unfold stO
     rw [← hj, List.getD_eq_getElem?_getD, List.getD_eq_getElem?_getD, ha, hb]
     rfl
    obtain ⟨c1, c2, c3, c4, c5, c6, c7, c8, c9, h9⟩ := ofV_9 i a b
    rw [h9] at go eS
    simp only [List.map_cons, List.map_nil] at go
    obtain ⟨o1, H2, hap, hn1, ho1⟩ := outS_push ho (by rw [stF_len]; omega) c1 c2 c3 c4 c5 c6 c7 c8 c9
    rw [← eS, ← stF_succ] at ho1
    have w1 : wr .i64 ((i : Int) - 1) = (i : Int) - 1 := wr_i64 (by omega) (by omega)
    have wm : max (0 : Int) ((i : Int) - 1) = (j : Int) := by omega
    have wi : wr .i64 ((i : Int) + 1) = ((i + 1 : Nat) : Int) := wr_i64 (by omega) (by omega)
    have r1 := ls_ix hu1
    have r2 := ls_ix hu2
    have k2 := ih (i + 1) (by omega) o1 B H2 (by omega) ho1
    simp (maxSteps := 2000000) (disch := omega) [gd_in, gd_and, wr_i64, hiv, hiv2, w1, wm, r1, r2, cl (go _), hap, wi, setC_v hnf, setC_v hn1, -Int.natCast_add]
    exact k2
   ·have : i = vs.length := by omega
    subst this
    simp (maxSteps := 2000000) (disch := omega) [gd_in, gd_and, wr_i64, setC_v hnf, hvw]
    exact ⟨hnf, k⟩
 obtain ⟨x, H', h1, rfl, h2⟩ := key
 exact ⟨x, h2, h1⟩
end Go.Mx.Tryz
