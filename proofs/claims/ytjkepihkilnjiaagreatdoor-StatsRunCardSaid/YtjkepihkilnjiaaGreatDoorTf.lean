/- One step, and a run of steps, at the machine. -/
import Derived.Test.YtjkepihkilnjiaaGreatDoorTe
set_option linter.unusedSimpArgs false
set_option linter.unusedVariables false
set_option linter.unusedSectionVars false
set_option maxRecDepth 100000
namespace Go.Mx.Tryz
open Go.Lib Go.Proofs

def dmp (D : List (Int × Int)) : Row := mPB (D.map fun k => (k, true))
theorem mfind_tt (D : List (Int × Int)) (k : Int × Int) : (mfind (D.map fun k => (k, true)) k).getD false = decide (k ∈ D) := by
 induction D with
 | nil => rfl
 | cons a r ih =>
  by_cases h : a = k
  ·subst h; simp [mfind]
  ·have h2 : ¬ k = a := fun e => h e.symm
   simp only [List.map_cons, mfind, if_neg h, ih, List.mem_cons, h2, false_or]
theorem dmp_get (D : List (Int × Int)) (x y : Int) : lkpRow ⟨true, [1, 1]⟩ [.m (.b false)] false false (dmp D) (.ag [.i .i64 x, .i .i64 y]) = some (.m (.b (decide ((x, y) ∈ D)))) := by
 have := mPB_get (D.map fun k => (k, true)) x y false
 rw [mfind_tt] at this
 exact this
theorem dmp_up {D : List (Int × Int)} {x y : Int} (h : (x, y) ∉ D) : mupR ⟨true, [1, 1]⟩ (dmp D) (.ag [.i .i64 x, .i .i64 y]) (.m (.b true)) = some (dmp (D ++ [(x, y)])) := by
 have := mPB_up (D.map fun k => (k, true)) x y true
 rw [mset_new] at this
 ·rw [show dmp (D ++ [(x, y)]) = mPB (D.map (fun k => (k, true)) ++ [((x, y), true)]) from by unfold dmp; rw [List.map_append]; rfl]
  exact this
 ·rw [List.map_map]
  intro hm
  obtain ⟨k, hk, e⟩ := List.mem_map.1 hm
  have e : k = (x, y) := e
  exact h (e ▸ hk)
def OutC (D : List (Int × Int)) (f : List Ce) (o : V) (H : Hp) : Prop := (f = [] ∧ o = .m (.nl 4) ∧ H = [dmp D]) ∨ (f ≠ [] ∧ o = .sl 1 f.length 3 0 f.length false ∧ H = [dmp D, .cs 42 3 (rows3 f) 0 false])
theorem outC_0 {D : List (Int × Int)} {f : List Ce} {o : V} {H : Hp} (h : OutC D f o H) : nth H 0 = some (dmp D) ∧ noFaV o = true ∧ ∀ D', setEl H 0 (dmp D') = some (H.set 0 (dmp D')) ∧ OutC D' f o (H.set 0 (dmp D')) := by
 rcases h with ⟨rfl, rfl, rfl⟩ | ⟨hne, rfl, rfl⟩
 ·exact ⟨rfl, rfl, fun D' => ⟨rfl, .inl ⟨rfl, rfl, rfl⟩⟩⟩
 ·exact ⟨rfl, rfl, fun D' => ⟨rfl, .inr ⟨hne, rfl, rfl⟩⟩⟩
theorem outC_push {D : List (Int × Int)} {f : List Ce} {o : V} {H : Hp} (h : OutC D f o H) (hl : f.length ≤ 1000000) (c : Ce) : ∃ o1 H1, (∀ B, appX ⟨B, H⟩ 42 3 24 o [[.m (.i .i64 c.x), .m (.i .i64 c.y), .m (.i .i64 c.s)]] = some (o1, ⟨B, H1⟩)) ∧ noFaV o1 = true ∧ OutC D (f ++ [c]) o1 H1 := by
 rcases h with ⟨rfl, rfl, rfl⟩ | ⟨hne, rfl, rfl⟩
 ·exact ⟨_, _, fun B => rfl, rfl, .inr ⟨by simp, rfl, rfl⟩⟩
 ·have ha := fun B => app_row (M := ⟨B, [dmp D, .cs 42 3 (rows3 f) 0 false]⟩) (r := 1) (bytes := 24) (xs := [[.m (.i .i64 c.x), .m (.i .i64 c.y), .m (.i .i64 c.s)]]) rfl (by simp) (by simp; omega) rfl
  simp only [rows3_len, List.length_cons, List.length_nil, Nat.zero_add, List.set_cons_succ, List.set_cons_zero] at ha
  have e : rows3 f ++ [[.m (.i .i64 c.x), .m (.i .i64 c.y), .m (.i .i64 c.s)]] = rows3 (f ++ [c]) := by simp [rows3, ceRw, Ce.i]
  rw [e] at ha
  exact ⟨_, _, ha, rfl, .inr ⟨by simp, by simp, rfl⟩⟩
theorem outC_call {F : Nat} {D : List (Int × Int)} {f : List Ce} {o x : V} {H : Hp} (hp : G.prim F = none) (hs : G.sh F = false) (ho : OutC D f o H) (h : ∀ H, Gives G F [.m (zP f)] H x H) : ∃ H2, Gives G F [o] H x H2 := by
 rcases ho with ⟨rfl, rfl, rfl⟩ | ⟨hne, rfl, rfl⟩
 ·exact ⟨_, h _⟩
 ·have hz : zP f = .sl (cells3 f) := by unfold zP; rw [if_neg hne]
  rw [hz] at h
  have hv : optMap (view 20 [dmp D, Row.cs 42 3 (rows3 f) 0 false]) [V.sl 1 f.length 3 0 f.length false] = some [.sl (cells3 f)] := by
   have := viewPg (H := [dmp D, Row.cs 42 3 (rows3 f) 0 false]) (r := 1) (b := 0) (q := f) rfl (Nat.zero_le _) 18
   show (view 20 _ _).bind _ = _
   rw [this]
   rfl
  cases hf : flatV x with
  | true => exact ⟨_, gives_view (is := [.sl (cells3 f)]) hp hs (h []) hv (.inr ⟨by simp [refs, ref1], hf⟩)⟩
  | false =>
   have hfz : freeze ([V.sl 1 f.length 3 0 f.length false].flatMap refs) [dmp D, Row.cs 42 3 (rows3 f) 0 false] = some [dmp D, Row.cs 42 3 (rows3 f) 0 true] := by
    show Option.bind (gd ((rows3 f).all fun e => e.all isM) (some (Row.cs 42 3 (rows3 f) 0 true))) _ = _
    rw [rows3_isM]
    rfl
   exact ⟨_, gives_view_fr (is := [.sl (cells3 f)]) hp hs (h []) hv (by simp [refs, ref1]) hf rfl hfz⟩
def StepQ (t : TreeC) (p : List Ce) (x : V) : Prop := ∃ q e, StepR t p (q, e) ∧ x = .tu [.m (zP q), .m (.i .i64 e)]
set_option maxHeartbeats 4000000 in
theorem step_m {t : TreeC} {h n v : I} {es : List (List I)} {p : List Ce} (hT : TreeV t h n es) (hv : IsSl v (cells3 p)) (hc : chkE t p = 0) (H : Hp) : ∃ x, StepQ t p x ∧ Gives G 33 [.m (.ag [.i .i64 t.states, h, n]), .m v] H x H := by
 obtain ⟨hq, hr, ht⟩ := chkE_ok hc
 have hR := quiet_r hq
 obtain ⟨pw, hg, hl⟩ := right_pwB hr
 have hrv := hv.rules
 simp only [show (cells3 p).length = p.length from by simp [cells3]] at hrv
 have hrh := hT.hd.rules
 simp only [cells2_len] at hrh
 have hh := hoodOk_len hR.hood
 have key : ∃ x H', Gives G 33 [.m (.ag [.i .i64 t.states, h, n]), .m v] H x H' ∧ (H' = H ∧ StepQ t p x) := by
  refine gives_of_ret ?_
  refine ret_pur rfl rfl rfl rfl rfl ?_
  generalize hQ : (fun (x : V) (H' : Hp) => H' = H ∧ StepQ t p x) = Q
  have q5 : StepR t p ([], 5) → Q (.tu [.m (.nl 4), .m (.i .i64 5)]) H := fun hs => by rw [← hQ]; exact ⟨rfl, [], 5, hs, rfl⟩
  have qa : ∀ q e, StepR t p (q, e) → Q (.tu [.m (zP q), .m (.i .i64 e)]) H := fun q e hs => by rw [← hQ]; exact ⟨rfl, q, e, hs, rfl⟩
  clear hQ
  have g1 := fun H => of_m hv hr H
  simp (maxSteps := 2000000) (disch := omega) [gd_in, gd_and, wr_i64, cl (g1 _), hrv]
  refine (?key : ∀ (i : Nat) (D : List (Int × Int)) (l : List Ce) (o : V) (B : List (Nat × List V)) (H1 : Hp), i ≤ p.length → getB B 2 = some [.m (.i .i64 t.states), .m h, .m n] → StI t p D l → (∀ (a : Nat) c o, a < i → p[a]? = some c → o ∈ t.hood → (c.x - o.1, c.y - o.2) ∈ D) → l.length ≤ 25 * i → OutC D l o H1 → Run G c33_B1 (S33_1 (.fa 2 0) (.m (fzm (posM p))) (.mp 0) o (.m v) (.m (.i .i64 p.length)) (.m (.i .i64 (i : Int))) B H1) _) 0 [] [] _ _ _ (Nat.zero_le _) rfl (stI_nil t p) (fun a c o h => by omega) (by simp) (.inl ⟨rfl, rfl, rfl⟩)
  refine indM (fun i : Nat => p.length - i) fun i ih D l o B H1 hi hB hI hall hll ho => ?_
  unfold c33_B1
  obtain ⟨n0, hnf, hset0⟩ := outC_0 ho
  cases hx : p[i]? with
  | none =>
   have : i = p.length := by have := List.getElem?_eq_none_iff.1 hx; omega
   subst this
   have hall2 : ∀ c o, c ∈ p → o ∈ t.hood → (c.x - o.1, c.y - o.2) ∈ D := fun c o hc ho2 => by
    obtain ⟨a, ha⟩ := List.mem_iff_getElem?.1 hc
    exact hall a c o (get_drop ha).1 ha ho2
   have hgl := stI_good hR ht hI
   rcases from_w (zP_sl l) (by omega) [] with ⟨e, he, _⟩ | ⟨he, q, hqp, hasc, g0⟩
   ·rw [bad_good hgl] at he
    cases he
   ·obtain ⟨_, k1, k2, k3⟩ := stI_from hR ht hI hqp hasc
    have hst := stI_end hq hI hall2 k1 k2
    have gA := fun H => gives_view (H := H) (vs := [.m (zP l)]) (is := [zP l]) rfl rfl g0 rfl (.inl ⟨rfl, rfl⟩)
    obtain ⟨H2, gF⟩ := outC_call rfl rfl ho gA
    rw [k3] at gF
    by_cases h5 : 5000 < q.length
    ·rw [if_pos h5] at gF hst
     have k := qa [] 6 hst
     simp (maxSteps := 2000000) (disch := omega) [gd_in, gd_and, wr_i64, hrv, cl gF]
     exact k
    ·rw [if_neg h5] at gF hst
     have k := qa q 0 hst
     generalize zP q = zz at *
     simp (maxSteps := 2000000) (disch := omega) [gd_in, gd_and, wr_i64, hrv, cl gF]
     exact k
  | some c =>
   have hlt := (get_drop hx).1
   have hlt' : (i : Int) < p.length := by omega
   have hn := cells3_nth hx
   have wi : wr .i64 ((i : Int) + 1) = ((i + 1 : Nat) : Int) := wr_i64 (by omega) (by omega)
   have hcg := hg c (List.mem_of_getElem? hx)
   have hcb : (-1048576 ≤ c.x ∧ c.x ≤ 1048576) ∧ (-1048576 ≤ c.y ∧ c.y ≤ 1048576) := by
    unfold good placed at hcg
    simp only [Bool.and_eq_true, decide_eq_true_eq] at hcg
    omega
   simp (maxSteps := 2000000) (disch := omega) [gd_in, gd_and, wr_i64, hrv, hlt, hlt', hn, hB, hrh]
   refine (?key2 : ∀ (j : Nat) (D : List (Int × Int)) (l : List Ce) (o : V) (B : List (Nat × List V)) (H1 : Hp), j ≤ t.hood.length → getB B 2 = some [.m (.i .i64 t.states), .m h, .m n] → getB B 10 = some [.m (.i .i64 c.x), .m (.i .i64 c.y), .m (.i .i64 c.s)] → StI t p D l → (∀ (a : Nat) c o, a < i → p[a]? = some c → o ∈ t.hood → (c.x - o.1, c.y - o.2) ∈ D) → (∀ (b : Nat) o, b < j → t.hood[b]? = some o → (c.x - o.1, c.y - o.2) ∈ D) → l.length ≤ 25 * i + j → OutC D l o H1 → Run G c33_B0 (S33_0 (.fa 2 0) (.m (fzm (posM p))) (.mp 0) o (.fa 10 0) (.m v) (.m (.i .i64 p.length)) (.m (.i .i64 (i : Int))) (.m h) (.m (.i .i64 t.hood.length)) (.m (.i .i64 (j : Int))) B H1) _) 0 D l o _ H1 (Nat.zero_le _) (by simpa using hB) (by simp) hI hall (fun b o h => by omega) (by omega) ho
   clear hset0 hI hall hll ho n0 hnf hB B H1 o l D
   refine indM (fun j : Nat => t.hood.length - j) fun j ihj D l o B H1 hj hB hA hI hall hbj hll ho => ?_
   unfold c33_B0
   obtain ⟨n0, hnf, hset⟩ := outC_0 ho
   cases hy : t.hood[j]? with
   | none =>
    have : j = t.hood.length := by have := List.getElem?_eq_none_iff.1 hy; omega
    subst this
    have k := ih (i + 1) (by omega) D l o B H1 (by omega) hB hI (fun a c' o' ha hc' ho' => by
     by_cases e : a < i
     ·exact hall a c' o' e hc' ho'
     ·have : a = i := by omega
      subst this
      rw [hx] at hc'
      cases hc'
      obtain ⟨b, hb⟩ := List.mem_iff_getElem?.1 ho'
      exact hbj b o' (get_drop hb).1 hb) (by omega) ho
    simp (maxSteps := 2000000) (disch := omega) [gd_in, gd_and, wr_i64, hrh, wi, setC_v hnf, -Int.natCast_add]
    exact k
   | some o2 =>
    have hjl := (get_drop hy).1
    have hjl2 : (j : Int) < t.hood.length := by omega
    have hox := cells2_nth hy
    have hob := hoodOk_mem hR.hood o2 (List.mem_of_getElem? hy)
    have wj : wr .i64 ((j : Int) + 1) = ((j + 1 : Nat) : Int) := wr_i64 (by omega) (by omega)
    obtain ⟨qx, hqx⟩ : ∃ qx, qx = c.x - o2.1 := ⟨_, rfl⟩
    obtain ⟨qy, hqy⟩ : ∃ qy, qy = c.y - o2.2 := ⟨_, rfl⟩
    have wx : wr .i64 (c.x - o2.1) = qx := by rw [hqx]; exact wr_i64 (by omega) (by omega)
    have wy : wr .i64 (c.y - o2.2) = qy := by rw [hqy]; exact wr_i64 (by omega) (by omega)
    have hdg := dmp_get D qx qy
    have hbj2 : ∀ D' : List (Int × Int), (∀ k, k ∈ D → k ∈ D') → (qx, qy) ∈ D' → ∀ (b : Nat) o, b < j + 1 → t.hood[b]? = some o → (c.x - o.1, c.y - o.2) ∈ D' := fun D' h1 h2 b o' hb ho' => by
     by_cases e : b < j
     ·exact h1 _ (hbj b o' e ho')
     ·have : b = j := by omega
      subst this
      rw [hy] at ho'
      cases ho'
      rw [← hqx, ← hqy]
      exact h2
    by_cases hD : (qx, qy) ∈ D
    ·rw [decide_eq_true hD] at hdg
     have k := fun B' => ihj (j + 1) (by omega) D l o B' H1 (by omega)
     simp (maxSteps := 2000000) (disch := omega) [gd_in, gd_and, wr_i64, hrh, hjl, hjl2, hox, hA, hB, wx, wy, n0, hdg, wj, setC_v hnf, -Int.natCast_add]
     exact k _ (by simpa using hB) (by simpa using hA) hI hall (hbj2 D (fun _ h => h) hD) (by omega) ho
    ·rw [decide_eq_false hD] at hdg
     have hup := dmp_up hD
     obtain ⟨hs1, ho1⟩ := hset (D ++ [(qx, qy)])
     have gn := fun H => next_m hT hR ht qx qy (by omega) (by omega) H
     have hrg := next_rng hR ht qx qy
     have hsub : ∀ k, k ∈ D → k ∈ D ++ [(qx, qy)] := fun k hk => by simp [hk]
     have hall3 : ∀ (a : Nat) c o, a < i → p[a]? = some c → o ∈ t.hood → (c.x - o.1, c.y - o.2) ∈ D ++ [(qx, qy)] := fun a c o h1 h2 h3 => hsub _ (hall a c o h1 h2 h3)
     by_cases hz : nextF t p qx qy = 0
     ·rw [hz] at gn
      have k := fun B' => ihj (j + 1) (by omega) (D ++ [(qx, qy)]) l o B' (H1.set 0 (dmp (D ++ [(qx, qy)]))) (by omega)
      simp (maxSteps := 2000000) (disch := omega) [gd_in, gd_and, wr_i64, hrh, hjl, hjl2, hox, hA, hB, wx, wy, n0, hdg, hup, hs1, cl (gn _), wj, setC_v hnf, -Int.natCast_add]
      exact k _ (by simpa using hB) (by simpa using hA) (stI_skip hI hz) hall3 (hbj2 _ hsub (by simp)) (by omega) ho1
     ·have hpos : 0 < nextF t p qx qy := by omega
      have gp := fun H => place_m qx qy H
      cases hpl : placed qx qy with
      | false =>
       rw [hpl] at gp
       have k := q5 (stI_out hz hpl)
       generalize nextF t p qx qy = nx at *
       simp (maxSteps := 2000000) (disch := omega) [gd_in, gd_and, wr_i64, hrh, hjl, hjl2, hox, hA, hB, wx, wy, n0, hdg, hup, hs1, cl (gn _), hpos, cl (gp _), setC_v hnf, -Int.natCast_add]
       exact k
      | true =>
       rw [hpl] at gp
       obtain ⟨o3, H3, ha, hn3, ho3⟩ := outC_push ho1 (by omega) ⟨qx, qy, nextF t p qx qy⟩
       dsimp only at ha
       have hI3 := stI_add hI hD hz hpl
       have k := fun B' => ihj (j + 1) (by omega) (D ++ [(qx, qy)]) (l ++ [⟨qx, qy, nextF t p qx qy⟩]) o3 B' H3 (by omega)
       generalize nextF t p qx qy = nx at *
       simp (maxSteps := 2000000) (disch := omega) [gd_in, gd_and, wr_i64, hrh, hjl, hjl2, hox, hA, hB, wx, wy, n0, hdg, hup, hs1, cl (gn _), hpos, cl (gp _), ha, wj, setC_v hnf, setC_v hn3, -Int.natCast_add]
       exact k _ (by simpa using hB) (by simpa using hA) hI3 hall3 (hbj2 _ hsub (by simp)) (by simp; omega) ho3
 obtain ⟨x, H', h1, rfl, h2⟩ := key
 exact ⟨x, h2, h1⟩
end Go.Mx.Tryz
