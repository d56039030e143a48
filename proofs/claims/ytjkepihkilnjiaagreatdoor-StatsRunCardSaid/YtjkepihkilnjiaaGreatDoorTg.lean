/- Histories at the machine. -/
import Derived.Test.YtjkepihkilnjiaaGreatDoorTf
set_option linter.unusedSimpArgs false
set_option linter.unusedVariables false
set_option linter.unusedSectionVars false
set_option maxRecDepth 100000
namespace Go.Mx.Tryz
open Go.Lib Go.Proofs

def onesI (vs : List I) : List (List I) := vs.map fun v => [v]
def rowsP (vs : List I) : List (List V) := vs.map fun v => [.m v]
@[simp] theorem onesI_len (vs : List I) : (onesI vs).length = vs.length := by simp [onesI]
@[simp] theorem rowsP_len (vs : List I) : (rowsP vs).length = vs.length := by simp [rowsP]
theorem onesI_nth {vs : List I} {i : Nat} {u : I} (h : vs[i]? = some u) : nth (onesI vs) i = some [u] := by rw [nth_get]; simp [onesI, h]
theorem rowsP_nth {vs : List I} {i : Nat} {u : I} (h : vs[i]? = some u) : nth (rowsP vs) i = some [.m u] := by rw [nth_get]; simp [rowsP, h]
theorem immS_ones (vs : List I) : immS (onesI vs) = rowsP vs := by
 unfold immS onesI rowsP
 rw [List.map_map]
 rfl
def PatL (vs : List I) (ps : List (List Ce)) : Prop := vs.length = ps.length ∧ ∀ (i : Nat) u q, vs[i]? = some u → ps[i]? = some q → IsSl u (cells3 q)
theorem patL_snoc {vs : List I} {ps : List (List Ce)} (h : PatL vs ps) {u : I} {q : List Ce} (hu : IsSl u (cells3 q)) : PatL (vs ++ [u]) (ps ++ [q]) := by
 obtain ⟨h1, h2⟩ := h
 refine ⟨by simp [h1], fun i u' q' hi hq => ?_⟩
 by_cases hl : i < vs.length
 ·rw [List.getElem?_append_left hl] at hi
  rw [List.getElem?_append_left (by omega)] at hq
  exact h2 i u' q' hi hq
 ·have hi2 := (List.getElem?_eq_some_iff.1 hi).1
  have : i = vs.length := by simp at hi2; omega
  subst this
  simp at hi
  rw [h1] at hq
  simp at hq
  subst hi hq
  exact hu
def OutL (vs : List I) (o : V) (H : Hp) : Prop := vs ≠ [] ∧ ((o = .ls (onesI vs) ∧ H = []) ∨ (o = .sl 0 vs.length 1 0 vs.length false ∧ H = [.cs 27 1 (rowsP vs) 0 false]))
theorem outL_nf {vs : List I} {o : V} {H : Hp} (h : OutL vs o H) : noFaV o = true ∧ pureX (.len false) [o] = some (.m (.i .i64 vs.length)) := by
 rcases h with ⟨_, ⟨rfl, rfl⟩ | ⟨rfl, rfl⟩⟩
 ·exact ⟨rfl, by show some (V.m (.i .i64 ((onesI vs).length : Nat))) = _; rw [onesI_len]⟩
 ·exact ⟨rfl, rfl⟩
theorem outL_rd {vs : List I} {o : V} {H : Hp} (h : OutL vs o H) {i : Nat} {u : I} (hx : vs[i]? = some u) (hl : vs.length ≤ 1000000) : ∃ p, pureX (.ixa 1) [o, .m (.i .i64 (i : Int))] = some p ∧ ∀ B, readX ⟨B, H⟩ (.ld false 1) [p] = some (.m u) := by
 have hlt := (get_drop hx).1
 rcases h with ⟨_, ⟨rfl, rfl⟩ | ⟨rfl, rfl⟩⟩
 ·have hn := onesI_nth hx
  refine ⟨.m (.pt [u]), ?_, fun B => rfl⟩
  simp (maxSteps := 2000000) (disch := omega) [gd_in, gd_and, wr_i64, hn, onesI_len, hlt, show (i : Int) < vs.length from by omega]
 ·have hn := rowsP_nth hx
  refine ⟨.pt 0 vs.length i 0, ?_, fun B => ?_⟩
  ·simp (maxSteps := 2000000) (disch := omega) [gd_in, gd_and, wr_i64, hlt, show (i : Int) < vs.length from by omega]
  ·simp (maxSteps := 2000000) (disch := omega) [gd_in, gd_and, wr_i64, hn]
theorem rowsP_ok (vs : List I) (h : ∀ u, u ∈ vs → oneV (.m u) = true) : ((rowsP vs).all fun e => Nat.beq e.length 1 && e.all oneV) = true := by
 unfold rowsP
 rw [List.all_map, List.all_eq_true]
 intro u hu
 show (Nat.beq 1 1 && (oneV (.m u) && true)) = true
 rw [h u hu]
 rfl
theorem outL_push {vs : List I} {o : V} {H : Hp} (h : OutL vs o H) (hl : vs.length ≤ 1000000) (ho : ∀ u, u ∈ vs → oneV (.m u) = true) {u : I} (hu : oneV (.m u) = true) : ∃ o1 H1, (∀ B, appX ⟨B, H⟩ 27 1 24 o [[.m u]] = some (o1, ⟨B, H1⟩)) ∧ noFaV o1 = true ∧ OutL (vs ++ [u]) o1 H1 := by
 have hall : ∀ x, x ∈ vs ++ [u] → oneV (.m x) = true := fun x hx => by
  rcases List.mem_append.1 hx with hx | hx
  ·exact ho x hx
  ·rw [List.mem_singleton.1 hx]; exact hu
 have es : rowsP vs ++ [[V.m u]] = rowsP (vs ++ [u]) := by simp [rowsP]
 rcases h with ⟨hne, ⟨rfl, rfl⟩ | ⟨rfl, rfl⟩⟩
 ·refine ⟨.sl 0 (vs ++ [u]).length 1 0 (vs ++ [u]).length false, [.cs 27 1 (rowsP (vs ++ [u])) 0 false], fun B => ?_, rfl, by simp, .inr ⟨rfl, rfl⟩⟩
  show newRow ⟨B, []⟩ 27 1 24 (immS (onesI vs) ++ [[V.m u]]) = _
  rw [immS_ones, es]
  have h1 : Nat.ble ((rowsP (vs ++ [u])).length * 24) 140737488355328 = true := by
   rw [ble_dec]
   refine decide_eq_true ?_
   rw [rowsP_len, List.length_append, List.length_singleton]
   omega
  unfold newRow
  rw [h1, rowsP_ok _ hall, rowsP_len]
  rfl
 ·have ha := fun B => app_row (M := ⟨B, [.cs 27 1 (rowsP vs) 0 false]⟩) (r := 0) (bytes := 24) (xs := [[.m u]]) rfl (by simp) (by simp; omega) (by simp [hu])
  simp only [rowsP_len, List.length_cons, List.length_nil, Nat.zero_add, es, List.set_cons_zero] at ha
  exact ⟨_, _, ha, rfl, by simp, .inr ⟨by simp, rfl⟩⟩
theorem optP (k : Nat) (H : Hp) : ∀ vs : List I, optMap (fun e => optMap (view (k + 1) H) e) (rowsP vs) = some (onesI vs)
 | [] => rfl
 | x :: r => by
  show Option.bind (some [x]) _ = _
  simp only [Option.bind_some]
  have := optP k H r
  show Option.bind (optMap _ (rowsP r)) _ = _
  rw [this]
  rfl
theorem viewPl {H : Hp} {r : Nat} {vs : List I} (h : nth H r = some (.cs 27 1 (rowsP vs) 0 false)) (k : Nat) : view (k + 2) H (.sl r vs.length 1 0 vs.length false) = some (.sl (onesI vs)) := by
 have e : elems H (.sl r vs.length 1 0 vs.length false) = some (rowsP vs) := by
  show Option.bind (nth H r) _ = _
  rw [h]
  show gd (Nat.ble 0 vs.length && Nat.beq 1 1) (some (((rowsP vs).drop 0).take vs.length)) = _
  rw [ble_dec, decide_eq_true (Nat.zero_le _), List.drop_zero, List.take_of_length_le (by simp)]
  rfl
 show Option.bind (elems H (.sl r vs.length 1 0 vs.length false)) _ = _
 rw [e]
 show Option.bind (optMap _ (rowsP vs)) _ = _
 rw [optP]
 rfl
theorem outL_view {vs : List I} {o : V} {H : Hp} (h : OutL vs o H) (k : Nat) : view (k + 2) H o = some (.sl (onesI vs)) := by
 rcases h with ⟨_, ⟨rfl, rfl⟩ | ⟨rfl, rfl⟩⟩
 ·rfl
 ·exact viewPl rfl k
theorem bsf_1 {u : I} {es : List (List I)} (h : IsSl u es) (c : Call) (B : List (Nat × List V)) (H : Hp) : loudX c ⟨B, H⟩ (.bsf 1 [.m (.nl 4)] 1 [0]) [.m u] = some (.ls [[u]], ⟨B, H⟩) := by
 rcases h with rfl | ⟨rfl, _⟩ <;> rfl
theorem chk_of {t : TreeC} {q : List Ce} (hq : quietT t = true) (h1 : q.Pairwise (fun a b => less a b = true)) (h2 : ∀ c, c ∈ q → good c = true) (h3 : q.length ≤ 5000) (ht : topOk t q) : chkE t q = 0 := by
 unfold chkE
 rw [if_pos hq, if_pos (right_of h1 h2 h3), if_pos ((topM_lt (by have := (quiet_r hq).s2; omega) _ q rfl).2 fun c hc => (ht c hc).2)]
def HisV (t : TreeC) (p : List Ce) (n : Nat) (x : V) : Prop := ∃ ps e, HisQ t p n (ps, e) ∧ ((¬ e = 0 ∧ x = .tu [.m (.nl 4), .m (.i .i64 e)]) ∨ (e = 0 ∧ ∃ vs, PatL vs ps ∧ x = .tu [.m (.sl (onesI vs)), .m (.i .i64 0)]))
set_option maxHeartbeats 4000000 in
theorem his_m {t : TreeC} {h n v : I} {es : List (List I)} {p : List Ce} (hT : TreeV t h n es) (hv : IsSl v (cells3 p)) (hc : chkE t p = 0) (m : Nat) (hm : m ≤ 10000) (H : Hp) : ∃ x, HisV t p m x ∧ Gives G 17 [.m (.ag [.i .i64 t.states, h, n]), .m v, .m (.i .i64 (m : Int))] H x H := by
 obtain ⟨hq, hr, ht⟩ := chkE_ok hc
 have hR := quiet_r hq
 obtain ⟨pw, hg, hl⟩ := right_pwB hr
 have key : ∃ x H', Gives G 17 [.m (.ag [.i .i64 t.states, h, n]), .m v, .m (.i .i64 (m : Int))] H x H' ∧ (H' = H ∧ HisV t p m x) := by
  refine gives_of_ret ?_
  refine ret_pur rfl rfl rfl rfl rfl ?_
  generalize hQ : (fun (x : V) (H' : Hp) => H' = H ∧ HisV t p m x) = Q
  have qe : ∀ ps e, HisQ t p m (ps, e) → ¬ e = 0 → Q (.tu [.m (.nl 4), .m (.i .i64 e)]) H := fun ps e h1 h2 => by rw [← hQ]; exact ⟨rfl, ps, e, h1, .inl ⟨h2, rfl⟩⟩
  have qk : ∀ ps vs, HisQ t p m (ps, 0) → PatL vs ps → Q (.tu [.m (.sl (onesI vs)), .m (.i .i64 0)]) H := fun ps vs h1 h2 => by rw [← hQ]; exact ⟨rfl, ps, 0, h1, .inr ⟨rfl, vs, h2, rfl⟩⟩
  clear hQ
  have g1 := fun H => check_s hT hv (by omega) H
  rw [hc] at g1
  have m0 : ¬ (m : Int) < 0 := by omega
  have m1 : ¬ (10000 : Int) < m := by omega
  have m2 : ¬ 10000 < m := by omega
  have hb1 := fun c B H => bsf_1 hv c B H
  simp (maxSteps := 2000000) (disch := omega) [gd_in, gd_and, wr_i64, cl (g1 _), m0, m1, m2, hb1]
  refine (?key : ∀ (i : Nat) (vs : List I) (ps : List (List Ce)) (a : List Ce) (o : V) (B : List (Nat × List V)) (H1 : Hp), i ≤ m → getB B 3 = some [.m (.i .i64 t.states), .m h, .m n] → HisR t p (ps ++ [a]) → ps.length = i → PatL vs (ps ++ [a]) → chkE t a = 0 → (∀ u, u ∈ vs → oneV (.m u) = true) → OutL vs o H1 → Run G c17_B0 (S17_0 (.fa 3 0) o (.m (.i .i64 (m : Int))) (.m (.i .i64 (i : Int))) B H1) _) 0 [v] [] p _ _ _ (Nat.zero_le _) rfl .one rfl ⟨rfl, fun i u q hi hq => by
   cases i with
   | zero => cases hi; cases hq; exact hv
   | succ i => simp at hi⟩ hc (fun u hu => by rw [List.mem_singleton.1 hu]; exact isSl_1 hv) ⟨by simp, .inl ⟨rfl, rfl⟩⟩
  refine indM (fun i : Nat => m - i) fun i ih vs ps a o B H1 hi hB hH hps hP hca hone ho => ?_
  unfold c17_B0
  obtain ⟨hnf, hlen⟩ := outL_nf ho
  have hvl : vs.length = i + 1 := by rw [hP.1]; simp [hps]
  by_cases him : i < m
  ·have him2 : (i : Int) < m := by omega
   obtain ⟨u, hu⟩ : ∃ u, vs[i]? = some u := ⟨_, List.getElem?_eq_getElem (by omega)⟩
   have hua : IsSl u (cells3 a) := hP.2 i u a hu (by simp [← hps])
   obtain ⟨pt, r1, r2⟩ := outL_rd ho hu (by omega)
   have w1 : wr .i64 ((vs.length : Int) - 1) = (i : Int) := by rw [wr_i64 (by omega) (by omega)]; omega
   have wi : wr .i64 ((i : Int) + 1) = ((i + 1 : Nat) : Int) := wr_i64 (by omega) (by omega)
   obtain ⟨x, ⟨q, e, hst, rfl⟩, _⟩ := step_m hT hua hca []
   have gs : ∀ H, Gives G 33 [.m (.ag [.i .i64 t.states, h, n]), .m u] H (.tu [.m (zP q), .m (.i .i64 e)]) H := fun H => by
    obtain ⟨x', ⟨q', e', hst', rfl⟩, g⟩ := step_m hT hua hca H
    have := stepR_uniq hst hst'
    cases this
    exact g
   by_cases he : e = 0
   ·subst he
    obtain ⟨hq2, hr2, ht2⟩ := chkE_ok hca
    obtain ⟨k1, k2, k3, k4⟩ := stepR_ok hR ht2 hst
    have hcq := chk_of hq k1 k2 k3 k4
    have hoz := isSl_1 (zP_sl q)
    obtain ⟨o1, H2, ha, hn1, ho1⟩ := outL_push ho (by omega) hone hoz
    have hb2 := fun c B H => bsf_1 (zP_sl q) c B H
    have k := fun B' => ih (i + 1) (by omega) (vs ++ [zP q]) (ps ++ [a]) q o1 B' H2 (by omega)
    simp (maxSteps := 2000000) (disch := omega) [gd_in, gd_and, wr_i64, him, him2, hB, hlen, w1, r1, r2, cl (gs _), hb2, ha, wi, setC_v hnf, setC_v hn1, -Int.natCast_add]
    exact k _ hB (hH.snoc hst) (by simp [hps]) (patL_snoc hP (zP_sl q)) hcq (fun x hx => by
     rcases List.mem_append.1 hx with hx | hx
     ·exact hone x hx
     ·rw [List.mem_singleton.1 hx]; exact hoz) ho1
   ·have hq0 : q = [] := by
     rcases hst with ⟨e1, _⟩ | ⟨_, r, _, _, e1⟩
     ·exact congrArg Prod.fst e1
     ·split at e1
      ·exact congrArg Prod.fst e1
      ·exact absurd (congrArg Prod.snd e1) he
    subst hq0
    have k := qe [] e (.inr ⟨ps, a, by omega, hH, hst, he, rfl⟩) he
    simp (maxSteps := 2000000) (disch := omega) [gd_in, gd_and, wr_i64, him, him2, hB, hlen, w1, r1, r2, cl (gs _), he, setC_v hnf]
    exact k
  ·have : i = m := by omega
   subst this
   have hvw : view 20 H1 o = some (.sl (onesI vs)) := outL_view ho 18
   have k := qk (ps ++ [a]) vs (.inl ⟨rfl, by simp [hps], hH⟩) hP
   simp (maxSteps := 2000000) (disch := omega) [gd_in, gd_and, wr_i64, setC_v hnf, hvw]
   exact ⟨hnf, k⟩
 obtain ⟨x, H', h1, rfl, h2⟩ := key
 exact ⟨x, h2, h1⟩
theorem his_e {t : TreeC} {h n v : I} {es : List (List I)} {p : List Ce} (hT : TreeV t h n es) (hv : IsSl v (cells3 p)) (hl : (p.length : Int) ≤ 9223372036854775806) (hc : ¬ chkE t p = 0) (m : Int) (H : Hp) : Gives G 17 [.m (.ag [.i .i64 t.states, h, n]), .m v, .m (.i .i64 m)] H (.tu [.m (.nl 4), .m (.i .i64 (chkE t p))]) H := by
 have g1 := fun H => check_s hT hv hl H
 refine gives_pur rfl rfl rfl rfl rfl ?_
 simp (maxSteps := 2000000) (disch := omega) [gd_in, gd_and, wr_i64, cl (g1 _), hc]
end Go.Mx.Tryz
