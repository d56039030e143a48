/- Form of the program: the least image. -/
import Derived.Test.YtchacpbmpgfblaaDoorCp
import Derived.Test.YtchacpbmpgfblaaDoorGr
set_option linter.unusedSimpArgs false
set_option linter.unusedVariables false
set_option linter.unusedSectionVars false
set_option maxRecDepth 100000
namespace Go.Mx.Tryd
open Go.Sort Go.Lib Go.Proofs

theorem slI_ix {z : I} {l : List Int} (hz : IsSl z (celI l)) {i : Nat} {k : Int} (hx : l[i]? = some k) : pureX (.ixa 1) [.m z, .m (.i .i64 (i : Int))] = some (.m (.pt [.i .i64 k])) := by
 have hr := hz.rules
 simp only [celI_len] at hr
 have hlt := (get_drop hx).1
 have hlt' : (i : Int) < l.length := by omega
 have hn : nth (celI l) i = some [.i .i64 k] := by rw [nth_get]; simp [celI, hx]
 simp (maxSteps := 2000000) (disch := omega) [gd_in, gd_and, wr_i64, hr, hlt, hlt', hn]
theorem images_w {v : I} {z : V} {p : List Ce} {l : List Int} (hv : IsSl v (cells3 p)) (hp : right p = true) (hzl : pureX (.len false) [z] = some (.m (.i .i64 l.length))) (hzi : ∀ (i : Nat) (k : Int), l[i]? = some k → pureX (.ixa 1) [z, .m (.i .i64 (i : Int))] = some (.m (.pt [.i .i64 k]))) (hzn : noFaV z = true) (hl : l.length ≤ 1000000) (r rs rp : Nat) (J : Nat → Hp → Prop) (Q : V → Hp → Prop)
  (h0 : ∀ i H, J i H → (∃ b, b ≤ 1 ∧ nth H rs = some (.cs 33 1 [[z]] b false)) ∧ (∃ b, b ≤ 1 ∧ nth H rp = some (.cs 23 1 [[.m v]] b false)))
  (h1 : ∀ i k H, J i H → l[i]? = some k → Ret G yN [.yl r, .m (.i .i64 k), .m (.sl (cells3 (imgC (modS k) p)))] H fun v H' => v = .m (.b true) ∧ J (i + 1) H')
  (h2 : ∀ H, J l.length H → Q (.tu []) H) (H : Hp) (hJ : J 0 H) : Ret G 58 [.yl r, .pt rs 1 0 0, .pt rp 1 0 0] H Q := by
 obtain ⟨⟨b1, hb1, k1⟩, ⟨b2, hb2, k2⟩⟩ := h0 0 H hJ
 refine ret_sh mono rfl rfl rfl rfl rfl ?_
 simp (maxSteps := 2000000) (disch := omega) [gd_in, gd_and, wr_i64, k1, hb1, hzl, setC_v hzn]
 refine (?key : ∀ (i : Nat) (B : List (Nat × List V)) (H : Hp), i ≤ l.length → J i H → Run G c58_B0 (S58_0 (.yl r) (.pt rp 1 0 0) z (.m (.i .i64 l.length)) (.m (.i .i64 (i : Int))) B H) _) 0 [] H (Nat.zero_le _) hJ
 clear hJ k1 k2 hb1 hb2
 refine indM (fun i : Nat => l.length - i) fun i ih B H hi hJ => ?_
 obtain ⟨⟨b1, hb1, k1⟩, ⟨b2, hb2, k2⟩⟩ := h0 i H hJ
 unfold c58_B0
 cases hx : l[i]? with
 | some k =>
  have hlt := (get_drop hx).1
  have hlt' : (i : Int) < l.length := by omega
  have hn := hzi i k hx
  have wi : wr .i64 ((i : Int) + 1) = (i : Int) + 1 := wr_i64 (by omega) (by omega)
  have gi := fun H => img_s hv hp k H
  simp (maxSteps := 2000000) (disch := omega) [gd_in, gd_and, wr_i64, hlt, hlt', hn, k1, hb1, k2, hb2, cl (gi _)]
  rw [callC_some]
  refine retm (h1 i k H hJ hx) fun v H' hq => ?_
  obtain ⟨rfl, hJ'⟩ := hq
  simp (maxSteps := 2000000) (disch := omega) [gd_in, gd_and, wr_i64, wi]
  exact ih (i + 1) (by omega) _ _ (by omega) hJ'
 | none =>
  have : i = l.length := by have := List.getElem?_eq_none_iff.1 hx; omega
  subst this
  simp (maxSteps := 2000000) (disch := omega) [gd_in, gd_and, wr_i64, ]
  exact h2 H hJ

def Grp (l g : List Int) : Prop := ∃ T, Mid (seedT l) T ∧ Clo T ∧ g = intsT T 8
theorem grp_uniq {l g g' : List Int} (h : Grp l g) (h' : Grp l g') : g = g' := by
 obtain ⟨T, h1, h2, rfl⟩ := h
 obtain ⟨S, h3, h4, rfl⟩ := h'
 exact intsT_congr fun j hj => mid_uniq h1 h2 h3 h4 hj
theorem grp_s {v : I} {l g : List Int} (hv : IsSl v (celI l)) (hl : l.length ≤ 1000000) (hg : Grp l g) (H : Hp) : Gives G 34 [.m v] H (.m (zN g)) H := by
 obtain ⟨T, h1, h2, h3⟩ := group_s hv hl H
 rw [grp_uniq hg ⟨T, h1, h2, rfl⟩]
 exact h3
theorem grp_r {v : I} {l g : List Int} (hv : IsSl v (celI l)) (hl : l.length ≤ 1000000) (hk : ∀ k, k ∈ l → -9223372036854775808 ≤ k ∧ k ≤ 9223372036854775807) (hg : Grp l g) (H : Hp) : Gives G 15 [.m v] H (.m (zN g)) H := by
 obtain ⟨T, h1, h2, h3⟩ := group_r hv hl hk H
 rw [grp_uniq hg ⟨T, h1, h2, rfl⟩]
 exact h3
theorem grp_ex (l : List Int) (hl : l.length ≤ 1000000) : ∃ g, Grp l g := by
 obtain ⟨T, h1, h2, _⟩ := group_s (isSl_sl (celI l)) hl []
 exact ⟨_, T, h1, h2, rfl⟩
theorem grp_len {l g : List Int} (h : Grp l g) : g.length ≤ 8 := by
 obtain ⟨T, _, _, rfl⟩ := h
 exact intsT_len T 8
theorem grp_mem {l g : List Int} (h : Grp l g) : ∀ k, k ∈ g → 0 ≤ k ∧ k < 8 := fun k hk => by
 obtain ⟨T, _, _, rfl⟩ := h
 unfold intsT at hk
 obtain ⟨j, hj, rfl⟩ := List.mem_map.1 hk
 have := List.mem_range.1 (List.mem_filter.1 hj).1
 omega
def stepM (p b : List Ce) (k : Int) : List Ce := if cmpL (imgC (modS k) p) b < 0 then imgC (modS k) p else b
def bestC (p b : List Ce) (g : List Int) : List Ce := g.foldl (stepM p) b
theorem bestC_snoc (p b : List Ce) (g : List Int) (k : Int) : bestC p b (g ++ [k]) = stepM p (bestC p b g) k := by simp [bestC]
theorem img_len (k : Nat) (p : List Ce) : (imgC k p).length = p.length := by
 unfold imgC homeC
 rw [sortI_len, List.length_map, List.length_map]
theorem bestC_len {p b : List Ce} (hb : b.length = p.length) : ∀ n (g : List Int), g.length = n → (bestC p b g).length = p.length
 | 0, g, h => by rw [List.eq_nil_of_length_eq_zero h]; exact hb
 | n + 1, g, h => by
  obtain ⟨q, c, rfl⟩ : ∃ q c, g = q ++ [c] := ⟨g.dropLast, g.getLast (by intro e; rw [e] at h; simp at h), (List.dropLast_concat_getLast _).symm⟩
  rw [bestC_snoc]
  unfold stepM
  split
  ·exact img_len _ _
  ·exact bestC_len hb n q (by simpa using h)
theorem home_len (p : List Ce) : (homeC p).length = p.length := by unfold homeC; simp
theorem isSl_cel {y : I} {es : List (List I)} (h : IsSl y es) : cellsV (.m y) = some [.m y] ∧ oneV (.m y) = true := by
 rcases h with rfl | ⟨rfl, _⟩ <;> exact ⟨rfl, rfl⟩
@[reducible] def lpF (st : Nat) : Row := .lp st none [(6, .pt 0 1 0 0)] [20, 21] c14_A0 c14_R0
set_option maxHeartbeats 4000000 in
theorem form_s {v z : I} {p : List Ce} {l g : List Int} (hv : IsSl v (cells3 p)) (hp : right p = true) (hlg : largeC p = false) (hz : IsSl z (celI l)) (hl : l.length ≤ 1000000) (hg : Grp l g) (H : Hp) :
  ∃ w, IsSl w (cells3 (bestC p (homeC p) g)) ∧ Gives G 14 [.m v, .m z] H (.tu [.m w, .m (.i .i64 0)]) H := by
 have hpl : p.length ≤ 5000 := (right_pw hp).2.2
 have hgl := grp_len hg
 have key : ∃ x H', Gives G 14 [.m v, .m z] H x H' ∧ (H' = H ∧ ∃ w, IsSl w (cells3 (bestC p (homeC p) g)) ∧ x = .tu [.m w, .m (.i .i64 0)]) := by
  refine gives_of_ret ?_
  refine ret_pur rfl rfl rfl rfl rfl ?_
  have g1 := fun H => right_s hv (by omega) H
  rw [hp] at g1
  have g2 := fun H => large_s hv (by omega) H
  rw [hlg] at g2
  have g3 := fun H => home_s hv hp H
  have g4 := fun H => grp_s hz hl hg H
  obtain ⟨w0, hw0, ew0⟩ : ∃ w0, IsSl w0 (cells3 (homeC p)) ∧ (if p = [] then v else I.sl (cells3 (homeC p))) = w0 := ⟨_, by
   split
   ·rename_i h; subst h; exact hv
   ·exact isSl_sl _, rfl⟩
  rw [ew0] at g3
  have gim : ∀ (a b : I) (_ : cellsV (.m a) = some [.m a]) (_ : cellsV (.m b) = some [.m b]) (H : Hp), Gives G 33 [.m a, .m b] H (.fn 58 [.pt (H.length + 1) 1 0 0, .pt H.length 1 0 0]) (H ++ [.cs 23 1 [[.m a]] 0 false, .cs 33 1 [[.m b]] 0 false]) := fun a b ha hb H => by
   refine .of_ret (ret_sh mono rfl rfl rfl rfl rfl ?_)
   simp (maxSteps := 2000000) (disch := omega) [gd_in, gd_and, wr_i64, ha, hb]
  have c0 := isSl_cel hw0
  have c1 := isSl_cel hv
  have c2 := isSl_cel (zN_sl g)
  have gim := gim v (zN g) c1.1 c2.1
  have hw1 : writeR 1 [[V.m (.nl 4)]] 0 0 [V.m w0] = some [[V.m w0]] := rfl
  simp (maxSteps := 2000000) (disch := omega) [gd_in, gd_and, wr_i64, cl (g1 _), cl (g2 _), cl (g3 _), cl (g4 _), cl (gim _), run_rng, c0, hw1]
  refine images_w (l := g) (z := .m (zN g)) hv hp (by have := (zN_sl g).rules.1; rw [celI_len] at this; exact this) (fun i k hx => slI_ix (zN_sl g) hx) rfl (by omega) 3 2 1 (fun i H => ∃ w, IsSl w (cells3 (bestC p (homeC p) (g.take i))) ∧ nth H 0 = some (.cs 23 1 [[.m w]] 1 false) ∧ nth H 1 = some (.cs 23 1 [[.m v]] 0 false) ∧ nth H 2 = some (.cs 33 1 [[.m (zN g)]] 0 false) ∧ nth H 3 = some (lpF 0)) _ ?_ ?_ ?_ _ ⟨w0, hw0, rfl, rfl, rfl, rfl⟩
  ·intro i H hJ
   obtain ⟨w, hw, k0, k1, k2, k3⟩ := hJ
   exact ⟨⟨0, by omega, k2⟩, ⟨0, by omega, k1⟩⟩
  ·intro i k H hJ hx
   obtain ⟨w, hw, k0, k1, k2, k3⟩ := hJ
   refine ret_round mono rfl rfl k3 rfl rfl ?_
   have hlt := nl_lt k3
   have e1 : begLp 3 H = some (H.set 3 (lpF 1)) := by
    unfold begLp
    rw [k3]
    exact setEl_put _ _ _ hlt
   have e2 : setLp 3 1 0 none (H.set 3 (lpF 1)) = some (H.set 3 (lpF 0)) := by
    unfold setLp
    rw [nl_set_eq hlt]
    show setEl (H.set 3 (lpF 1)) 3 (lpF 0) = _
    rw [setEl_put _ _ _ (by simpa using hlt), List.set_set]
   have n0 : nth (H.set 3 (lpF 1)) 0 = some (.cs 23 1 [[.m w]] 1 false) := by rw [nl_set_ne (by omega)]; exact k0
   have htk : g.take (i + 1) = g.take i ++ [k] := take_succ_get hx
   have hbl : (bestC p (homeC p) (g.take i)).length = p.length := bestC_len (home_len p) _ _ rfl
   have gc := fun H => compare_s (isSl_sl (cells3 (imgC (modS k) p))) hw (by rw [img_len]; omega) (by omega) H
   have hsi : IsSl (.sl (cells3 (imgC (modS k) p))) (cells3 (imgC (modS k) p)) := isSl_sl _
   unfold c14_A0 c14_R0
   by_cases hc : cmpL (imgC (modS k) p) (bestC p (homeC p) (g.take i)) < 0
   ·have es : bestC p (homeC p) (g.take (i + 1)) = imgC (modS k) p := by
     rw [htk, bestC_snoc]
     unfold stepM
     rw [if_pos hc]
    generalize imgC (modS k) p = q at *
    have s0 : setEl (H.set 3 (lpF 1)) 0 (.cs 23 1 [[.m (.sl (cells3 q))]] 1 false) = some ((H.set 3 (lpF 1)).set 0 (.cs 23 1 [[.m (.sl (cells3 q))]] 1 false)) := setEl_put _ _ _ (by have := nl_lt k0; simpa using this)
    have hw2 : ∀ x y : V, writeR 1 [[x]] 0 0 [y] = some [[y]] := fun _ _ => rfl
    have e3 : setLp 3 1 0 none ((H.set 3 (lpF 1)).set 0 (.cs 23 1 [[.m (.sl (cells3 q))]] 1 false)) = some (((H.set 3 (lpF 1)).set 0 (.cs 23 1 [[.m (.sl (cells3 q))]] 1 false)).set 3 (lpF 0)) := by
     unfold setLp
     rw [nl_set_ne (by omega), nl_set_eq hlt]
     show setEl ((H.set 3 (lpF 1)).set 0 _) 3 (lpF 0) = _
     rw [setEl_put _ _ _ (by simpa using hlt)]
    generalize hX : Row.cs 23 1 [[.m (.sl (cells3 q))]] 1 false = X at *
    simp (maxSteps := 2000000) (disch := omega) [gd_in, gd_and, wr_i64, e1, n0, cl (gc _), hc, hw2, hX, s0, endR, e3]
    refine ⟨.sl (cells3 q), by rw [es]; exact isSl_sl _, ?_, ?_, ?_, ?_⟩
    ·rw [nl_set_ne (by omega), nl_set_eq (by have := nl_lt k0; simpa using this), ← hX]
    ·rw [nl_set_ne (by omega), nl_set_ne (by omega), nl_set_ne (by omega)]; exact k1
    ·rw [nl_set_ne (by omega), nl_set_ne (by omega), nl_set_ne (by omega)]; exact k2
    ·rw [nl_set_eq (by simpa using hlt)]
   ·have es : bestC p (homeC p) (g.take (i + 1)) = bestC p (homeC p) (g.take i) := by
     rw [htk, bestC_snoc]
     unfold stepM
     rw [if_neg hc]
    generalize imgC (modS k) p = q at *
    simp (maxSteps := 2000000) (disch := omega) [gd_in, gd_and, wr_i64, e1, n0, cl (gc _), hc, endR, e2]
    refine ⟨w, by rw [es]; exact hw, ?_, ?_, ?_, ?_⟩
    ·rw [nl_set_ne (by omega)]; exact k0
    ·rw [nl_set_ne (by omega)]; exact k1
    ·rw [nl_set_ne (by omega)]; exact k2
    ·rw [nl_set_eq hlt]
  ·intro H hJ
   obtain ⟨w, hw, k0, k1, k2, k3⟩ := hJ
   rw [List.take_length] at hw
   have hlt := nl_lt k3
   have e4 : endLp 3 H = some (.nm, H.set 3 (lpF 3)) := by
    unfold endLp
    rw [k3]
    show (setEl H 3 (lpF 3)).bind _ = _
    rw [setEl_put _ _ _ hlt]
    rfl
   have n0 : nth (H.set 3 (lpF 3)) 0 = some (.cs 23 1 [[.m w]] 1 false) := by rw [nl_set_ne (by omega)]; exact k0
   simp (maxSteps := 2000000) (disch := omega) [gd_in, gd_and, wr_i64, e4, n0]
   exact hw
 obtain ⟨x, H', h1, rfl, w, h2, rfl⟩ := key
 exact ⟨w, h2, h1⟩
end Go.Mx.Tryd
