/- Rules of the reference: Right, Value, Quiet, Fits. -/
import Derived.Test.YtjkepihkilnjiaaGreatDoorTe
set_option linter.unusedSimpArgs false
set_option linter.unusedVariables false
set_option linter.unusedSectionVars false
set_option maxRecDepth 100000
namespace Go.Mx.Tryz
open Go.Lib Go.Proofs

theorem beforeH_r (a b : Int × Int) (H : Hp) : Gives G 39 [.m (.ag [.i .i64 a.1, .i .i64 a.2]), .m (.ag [.i .i64 b.1, .i .i64 b.2])] H (.m (.b (lessP a b))) H := by
 refine gives_pur rfl rfl rfl rfl rfl ?_
 simp (contextual := true) [test_cx, rest_cx, gcall_cx, gcav_cx, -Int.not_lt, -Int.not_le, -Nat.not_lt, -Nat.not_le, -List.map_take, lessP]
set_option maxHeartbeats 1000000 in
theorem hood_r {v : I} {p : List (Int × Int)} (hv : IsSl v (cells2 p)) (hl : (p.length : Int) ≤ 9223372036854775807) (H : Hp) : Gives G 20 [.m v] H (.m (.b (hoodOk p))) H := by
 have hr0 := hv.rules
 simp only [cells2_len] at hr0
 refine gives_pur rfl rfl rfl rfl rfl ?_
 by_cases h1 : 1 ≤ p.length ∧ p.length ≤ 25
 rotate_left
 ·have e : hoodOk p = false := by unfold hoodOk; rw [decide_eq_false h1]; rfl
  by_cases h2 : (p.length : Int) < 1
  ·simp (maxSteps := 2000000) (disch := omega) [gd_in, gd_and, wr_i64, hr0, h2, e]
  ·have h3 : (25 : Int) < p.length := by omega
   simp (maxSteps := 2000000) (disch := omega) [gd_in, gd_and, wr_i64, hr0, h2, h3, e]
 have h2 : ¬ (p.length : Int) < 1 := by omega
 have h3 : ¬ (25 : Int) < p.length := by omega
 have hR : hoodOk p = chnH none p := by unfold hoodOk; rw [decide_eq_true h1]; rfl
 rw [hR]
 simp (maxSteps := 2000000) (disch := omega) [gd_in, gd_and, wr_i64, hr0, h2, h3]
 refine (?key : ∀ (i : Nat) (B : List (Nat × List V)), i ≤ p.length → chnH none p = chnH (prevH p i) (p.drop i) → Run G c20_B0 (S20_0 (.m v) (.m (.i .i64 i)) B []) _) 0 [] (Nat.zero_le _) rfl
 refine indM (fun i : Nat => p.length - i) fun i ih B hi hr => ?_
 unfold c20_B0
 cases hx : p[i]? with
 | none =>
  have : i = p.length := by have := List.getElem?_eq_none_iff.1 hx; omega
  subst this
  have : chnH (prevH p p.length) [] = true := by cases prevH p p.length <;> rfl
  simp [hr0, hr, this]
 | some c =>
  have hlt := (get_drop hx).1
  have hn := cells2_nth hx
  rw [(get_drop hx).2, chnH_cons hx, offOk_iff] at hr
  cases i with
  | zero =>
   simp (contextual := true) (maxSteps := 2000000) (disch := omega) [test_cx, rest_cx, gcall_cx, gcav_cx, -Int.not_lt, -Int.not_le, -Nat.not_lt, -Nat.not_le, -List.map_take, hr0, hn, hlt, wr_i64]
   repeat' first | with_reducible apply And.intro | intro _
   all_goals first
    | (refine ih 1 (by omega) _ (by omega) ?_; grind [prevH])
    | grind [prevH]
  | succ j =>
   obtain ⟨c0, hx0⟩ : ∃ c0, p[j]? = some c0 := ⟨p[j], List.getElem?_eq_getElem (by omega)⟩
   have hn0 := cells2_nth hx0
   have e3 : (j : Int) + 1 < p.length := by omega
   have e4 : (j : Int) < p.length := by omega
   have e6 : (0 : Int) ≤ j + 1 := by omega
   have e7 : ((j : Int) + 1).toNat = j + 1 := by omega
   have hp0 : prevH p (j + 1) = some c0 := hx0
   simp only [hp0] at hr
   simp (contextual := true) (maxSteps := 2000000) (disch := omega) [test_cx, rest_cx, gcall_cx, gcav_cx, -Int.not_lt, -Int.not_le, -Nat.not_lt, -Nat.not_le, -List.map_take, hr0, hn, hn0, e3, e4, e6, e7, hlt, cl (beforeH_r _ _ _), wr_i64]
   repeat' first | with_reducible apply And.intro | intro _
   all_goals first
    | (refine ih (j + 2) (by omega) _ (by omega) ?_; grind)
    | grind
set_option maxHeartbeats 4000000 in
theorem tree_r {t : TreeC} {h n : I} {es : List (List I)} (hT : TreeV t h n es) (H : Hp) : Gives G 65 [.m (.ag [.i .i64 t.states, h, n])] H (.m (.b (treeOk t))) H := by
 have hrh := hT.hd.rules
 simp only [cells2_len] at hrh
 have hrn := hT.nd.rules
 have hln := treeV_len hT
 have gh := fun H => hood_r hT.hd (by have := hT.hl; omega) H
 have hl1 := hT.hl
 have hl2 := hT.nl
 refine gives_pur rfl rfl rfl rfl rfl ?_
 have eO : treeOk t = (decide (2 ≤ t.states ∧ t.states ≤ 8) && (hoodOk t.hood && (decide (1 ≤ t.nodes.length ∧ t.nodes.length ≤ 4096) && (decide (levAt t.nodes (t.nodes.length - 1) = t.hood.length) && nodesOk t 0 t.nodes)))) := rfl
 by_cases s2 : t.states < 2
 ·have : treeOk t = false := by rw [eO, decide_eq_false (by omega)]; rfl
  simp (maxSteps := 2000000) (disch := omega) [gd_in, gd_and, wr_i64, gcall_cx, hrh, hrn, s2, this]
 by_cases s8 : 8 < t.states
 ·have : treeOk t = false := by rw [eO, decide_eq_false (by omega)]; rfl
  simp (maxSteps := 2000000) (disch := omega) [gd_in, gd_and, wr_i64, gcall_cx, hrh, hrn, s2, s8, this]
 cases hh : hoodOk t.hood with
 | false =>
  have : treeOk t = false := by rw [eO, hh]; simp
  rw [hh] at gh
  simp (maxSteps := 2000000) (disch := omega) [gd_in, gd_and, wr_i64, gcall_cx, hrh, hrn, s2, s8, cl (gh _), this]
 | true =>
  rw [hh] at gh
  by_cases n1 : (es.length : Int) < 1
  ·have : treeOk t = false := by rw [eO, decide_eq_false (by rw [hln]; omega : ¬ (1 ≤ t.nodes.length ∧ t.nodes.length ≤ 4096))]; simp
   simp (maxSteps := 2000000) (disch := omega) [gd_in, gd_and, wr_i64, gcall_cx, hrh, hrn, s2, s8, cl (gh _), n1, this]
  by_cases n2 : (4096 : Int) < es.length
  ·have : treeOk t = false := by rw [eO, decide_eq_false (by rw [hln]; omega : ¬ (1 ≤ t.nodes.length ∧ t.nodes.length ≤ 4096))]; simp
   simp (maxSteps := 2000000) (disch := omega) [gd_in, gd_and, wr_i64, gcall_cx, hrh, hrn, s2, s8, cl (gh _), n1, n2, this]
  have hlt1 : es.length - 1 < t.nodes.length := by omega
  obtain ⟨z0, hz0, _⟩ := treeV_at hT (List.getElem?_eq_getElem hlt1)
  have hle1 : es.length - 1 < es.length := by omega
  have hle2 : ((es.length - 1 : Nat) : Int) < es.length := by omega
  have w1 : wr .i64 ((es.length : Int) - 1) = ((es.length - 1 : Nat) : Int) := by rw [wr_i64 (by omega) (by omega)]; omega
  have hlev := levAt_at (List.getElem?_eq_getElem hlt1)
  have eroot : levAt t.nodes (t.nodes.length - 1) = t.nodes[es.length - 1].1 := by
   rw [← hlev, hln]
   congr 1
   omega
  have hR : treeOk t = (decide (t.nodes[es.length - 1].1 = t.hood.length) && nodesOk t 0 t.nodes) := by
   rw [eO, hh, decide_eq_true (by omega : 2 ≤ t.states ∧ t.states ≤ 8), decide_eq_true (by omega : 1 ≤ t.nodes.length ∧ t.nodes.length ≤ 4096), eroot]
   simp
  have hF : nodesOk t 0 t.nodes = false → treeOk t = false := fun h => by rw [hR, h, Bool.and_false]
  simp (maxSteps := 2000000) (disch := omega) [gd_in, gd_and, wr_i64, gcall_cx, hrh, hrn, s2, s8, cl (gh _), n1, n2]
  refine (?key : ∀ (i : Nat) (B : List (Nat × List V)), i ≤ t.nodes.length → getB B 1 = some [.m (.i .i64 t.states), .m h, .m n] → nodesOk t 0 t.nodes = nodesOk t i (t.nodes.drop i) → Run G c65_B1 (S65_1 (.fa 1 0) (.m (.i .i64 es.length)) (.m (.i .i64 (i : Int))) B []) _) 0 _ (Nat.zero_le _) rfl rfl
  refine indM (fun i : Nat => t.nodes.length - i) fun i ih B hi hB hI => ?_
  unfold c65_B1
  cases hx : t.nodes[i]? with
  | none =>
   have : i = es.length := by have := List.getElem?_eq_none_iff.1 hx; omega
   subst this
   rw [← hln, List.drop_length] at hI
   have hI : nodesOk t 0 t.nodes = true := hI
   rw [hI, Bool.and_true] at hR
   rw [hR]
   simp (maxSteps := 2000000) (disch := omega) [gd_in, gd_and, wr_i64, hrn, hrh, hB, w1, hle1, hle2, hz0]
  | some nd =>
   have hlt := (get_drop hx).1
   have hlt1 : i < es.length := by omega
   have hlt2 : (i : Int) < es.length := by omega
   obtain ⟨z, hz, hzs, hzl, hzb⟩ := treeV_at hT hx
   have hrz := hzs.rules
   have hz1 := isSl_1 hzs
   simp only [celI_len] at hrz
   have wi : wr .i64 ((i : Int) + 1) = ((i + 1 : Nat) : Int) := wr_i64 (by omega) (by omega)
   rw [(get_drop hx).2, nodesOk_cons] at hI
   have eN : nodeOk t i nd = (decide (1 ≤ nd.1 ∧ nd.1 ≤ t.hood.length ∧ (nd.2.length : Int) = t.states) && nd.2.all (elOk t i nd.1)) := rfl
   by_cases m1 : nd.1 < 1
   ·have := hF (by rw [hI, eN, decide_eq_false (by omega)]; rfl)
    simp (maxSteps := 2000000) (disch := omega) [gd_in, gd_and, wr_i64, hrn, hrh, hlt1, hlt2, hz, hz1, hrz, hB, m1, this]
   by_cases m2 : (t.hood.length : Int) < nd.1
   ·have := hF (by rw [hI, eN, decide_eq_false (by omega)]; rfl)
    simp (maxSteps := 2000000) (disch := omega) [gd_in, gd_and, wr_i64, hrn, hrh, hlt1, hlt2, hz, hz1, hrz, hB, m1, m2, this]
   by_cases m3 : (nd.2.length : Int) = t.states
   rotate_left
   ·have := hF (by rw [hI, eN, decide_eq_false (by omega)]; rfl)
    simp (maxSteps := 2000000) (disch := omega) [gd_in, gd_and, wr_i64, hrn, hrh, hlt1, hlt2, hz, hz1, hrz, hB, m1, m2, m3, this]
   rw [eN, decide_eq_true (by omega : 1 ≤ nd.1 ∧ nd.1 ≤ t.hood.length ∧ (nd.2.length : Int) = t.states), Bool.true_and] at hI
   simp (maxSteps := 2000000) (disch := omega) [gd_in, gd_and, wr_i64, hrn, hrh, hlt1, hlt2, hz, hz1, hrz, hB, m1, m2, m3]
   refine (?key2 : ∀ (j : Nat) (B : List (Nat × List V)), j ≤ nd.2.length → getB B 1 = some [.m (.i .i64 t.states), .m h, .m n] → getB B 5 = some [.m (.i .i64 nd.1), .m z] → nodesOk t 0 t.nodes = ((nd.2.drop j).all (elOk t i nd.1) && nodesOk t (i + 1) (t.nodes.drop (i + 1))) → Run G c65_B0 (S65_0 (.fa 1 0) (.m (.i .i64 es.length)) (.m (.i .i64 (i : Int))) (.fa 5 0) (.m (.i .i64 (j : Int))) B []) _) 0 _ (Nat.zero_le _) (by simpa using hB) (by simp) hI
   clear hI
   refine indM (fun j : Nat => nd.2.length - j) fun j ihj B hj hB h5 hI => ?_
   unfold c65_B0
   cases hy : nd.2[j]? with
   | none =>
    have : j = nd.2.length := by have := List.getElem?_eq_none_iff.1 hy; omega
    subst this
    rw [List.drop_length] at hI
    have k := ih (i + 1) (by omega) B (by omega) hB hI
    have hjs : ¬ (nd.2.length : Int) < t.states := by omega
    have hjs2 : ¬ ((nd.2.length : Nat) : Int) < t.states := hjs
    simp (maxSteps := 2000000) (disch := omega) [gd_in, gd_and, wr_i64, hrz, hB, h5, hjs, wi, -Int.natCast_add]
    exact k
   | some k =>
    have hjl := (get_drop hy).1
    have hjl2 : (j : Int) < nd.2.length := by omega
    have hjs : (j : Int) < t.states := by omega
    have hk : nth (celI nd.2) j = some [.i .i64 k] := celI_nth hy
    have wj : wr .i64 ((j : Int) + 1) = ((j + 1 : Nat) : Int) := wr_i64 (by omega) (by omega)
    have hkb := hzb k (List.mem_of_getElem? hy)
    rw [(get_drop hy).2, List.all_cons] at hI
    have eE : elOk t i nd.1 k = decide (¬ k < 0 ∧ ¬ (nd.1 = 1 ∧ t.states ≤ k) ∧ ¬ (1 < nd.1 ∧ ((i : Int) ≤ k ∨ ¬ levAt t.nodes k = nd.1 - 1))) := rfl
    have go := fun (h : elOk t i nd.1 k = true) => ihj (j + 1) (by omega) B (by omega) hB h5 (by rw [hI, h, Bool.true_and])
    have no := fun (h : elOk t i nd.1 k = false) => hF (by rw [hI, h]; rfl)
    have wl : wr .i64 (nd.1 - 1) = nd.1 - 1 := wr_i64 (by omega) (by omega)
    by_cases k0 : k < 0
    ·have := no (by rw [eE]; exact decide_eq_false fun h => h.1 k0)
     simp (maxSteps := 2000000) (disch := omega) [gd_in, gd_and, wr_i64, hrz, hjs, hjl, hjl2, hk, hB, h5, k0, this]
    by_cases l1 : nd.1 = 1
    ·have l2 : ¬ 1 < nd.1 := by omega
     by_cases ks : t.states ≤ k
     ·have := no (by rw [eE]; exact decide_eq_false fun h => h.2.1 ⟨l1, ks⟩)
      simp (maxSteps := 2000000) (disch := omega) [gd_in, gd_and, wr_i64, hrz, hjs, hjl, hjl2, hk, hB, h5, k0, l1, ks, this]
     ·have kk := go (by rw [eE]; exact decide_eq_true ⟨k0, fun h => ks h.2, fun h => l2 h.1⟩)
      rw [l1] at h5
      simp (maxSteps := 2000000) (disch := omega) [gd_in, gd_and, wr_i64, hrz, hjs, hjl, hjl2, hk, hB, h5, k0, ks, wj, -Int.natCast_add]
      exact kk
    ·have l2 : 1 < nd.1 := by omega
     by_cases ki : (i : Int) ≤ k
     ·have := no (by rw [eE]; exact decide_eq_false fun h => h.2.2 ⟨l2, .inl ki⟩)
      simp (maxSteps := 2000000) (disch := omega) [gd_in, gd_and, wr_i64, hrz, hjs, hjl, hjl2, hk, hB, h5, k0, l1, l2, ki, this]
     ·obtain ⟨kn, rfl⟩ := Int.eq_ofNat_of_zero_le (show 0 ≤ k by omega)
      have hkn : kn < t.nodes.length := by omega
      have hkn1 : kn < es.length := by omega
      have hkn2 : (kn : Int) < es.length := by omega
      obtain ⟨z', hz', _⟩ := treeV_at hT (List.getElem?_eq_getElem hkn)
      have hlv := levAt_at (List.getElem?_eq_getElem hkn)
      have ki2 : ¬ i ≤ kn := by omega
      by_cases hle : t.nodes[kn].1 = nd.1 - 1
      ·have kk := go (by rw [eE]; exact decide_eq_true ⟨k0, fun h => l1 h.1, fun h => h.2.elim ki fun h2 => h2 (hlv.trans hle)⟩)
       simp (maxSteps := 2000000) (disch := omega) [gd_in, gd_and, wr_i64, hrz, hrn, hjs, hjl, hjl2, hk, hB, h5, k0, l1, l2, ki, ki2, hkn1, hkn2, hz', wl, hle, wj, -Int.natCast_add]
       exact kk
      ·have := no (by rw [eE]; exact decide_eq_false fun h => h.2.2 ⟨l2, .inr fun h2 => hle (hlv.symm.trans h2)⟩)
       simp (maxSteps := 2000000) (disch := omega) [gd_in, gd_and, wr_i64, hrz, hrn, hjs, hjl, hjl2, hk, hB, h5, k0, l1, l2, ki, ki2, hkn1, hkn2, hz', wl, hle, this]
set_option maxHeartbeats 2000000 in
theorem value_r {t : TreeC} {h n w : I} {es : List (List I)} (hT : TreeV t h n es) (hR : TreeR t) {ins : List Int} (hw : IsSl w (celI ins)) (hl : ins.length ≤ t.hood.length) (hs : ∀ s, s ∈ ins → 0 ≤ s ∧ s < t.states) (H : Hp) : Gives G 69 [.m (.ag [.i .i64 t.states, h, n]), .m w] H (.m (.i .i64 (valT t ins))) H := by
 have hrn := hT.nd.rules
 have hln := treeV_len hT
 have hl2 := hT.nl
 have hrw := hw.rules
 simp only [celI_len] at hrw
 have hh := hoodOk_len hR.hood
 have n1 := hR.n1
 have n2 := hR.n2
 have w1 : wr .i64 ((es.length : Int) - 1) = (t.nodes.length : Int) - 1 := by rw [wr_i64 (by omega) (by omega)]; omega
 refine gives_pur rfl rfl rfl rfl rfl ?_
 simp (maxSteps := 2000000) (disch := omega) [gd_in, gd_and, wr_i64, hrn, hrw, w1]
 refine (?key : ∀ (i : Nat) (k : Int) (B : List (Nat × List V)), i ≤ ins.length → getB B 2 = some [.m (.i .i64 t.states), .m h, .m n] → k = valT t (ins.take i) → Run G c69_B0 (S69_0 (.m w) (.fa 2 0) (.m (.i .i64 k)) (.m (.i .i64 (i : Int))) B []) _) 0 _ _ (Nat.zero_le _) rfl rfl
 refine indM (fun i : Nat => ins.length - i) fun i ih k B hi hB hk => ?_
 unfold c69_B0
 cases hx : ins[i]? with
 | none =>
  have : i = ins.length := by have := List.getElem?_eq_none_iff.1 hx; omega
  subst this
  rw [List.take_length] at hk
  simp (maxSteps := 2000000) (disch := omega) [gd_in, gd_and, wr_i64, hrw, hk]
 | some s =>
  have hlt := (get_drop hx).1
  have hlt2 : (i : Int) < ins.length := by omega
  have hsv := hs s (List.mem_of_getElem? hx)
  have hsx : nth (celI ins) i = some [.i .i64 s] := celI_nth hx
  have htl : (ins.take i).length = i := by rw [List.length_take]; omega
  obtain ⟨j, nd, hkj, hnd, hlev, hlen⟩ := val_at hR i (ins.take i) htl (by omega) fun x hx => hs x (List.mem_of_mem_take hx)
  rw [← hk] at hkj
  obtain ⟨z, hz, hzs, hzl, _⟩ := treeV_at hT hnd
  have hrz := hzs.rules
  simp only [celI_len] at hrz
  have hjl := (get_drop hnd).1
  have hjl1 : j < es.length := by omega
  have hjl2 : (j : Int) < es.length := by omega
  obtain ⟨sn, rfl⟩ := Int.eq_ofNat_of_zero_le hsv.1
  have hsn : sn < nd.2.length := by omega
  have hsn2 : (sn : Int) < nd.2.length := by omega
  obtain ⟨k2, hk2⟩ : ∃ k2, nd.2[sn]? = some k2 := ⟨_, List.getElem?_eq_getElem hsn⟩
  have hk3 : nth (celI nd.2) sn = some [.i .i64 k2] := celI_nth hk2
  have wi : wr .i64 ((i : Int) + 1) = ((i + 1 : Nat) : Int) := wr_i64 (by omega) (by omega)
  have e1 : valT t (ins.take (i + 1)) = k2 := by
   rw [take_succ_get hx, valT_snoc, ← hk, hkj]
   exact nxtAt_at hnd hk2
  have kk := ih (i + 1) (by omega) k2 B (by omega) hB e1.symm
  rw [hkj]
  simp (maxSteps := 2000000) (disch := omega) [gd_in, gd_and, wr_i64, hrw, hrn, hlt, hlt2, hsx, hB, hjl1, hjl2, hz, hrz, hsn, hsn2, hk3, wi, -Int.natCast_add]
  exact kk
theorem eval_r {t : TreeC} {h n w : I} {es : List (List I)} (hT : TreeV t h n es) (hO : treeOk t = true) {ins : List Int} (hw : IsSl w (celI ins)) (hl : ins.length = t.hood.length) (hs : ∀ s, s ∈ ins → 0 ≤ s ∧ s < t.states) (H : Hp) : Gives G 66 [.m (.ag [.i .i64 t.states, h, n]), .m w] H (.tu [.m (.i .i64 (valT t ins)), .m (.i .i64 0)]) H := by
 have hR := treeOk_r hO
 have g1 := fun H => tree_r hT H
 rw [hO] at g1
 have g2 := fun H => value_r hT hR hw (by omega) hs H
 have hh := hoodOk_len hR.hood
 have hrw := hw.rules
 simp only [celI_len] at hrw
 have hrh := hT.hd.rules
 simp only [cells2_len] at hrh
 have hl2 : (ins.length : Int) = t.hood.length := by omega
 refine gives_pur rfl rfl rfl rfl rfl ?_
 simp (maxSteps := 2000000) (disch := omega) [gd_in, gd_and, wr_i64, cl (g1 _), hrw, hrh, hl]
 refine (?key : ∀ (i : Nat) (B : List (Nat × List V)), i ≤ ins.length → getB B 2 = some [.m (.i .i64 t.states), .m h, .m n] → Run G c66_B0 (S66_0 (.m w) (.fa 2 0) (.m (.i .i64 (i : Int))) B []) _) 0 _ (Nat.zero_le _) rfl
 refine indM (fun i : Nat => ins.length - i) fun i ih B hi hB => ?_
 unfold c66_B0
 cases hx : ins[i]? with
 | none =>
  have : i = ins.length := by have := List.getElem?_eq_none_iff.1 hx; omega
  subst this
  simp (maxSteps := 2000000) (disch := omega) [gd_in, gd_and, wr_i64, hrw, hB, cl (g2 _)]
 | some s =>
  have hlt := (get_drop hx).1
  have hlt2 : (i : Int) < ins.length := by omega
  have hsv := hs s (List.mem_of_getElem? hx)
  have h1 : ¬ s < 0 := by omega
  have h2 : ¬ t.states ≤ s := by omega
  have hsx : nth (celI ins) i = some [.i .i64 s] := celI_nth hx
  have wi : wr .i64 ((i : Int) + 1) = ((i + 1 : Nat) : Int) := wr_i64 (by omega) (by omega)
  have kk := ih (i + 1) (by omega) B (by omega) hB
  simp (maxSteps := 2000000) (disch := omega) [gd_in, gd_and, wr_i64, hrw, hlt, hlt2, hsx, hB, h1, h2, wi, -Int.natCast_add]
  exact kk
theorem quiet_q {t : TreeC} {h n : I} {es : List (List I)} (hT : TreeV t h n es) (H : Hp) : Gives G 51 [.m (.ag [.i .i64 t.states, h, n])] H (.m (.b (quietT t))) H := by
 have g1 := fun H => tree_r hT H
 have hrh := hT.hd.rules
 simp only [cells2_len] at hrh
 refine gives_pur rfl rfl rfl rfl rfl ?_
 have eQ : quietT t = (treeOk t && decide (valT t (List.replicate t.hood.length 0) = 0)) := rfl
 cases ht : treeOk t with
 | false =>
  rw [ht] at g1 eQ
  have eQ : quietT t = false := eQ
  simp (maxSteps := 2000000) (disch := omega) [gd_in, gd_and, wr_i64, gcall_cx, cl (g1 _), eQ]
 | true =>
  rw [ht] at g1 eQ
  rw [Bool.true_and] at eQ
  have hR := treeOk_r ht
  have hh := hoodOk_len hR.hood
  have hz : ∀ s, s ∈ List.replicate t.hood.length (0 : Int) → 0 ≤ s ∧ s < t.states := fun s hs => by
   have := (List.mem_replicate.1 hs).2
   have := hR.s2
   omega
  have hrow : (List.replicate t.hood.length ([V.m (.i .i64 0)] : List V)) = rowsI (List.replicate t.hood.length 0) := by unfold rowsI; rw [List.map_replicate]
  have gv0 := eval_r hT ht (isSl_sl (celI (List.replicate t.hood.length 0))) (by simp) hz []
  have gv := gives_view (H := [Row.cs 3 1 (rowsI (List.replicate t.hood.length 0)) 0 false]) (vs := [.m (.ag [.i .i64 t.states, h, n]), .sl 0 t.hood.length 1 0 t.hood.length true]) (is := [.ag [.i .i64 t.states, h, n], .sl (celI (List.replicate t.hood.length 0))]) rfl rfl gv0 (by
   have := viewN (r := 0) (ver := t.hood.length) (st := 0) (len := t.hood.length) (lim := true) (base := 0) (fz := false) (l := List.replicate t.hood.length 0) (H := [Row.cs 3 1 (rowsI (List.replicate t.hood.length 0)) 0 false]) rfl (Nat.zero_le _) 18
   rw [List.drop_zero, List.take_of_length_le (by simp)] at this
   show Option.bind (some _) (fun _ => Option.bind (Option.bind (view 20 _ _) _) _) = _
   rw [this]
   rfl) (.inr ⟨by simp [refs, ref1], rfl⟩)
  rw [eQ]
  have hb : (t.hood.length : Int) ≤ 17592186044416 := by omega
  simp (maxSteps := 2000000) (disch := omega) [gd_in, gd_and, wr_i64, gcall_cx, cl (g1 _), hrh, hb, hrow, cl gv]
theorem fits_r {t : TreeC} {h n v : I} {es : List (List I)} {p : List Ce} (hT : TreeV t h n es) (hv : IsSl v (cells3 p)) (hl : (p.length : Int) ≤ 9223372036854775806) (H : Hp) : Gives G 34 [.m (.ag [.i .i64 t.states, h, n]), .m v] H (.m (.i .i64 (chkE t p))) H := by
 have g1 := fun H => quiet_q hT H
 have g2 := fun H => right_r hv (by omega) H
 have hrv := hv.rules
 simp only [show (cells3 p).length = p.length from by simp [cells3]] at hrv
 refine gives_pur rfl rfl rfl rfl rfl ?_
 have eC : chkE t p = if quietT t = true then if right p = true then if topM p < t.states then 0 else 10 else 2 else 11 := rfl
 cases hq : quietT t with
 | false =>
  rw [hq] at g1 eC
  have eC : chkE t p = 11 := eC
  simp (maxSteps := 2000000) (disch := omega) [gd_in, gd_and, wr_i64, cl (g1 _), eC]
 | true =>
  rw [hq] at g1 eC
  cases hr : right p with
  | false =>
   rw [hr] at g2 eC
   have eC : chkE t p = 2 := eC
   simp (maxSteps := 2000000) (disch := omega) [gd_in, gd_and, wr_i64, cl (g1 _), cl (g2 _), eC]
  | true =>
   rw [hr] at g2 eC
   have eC : chkE t p = if topM p < t.states then 0 else 10 := eC
   have hs2 := (quiet_r hq).s2
   have htop := topM_lt (k := t.states) (by omega) _ p rfl
   simp (maxSteps := 2000000) (disch := omega) [gd_in, gd_and, wr_i64, cl (g1 _), cl (g2 _)]
   refine (?key : ∀ (i : Nat) (B : List (Nat × List V)), i ≤ p.length → getB B 2 = some [.m (.i .i64 t.states), .m h, .m n] → (∀ (j : Nat) c, j < i → p[j]? = some c → c.s < t.states) → Run G c34_B0 (S34_0 (.m v) (.fa 2 0) (.m (.i .i64 (i : Int))) B []) _) 0 _ (Nat.zero_le _) rfl (fun j c h => by omega)
   refine indM (fun i : Nat => p.length - i) fun i ih B hi hB hall => ?_
   unfold c34_B0
   cases hx : p[i]? with
   | none =>
    have : i = p.length := by have := List.getElem?_eq_none_iff.1 hx; omega
    subst this
    have e0 : chkE t p = 0 := by
     rw [eC, if_pos (htop.2 fun c hc => by
      obtain ⟨j, hj⟩ := List.mem_iff_getElem?.1 hc
      exact hall j c (get_drop hj).1 hj)]
    simp (maxSteps := 2000000) (disch := omega) [gd_in, gd_and, wr_i64, hrv, e0]
   | some c =>
    have hlt := (get_drop hx).1
    have hlt' : (i : Int) < p.length := by omega
    have hn := cells3_nth hx
    have wi : wr .i64 ((i : Int) + 1) = ((i + 1 : Nat) : Int) := wr_i64 (by omega) (by omega)
    by_cases hc : t.states ≤ c.s
    ·have e1 : chkE t p = 10 := by rw [eC, if_neg (fun h => by have := htop.1 h c (List.mem_of_getElem? hx); omega)]
     simp (maxSteps := 2000000) (disch := omega) [gd_in, gd_and, wr_i64, hrv, hlt, hlt', hn, hB, hc, e1]
    ·have kk := ih (i + 1) (by omega) B (by omega) hB (fun j d hj hd => by
      by_cases e : j < i
      ·exact hall j d e hd
      ·have : j = i := by omega
       subst this
       rw [hx] at hd
       cases hd
       omega)
     simp (maxSteps := 2000000) (disch := omega) [gd_in, gd_and, wr_i64, hrv, hlt, hlt', hn, hB, hc, wi, -Int.natCast_add]
     exact kk
end Go.Mx.Tryz
