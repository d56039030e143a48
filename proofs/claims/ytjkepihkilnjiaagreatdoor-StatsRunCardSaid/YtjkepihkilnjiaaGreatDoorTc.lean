/- Trees at the machine: Right, value, Quiet. -/
import Derived.Test.YtjkepihkilnjiaaGreatDoorTb
import Derived.Test.YtjkepihkilnjiaaGreatDoorVn
set_option linter.unusedSimpArgs false
set_option linter.unusedVariables false
set_option linter.unusedSectionVars false
set_option maxRecDepth 100000
namespace Go.Mx.Tryz
open Go.Lib Go.Proofs

theorem isSl_1 {y : I} {es : List (List I)} (h : IsSl y es) : oneV (.m y) = true := by
 rcases h with rfl | ⟨rfl, _⟩ <;> rfl
def dEn : List I → Int
 | [.i _ x] => x
 | _ => 0
def dIn : I → List Int
 | .sl es => es.map dEn
 | _ => []
def dNd : List I → Int × List Int
 | [.i _ x, z] => (x, dIn z)
 | _ => (0, [])
def NodesV (es : List (List I)) : Prop := ∀ e, e ∈ es → ∃ (x : Int) (z : I), e = [.i .i64 x, z] ∧ IsSl z (celI (dIn z)) ∧ (dIn z).length ≤ 9223372036854775807 ∧ ∀ k, k ∈ dIn z → -9223372036854775808 ≤ k ∧ k ≤ 9223372036854775807
structure TreeV (t : TreeC) (h n : I) (es : List (List I)) : Prop where
 hd : IsSl h (cells2 t.hood)
 nd : IsSl n es
 ok : NodesV es
 eq : t.nodes = es.map dNd
 hl : t.hood.length ≤ 9223372036854775807
 nl : es.length ≤ 9223372036854775807
theorem treeV_len {t : TreeC} {h n : I} {es : List (List I)} (hT : TreeV t h n es) : t.nodes.length = es.length := by rw [hT.eq, List.length_map]
theorem treeV_at {t : TreeC} {h n : I} {es : List (List I)} (hT : TreeV t h n es) {j : Nat} {nd : Int × List Int} (hj : t.nodes[j]? = some nd) : ∃ z, nth es j = some [.i .i64 nd.1, z] ∧ IsSl z (celI nd.2) ∧ nd.2.length ≤ 9223372036854775807 ∧ ∀ k, k ∈ nd.2 → -9223372036854775808 ≤ k ∧ k ≤ 9223372036854775807 := by
 rw [hT.eq, List.getElem?_map] at hj
 cases he : es[j]? with
 | none => rw [he] at hj; cases hj
 | some e =>
  rw [he] at hj
  cases hj
  obtain ⟨x, z, rfl, h1, h2, h3⟩ := hT.ok e (List.mem_of_getElem? he)
  exact ⟨z, by rw [nth_get]; exact he, h1, h2, h3⟩
theorem nodesOk_cons (t : TreeC) (i : Nat) (n : Int × List Int) (r : List (Int × List Int)) : nodesOk t i (n :: r) = (nodeOk t i n && nodesOk t (i + 1) r) := rfl
theorem levAt_at {nodes : List (Int × List Int)} {j : Nat} {nd : Int × List Int} (h : nodes[j]? = some nd) : levAt nodes (j : Int) = nd.1 := by
 unfold levAt
 rw [show ((j : Int)).toNat = j from rfl, h]
set_option maxHeartbeats 4000000 in
theorem tree_s {t : TreeC} {h n : I} {es : List (List I)} (hT : TreeV t h n es) (H : Hp) : Gives G 62 [.m (.ag [.i .i64 t.states, h, n])] H (.m (.b (treeOk t))) H := by
 have hrh := hT.hd.rules
 simp only [cells2_len] at hrh
 have hrn := hT.nd.rules
 have hln := treeV_len hT
 have gh := fun H => hood_s hT.hd (by have := hT.hl; omega) H
 have hl1 := hT.hl
 have hl2 := hT.nl
 refine gives_pur rfl rfl rfl rfl rfl ?_
 have eO : treeOk t = (decide (2 ≤ t.states ∧ t.states ≤ 8) && (hoodOk t.hood && (decide (1 ≤ t.nodes.length ∧ t.nodes.length ≤ 4096) && (decide (levAt t.nodes (t.nodes.length - 1) = t.hood.length) && nodesOk t 0 t.nodes)))) := rfl
 by_cases s2 : t.states < 2
 ·have : treeOk t = false := by rw [eO, decide_eq_false (by omega)]; rfl
  simp (maxSteps := 2000000) (disch := omega) [gd_in, gd_and, wr_i64, gcall_cx, hrh, hrn, s2, this]
 by_cases s8 : 8 < t.states
 ·have : treeOk t = false := by rw [eO, decide_eq_false (by omega)]; rfl
  simp (maxSteps := 2000000) (disch := omega) [gd_in, gd_and, wr_i64, gcall_cx, hrh, hrn, s2, s8, this]
 cases hh : hoodOk t.hood with
 | false =>
  have : treeOk t = false := by rw [eO, hh]; simp
  rw [hh] at gh
  simp (maxSteps := 2000000) (disch := omega) [gd_in, gd_and, wr_i64, gcall_cx, hrh, hrn, s2, s8, cl (gh _), this]
 | true =>
  rw [hh] at gh
  by_cases n1 : (es.length : Int) < 1
  ·have : treeOk t = false := by rw [eO, decide_eq_false (by rw [hln]; omega : ¬ (1 ≤ t.nodes.length ∧ t.nodes.length ≤ 4096))]; simp
   simp (maxSteps := 2000000) (disch := omega) [gd_in, gd_and, wr_i64, gcall_cx, hrh, hrn, s2, s8, cl (gh _), n1, this]
  by_cases n2 : (4096 : Int) < es.length
  ·have : treeOk t = false := by rw [eO, decide_eq_false (by rw [hln]; omega : ¬ (1 ≤ t.nodes.length ∧ t.nodes.length ≤ 4096))]; simp
   simp (maxSteps := 2000000) (disch := omega) [gd_in, gd_and, wr_i64, gcall_cx, hrh, hrn, s2, s8, cl (gh _), n1, n2, this]
  have hlt1 : es.length - 1 < t.nodes.length := by omega
  obtain ⟨z0, hz0, _⟩ := treeV_at hT (List.getElem?_eq_getElem hlt1)
  have hle1 : es.length - 1 < es.length := by omega
  have hle2 : ((es.length - 1 : Nat) : Int) < es.length := by omega
  have w1 : wr .i64 ((es.length : Int) - 1) = ((es.length - 1 : Nat) : Int) := by rw [wr_i64 (by omega) (by omega)]; omega
  have hlev := levAt_at (List.getElem?_eq_getElem hlt1)
  have eroot : levAt t.nodes (t.nodes.length - 1) = t.nodes[es.length - 1].1 := by
   rw [← hlev, hln]
   congr 1
   omega
  by_cases hroot : t.nodes[es.length - 1].1 = t.hood.length
  rotate_left
  ·have : treeOk t = false := by rw [eO, decide_eq_false (by rw [eroot]; exact hroot : ¬ levAt t.nodes (t.nodes.length - 1) = t.hood.length)]; simp
   simp (maxSteps := 2000000) (disch := omega) [gd_in, gd_and, wr_i64, gcall_cx, hrh, hrn, s2, s8, cl (gh _), n1, n2, w1, hle1, hle2, hz0, hroot, this]
  have hR : treeOk t = nodesOk t 0 t.nodes := by
   rw [eO, hh, decide_eq_true (by omega : 2 ≤ t.states ∧ t.states ≤ 8), decide_eq_true (by omega : 1 ≤ t.nodes.length ∧ t.nodes.length ≤ 4096), decide_eq_true (by rw [eroot]; exact hroot : levAt t.nodes (t.nodes.length - 1) = t.hood.length)]
   simp
  rw [hR]
  simp (maxSteps := 2000000) (disch := omega) [gd_in, gd_and, wr_i64, gcall_cx, hrh, hrn, s2, s8, cl (gh _), n1, n2, w1, hle1, hle2, hz0, hroot]
  refine (?key : ∀ (i : Nat) (B : List (Nat × List V)), i ≤ t.nodes.length → getB B 1 = some [.m (.i .i64 t.states), .m h, .m n] → nodesOk t 0 t.nodes = nodesOk t i (t.nodes.drop i) → Run G c62_B1 (S62_1 (.fa 1 0) (.m n) (.m (.i .i64 es.length)) (.m (.i .i64 (i : Int))) B []) _) 0 _ (Nat.zero_le _) rfl rfl
  refine indM (fun i : Nat => t.nodes.length - i) fun i ih B hi hB hI => ?_
  unfold c62_B1
  cases hx : t.nodes[i]? with
  | none =>
   have : i = es.length := by have := List.getElem?_eq_none_iff.1 hx; omega
   subst this
   rw [← hln, List.drop_length] at hI
   have hI : nodesOk t 0 t.nodes = true := hI
   simp (maxSteps := 2000000) (disch := omega) [gd_in, gd_and, wr_i64, hrn, hI]
  | some nd =>
   have hlt := (get_drop hx).1
   have hlt1 : i < es.length := by omega
   have hlt2 : (i : Int) < es.length := by omega
   obtain ⟨z, hz, hzs, hzl, hzb⟩ := treeV_at hT hx
   have hrz := hzs.rules
   have hz1 := isSl_1 hzs
   simp only [celI_len] at hrz
   have wi : wr .i64 ((i : Int) + 1) = ((i + 1 : Nat) : Int) := wr_i64 (by omega) (by omega)
   rw [(get_drop hx).2, nodesOk_cons] at hI
   have eN : nodeOk t i nd = (decide (1 ≤ nd.1 ∧ nd.1 ≤ t.hood.length ∧ (nd.2.length : Int) = t.states) && nd.2.all (elOk t i nd.1)) := rfl
   by_cases m1 : nd.1 < 1
   ·have : nodesOk t 0 t.nodes = false := by rw [hI, eN, decide_eq_false (by omega)]; rfl
    simp (maxSteps := 2000000) (disch := omega) [gd_in, gd_and, wr_i64, hrn, hrh, hlt1, hlt2, hz, hz1, hrz, hB, m1, this]
   by_cases m2 : (t.hood.length : Int) < nd.1
   ·have : nodesOk t 0 t.nodes = false := by rw [hI, eN, decide_eq_false (by omega)]; rfl
    simp (maxSteps := 2000000) (disch := omega) [gd_in, gd_and, wr_i64, hrn, hrh, hlt1, hlt2, hz, hz1, hrz, hB, m1, m2, this]
   by_cases m3 : (nd.2.length : Int) = t.states
   rotate_left
   ·have : nodesOk t 0 t.nodes = false := by rw [hI, eN, decide_eq_false (by omega)]; rfl
    simp (maxSteps := 2000000) (disch := omega) [gd_in, gd_and, wr_i64, hrn, hrh, hlt1, hlt2, hz, hz1, hrz, hB, m1, m2, m3, this]
   rw [eN, decide_eq_true (by omega : 1 ≤ nd.1 ∧ nd.1 ≤ t.hood.length ∧ (nd.2.length : Int) = t.states), Bool.true_and] at hI
   simp (maxSteps := 2000000) (disch := omega) [gd_in, gd_and, wr_i64, hrn, hrh, hlt1, hlt2, hz, hz1, hrz, hB, m1, m2, m3]
   rw [← m3]
   refine (?key2 : ∀ (j : Nat) (B : List (Nat × List V)), j ≤ nd.2.length → getB B 1 = some [.m (.i .i64 t.states), .m h, .m n] → getB B 5 = some [.m (.i .i64 nd.1), .m z] → nodesOk t 0 t.nodes = ((nd.2.drop j).all (elOk t i nd.1) && nodesOk t (i + 1) (t.nodes.drop (i + 1))) → Run G c62_B0 (S62_0 (.fa 1 0) (.m (.i .i64 (i : Int))) (.fa 5 0) (.m n) (.m (.i .i64 es.length)) (.m (.i .i64 (i : Int))) (.m z) (.m (.i .i64 nd.2.length)) (.m (.i .i64 (j : Int))) B []) _) 0 _ (Nat.zero_le _) (by simpa using hB) (by simp) hI
   clear hI
   refine indM (fun j : Nat => nd.2.length - j) fun j ihj B hj hB h5 hI => ?_
   unfold c62_B0
   cases hy : nd.2[j]? with
   | none =>
    have : j = nd.2.length := by have := List.getElem?_eq_none_iff.1 hy; omega
    subst this
    rw [List.drop_length] at hI
    have k := ih (i + 1) (by omega) B (by omega) hB hI
    simp (maxSteps := 2000000) (disch := omega) [gd_in, gd_and, wr_i64, hrz, wi, -Int.natCast_add]
    exact k
   | some k =>
    have hjl := (get_drop hy).1
    have hjl2 : (j : Int) < nd.2.length := by omega
    have hk : nth (celI nd.2) j = some [.i .i64 k] := celI_nth hy
    have wj : wr .i64 ((j : Int) + 1) = ((j + 1 : Nat) : Int) := wr_i64 (by omega) (by omega)
    have hkb := hzb k (List.mem_of_getElem? hy)
    rw [(get_drop hy).2, List.all_cons] at hI
    have eE : elOk t i nd.1 k = decide (¬ k < 0 ∧ ¬ (nd.1 = 1 ∧ t.states ≤ k) ∧ ¬ (1 < nd.1 ∧ ((i : Int) ≤ k ∨ ¬ levAt t.nodes k = nd.1 - 1))) := rfl
    have go := fun (h : elOk t i nd.1 k = true) => ihj (j + 1) (by omega) B (by omega) hB h5 (by rw [hI, h, Bool.true_and])
    have no := fun (h : elOk t i nd.1 k = false) => (by rw [hI, h]; rfl : nodesOk t 0 t.nodes = false)
    have wl : wr .i64 (nd.1 - 1) = nd.1 - 1 := wr_i64 (by omega) (by omega)
    by_cases k0 : k < 0
    ·have := no (by rw [eE]; exact decide_eq_false fun h => h.1 k0)
     simp (maxSteps := 2000000) (disch := omega) [gd_in, gd_and, wr_i64, hrz, hjl, hjl2, hk, hB, h5, k0, this]
    by_cases l1 : nd.1 = 1
    ·have l2 : ¬ 1 < nd.1 := by omega
     by_cases ks : t.states ≤ k
     ·have := no (by rw [eE]; exact decide_eq_false fun h => h.2.1 ⟨l1, ks⟩)
      simp (maxSteps := 2000000) (disch := omega) [gd_in, gd_and, wr_i64, hrz, hjl, hjl2, hk, hB, h5, k0, l1, ks, this]
     ·have kk := go (by rw [eE]; exact decide_eq_true ⟨k0, fun h => ks h.2, fun h => l2 h.1⟩)
      rw [l1] at h5
      simp (maxSteps := 2000000) (disch := omega) [gd_in, gd_and, wr_i64, hrz, hjl, hjl2, hk, hB, h5, k0, ks, wj, -Int.natCast_add]
      exact kk
    ·have l2 : 1 < nd.1 := by omega
     by_cases ki : (i : Int) ≤ k
     ·have := no (by rw [eE]; exact decide_eq_false fun h => h.2.2 ⟨l2, .inl ki⟩)
      simp (maxSteps := 2000000) (disch := omega) [gd_in, gd_and, wr_i64, hrz, hjl, hjl2, hk, hB, h5, k0, l1, l2, ki, this]
     ·obtain ⟨kn, rfl⟩ := Int.eq_ofNat_of_zero_le (show 0 ≤ k by omega)
      have hkn : kn < t.nodes.length := by omega
      have hkn1 : kn < es.length := by omega
      have hkn2 : (kn : Int) < es.length := by omega
      obtain ⟨z', hz', _⟩ := treeV_at hT (List.getElem?_eq_getElem hkn)
      have hlv := levAt_at (List.getElem?_eq_getElem hkn)
      have ki2 : ¬ i ≤ kn := by omega
      by_cases hle : t.nodes[kn].1 = nd.1 - 1
      ·have kk := go (by rw [eE]; exact decide_eq_true ⟨k0, fun h => l1 h.1, fun h => h.2.elim ki fun h2 => h2 (hlv.trans hle)⟩)
       simp (maxSteps := 2000000) (disch := omega) [gd_in, gd_and, wr_i64, hrz, hrn, hjl, hjl2, hk, hB, h5, k0, l1, l2, ki, ki2, hkn1, hkn2, hz', wl, hle, wj, -Int.natCast_add]
       exact kk
      ·have := no (by rw [eE]; exact decide_eq_false fun h => h.2.2 ⟨l2, .inr fun h2 => hle (hlv.symm.trans h2)⟩)
       simp (maxSteps := 2000000) (disch := omega) [gd_in, gd_and, wr_i64, hrz, hrn, hjl, hjl2, hk, hB, h5, k0, l1, l2, ki, ki2, hkn1, hkn2, hz', wl, hle, this]
theorem nxtAt_at {nodes : List (Int × List Int)} {j : Nat} {nd : Int × List Int} (h : nodes[j]? = some nd) {s : Nat} {k : Int} (hk : nd.2[s]? = some k) : nxtAt nodes (j : Int) (s : Int) = k := by
 unfold nxtAt
 rw [show ((j : Int)).toNat = j from rfl, h]
 dsimp only
 rw [show ((s : Int)).toNat = s from rfl, hk]
 rfl
set_option maxHeartbeats 2000000 in
theorem value_s {t : TreeC} {h n w : I} {es : List (List I)} (hT : TreeV t h n es) (hR : TreeR t) {ins : List Int} (hw : IsSl w (celI ins)) (hl : ins.length ≤ t.hood.length) (hs : ∀ s, s ∈ ins → 0 ≤ s ∧ s < t.states) (H : Hp) : Gives G 63 [.m (.ag [.i .i64 t.states, h, n]), .m w] H (.m (.i .i64 (valT t ins))) H := by
 have hrn := hT.nd.rules
 have hln := treeV_len hT
 have hl2 := hT.nl
 have hrw := hw.rules
 simp only [celI_len] at hrw
 have hh := hoodOk_len hR.hood
 have n1 := hR.n1
 have n2 := hR.n2
 have w1 : wr .i64 ((es.length : Int) - 1) = (t.nodes.length : Int) - 1 := by rw [wr_i64 (by omega) (by omega)]; omega
 refine gives_pur rfl rfl rfl rfl rfl ?_
 simp (maxSteps := 2000000) (disch := omega) [gd_in, gd_and, wr_i64, hrn, hrw, w1]
 refine (?key : ∀ (i : Nat) (k : Int) (B : List (Nat × List V)), i ≤ ins.length → getB B 2 = some [.m (.i .i64 t.states), .m h, .m n] → k = valT t (ins.take i) → Run G c63_B0 (S63_0 (.fa 2 0) (.m (.i .i64 k)) (.m w) (.m (.i .i64 ins.length)) (.m (.i .i64 (i : Int))) B []) _) 0 _ _ (Nat.zero_le _) rfl rfl
 refine indM (fun i : Nat => ins.length - i) fun i ih k B hi hB hk => ?_
 unfold c63_B0
 cases hx : ins[i]? with
 | none =>
  have : i = ins.length := by have := List.getElem?_eq_none_iff.1 hx; omega
  subst this
  rw [List.take_length] at hk
  simp (maxSteps := 2000000) (disch := omega) [gd_in, gd_and, wr_i64, hrw, hk]
 | some s =>
  have hlt := (get_drop hx).1
  have hlt2 : (i : Int) < ins.length := by omega
  have hsv := hs s (List.mem_of_getElem? hx)
  have hsx : nth (celI ins) i = some [.i .i64 s] := celI_nth hx
  have htl : (ins.take i).length = i := by rw [List.length_take]; omega
  obtain ⟨j, nd, hkj, hnd, hlev, hlen⟩ := val_at hR i (ins.take i) htl (by omega) fun x hx => hs x (List.mem_of_mem_take hx)
  rw [← hk] at hkj
  obtain ⟨z, hz, hzs, hzl, _⟩ := treeV_at hT hnd
  have hrz := hzs.rules
  simp only [celI_len] at hrz
  have hjl := (get_drop hnd).1
  have hjl1 : j < es.length := by omega
  have hjl2 : (j : Int) < es.length := by omega
  obtain ⟨sn, rfl⟩ := Int.eq_ofNat_of_zero_le hsv.1
  have hsn : sn < nd.2.length := by omega
  have hsn2 : (sn : Int) < nd.2.length := by omega
  obtain ⟨k2, hk2⟩ : ∃ k2, nd.2[sn]? = some k2 := ⟨_, List.getElem?_eq_getElem hsn⟩
  have hk3 : nth (celI nd.2) sn = some [.i .i64 k2] := celI_nth hk2
  have wi : wr .i64 ((i : Int) + 1) = ((i + 1 : Nat) : Int) := wr_i64 (by omega) (by omega)
  have e1 : valT t (ins.take (i + 1)) = k2 := by
   rw [take_succ_get hx, valT_snoc, ← hk, hkj]
   exact nxtAt_at hnd hk2
  have kk := ih (i + 1) (by omega) k2 B (by omega) hB e1.symm
  rw [hkj]
  simp (maxSteps := 2000000) (disch := omega) [gd_in, gd_and, wr_i64, hrw, hrn, hlt, hlt2, hsx, hB, hjl1, hjl2, hz, hrz, hsn, hsn2, hk3, wi, -Int.natCast_add]
  exact kk
theorem quiet_s {t : TreeC} {h n : I} {es : List (List I)} (hT : TreeV t h n es) (H : Hp) : Gives G 46 [.m (.ag [.i .i64 t.states, h, n])] H (.m (.b (quietT t))) H := by
 have g1 := fun H => tree_s hT H
 have hrh := hT.hd.rules
 simp only [cells2_len] at hrh
 refine gives_pur rfl rfl rfl rfl rfl ?_
 have eQ : quietT t = (treeOk t && decide (valT t (List.replicate t.hood.length 0) = 0)) := rfl
 cases ht : treeOk t with
 | false =>
  rw [ht] at g1 eQ
  have eQ : quietT t = false := eQ
  simp (maxSteps := 2000000) (disch := omega) [gd_in, gd_and, wr_i64, gcall_cx, cl (g1 _), eQ]
 | true =>
  rw [ht] at g1 eQ
  rw [Bool.true_and] at eQ
  have hR := treeOk_r ht
  have hh := hoodOk_len hR.hood
  have hz : ∀ s, s ∈ List.replicate t.hood.length (0 : Int) → 0 ≤ s ∧ s < t.states := fun s hs => by
   have := (List.mem_replicate.1 hs).2
   have := hR.s2
   omega
  have hrow : (List.replicate t.hood.length ([V.m (.i .i64 0)] : List V)) = rowsI (List.replicate t.hood.length 0) := by unfold rowsI; rw [List.map_replicate]
  have gv0 := value_s hT hR (isSl_sl (celI (List.replicate t.hood.length 0))) (by simp) hz []
  have gv := gives_view (H := [Row.cs 3 1 (rowsI (List.replicate t.hood.length 0)) 0 false]) (vs := [.m (.ag [.i .i64 t.states, h, n]), .sl 0 t.hood.length 1 0 t.hood.length true]) (is := [.ag [.i .i64 t.states, h, n], .sl (celI (List.replicate t.hood.length 0))]) rfl rfl gv0 (by
   have := viewN (r := 0) (ver := t.hood.length) (st := 0) (len := t.hood.length) (lim := true) (base := 0) (fz := false) (l := List.replicate t.hood.length 0) (H := [Row.cs 3 1 (rowsI (List.replicate t.hood.length 0)) 0 false]) rfl (Nat.zero_le _) 18
   rw [List.drop_zero, List.take_of_length_le (by simp)] at this
   show Option.bind (some _) (fun _ => Option.bind (Option.bind (view 20 _ _) _) _) = _
   rw [this]
   rfl) (.inr ⟨by simp [refs, ref1], rfl⟩)
  rw [eQ]
  have hb : (t.hood.length : Int) ≤ 17592186044416 := by omega
  simp (maxSteps := 2000000) (disch := omega) [gd_in, gd_and, wr_i64, gcall_cx, cl (g1 _), hrh, hb, hrow, cl gv]
end Go.Mx.Tryz
