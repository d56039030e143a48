/- The builder's node: walked. -/
import Derived.Test.YtbpkmkgnkpeefaaGreatDoorVf
import Derived.Test.YtbpkmkgnkpeefaaGreatDoorTa
set_option linter.unusedSimpArgs false
set_option linter.unusedVariables false
set_option linter.unusedSectionVars false
set_option maxRecDepth 100000
namespace Go.Mx.Tryz
open Go.Lib Go.Proofs

theorem beforeH_r (a b : Int × Int) (H : Hp) : Gives G 68 [.m (.ag [.i .i64 a.1,.i .i64 a.2]),.m (.ag [.i .i64 b.1,.i .i64 b.2])] H (.m (.b (lessP a b))) H:=by
 refine gives_pur rfl rfl rfl rfl rfl ?_
 simp (contextual:=true) [test_cx,rest_cx,gcall_cx,gcav_cx,-Int.not_lt,-Int.not_le,-Nat.not_lt,-Nat.not_le,-List.map_take,lessP]
set_option maxHeartbeats 1000000 in
theorem hood_r {v : I} {p : List (Int × Int)} (hv : IsSl v (cells2 p)) (hl : (p.length : Int) ≤ 9223372036854775807) (H : Hp) : Gives G 38 [.m v] H (.m (.b (hoodOk p))) H:=by
 have hr0:=hv.rules
 simp only [cells2_len] at hr0
 refine gives_pur rfl rfl rfl rfl rfl ?_
 by_cases h1 : 1 ≤ p.length ∧ p.length ≤ 25
 rotate_left
 ·have e : hoodOk p = false:=by unfold hoodOk; rw [decide_eq_false h1]; rfl
  by_cases h2 : (p.length : Int) < 1
  ·simp (maxSteps:=2000000) (disch:=omega) [gd_in,gd_and,wr_i64,hr0,h2,e]
  ·have h3 : (25 : Int) < p.length:=by omega
   simp (maxSteps:=2000000) (disch:=omega) [gd_in,gd_and,wr_i64,hr0,h2,h3,e]
 have h2 : ¬ (p.length : Int) < 1:=by omega
 have h3 : ¬ (25 : Int) < p.length:=by omega
 have hR : hoodOk p = chnH none p:=by unfold hoodOk; rw [decide_eq_true h1]; rfl
 rw [hR]
 simp (maxSteps:=2000000) (disch:=omega) [gd_in,gd_and,wr_i64,hr0,h2,h3]
 refine (?key : ∀ (i : Nat) (B : List (Nat × List V)),i ≤ p.length → chnH none p = chnH (prevH p i) (p.drop i) → Run G c38_B0 (S38_0 (.m v) (.m (.i .i64 i)) B []) _) 0 [] (Nat.zero_le _) rfl
 refine indM (fun i : Nat=>p.length - i) fun i ih B hi hr=>?_
 unfold c38_B0
 cases hx : p[i]? with
 | none =>
  have : i = p.length:=by have:=List.getElem?_eq_none_iff.1 hx; omega
  subst this
  have : chnH (prevH p p.length) [] = true:=by cases prevH p p.length <;> rfl
  simp [hr0,hr,this]
 | some c =>
  have hlt:=(get_drop hx).1
  have hn:=cells2_nth hx
  rw [(get_drop hx).2,chnH_cons hx,offOk_iff] at hr
  cases i with
  | zero =>
   simp (contextual:=true) (maxSteps:=2000000) (disch:=omega) [test_cx,rest_cx,gcall_cx,gcav_cx,-Int.not_lt,-Int.not_le,-Nat.not_lt,-Nat.not_le,-List.map_take,hr0,hn,hlt,wr_i64]
   repeat' first | with_reducible apply And.intro | intro _
   all_goals first
    | (refine ih 1 (by omega) _ (by omega) ?_; grind [prevH])
    | grind [prevH]
  | succ j =>
   obtain ⟨c0,hx0⟩ : ∃ c0,p[j]? = some c0:=⟨p[j],List.getElem?_eq_getElem (by omega)⟩
   have hn0:=cells2_nth hx0
   have e3 : (j : Int) + 1 < p.length:=by omega
   have e4 : (j : Int) < p.length:=by omega
   have e6 : (0 : Int) ≤ j + 1:=by omega
   have e7 : ((j : Int) + 1).toNat = j + 1:=by omega
   have hp0 : prevH p (j + 1) = some c0:=hx0
   simp only [hp0] at hr
   simp (contextual:=true) (maxSteps:=2000000) (disch:=omega) [test_cx,rest_cx,gcall_cx,gcav_cx,-Int.not_lt,-Int.not_le,-Nat.not_lt,-Nat.not_le,-List.map_take,hr0,hn,hn0,e3,e4,e6,e7,hlt,cl (beforeH_r _ _ _),wr_i64]
   repeat' first | with_reducible apply And.intro | intro _
   all_goals first
    | (refine ih (j + 2) (by omega) _ (by omega) ?_; grind)
    | grind
set_option maxHeartbeats 4000000 in
theorem tree_r {t : TreeC} {h n : I} {es : List (List I)} (hT : TreeV t h n es) (H : Hp) : Gives G 13 [.m (.ag [.i .i64 t.states,h,n])] H (.m (.b (treeOk t))) H:=by
 have hrh:=hT.hd.rules
 simp only [cells2_len] at hrh
 have hrn:=hT.nd.rules
 have hln:=treeV_len hT
 have gh:=fun H=>hood_r hT.hd (by have:=hT.hl; omega) H
 have hl1:=hT.hl
 have hl2:=hT.nl
 refine gives_pur rfl rfl rfl rfl rfl ?_
 have eO : treeOk t = (decide (2 ≤ t.states ∧ t.states ≤ 8) && (hoodOk t.hood && (decide (1 ≤ t.nodes.length ∧ t.nodes.length ≤ 4096) && (decide (levAt t.nodes (t.nodes.length - 1) = t.hood.length) && nodesOk t 0 t.nodes)))):=rfl
 by_cases s2 : t.states < 2
 ·have : treeOk t = false:=by rw [eO,decide_eq_false (by omega)]; rfl
  simp (maxSteps:=2000000) (disch:=omega) [gd_in,gd_and,wr_i64,gcall_cx,hrh,hrn,s2,this]
 by_cases s8 : 8 < t.states
 ·have : treeOk t = false:=by rw [eO,decide_eq_false (by omega)]; rfl
  simp (maxSteps:=2000000) (disch:=omega) [gd_in,gd_and,wr_i64,gcall_cx,hrh,hrn,s2,s8,this]
 cases hh : hoodOk t.hood with
 | false =>
  have : treeOk t = false:=by rw [eO,hh]; simp
  rw [hh] at gh
  simp (maxSteps:=2000000) (disch:=omega) [gd_in,gd_and,wr_i64,gcall_cx,hrh,hrn,s2,s8,cl (gh _),this]
 | true =>
  rw [hh] at gh
  by_cases n1 : (es.length : Int) < 1
  ·have : treeOk t = false:=by rw [eO,decide_eq_false (by rw [hln]; omega : ¬ (1 ≤ t.nodes.length ∧ t.nodes.length ≤ 4096))]; simp
   simp (maxSteps:=2000000) (disch:=omega) [gd_in,gd_and,wr_i64,gcall_cx,hrh,hrn,s2,s8,cl (gh _),n1,this]
  by_cases n2 : (4096 : Int) < es.length
  ·have : treeOk t = false:=by rw [eO,decide_eq_false (by rw [hln]; omega : ¬ (1 ≤ t.nodes.length ∧ t.nodes.length ≤ 4096))]; simp
   simp (maxSteps:=2000000) (disch:=omega) [gd_in,gd_and,wr_i64,gcall_cx,hrh,hrn,s2,s8,cl (gh _),n1,n2,this]
  have hlt1 : es.length - 1 < t.nodes.length:=by omega
  obtain ⟨z0,hz0,_⟩:=treeV_at hT (List.getElem?_eq_getElem hlt1)
  have hle1 : es.length - 1 < es.length:=by omega
  have hle2 : ((es.length - 1 : Nat) : Int) < es.length:=by omega
  have w1 : wr .i64 ((es.length : Int) - 1) = ((es.length - 1 : Nat) : Int):=by rw [wr_i64 (by omega) (by omega)]; omega
  have hlev:=levAt_at (List.getElem?_eq_getElem hlt1)
  have eroot : levAt t.nodes (t.nodes.length - 1) = t.nodes[es.length - 1].1:=by
   rw [← hlev,hln]
   congr 1
   omega
  have hR : treeOk t = (decide (t.nodes[es.length - 1].1 = t.hood.length) && nodesOk t 0 t.nodes):=by
   rw [eO,hh,decide_eq_true (by omega : 2 ≤ t.states ∧ t.states ≤ 8),decide_eq_true (by omega : 1 ≤ t.nodes.length ∧ t.nodes.length ≤ 4096),eroot]
   simp
  have hF : nodesOk t 0 t.nodes = false → treeOk t = false:=fun h=>by rw [hR,h,Bool.and_false]
  simp (maxSteps:=2000000) (disch:=omega) [gd_in,gd_and,wr_i64,gcall_cx,hrh,hrn,s2,s8,cl (gh _),n1,n2]
  refine (?key : ∀ (i : Nat) (B : List (Nat × List V)),i ≤ t.nodes.length → getB B 1 = some [.m (.i .i64 t.states),.m h,.m n] → nodesOk t 0 t.nodes = nodesOk t i (t.nodes.drop i) → Run G c13_B1 (S13_1 (.fa 1 0) (.m (.i .i64 es.length)) (.m (.i .i64 (i : Int))) B []) _) 0 _ (Nat.zero_le _) rfl rfl
  refine indM (fun i : Nat=>t.nodes.length - i) fun i ih B hi hB hI=>?_
  unfold c13_B1
  cases hx : t.nodes[i]? with
  | none =>
   have : i = es.length:=by have:=List.getElem?_eq_none_iff.1 hx; omega
   subst this
   rw [← hln,List.drop_length] at hI
   have hI : nodesOk t 0 t.nodes = true:=hI
   rw [hI,Bool.and_true] at hR
   rw [hR]
   simp (maxSteps:=2000000) (disch:=omega) [gd_in,gd_and,wr_i64,hrn,hrh,hB,w1,hle1,hle2,hz0]
  | some nd =>
   have hlt:=(get_drop hx).1
   have hlt1 : i < es.length:=by omega
   have hlt2 : (i : Int) < es.length:=by omega
   obtain ⟨z,hz,hzs,hzl,hzb⟩:=treeV_at hT hx
   have hrz:=hzs.rules
   have hz1:=isSl_1 hzs
   simp only [celI_len] at hrz
   have wi : wr .i64 ((i : Int) + 1) = ((i + 1 : Nat) : Int):=wr_i64 (by omega) (by omega)
   rw [(get_drop hx).2,nodesOk_cons] at hI
   have eN : nodeOk t i nd = (decide (1 ≤ nd.1 ∧ nd.1 ≤ t.hood.length ∧ (nd.2.length : Int) = t.states) && nd.2.all (elOk t i nd.1)):=rfl
   by_cases m1 : nd.1 < 1
   ·have:=hF (by rw [hI,eN,decide_eq_false (by omega)]; rfl)
    simp (maxSteps:=2000000) (disch:=omega) [gd_in,gd_and,wr_i64,hrn,hrh,hlt1,hlt2,hz,hz1,hrz,hB,m1,this]
   by_cases m2 : (t.hood.length : Int) < nd.1
   ·have:=hF (by rw [hI,eN,decide_eq_false (by omega)]; rfl)
    simp (maxSteps:=2000000) (disch:=omega) [gd_in,gd_and,wr_i64,hrn,hrh,hlt1,hlt2,hz,hz1,hrz,hB,m1,m2,this]
   by_cases m3 : (nd.2.length : Int) = t.states
   rotate_left
   ·have:=hF (by rw [hI,eN,decide_eq_false (by omega)]; rfl)
    simp (maxSteps:=2000000) (disch:=omega) [gd_in,gd_and,wr_i64,hrn,hrh,hlt1,hlt2,hz,hz1,hrz,hB,m1,m2,m3,this]
   rw [eN,decide_eq_true (by omega : 1 ≤ nd.1 ∧ nd.1 ≤ t.hood.length ∧ (nd.2.length : Int) = t.states),Bool.true_and] at hI
   simp (maxSteps:=2000000) (disch:=omega) [gd_in,gd_and,wr_i64,hrn,hrh,hlt1,hlt2,hz,hz1,hrz,hB,m1,m2,m3]
   refine (?key2 : ∀ (j : Nat) (B : List (Nat × List V)),j ≤ nd.2.length → getB B 1 = some [.m (.i .i64 t.states),.m h,.m n] → getB B 5 = some [.m (.i .i64 nd.1),.m z] → nodesOk t 0 t.nodes = ((nd.2.drop j).all (elOk t i nd.1) && nodesOk t (i + 1) (t.nodes.drop (i + 1))) → Run G c13_B0 (S13_0 (.fa 1 0) (.m (.i .i64 es.length)) (.m (.i .i64 (i : Int))) (.fa 5 0) (.m (.i .i64 (j : Int))) B []) _) 0 _ (Nat.zero_le _) (by simpa using hB) (by simp) hI
   clear hI
   refine indM (fun j : Nat=>nd.2.length - j) fun j ihj B hj hB h5 hI=>?_
   unfold c13_B0
   cases hy : nd.2[j]? with
   | none =>
    have : j = nd.2.length:=by have:=List.getElem?_eq_none_iff.1 hy; omega
    subst this
    rw [List.drop_length] at hI
    have k:=ih (i + 1) (by omega) B (by omega) hB hI
    have hjs : ¬ (nd.2.length : Int) < t.states:=by omega
    have hjs2 : ¬ ((nd.2.length : Nat) : Int) < t.states:=hjs
    simp (maxSteps:=2000000) (disch:=omega) [gd_in,gd_and,wr_i64,hrz,hB,h5,hjs,wi,-Int.natCast_add]
    exact k
   | some k =>
    have hjl:=(get_drop hy).1
    have hjl2 : (j : Int) < nd.2.length:=by omega
    have hjs : (j : Int) < t.states:=by omega
    have hk : nth (celI nd.2) j = some [.i .i64 k]:=celI_nth hy
    have wj : wr .i64 ((j : Int) + 1) = ((j + 1 : Nat) : Int):=wr_i64 (by omega) (by omega)
    have hkb:=hzb k (List.mem_of_getElem? hy)
    rw [(get_drop hy).2,List.all_cons] at hI
    have eE : elOk t i nd.1 k = decide (¬ k < 0 ∧ ¬ (nd.1 = 1 ∧ t.states ≤ k) ∧ ¬ (1 < nd.1 ∧ ((i : Int) ≤ k ∨ ¬ levAt t.nodes k = nd.1 - 1))):=rfl
    have go:=fun (h : elOk t i nd.1 k = true)=>ihj (j + 1) (by omega) B (by omega) hB h5 (by rw [hI,h,Bool.true_and])
    have no:=fun (h : elOk t i nd.1 k = false)=>hF (by rw [hI,h]; rfl)
    have wl : wr .i64 (nd.1 - 1) = nd.1 - 1:=wr_i64 (by omega) (by omega)
    by_cases k0 : k < 0
    ·have:=no (by rw [eE]; exact decide_eq_false fun h=>h.1 k0)
     simp (maxSteps:=2000000) (disch:=omega) [gd_in,gd_and,wr_i64,hrz,hjs,hjl,hjl2,hk,hB,h5,k0,this]
    by_cases l1 : nd.1 = 1
    ·have l2 : ¬ 1 < nd.1:=by omega
     by_cases ks : t.states ≤ k
     ·have:=no (by rw [eE]; exact decide_eq_false fun h=>h.2.1 ⟨l1,ks⟩)
      simp (maxSteps:=2000000) (disch:=omega) [gd_in,gd_and,wr_i64,hrz,hjs,hjl,hjl2,hk,hB,h5,k0,l1,ks,this]
     ·have kk:=go (by rw [eE]; exact decide_eq_true ⟨k0,fun h=>ks h.2,fun h=>l2 h.1⟩)
      rw [l1] at h5
      simp (maxSteps:=2000000) (disch:=omega) [gd_in,gd_and,wr_i64,hrz,hjs,hjl,hjl2,hk,hB,h5,k0,ks,wj,-Int.natCast_add]
      exact kk
    ·have l2 : 1 < nd.1:=by omega
     by_cases ki : (i : Int) ≤ k
     ·have:=no (by rw [eE]; exact decide_eq_false fun h=>h.2.2 ⟨l2,.inl ki⟩)
      simp (maxSteps:=2000000) (disch:=omega) [gd_in,gd_and,wr_i64,hrz,hjs,hjl,hjl2,hk,hB,h5,k0,l1,l2,ki,this]
     ·obtain ⟨kn,rfl⟩:=Int.eq_ofNat_of_zero_le (show 0 ≤ k by omega)
      have hkn : kn < t.nodes.length:=by omega
      have hkn1 : kn < es.length:=by omega
      have hkn2 : (kn : Int) < es.length:=by omega
      obtain ⟨z',hz',_⟩:=treeV_at hT (List.getElem?_eq_getElem hkn)
      have hlv:=levAt_at (List.getElem?_eq_getElem hkn)
      have ki2 : ¬ i ≤ kn:=by omega
      by_cases hle : t.nodes[kn].1 = nd.1 - 1
      ·have kk:=go (by rw [eE]; exact decide_eq_true ⟨k0,fun h=>l1 h.1,fun h=>h.2.elim ki fun h2=>h2 (hlv.trans hle)⟩)
       simp (maxSteps:=2000000) (disch:=omega) [gd_in,gd_and,wr_i64,hrz,hrn,hjs,hjl,hjl2,hk,hB,h5,k0,l1,l2,ki,ki2,hkn1,hkn2,hz',wl,hle,wj,-Int.natCast_add]
       exact kk
      ·have:=no (by rw [eE]; exact decide_eq_false fun h=>h.2.2 ⟨l2,.inr fun h2=>hle (hlv.symm.trans h2)⟩)
       simp (maxSteps:=2000000) (disch:=omega) [gd_in,gd_and,wr_i64,hrz,hrn,hjs,hjl,hjl2,hk,hB,h5,k0,l1,l2,ki,ki2,hkn1,hkn2,hz',wl,hle,this]
end Go.Mx.Tryz
set_option linter.unusedSimpArgs false
set_option linter.unusedVariables false
set_option linter.unusedSectionVars false
namespace Go.Mx.Tryz
open Go.Lib Go.Proofs

set_option maxHeartbeats 4000000 in
theorem tree_s {t : TreeC} {h n : I} {es : List (List I)} (hT : TreeV t h n es) (H : Hp) : Gives G 65 [.m (.ag [.i .i64 t.states,h,n])] H (.m (.b (treeOk t))) H:=by
 have hrh:=hT.hd.rules
 simp only [cells2_len] at hrh
 have hrn:=hT.nd.rules
 have hln:=treeV_len hT
 have gh:=fun H=>hood_s hT.hd (by have:=hT.hl; omega) H
 have hl1:=hT.hl
 have hl2:=hT.nl
 refine gives_pur rfl rfl rfl rfl rfl ?_
 have eO : treeOk t = (decide (2 ≤ t.states ∧ t.states ≤ 8) && (hoodOk t.hood && (decide (1 ≤ t.nodes.length ∧ t.nodes.length ≤ 4096) && (decide (levAt t.nodes (t.nodes.length - 1) = t.hood.length) && nodesOk t 0 t.nodes)))):=rfl
 by_cases s2 : t.states < 2
 ·have : treeOk t = false:=by rw [eO,decide_eq_false (by omega)]; rfl
  simp (maxSteps:=2000000) (disch:=omega) [gd_in,gd_and,wr_i64,gcall_cx,hrh,hrn,s2,this]
 by_cases s8 : 8 < t.states
 ·have : treeOk t = false:=by rw [eO,decide_eq_false (by omega)]; rfl
  simp (maxSteps:=2000000) (disch:=omega) [gd_in,gd_and,wr_i64,gcall_cx,hrh,hrn,s2,s8,this]
 cases hh : hoodOk t.hood with
 | false =>
  have : treeOk t = false:=by rw [eO,hh]; simp
  rw [hh] at gh
  simp (maxSteps:=2000000) (disch:=omega) [gd_in,gd_and,wr_i64,gcall_cx,hrh,hrn,s2,s8,cl (gh _),this]
 | true =>
  rw [hh] at gh
  by_cases n1 : (es.length : Int) < 1
  ·have : treeOk t = false:=by rw [eO,decide_eq_false (by rw [hln]; omega : ¬ (1 ≤ t.nodes.length ∧ t.nodes.length ≤ 4096))]; simp
   simp (maxSteps:=2000000) (disch:=omega) [gd_in,gd_and,wr_i64,gcall_cx,hrh,hrn,s2,s8,cl (gh _),n1,this]
  by_cases n2 : (4096 : Int) < es.length
  ·have : treeOk t = false:=by rw [eO,decide_eq_false (by rw [hln]; omega : ¬ (1 ≤ t.nodes.length ∧ t.nodes.length ≤ 4096))]; simp
   simp (maxSteps:=2000000) (disch:=omega) [gd_in,gd_and,wr_i64,gcall_cx,hrh,hrn,s2,s8,cl (gh _),n1,n2,this]
  have hlt1 : es.length - 1 < t.nodes.length:=by omega
  obtain ⟨z0,hz0,_⟩:=treeV_at hT (List.getElem?_eq_getElem hlt1)
  have hle1 : es.length - 1 < es.length:=by omega
  have hle2 : ((es.length - 1 : Nat) : Int) < es.length:=by omega
  have w1 : wr .i64 ((es.length : Int) - 1) = ((es.length - 1 : Nat) : Int):=by rw [wr_i64 (by omega) (by omega)]; omega
  have hlev:=levAt_at (List.getElem?_eq_getElem hlt1)
  have eroot : levAt t.nodes (t.nodes.length - 1) = t.nodes[es.length - 1].1:=by
   rw [← hlev,hln]
   congr 1
   omega
  by_cases hroot : t.nodes[es.length - 1].1 = t.hood.length
  rotate_left
  ·have : treeOk t = false:=by rw [eO,decide_eq_false (by rw [eroot]; exact hroot : ¬ levAt t.nodes (t.nodes.length - 1) = t.hood.length)]; simp
   simp (maxSteps:=2000000) (disch:=omega) [gd_in,gd_and,wr_i64,gcall_cx,hrh,hrn,s2,s8,cl (gh _),n1,n2,w1,hle1,hle2,hz0,hroot,this]
  have hR : treeOk t = nodesOk t 0 t.nodes:=by
   rw [eO,hh,decide_eq_true (by omega : 2 ≤ t.states ∧ t.states ≤ 8),decide_eq_true (by omega : 1 ≤ t.nodes.length ∧ t.nodes.length ≤ 4096),decide_eq_true (by rw [eroot]; exact hroot : levAt t.nodes (t.nodes.length - 1) = t.hood.length)]
   simp
  rw [hR]
  simp (maxSteps:=2000000) (disch:=omega) [gd_in,gd_and,wr_i64,gcall_cx,hrh,hrn,s2,s8,cl (gh _),n1,n2,w1,hle1,hle2,hz0,hroot]
  refine (?key : ∀ (i : Nat) (B : List (Nat × List V)),i ≤ t.nodes.length → getB B 1 = some [.m (.i .i64 t.states),.m h,.m n] → nodesOk t 0 t.nodes = nodesOk t i (t.nodes.drop i) → Run G c65_B1 (S65_1 (.fa 1 0) (.m n) (.m (.i .i64 es.length)) (.m (.i .i64 (i : Int))) B []) _) 0 _ (Nat.zero_le _) rfl rfl
  refine indM (fun i : Nat=>t.nodes.length - i) fun i ih B hi hB hI=>?_
  unfold c65_B1
  cases hx : t.nodes[i]? with
  | none =>
   have : i = es.length:=by have:=List.getElem?_eq_none_iff.1 hx; omega
   subst this
   rw [← hln,List.drop_length] at hI
   have hI : nodesOk t 0 t.nodes = true:=hI
   simp (maxSteps:=2000000) (disch:=omega) [gd_in,gd_and,wr_i64,hrn,hI]
  | some nd =>
   have hlt:=(get_drop hx).1
   have hlt1 : i < es.length:=by omega
   have hlt2 : (i : Int) < es.length:=by omega
   obtain ⟨z,hz,hzs,hzl,hzb⟩:=treeV_at hT hx
   have hrz:=hzs.rules
   have hz1:=isSl_1 hzs
   simp only [celI_len] at hrz
   have wi : wr .i64 ((i : Int) + 1) = ((i + 1 : Nat) : Int):=wr_i64 (by omega) (by omega)
   rw [(get_drop hx).2,nodesOk_cons] at hI
   have eN : nodeOk t i nd = (decide (1 ≤ nd.1 ∧ nd.1 ≤ t.hood.length ∧ (nd.2.length : Int) = t.states) && nd.2.all (elOk t i nd.1)):=rfl
   by_cases m1 : nd.1 < 1
   ·have : nodesOk t 0 t.nodes = false:=by rw [hI,eN,decide_eq_false (by omega)]; rfl
    simp (maxSteps:=2000000) (disch:=omega) [gd_in,gd_and,wr_i64,hrn,hrh,hlt1,hlt2,hz,hz1,hrz,hB,m1,this]
   by_cases m2 : (t.hood.length : Int) < nd.1
   ·have : nodesOk t 0 t.nodes = false:=by rw [hI,eN,decide_eq_false (by omega)]; rfl
    simp (maxSteps:=2000000) (disch:=omega) [gd_in,gd_and,wr_i64,hrn,hrh,hlt1,hlt2,hz,hz1,hrz,hB,m1,m2,this]
   by_cases m3 : (nd.2.length : Int) = t.states
   rotate_left
   ·have : nodesOk t 0 t.nodes = false:=by rw [hI,eN,decide_eq_false (by omega)]; rfl
    simp (maxSteps:=2000000) (disch:=omega) [gd_in,gd_and,wr_i64,hrn,hrh,hlt1,hlt2,hz,hz1,hrz,hB,m1,m2,m3,this]
   rw [eN,decide_eq_true (by omega : 1 ≤ nd.1 ∧ nd.1 ≤ t.hood.length ∧ (nd.2.length : Int) = t.states),Bool.true_and] at hI
   simp (maxSteps:=2000000) (disch:=omega) [gd_in,gd_and,wr_i64,hrn,hrh,hlt1,hlt2,hz,hz1,hrz,hB,m1,m2,m3]
   rw [← m3]
   refine (?key2 : ∀ (j : Nat) (B : List (Nat × List V)),j ≤ nd.2.length → getB B 1 = some [.m (.i .i64 t.states),.m h,.m n] → getB B 5 = some [.m (.i .i64 nd.1),.m z] → nodesOk t 0 t.nodes = ((nd.2.drop j).all (elOk t i nd.1) && nodesOk t (i + 1) (t.nodes.drop (i + 1))) → Run G c65_B0 (S65_0 (.fa 1 0) (.m (.i .i64 (i : Int))) (.fa 5 0) (.m n) (.m (.i .i64 es.length)) (.m (.i .i64 (i : Int))) (.m z) (.m (.i .i64 nd.2.length)) (.m (.i .i64 (j : Int))) B []) _) 0 _ (Nat.zero_le _) (by simpa using hB) (by simp) hI
   clear hI
   refine indM (fun j : Nat=>nd.2.length - j) fun j ihj B hj hB h5 hI=>?_
   unfold c65_B0
   cases hy : nd.2[j]? with
   | none =>
    have : j = nd.2.length:=by have:=List.getElem?_eq_none_iff.1 hy; omega
    subst this
    rw [List.drop_length] at hI
    have k:=ih (i + 1) (by omega) B (by omega) hB hI
    simp (maxSteps:=2000000) (disch:=omega) [gd_in,gd_and,wr_i64,hrz,wi,-Int.natCast_add]
    exact k
   | some k =>
    have hjl:=(get_drop hy).1
    have hjl2 : (j : Int) < nd.2.length:=by omega
    have hk : nth (celI nd.2) j = some [.i .i64 k]:=celI_nth hy
    have wj : wr .i64 ((j : Int) + 1) = ((j + 1 : Nat) : Int):=wr_i64 (by omega) (by omega)
    have hkb:=hzb k (List.mem_of_getElem? hy)
    rw [(get_drop hy).2,List.all_cons] at hI
    have eE : elOk t i nd.1 k = decide (¬ k < 0 ∧ ¬ (nd.1 = 1 ∧ t.states ≤ k) ∧ ¬ (1 < nd.1 ∧ ((i : Int) ≤ k ∨ ¬ levAt t.nodes k = nd.1 - 1))):=rfl
    have go:=fun (h : elOk t i nd.1 k = true)=>ihj (j + 1) (by omega) B (by omega) hB h5 (by rw [hI,h,Bool.true_and])
    have no:=fun (h : elOk t i nd.1 k = false)=>(by rw [hI,h]; rfl : nodesOk t 0 t.nodes = false)
    have wl : wr .i64 (nd.1 - 1) = nd.1 - 1:=wr_i64 (by omega) (by omega)
    by_cases k0 : k < 0
    ·have:=no (by rw [eE]; exact decide_eq_false fun h=>h.1 k0)
     simp (maxSteps:=2000000) (disch:=omega) [gd_in,gd_and,wr_i64,hrz,hjl,hjl2,hk,hB,h5,k0,this]
    by_cases l1 : nd.1 = 1
    ·have l2 : ¬ 1 < nd.1:=by omega
     by_cases ks : t.states ≤ k
     ·have:=no (by rw [eE]; exact decide_eq_false fun h=>h.2.1 ⟨l1,ks⟩)
      simp (maxSteps:=2000000) (disch:=omega) [gd_in,gd_and,wr_i64,hrz,hjl,hjl2,hk,hB,h5,k0,l1,ks,this]
     ·have kk:=go (by rw [eE]; exact decide_eq_true ⟨k0,fun h=>ks h.2,fun h=>l2 h.1⟩)
      rw [l1] at h5
      simp (maxSteps:=2000000) (disch:=omega) [gd_in,gd_and,wr_i64,hrz,hjl,hjl2,hk,hB,h5,k0,ks,wj,-Int.natCast_add]
      exact kk
    ·have l2 : 1 < nd.1:=by omega
     by_cases ki : (i : Int) ≤ k
     ·have:=no (by rw [eE]; exact decide_eq_false fun h=>h.2.2 ⟨l2,.inl ki⟩)
      simp (maxSteps:=2000000) (disch:=omega) [gd_in,gd_and,wr_i64,hrz,hjl,hjl2,hk,hB,h5,k0,l1,l2,ki,this]
     ·obtain ⟨kn,rfl⟩:=Int.eq_ofNat_of_zero_le (show 0 ≤ k by omega)
      have hkn : kn < t.nodes.length:=by omega
      have hkn1 : kn < es.length:=by omega
      have hkn2 : (kn : Int) < es.length:=by omega
      obtain ⟨z',hz',_⟩:=treeV_at hT (List.getElem?_eq_getElem hkn)
      have hlv:=levAt_at (List.getElem?_eq_getElem hkn)
      have ki2 : ¬ i ≤ kn:=by omega
      by_cases hle : t.nodes[kn].1 = nd.1 - 1
      ·have kk:=go (by rw [eE]; exact decide_eq_true ⟨k0,fun h=>l1 h.1,fun h=>h.2.elim ki fun h2=>h2 (hlv.trans hle)⟩)
       simp (maxSteps:=2000000) (disch:=omega) [gd_in,gd_and,wr_i64,hrz,hrn,hjl,hjl2,hk,hB,h5,k0,l1,l2,ki,ki2,hkn1,hkn2,hz',wl,hle,wj,-Int.natCast_add]
       exact kk
      ·have:=no (by rw [eE]; exact decide_eq_false fun h=>h.2.2 ⟨l2,.inr fun h2=>hle (hlv.symm.trans h2)⟩)
       simp (maxSteps:=2000000) (disch:=omega) [gd_in,gd_and,wr_i64,hrz,hrn,hjl,hjl2,hk,hB,h5,k0,l1,l2,ki,ki2,hkn1,hkn2,hz',wl,hle,this]
end Go.Mx.Tryz
set_option linter.unusedSimpArgs false
set_option linter.unusedVariables false
set_option linter.unusedSectionVars false
namespace Go.Mx.Tryz

def LW (ty : Nat) (xs : List I) (o : V) (H : Hp) (ok : Nat → Prop) : Prop:=(xs = [] ∧ (o = .m (.nl 4) ∨ o = .ls [])) ∨
 ∃ (r : Nat) (es : List I) (base : Nat) (lim : Bool),ok r ∧ o = .sl r es.length 1 0 xs.length lim ∧ nth H r = some (.cs ty 1 (onV es) base false) ∧ base ≤ es.length ∧ xs.length ≤ es.length ∧ es.take xs.length = xs
theorem LR.toLW {ty : Nat} {xs : List I} {o : V} {H : Hp} {ok : Nat → Prop} (h : LR ty xs o H ok) : LW ty xs o H ok:=by
 rcases h with ⟨rfl,rfl⟩ | ⟨hne,r,hr,rfl,h3⟩
 ·exact .inl ⟨rfl,.inl rfl⟩
 ·exact .inr ⟨r,xs,0,false,hr,rfl,h3,Nat.zero_le _,Nat.le_refl _,List.take_length⟩
theorem LW.keep {ty : Nat} {xs : List I} {o : V} {H H' : Hp} {ok ok' : Nat → Prop} (h : LW ty xs o H ok) (hk : ∀ r,ok r → nth H' r = nth H r) (ho : ∀ r,ok r → r < H.length → ok' r) : LW ty xs o H' ok':=by
 rcases h with h | ⟨r,es,base,lim,hr,e,h3,h4⟩
 ·exact .inl h
 ·exact .inr ⟨r,es,base,lim,ho r hr (nl_lt h3),e,by rw [hk r hr]; exact h3,h4⟩
theorem LW.nf {ty : Nat} {xs : List I} {o : V} {H : Hp} {ok : Nat → Prop} (h : LW ty xs o H ok) : noFaV o = true ∧ cellsV o = some [o] ∧ oneV o = true ∧ pureX (.len false) [o] = some (.m (.i .i64 (xs.length : Nat))):=by
 rcases h with ⟨rfl,rfl | rfl⟩ | ⟨r,es,base,lim,hr,rfl,h3,h4⟩
 ·exact ⟨rfl,rfl,rfl,rfl⟩
 ·exact ⟨rfl,rfl,rfl,rfl⟩
 ·exact ⟨rfl,rfl,rfl,rfl⟩
theorem take_get {xs es : List I} (h : es.take xs.length = xs) {i : Nat} {x : I} (hx : xs[i]? = some x) : es[i]? = some x:=by
 have hlt:=(List.getElem?_eq_some_iff.1 hx).1
 have e : (es.take xs.length)[i]? = some x:=by rw [h]; exact hx
 rwa [List.getElem?_take,if_pos hlt] at e
theorem LW.rd {ty : Nat} {xs : List I} {o : V} {H : Hp} {ok : Nat → Prop} (h : LW ty xs o H ok) {i : Nat} {x : I} (hx : xs[i]? = some x) : ∃ p,pureX (.ixa 1) [o,.m (.i .i64 (i : Int))] = some p ∧ noFaV p = true ∧ ∀ B,readX ⟨B,H⟩ (.ld false 1) [p] = some (.m x):=by
 have hlt:=(List.getElem?_eq_some_iff.1 hx).1
 rcases h with ⟨rfl,_⟩ | ⟨r,es,base,lim,hr,rfl,h3,h4,h5,h6⟩
 ·simp at hlt
 ·have hge:=take_get h6 hx
  refine ⟨.pt r es.length i 0,?_,rfl,fun B=>?_⟩
  ·simp (maxSteps:=2000000) (disch:=omega) [gd_in,gd_and,wr_i64,hlt,show (i : Int) < xs.length from by omega]
  ·have e : readX ⟨B,H⟩ (.ld false 1) [V.pt r es.length i 0] = (readA ⟨B,H⟩ 1 (V.pt r es.length i 0)).bind fun cs=>valOf false cs:=rfl
   simp (maxSteps:=2000000) (disch:=omega) [gd_in,gd_and,wr_i64,onV_nth hge,h3,h4]
theorem LW.elems {ty : Nat} {xs : List I} {o : V} {H : Hp} {ok : Nat → Prop} (h : LW ty xs o H ok) : Mx.elems H o = some (onV xs):=by
 rcases h with ⟨rfl,rfl | rfl⟩ | ⟨r,es,base,lim,hr,rfl,h3,h4,h5,h6⟩
 ·rfl
 ·rfl
 ·rw [elems_row,h3]
  show gd (Nat.ble base es.length && Nat.beq 1 1) (some (((onV es).drop 0).take xs.length)) = _
  rw [ble_dec,decide_eq_true h4,onV_sub,List.drop_zero,h6]
  rfl
theorem LW.view {ty : Nat} {xs : List I} {o : V} {H : Hp} {ok : Nat → Prop} (h : LW ty xs o H ok) (k : Nat) : ∃ z,Mx.view (k + 2) H o = some z ∧ IsSl z (on1 xs) ∧ oneV (.m z) = true:=by
 have he:=h.elems
 rcases h with ⟨rfl,rfl | rfl⟩ | ⟨r,es,base,lim,hr,rfl,h3,h4,h5,h6⟩
 ·exact ⟨_,rfl,isSl_nil,rfl⟩
 ·exact ⟨_,rfl,isSl_sl _,rfl⟩
 ·refine ⟨.sl (on1 xs),?_,isSl_sl _,rfl⟩
  show Option.bind (Mx.elems H (.sl r es.length 1 0 xs.length lim)) _ = _
  rw [he]
  show Option.bind (optMap (fun e=>optMap (Mx.view (k + 1) H) e) (onV xs)) _ = _
  rw [optV]
  rfl
theorem LW.bsf {ty n0 : Nat} {xs : List I} {o : V} {H : Hp} (h : LW ty xs o H (n0 ≤ ·)) : ∃ z H2,(∀ B,loudX (fun _ _ _=>none) ⟨B,H⟩ (.bsf 1 [.m (.nl 4)] 1 [0]) [o] = some (.ls [[z]],⟨B,H2⟩)) ∧ IsSl z (on1 xs) ∧ oneV (.m z) = true ∧ H2.length = H.length ∧ ∀ r,r < n0 → nth H2 r = nth H r:=by
 obtain ⟨z,hv,hz,hz1⟩:=h.view 18
 rcases h with ⟨rfl,rfl | rfl⟩ | ⟨r,es,base,lim,hr,rfl,h3,h4,h5,h6⟩
 ·cases hv
  exact ⟨_,H,fun B=>rfl,hz,rfl,rfl,fun _ _=>rfl⟩
 ·cases hv
  exact ⟨_,H,fun B=>rfl,hz,rfl,rfl,fun _ _=>rfl⟩
 ·refine ⟨z,H.set r (.cs ty 1 (onV es) base true),fun B=>?_,hz,hz1,by simp,fun q hq=>nl_set_ne fun e=>?_⟩
  ·have e : loudX (fun _ _ _=>none) ⟨B,H⟩ (.bsf 1 [.m (.nl 4)] 1 [0]) [.sl r es.length 1 0 xs.length lim] = ((optMap (fun e=>optMap (Mx.view 20 H) e) [[V.sl r es.length 1 0 xs.length lim]]).bind fun l=>(freeze [r] H).bind fun H'=>some (.ls l,⟨B,H'⟩)):=rfl
   rw [e,freezeV h3]
   simp only [optMap,hv,Option.bind_some]
  ·subst e
   have : n0 ≤ r:=hr
   omega
theorem LW.call {ty : Nat} {xs : List I} {o : V} {H : Hp} {ok : Nat → Prop} (h : LW ty xs o H ok) {F : Nat} {ys : List I} {v : V} {H0 : Hp} (hp : G.prim F = none) (hs : G.sh F = false) (hg : ∀ z,IsSl z (on1 xs) → Gives G F ((z :: ys).map .m) H0 v H0) (hf : flatV v = true) : Gives G F (o :: ys.map .m) H v H:=by
 obtain ⟨r1,r2,r3,r4,r5⟩:=refs_imm (vs:=ys.map .m) (is:=ys) (allM_imY ys)
 obtain ⟨z,hv,hz,_⟩:=h.view 18
 refine gives_view (is:=z :: ys) hp hs (hg z hz) ?_ ?_
 ·show (Mx.view 20 H o).bind _ = _
  rw [hv,Option.bind_some,r5 19 H]
  rfl
 ·rcases h with ⟨rfl,rfl | rfl⟩ | ⟨r,es,base,lim,hr,rfl,h3,h4⟩
  ·exact .inl ⟨by simp [refs,ref1],by simp [shallow,shallow1]⟩
  ·exact .inl ⟨by simp [refs,ref1],by simp [shallow,shallow1]⟩
  ·exact .inr ⟨by simp [refs,ref1],hf⟩
theorem immS_on1 (xs : List I) : immS (on1 xs) = onV xs:=by
 unfold immS on1 onV
 rw [List.map_map]
 rfl
end Go.Mx.Tryz
set_option linter.unusedSimpArgs false
set_option linter.unusedVariables false
set_option linter.unusedSectionVars false
namespace Go.Mx.Tryz
open Go.Lib

theorem decU_dig (u : Nat) : ∀ c,c ∈ decN u → 48 ≤ c ∧ c ≤ 57:=by
 refine indM (P:=fun u=>∀ c,c ∈ decN u → 48 ≤ c ∧ c ≤ 57) (fun u : Nat=>u) (fun u ih c hc=>?_) u
 by_cases h : u < 10
 ·rw [decN_one h] at hc
  simp at hc
  omega
 ·rw [decN_big h] at hc
  rcases List.mem_append.1 hc with h1 | h1
  ·exact ih (u / 10) (by omega) c h1
  ·simp at h1
   omega
def valU (s : List Nat) : Nat:=s.foldl (fun a c=>10 * a + (c - 48)) 0
theorem decU_val (u : Nat) : valU (decN u) = u:=by
 refine indM (P:=fun u=>valU (decN u) = u) (fun u : Nat=>u) (fun u ih=>?_) u
 by_cases h : u < 10
 ·rw [decN_one h]
  show 10 * 0 + (48 + u - 48) = u
  omega
 ·rw [decN_big h]
  have:=ih (u / 10) (by omega)
  unfold valU at this ⊢
  rw [List.foldl_append,this]
  show 10 * (u / 10) + (48 + u % 10 - 48) = u
  omega
theorem itoaU_inj {x y : Int} (h : itoaN x = itoaN y) : x = y:=by
 have hd : ∀ u v : Nat,1 ≤ v → decN u ≠ 45 :: decN v:=fun u v _ e=>by
  have:=decU_dig u 45 (by rw [e]; simp)
  omega
 by_cases hx : 0 ≤ x
 ·obtain ⟨u,rfl⟩:=Int.eq_ofNat_of_zero_le hx
  rw [itoaN_pos] at h
  by_cases hy : 0 ≤ y
  ·obtain ⟨v,rfl⟩:=Int.eq_ofNat_of_zero_le hy
   rw [itoaN_pos] at h
   rw [← decU_val u,h,decU_val]
  ·obtain ⟨v,hv⟩:=Int.eq_ofNat_of_zero_le (show 0 ≤ -y by omega)
   have : y = -(v : Int):=by omega
   subst this
   rw [itoaN_neg v (by omega)] at h
   exact absurd h (hd u v (by omega))
 ·obtain ⟨u,hu⟩:=Int.eq_ofNat_of_zero_le (show 0 ≤ -x by omega)
  have : x = -(u : Int):=by omega
  subst this
  rw [itoaN_neg u (by omega)] at h
  by_cases hy : 0 ≤ y
  ·obtain ⟨v,rfl⟩:=Int.eq_ofNat_of_zero_le hy
   rw [itoaN_pos] at h
   exact absurd h.symm (hd v u (by omega))
  ·obtain ⟨v,hv⟩:=Int.eq_ofNat_of_zero_le (show 0 ≤ -y by omega)
   have : y = -(v : Int):=by omega
   subst this
   rw [itoaN_neg v (by omega)] at h
   have h:=(List.cons.inj h).2
   rw [← decU_val u,h,decU_val]
theorem itoaU_32 (x : Int) : ∀ c,c ∈ itoaN x → c ≠ 32 ∧ c < 256:=fun c hc=>by
 by_cases h : 0 ≤ x
 ·obtain ⟨u,rfl⟩:=Int.eq_ofNat_of_zero_le h
  rw [itoaN_pos] at hc
  have:=decU_dig u c hc
  omega
 ·obtain ⟨u,hu⟩:=Int.eq_ofNat_of_zero_le (show 0 ≤ -x by omega)
  have : x = -(u : Int):=by omega
  subst this
  rw [itoaN_neg u (by omega)] at hc
  rcases List.mem_cons.1 hc with h | h
  ·omega
  ·have:=decU_dig u c h
   omega
def tailK (c : List Int) : List Nat:=c.flatMap fun k=>32 :: itoaN k
def keyN (x : Nd) : List Nat:=itoaN x.1 ++ tailK x.2
theorem word_inj : ∀ {a b s t : List Nat},(∀ c,c ∈ a → c ≠ 32) → (∀ c,c ∈ b → c ≠ 32) → s.take 1 ≠ [] ∧ s.take 1 = [32] ∨ s = [] → t.take 1 ≠ [] ∧ t.take 1 = [32] ∨ t = [] → a ++ s = b ++ t → a = b ∧ s = t
 | [],[],s,t,_,_,_,_,h=>⟨rfl,h⟩
 | x :: a,y :: b,s,t,ha,hb,hs,ht,h=>by
  simp only [List.cons_append,List.cons.injEq] at h
  obtain ⟨h1,h2⟩:=word_inj (fun c hc=>ha c (List.mem_cons_of_mem _ hc)) (fun c hc=>hb c (List.mem_cons_of_mem _ hc)) hs ht h.2
  exact ⟨by rw [h.1,h1],h2⟩
 | [],y :: b,s,t,_,hb,hs,_,h=>by
  have hy:=hb y (List.mem_cons_self ..)
  simp only [List.nil_append,List.cons_append] at h
  subst h
  rcases hs with ⟨_,h⟩ | h
  ·simp at h
   exact absurd h hy
  ·cases h
 | x :: a,[],s,t,ha,_,_,ht,h=>by
  have hx:=ha x (List.mem_cons_self ..)
  simp only [List.nil_append,List.cons_append] at h
  subst h
  rcases ht with ⟨_,h⟩ | h
  ·simp at h
   exact absurd h hx
  ·cases h
theorem tailK_hd (c : List Int) : (tailK c).take 1 ≠ [] ∧ (tailK c).take 1 = [32] ∨ tailK c = []:=by
 cases c with
 | nil=>exact .inr rfl
 | cons k r=>exact .inl ⟨by simp [tailK],by simp [tailK]⟩
theorem tailK_inj : ∀ {c d : List Int},tailK c = tailK d → c = d
 | [],[],_=>rfl
 | [],k :: r,h=>by simp [tailK] at h
 | k :: r,[],h=>by simp [tailK] at h
 | k :: r,j :: s,h=>by
  have h : itoaN k ++ tailK r = itoaN j ++ tailK s:=by
   have h : 32 :: (itoaN k ++ tailK r) = 32 :: (itoaN j ++ tailK s):=h
   exact (List.cons.inj h).2
  obtain ⟨h1,h2⟩:=word_inj (fun c hc=>(itoaU_32 _ c hc).1) (fun c hc=>(itoaU_32 _ c hc).1) (tailK_hd r) (tailK_hd s) h
  rw [itoaU_inj h1,tailK_inj h2]
theorem keyN_inj {x y : Nd} (h : keyN x = keyN y) : x = y:=by
 obtain ⟨h1,h2⟩:=word_inj (fun c hc=>(itoaU_32 _ c hc).1) (fun c hc=>(itoaU_32 _ c hc).1) (tailK_hd x.2) (tailK_hd y.2) h
 exact Prod.ext (itoaU_inj h1) (tailK_inj h2)
theorem tailK_256 (c : List Int) : ∀ y,y ∈ tailK c → y < 256:=fun y hy=>by
 obtain ⟨k,_,h⟩:=List.mem_flatMap.1 hy
 rcases List.mem_cons.1 h with h | h
 ·omega
 ·exact (itoaU_32 k y h).2
theorem keyN_256 (x : Nd) : ∀ y,y ∈ keyN x → y < 256:=fun y hy=>by
 rcases List.mem_append.1 hy with h | h
 ·exact (itoaU_32 x.1 y h).2
 ·exact tailK_256 x.2 y h
def knw : List Nd → Nat → List (List Nat × Int)
 | [],_=>[]
 | x :: r,i=>(keyN x,(i : Int)) :: knw r (i + 1)
theorem knw_find : ∀ (l : List Nd) (i : Nat) (x : Nd),mfind (knw l i) (keyN x) = ((l.idxOf? x).map fun k=>((i + k : Nat) : Int))
 | [],i,x=>rfl
 | y :: r,i,x=>by
  have e : mfind (knw (y :: r) i) (keyN x) = if keyN y = keyN x then some (i : Int) else mfind (knw r (i + 1)) (keyN x):=rfl
  rw [e,List.idxOf?_cons]
  by_cases h : y = x
  ·subst h
   rw [if_pos rfl,if_pos (by simp)]
   rfl
  ·rw [if_neg fun k=>h (keyN_inj k),if_neg (by simpa using h),knw_find r (i + 1) x]
   cases r.idxOf? x with
   | none=>rfl
   | some k =>
    show some _ = some _
    congr 1
    simp only
    omega
theorem knw_snoc : ∀ (l : List Nd) (i : Nat) (x : Nd),knw (l ++ [x]) i = knw l i ++ [(keyN x,((i + l.length : Nat) : Int))]
 | [],i,x=>rfl
 | y :: r,i,x=>by
  show (keyN y,(i : Int)) :: knw (r ++ [x]) (i + 1) = _
  rw [knw_snoc r (i + 1) x]
  simp only [List.length_cons,knw,List.cons_append]
  rw [show i + 1 + r.length = i + (r.length + 1) by omega]
theorem knw_set {l : List Nd} {x : Nd} (h : l.idxOf? x = none) : mset (knw l 0) (keyN x) ((l.length : Nat) : Int) = knw (l ++ [x]) 0:=by
 rw [knw_snoc,mset_new,Nat.zero_add]
 rw [← mfind_none,knw_find,h]
 rfl
def addN (l : List Nd) (x : Nd) : List Nd × Nat:=match l.idxOf? x with
 | some k=>(l,k)
 | none=>(l ++ [x],l.length)
theorem addN_len (l : List Nd) (x : Nd) : l.length ≤ (addN l x).1.length ∧ (addN l x).1.length ≤ l.length + 1:=by
 unfold addN
 split <;> simp
def L2 (es : List (List I)) (o : V) (H : Hp) : Prop:=(es = [] ∧ o = .m (.nl 4)) ∨ (es ≠ [] ∧ ∃ r,o = .sl r es.length 2 0 es.length false ∧ nth H r = some (.cs 52 2 (immS es) 0 false))
theorem immS_len (es : List (List I)) : (immS es).length = es.length:=by simp [immS]
theorem L2.nf {es : List (List I)} {o : V} {H : Hp} (h : L2 es o H) : noFaV o = true ∧ cellsV o = some [o] ∧ oneV o = true ∧ pureX (.len false) [o] = some (.m (.i .i64 (es.length : Nat))):=by
 rcases h with ⟨rfl,rfl⟩ | ⟨hne,r,rfl,h3⟩
 ·exact ⟨rfl,rfl,rfl,rfl⟩
 ·exact ⟨rfl,rfl,rfl,rfl⟩
theorem L2.keep {es : List (List I)} {o : V} {H H' : Hp} (h : L2 es o H) (hk : ∀ r,rowOf o = some r → r < H.length → nth H' r = nth H r) : L2 es o H':=by
 rcases h with h | ⟨hne,r,rfl,h3⟩
 ·exact .inl h
 ·exact .inr ⟨hne,r,rfl,by rw [hk r rfl (nl_lt h3)]; exact h3⟩
theorem L2.row_lt {es : List (List I)} {o : V} {H : Hp} (h : L2 es o H) {r : Nat} (e : rowOf o = some r) : r < H.length:=by
 rcases h with ⟨_,rfl⟩ | ⟨hne,q,rfl,h3⟩
 ·cases e
 ·cases e
  exact nl_lt h3
theorem L2.row {es : List (List I)} {o : V} {H : Hp} (h : L2 es o H) {r : Nat} (e : rowOf o = some r) : nth H r = some (.cs 52 2 (immS es) 0 false):=by
 rcases h with ⟨_,rfl⟩ | ⟨hne,q,rfl,h3⟩
 ·cases e
 ·cases e
  exact h3
theorem L2.push {es : List (List I)} {o : V} {H : Hp} (h : L2 es o H) {l : Int} {z : I} (hz : oneV (.m z) = true) (hl : es.length ≤ 100000000) : ∃ o1 H1,(∀ B,loudX (fun _ _ _=>none) ⟨B,H⟩ (.app 52 2 32) [o,.ls [[.i .i64 l,z]]] = some (o1,⟨B,H1⟩)) ∧ noFaV o1 = true ∧ L2 (es ++ [[.i .i64 l,z]]) o1 H1 ∧ Kp H o H1 o1:=by
 have hok : ((immS [[.i .i64 l,z]]).all fun e=>Nat.beq e.length 2 && e.all oneV) = true:=by
  have h1 : oneV (.m (.i .i64 l)) = true:=rfl
  simp [immS,hz,h1]
 rcases h with ⟨rfl,rfl⟩ | ⟨hne,r,rfl,h3⟩
 ·refine ⟨.sl H.length 1 2 0 1 false,H ++ [.cs 52 2 (immS [[.i .i64 l,z]]) 0 false],fun B=>(loud_elems rfl).trans ?_,rfl,.inr ⟨by simp,H.length,rfl,nl_end H _ 0⟩,by simp,fun r hr _=>nl_app _ _ _ hr,fun r hr=>.inr (by cases hr; exact Nat.le_refl _)⟩
  show newRow ⟨B,H⟩ 52 2 32 (immS [[.i .i64 l,z]]) = _
  rw [newRow_eq,hok]
  rfl
 ·have ha2:=fun B=>app_row (M:=⟨B,H⟩) (bytes:=32) (xs:=immS [[.i .i64 l,z]]) h3 (by simp [immS]) (by simp only [immS_len,List.length_singleton]; omega) hok
  have e2 : immS es ++ immS [[.i .i64 l,z]] = immS (es ++ [[.i .i64 l,z]]):=by simp [immS]
  simp only [immS_len,e2] at ha2
  have el : es.length + [[I.i .i64 l,z]].length = (es ++ [[.i .i64 l,z]]).length:=by simp
  rw [el] at ha2
  refine ⟨_,_,fun B=>(loud_elems rfl).trans (ha2 B),rfl,.inr ⟨by simp,r,rfl,nl_set_eq (nl_lt h3)⟩,by simp,fun q hq hne2=>nl_set_ne fun e=>?_,fun q hq=>.inl hq⟩
  subst e
  exact hne2 rfl
theorem L2.elems {es : List (List I)} {o : V} {H : Hp} (h : L2 es o H) : Mx.elems H o = some (immS es):=by
 rcases h with ⟨rfl,rfl⟩ | ⟨hne,r,rfl,h3⟩
 ·rfl
 ·rw [elems_row,h3]
  show gd (Nat.ble 0 es.length && Nat.beq 2 2) (some (((immS es).drop 0).take es.length)) = _
  rw [ble_dec,decide_eq_true (Nat.zero_le _),List.drop_zero,List.take_of_length_le (by rw [immS_len]; exact Nat.le_refl _)]
  rfl
theorem rd2 {es : List (List V)} {i : Nat} {a b : V} (h : nth es i = some [a,b]) : readR 2 es i 0 2 = some [a,b] ∧ readR 2 es i 0 1 = some [a] ∧ readR 2 es i 1 1 = some [b]:=by
 refine ⟨?_,?_,?_⟩ <;>
 ·show Option.bind (nth es (i + 0)) _ = _
  rw [Nat.add_zero,h]
  rfl
theorem L2.rd {es : List (List I)} {o : V} {H : Hp} (h : L2 es o H) {i : Nat} {x : Int} {z : I} (hx : es[i]? = some [.i .i64 x,z]) : ∃ p q,pureX (.ixa 2) [o,.m (.i .i64 (i : Int))] = some p ∧ noFaV p = true ∧ (∀ B,readX ⟨B,H⟩ (.ld true 2) [p] = some (.m (.ag [.i .i64 x,z]))) ∧ (∃ p0,pureX (.fad 0) [p] = some p0 ∧ noFaV p0 = true ∧ ∀ B,readX ⟨B,H⟩ (.ld false 1) [p0] = some (.m (.i .i64 x))) ∧ pureX (.fad 1) [p] = some q ∧ noFaV q = true ∧ ∀ B,readX ⟨B,H⟩ (.ld false 1) [q] = some (.m z):=by
 have hlt:=(List.getElem?_eq_some_iff.1 hx).1
 have hn : nth (immS es) i = some [.m (.i .i64 x),.m z]:=by
  rw [nth_get]
  simp [immS,hx]
 rcases h with ⟨rfl,rfl⟩ | ⟨hne,r,rfl,h3⟩
 ·simp at hlt
 ·refine ⟨.pt r es.length i 0,.pt r es.length i 1,?_,rfl,fun B=>?_,⟨.pt r es.length i 0,rfl,rfl,fun B=>?_⟩,rfl,rfl,fun B=>?_⟩
  ·simp (maxSteps:=2000000) (disch:=omega) [gd_in,gd_and,wr_i64,hlt,show (i : Int) < es.length from by omega]
  ·simp (maxSteps:=2000000) (disch:=omega) [gd_in,gd_and,wr_i64,rd2 hn,h3,allM]
  ·simp (maxSteps:=2000000) (disch:=omega) [gd_in,gd_and,wr_i64,rd2 hn,h3]
  ·simp (maxSteps:=2000000) (disch:=omega) [gd_in,gd_and,wr_i64,rd2 hn,h3]
end Go.Mx.Tryz
set_option linter.unusedSimpArgs false
set_option linter.unusedVariables false
set_option linter.unusedSectionVars false
namespace Go.Mx.Tryz
open Go.Lib

def IR (c : List Int) (o : V) (H : Hp) : Prop:=∃ r base lim,o = .sl r c.length 1 0 c.length lim ∧ nth H r = some (.cs 3 1 (onV (iI c)) base false) ∧ base ≤ c.length
theorem IR.toLW {c : List Int} {o : V} {H : Hp} (h : IR c o H) : LW 3 (iI c) o H Any1:=by
 obtain ⟨r,base,lim,rfl,h3,h4⟩:=h
 exact .inr ⟨r,iI c,base,lim,trivial,by rw [iI_len],h3,by rw [iI_len]; exact h4,Nat.le_refl _,List.take_length⟩
theorem IR.keep {c : List Int} {o : V} {H H' : Hp} (h : IR c o H) (hk : ∀ r,rowOf o = some r → r < H.length → nth H' r = nth H r) : IR c o H':=by
 obtain ⟨r,base,lim,rfl,h3,h4⟩:=h
 exact ⟨r,base,lim,rfl,by rw [hk r rfl (nl_lt h3)]; exact h3,h4⟩
theorem IR.bsf {c : List Int} {o : V} {H : Hp} (h : IR c o H) (l : Int) : ∃ z H2,(∀ B,loudX (fun _ _ _=>none) ⟨B,H⟩ (.bsf 2 [.m (.i .i64 0),.m (.nl 4)] 1 [0]) [.ag [.m (.i .i64 l),o]] = some (.ls [[.i .i64 l,z]],⟨B,H2⟩)) ∧ IsSl z (celI c) ∧ oneV (.m z) = true ∧ H2.length = H.length ∧ ∀ r,rowOf o ≠ some r → nth H2 r = nth H r:=by
 obtain ⟨z,hv,hz,hz1⟩:=h.toLW.view 18
 obtain ⟨r,base,lim,rfl,h3,h4⟩:=h
 rw [on1_iI] at hz
 refine ⟨z,H.set r (.cs 3 1 (onV (iI c)) base true),fun B=>?_,hz,hz1,by simp,fun q hq=>nl_set_ne fun e=>hq (by rw [e]; rfl)⟩
 have e : loudX (fun _ _ _=>none) ⟨B,H⟩ (.bsf 2 [.m (.i .i64 0),.m (.nl 4)] 1 [0]) [.ag [.m (.i .i64 l),.sl r c.length 1 0 c.length lim]] = ((optMap (fun e=>optMap (Mx.view 20 H) e) [[V.m (.i .i64 l),V.sl r c.length 1 0 c.length lim]]).bind fun l=>(freeze [r] H).bind fun H'=>some (.ls l,⟨B,H'⟩)):=rfl
 have hv0 : Mx.view 20 H (.m (.i .i64 l)) = some (.i .i64 l):=rfl
 rw [e,freezeV h3]
 simp only [optMap,hv,hv0,Option.bind_some]
theorem IR.mk {c : List Int} {o : V} {H : Hp} (h : IR c o H) (l : Int) : mkAg [.m (.i .i64 l),o] = .ag [.m (.i .i64 l),o]:=by
 obtain ⟨r,base,lim,rfl,h3,h4⟩:=h
 rfl
theorem IR.nf {c : List Int} {o : V} {H : Hp} (h : IR c o H) : noFaV o = true ∧ cellsV o = some [o] ∧ pureX (.len false) [o] = some (.m (.i .i64 (c.length : Nat))):=by
 obtain ⟨r,base,lim,rfl,h3,h4⟩:=h
 exact ⟨rfl,rfl,rfl⟩
theorem IR.row_lt {c : List Int} {o : V} {H : Hp} (h : IR c o H) {r : Nat} (e : rowOf o = some r) : r < H.length:=by
 obtain ⟨q,base,lim,rfl,h3,h4⟩:=h
 cases e
 exact nl_lt h3
theorem IR.row {c : List Int} {o : V} {H : Hp} (h : IR c o H) {r : Nat} (e : rowOf o = some r) : ∃ base,nth H r = some (.cs 3 1 (onV (iI c)) base false):=by
 obtain ⟨q,base,lim,rfl,h3,h4⟩:=h
 cases e
 exact ⟨base,h3⟩
def NdsV (es : List (List I)) : Prop:=∀ e,e ∈ es → ∃ (x : Int) (z : I),e = [.i .i64 x,z] ∧ IsSl z (celI (dIn z))
structure BldQ (rb rm : Nat) (es : List (List I)) (o : V) (H : Hp) : Prop where
 hb : ∃ base,base ≤ 1 ∧ nth H rb = some (.cs 140 2 [[o,.mp rm]] base false)
 hm : nth H rm = some (mpR ekS evI (knw (es.map dNd) 0))
 hn : L2 es o H
 ok : NdsV es
def KpB (rb rm : Nat) (o : V) (H : Hp) (o' : V) (H' : Hp) (nx : V) : Prop:=H.length ≤ H'.length ∧ (∀ r,r < H.length → r ≠ rb → r ≠ rm → rowOf o ≠ some r → rowOf nx ≠ some r → nth H' r = nth H r) ∧ ∀ r,rowOf o' = some r → rowOf o = some r ∨ H.length ≤ r
theorem BldQ.keep {rb rm : Nat} {es : List (List I)} {o : V} {H H' : Hp} (h : BldQ rb rm es o H) (hk : ∀ r,r < H.length → nth H' r = nth H r) : BldQ rb rm es o H':=by
 obtain ⟨⟨b,hb0,hb⟩,hm,hn,ok⟩:=h
 exact ⟨⟨b,hb0,by rw [hk _ (nl_lt hb)]; exact hb⟩,by rw [hk _ (nl_lt hm)]; exact hm,hn.keep fun r _ hr=>hk r hr,ok⟩
theorem tailK_len : ∀ (c : List Int),(∀ k,k ∈ c → -1000000000 ≤ k ∧ k ≤ 1000000000) → (tailK c).length ≤ 22 * c.length
 | [],_=>by simp [tailK]
 | k :: r,h=>by
  have h1:=h k (List.mem_cons_self ..)
  have h2:=tailK_len r fun x hx=>h x (List.mem_cons_of_mem _ hx)
  have h3:=itoaN_len k (by omega) (by omega)
  have e : tailK (k :: r) = (32 :: itoaN k) ++ tailK r:=rfl
  rw [e,List.length_append,List.length_cons,List.length_cons]
  omega
theorem tailK_take {c : List Int} {i : Nat} {k : Int} (h : c[i]? = some k) : tailK (c.take (i + 1)) = tailK (c.take i) ++ (32 :: itoaN k):=by
 have : c.take (i + 1) = c.take i ++ [k]:=by rw [List.take_add_one,h]; rfl
 rw [this]
 unfold tailK
 rw [List.flatMap_append]
 simp
theorem rdR_0 (a b : V) : readR 2 [[a,b]] 0 0 1 = some [a]:=rfl
theorem rdR_1 (a b : V) : readR 2 [[a,b]] 0 1 1 = some [b]:=rfl
theorem dNd_i {x : Int} {z : I} {c : List Int} (h : IsSl z (celI c)) : dNd [.i .i64 x,z] = (x,c):=by
 have : dIn z = c:=by
  rcases h with rfl | ⟨rfl,h0⟩
  ·show (celI c).map dEn = c
   unfold celI
   rw [List.map_map]
   exact List.map_id'' (fun _=>rfl) c
  ·have : c = []:=by simpa [celI] using h0
   subst this
   rfl
 show (x,dIn z) = _
 rw [this]
set_option maxHeartbeats 4000000 in
theorem node_s {rb rm : Nat} {es : List (List I)} {o : V} {H : Hp} (hB : BldQ rb rm es o H) {l : Int} {c : List Int} {nx : V} (hx : IR c nx H) (hl : -1000000000 ≤ l ∧ l ≤ 1000000000) (hc : ∀ k,k ∈ c → -1000000000 ≤ k ∧ k ≤ 1000000000) (hcl : c.length ≤ 100) (hel : es.length ≤ 100000000)
  (Q : V → Hp → Prop) (hQ : ∀ es' o' H',BldQ rb rm es' o' H' → es'.map dNd = (addN (es.map dNd) (l,c)).1 → KpB rb rm o H o' H' nx → Q (.m (.i .i64 ((addN (es.map dNd) (l,c)).2 : Nat))) H') :
  Ret G 105 [.pt rb 1 0 0,.m (.i .i64 l),nx] H Q:=by
 have hxn:=hx.nf
 refine ret_sh mono rfl rfl rfl (by simp [hxn.1]) rfl ?_
 obtain ⟨o0,H0,g0,n0,l0,k0⟩:=appIl (H:=H) (s:=[]) (o:=.m (.nl 4)) .nil (by simp) l (by omega) (by omega)
 rw [List.nil_append] at l0
 simp (maxSteps:=2000000) (disch:=omega) [gd_in,gd_and,wr_i64,cl g0,setC_v n0,setC_v hxn.1,hxn.2.2]
 refine (?key : ∀ (i : Nat) (oi : V) (B : List (Nat × List V)) (Hi : Hp),i ≤ c.length → LR 5 (bI (itoaN l ++ tailK (c.take i))) oi Hi Any1 → Kp H (.m (.nl 4)) Hi oi →
  Run G c105_B0 (S105_0 (.pt rb 1 0 0) (.m (.i .i64 l)) nx oi nx (.m (.i .i64 (c.length : Int))) (.m (.i .i64 (i : Int))) B Hi) _) 0 o0 [] H0 (Nat.zero_le _) (by simpa [tailK] using l0) k0
 clear g0 n0 l0 k0 o0 H0
 refine indM (fun i : Nat=>c.length - i) fun i ih oi B Hi hi li ki=>?_
 unfold c105_B0
 have hxi : IR c nx Hi:=hx.keep fun r _ hr=>ki.2.1 r hr (by simp [rowOf])
 have hil:=itoaN_len l (by omega) (by omega)
 have htl:=tailK_len (c.take i) fun k hk=>hc k (List.mem_of_mem_take hk)
 have htk : (c.take i).length ≤ c.length:=by rw [List.length_take]; omega
 have hoi:=li.nf
 cases hk : c[i]? with
 | some k =>
  have hlt : i < c.length:=(List.getElem?_eq_some_iff.1 hk).1
  have hlt' : (i : Int) < c.length:=by omega
  have hkb:=hc k (List.mem_of_getElem? hk)
  obtain ⟨p,p1,p2,p3⟩:=hxi.toLW.rd (iI_get hk)
  obtain ⟨o1,H1,ha,n1,l1,k1⟩:=li.pushN (b:=1) (by omega) (ys:=bI [32]) (by simp only [bI_len,List.length_append,List.length_singleton]; omega) (noAg_bI _)
  rw [bI_app] at l1
  obtain ⟨o2,H2,g2,n2,l2,k2⟩:=appIl l1 (by simp only [List.length_append,List.length_singleton]; omega) k (by omega) (by omega)
  have e2 : itoaN l ++ tailK (c.take i) ++ [32] ++ itoaN k = itoaN l ++ tailK (c.take (i + 1)):=by rw [tailK_take hk]; simp
  rw [e2] at l2
  have kk:=fun B=>ih (i + 1) (by omega) o2 B H2 (by omega) l2 ((ki.trans k1).trans k2)
  have hb : onV (bI [32]) = [[V.m (.i .u8 32)]]:=rfl
  rw [hb] at ha
  have wi : wr .i64 ((i : Int) + 1) = ((i + 1 : Nat) : Int):=wr_i64 (by omega) (by omega)
  simp (maxSteps:=2000000) (disch:=omega) [gd_in,gd_and,wr_i64,hlt',p1,p2,p3,ha,cl g2,setC_v n2,setC_v hoi.1,setC_v n1,wi]
  exact kk _
 | none =>
  have : i = c.length:=by have:=List.getElem?_eq_none_iff.1 hk; omega
  subst this
  have hlt' : ¬ (c.length : Int) < c.length:=by omega
  rw [List.take_length] at li
  have ek : itoaN l ++ tailK c = keyN (l,c):=rfl
  rw [ek] at li
  have hB2 : BldQ rb rm es o Hi:=hB.keep fun r hr=>ki.2.1 r hr (by simp [rowOf])
  have hb2 : ∀ (H : Hp) B,LR 5 (bI (keyN (l,c))) oi H Any1 → readX ⟨B,H⟩ .b2s [oi] = some (.m (.s (keyN (l,c)))):=fun H B li=>by rw [rx_b2s,li.elems]; simp only [Option.bind_some]; rw [bytes_bI _ (keyN_256 _)]; rfl
  have hb3:=fun B=>hb2 Hi B li
  obtain ⟨⟨b,hb0,hb⟩,hm,hn,hok⟩:=id hB2
  have hfind:=knw_find (es.map dNd) 0 (l,c)
  cases hf : (es.map dNd).idxOf? (l,c) with
  | some k =>
   have ha : addN (es.map dNd) (l,c) = (es.map dNd,k):=by unfold addN; rw [hf]
   rw [hf] at hfind
   simp only [Option.map_some,Nat.zero_add] at hfind
   have kk:=hQ es o Hi hB2 (by rw [ha]) ⟨ki.1,fun r hr _ _ _ _=>ki.2.1 r hr (by simp [rowOf]),fun r hr=>.inl hr⟩
   rw [ha] at kk
   simp (maxSteps:=2000000) (disch:=omega) [gd_in,gd_and,wr_i64,hlt',hb,hb0,hm,rdR_1,hb3,hfind,setC_v hoi.1]
   exact kk
  | none =>
   have ha : addN (es.map dNd) (l,c) = (es.map dNd ++ [(l,c)],es.length):=by unfold addN; rw [hf]; simp
   rw [hf] at hfind
   simp only [Option.map_none] at hfind
   have hon:=hn.nf
   have d1 : ∀ r,rowOf nx = some r → rowOf o = some r → False:=fun r e1 e2=>by
    obtain ⟨_,q1⟩:=hxi.row e1
    have q2:=hn.row e2
    rw [q1] at q2
    simp at q2
   have d2 : rowOf nx ≠ some rb:=fun e1=>by
    obtain ⟨_,q1⟩:=hxi.row e1
    rw [q1] at hb
    simp at hb
   have d3 : rowOf nx ≠ some rm:=fun e1=>by
    obtain ⟨_,q1⟩:=hxi.row e1
    rw [q1] at hm
    simp [mpR] at hm
   have d4 : rowOf o ≠ some rb:=fun e1=>by
    have q2:=hn.row e1
    rw [q2] at hb
    simp at hb
   have d5 : rowOf o ≠ some rm:=fun e1=>by
    have q2:=hn.row e1
    rw [q2] at hm
    simp [mpR] at hm
   have d6 : rb ≠ rm:=fun e1=>by
    subst e1
    rw [hb] at hm
    simp [mpR] at hm
   have d7 : ∀ r,rowOf oi = some r → rowOf nx ≠ some r ∧ rowOf o ≠ some r ∧ r ≠ rb ∧ r ≠ rm:=fun r e1=>by
    have q:=li.row e1
    refine ⟨fun e2=>?_,fun e2=>?_,fun e2=>?_,fun e2=>?_⟩
    ·obtain ⟨_,q1⟩:=hxi.row e2
     rw [q1] at q
     simp at q
    ·have q2:=hn.row e2
     rw [q2] at q
     simp at q
    ·subst e2
     rw [hb] at q
     simp at q
    ·subst e2
     rw [hm] at q
     simp [mpR] at q
   obtain ⟨z,H2,f1,f2,f3,f4,f5⟩:=hxi.bsf l
   have hn2 : L2 es o H2:=hn.keep fun r hr _=>f5 r fun e=>d1 r e hr
   obtain ⟨o1,H3,g1,g2,g3,g4⟩:=hn2.push (l:=l) f3 hel
   have hb4 : nth H3 rb = some (.cs 140 2 [[o,.mp rm]] b false):=by
    rw [g4.2.1 rb (by rw [f4]; exact nl_lt hb) d4,f5 rb d2]
    exact hb
   have hm4 : nth H3 rm = some (mpR ekS evI (knw (es.map dNd) 0)):=by
    rw [g4.2.1 rm (by rw [f4]; exact nl_lt hm) d5,f5 rm d3]
    exact hm
   have l4 : LR 5 (bI (keyN (l,c))) oi H3 Any1:=li.keepR fun r hr hlt=>by
    obtain ⟨q1,q2,_,_⟩:=d7 r hr
    rw [g4.2.1 r (by rw [f4]; exact hlt) q2,f5 r q1]
   generalize hH4 : H3.set rb (.cs 140 2 [[o1,.mp rm]] 1 false) = H4
   have hb5 : nth H4 rb = some (.cs 140 2 [[o1,.mp rm]] 1 false):=by rw [← hH4]; exact nl_set_eq (nl_lt hb4)
   have hm5 : nth H4 rm = some (mpR ekS evI (knw (es.map dNd) 0)):=by rw [← hH4,nl_set_ne d6]; exact hm4
   have l5 : LR 5 (bI (keyN (l,c))) oi H4 Any1:=l4.keepR fun r hr _=>by
    obtain ⟨_,_,q3,_⟩:=d7 r hr
    rw [← hH4,nl_set_ne (Ne.symm q3)]
   have hb6:=fun B=>hb2 H4 B l5
   have l4len : H4.length = H3.length:=by rw [← hH4]; simp
   have hset4 : setEl H3 rb (.cs 140 2 [[o1,.mp rm]] 1 false) = some H4:=by rw [setEl_put _ _ _ (nl_lt hb4),hH4]
   have hset5 : setEl H4 rm (mpR ekS evI (mset (knw (es.map dNd) 0) (keyN (l,c)) ((es.length : Nat) : Int))) = some (H4.set rm (mpR ekS evI (mset (knw (es.map dNd) 0) (keyN (l,c)) ((es.length : Nat) : Int)))):=setEl_put _ _ _ (nl_lt hm5)
   have hwr : writeR 2 [[o,.mp rm]] 0 0 [o1] = some [[o1,.mp rm]]:=rfl
   have g3n:=g3.nf
   have e1 : (es ++ [[I.i .i64 l,z]]).length = es.length + 1:=by simp
   rw [e1] at g3n
   have wl : wr .i64 (((es.length + 1 : Nat) : Int) - 1) = ((es.length : Nat) : Int):=by rw [wr_i64 (by omega) (by omega)]; omega
   have hd5 : ∀ r,rowOf o1 = some r → r ≠ rb ∧ r ≠ rm:=fun r e=>by
    have q:=g3.row e
    refine ⟨fun e2=>?_,fun e2=>?_⟩
    ·subst e2
     rw [hb4] at q
     simp at q
    ·subst e2
     rw [hm4] at q
     simp [mpR] at q
   have kk:=hQ (es ++ [[.i .i64 l,z]]) o1 (H4.set rm (mpR ekS evI (mset (knw (es.map dNd) 0) (keyN (l,c)) ((es.length : Nat) : Int)))) ⟨⟨1,Nat.le_refl _,by rw [nl_set_ne (Ne.symm d6)]; exact hb5⟩,by
     rw [nl_set_eq (nl_lt hm5),List.map_append]
     have:=knw_set hf
     rw [List.length_map] at this
     rw [this]
     simp [dNd_i f2],g3.keep fun r hr _=>by
     obtain ⟨q1,q2⟩:=hd5 r hr
     rw [nl_set_ne (Ne.symm q2),← hH4,nl_set_ne (Ne.symm q1)],fun e he=>by
     rcases List.mem_append.1 he with h | h
     ·exact hok e h
     ·rw [List.mem_singleton] at h
      subst h
      refine ⟨l,z,rfl,?_⟩
      have:=dNd_i (x:=l) f2
      have : dIn z = c:=(Prod.mk.inj this).2
      rw [this]
      exact f2⟩ (by rw [ha,List.map_append]; simp [dNd_i f2]) ⟨by rw [List.length_set,l4len]; have:=g4.1; have:=ki.1; omega,fun r hr n1 n2 n3 n4=>by
     rw [nl_set_ne (Ne.symm n2),← hH4,nl_set_ne (Ne.symm n1),g4.2.1 r (by rw [f4]; have:=ki.1; omega) n3,f5 r n4]
     exact ki.2.1 r hr (by simp [rowOf]),fun r hr=>(g4.2.2 r hr).imp_right fun h=>by rw [f4] at h; have:=ki.1; omega⟩
   rw [ha] at kk
   have hb7 : nth (H4.set rm (mpR ekS evI (mset (knw (es.map dNd) 0) (keyN (l,c)) ((es.length : Nat) : Int)))) rb = some (.cs 140 2 [[o1,.mp rm]] 1 false):=by rw [nl_set_ne (Ne.symm d6)]; exact hb5
   clear hB2 hQ ih d1 d2 d3 d4 d5 d6 d7 hd5
   obtain ⟨rx,bx,limx,rfl,hrx,hbx⟩:=id hxi
   simp (maxSteps:=2000000) (disch:=omega) [gd_in,gd_and,wr_i64,hlt',hb,hb0,hm,rdR_0,rdR_1,hb3,hfind,setC_v hoi.1,setC_v hon.1,allM,f1,g1,hb4,hset4,hwr,g2,g3n.2.1,g3n.2.2.1,hb5,hm5,hb6,hset5,wl,setC_v g2,g3n.2.2.2,hb7]
   exact kk
end Go.Mx.Tryz
