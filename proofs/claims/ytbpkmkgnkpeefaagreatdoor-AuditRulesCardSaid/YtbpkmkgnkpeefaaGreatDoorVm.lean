/- The law AuditRules. -/
import Derived.Test.YtbpkmkgnkpeefaaGreatDoorVk
import Derived.Test.YtbpkmkgnkpeefaaGreatDoorVf
import Derived.Test.YtbpkmkgnkpeefaaGreatDoorUc
import Derived.Test.YtbpkmkgnkpeefaaGreatDoorUs
import Derived.Test.YtbpkmkgnkpeefaaGreatDoorSeat
set_option linter.unusedSimpArgs false
set_option linter.unusedVariables false
set_option linter.unusedSectionVars false
set_option maxRecDepth 100000
namespace Go.Mx.Tryz
open Go.Lib Go.Proofs

theorem any_allIx (f : Nat → Nd → Bool) (hf : ∀ i j x,f i x = f j x) : ∀ (es : List (List I)) (i : Nat),(es.any fun e=>!(f 0 (dNd e))) = !(allIx f i (es.map dNd))
 | [],_=>rfl
 | e :: r,i=>by
  have ih:=any_allIx f hf r (i + 1)
  rw [List.any_cons,ih,List.map_cons]
  simp only [allIx]
  rw [hf 0 i]
  cases f i (dNd e) <;> cases allIx f (i + 1) (r.map dNd) <;> rfl
theorem allIx_get {f : Nat → Nd → Bool} : ∀ {l : List Nd} {i : Nat},allIx f i l = true → ∀ (j : Nat) (x : Nd),l[j]? = some x → f (i + j) x = true
 | [],_,_,j,x,h=>by simp at h
 | y :: r,i,h,j,x,hx=>by
  have h : (f i y && allIx f (i + 1) r) = true:=h
  rw [Bool.and_eq_true] at h
  cases j with
  | zero =>
   simp at hx
   subst hx
   exact h.1
  | succ j =>
   have:=allIx_get h.2 j x (by simpa using hx)
   rwa [show i + 1 + j = i + (j + 1) by omega] at this
theorem numU_of {t : TreeC} {k : Int} (h : rule7 t = k) (hk : k ≠ 0) : numU t = k:=by
 unfold numU
 rw [if_pos (by rw [h]; exact hk),h]
set_option maxHeartbeats 1000000 in
theorem rule_s {t : TreeC} {h n : I} {es : List (List I)} (hT : TreeV t h n es) (HH : Hp) : Gives G 11 [.m (.ag [.i .i64 t.states,h,n])] HH (.m (.i .i64 (numU t))) HH:=by
 have hrh:=hT.hd.rules
 simp only [cells2_len] at hrh
 have hrn:=hT.nd.rules
 have hln:=treeV_len hT
 have gh:=fun H=>hood_s hT.hd (by have:=hT.hl; omega) H
 have hl1:=hT.hl
 have hl2:=hT.nl
 have r0 : ∀ a b c : V,readR 3 [[a,b,c]] 0 0 1 = some [a]:=fun _ _ _=>rfl
 have r1 : ∀ a b c : V,readR 3 [[a,b,c]] 0 1 1 = some [b]:=fun _ _ _=>rfl
 have r2 : ∀ a b c : V,readR 3 [[a,b,c]] 0 2 1 = some [c]:=fun _ _ _=>rfl
 have r3 : ∀ a b c : V,readR 3 [[a,b,c]] 0 0 3 = some [a,b,c]:=fun _ _ _=>rfl
 have vof : ∀ a : V,valOf false [a] = some a:=fun _=>rfl
 refine gives_pur rfl rfl rfl rfl rfl ?_
 by_cases s2 : t.states < 2
 ·have : numU t = 1:=by unfold numU rule7; rw [if_pos (by omega : ¬ (2 ≤ t.states ∧ t.states ≤ 8))]; rfl
  simp (maxSteps:=2000000) (disch:=omega) [gd_in,gd_and,wr_i64,isSl_1 hT.hd,isSl_1 hT.nd,r0,r1,r2,r3,vof,allM,s2,this]
 by_cases s8 : 8 < t.states
 ·have : numU t = 1:=by unfold numU rule7; rw [if_pos (by omega : ¬ (2 ≤ t.states ∧ t.states ≤ 8))]; rfl
  simp (maxSteps:=2000000) (disch:=omega) [gd_in,gd_and,wr_i64,isSl_1 hT.hd,isSl_1 hT.nd,r0,r1,r2,r3,vof,allM,s2,s8,this]
 have h2' : ¬ ¬ (2 ≤ t.states ∧ t.states ≤ 8):=by omega
 cases hh : hoodOk t.hood with
 | false =>
  have : numU t = 2:=by unfold numU rule7; rw [if_neg h2',hh]; rfl
  rw [hh] at gh
  simp (maxSteps:=2000000) (disch:=omega) [gd_in,gd_and,wr_i64,isSl_1 hT.hd,isSl_1 hT.nd,r0,r1,r2,r3,vof,allM,hrh,hrn,s2,s8,cl (gh _),this]
 | true =>
  rw [hh] at gh
  have hh' : ¬ hoodOk t.hood = false:=by rw [hh]; simp
  by_cases n1 : (es.length : Int) < 1
  ·have : numU t = 3:=numU_of (by unfold rule7; rw [if_neg h2',if_neg hh',if_pos (by rw [hln]; omega : ¬ (1 ≤ t.nodes.length ∧ t.nodes.length ≤ 4096))]) (by omega)
   simp (maxSteps:=2000000) (disch:=omega) [gd_in,gd_and,wr_i64,isSl_1 hT.hd,isSl_1 hT.nd,r0,r1,r2,r3,vof,allM,hrh,hrn,s2,s8,cl (gh _),n1,this]
  by_cases n2 : (4096 : Int) < es.length
  ·have : numU t = 3:=numU_of (by unfold rule7; rw [if_neg h2',if_neg hh',if_pos (by rw [hln]; omega : ¬ (1 ≤ t.nodes.length ∧ t.nodes.length ≤ 4096))]) (by omega)
   simp (maxSteps:=2000000) (disch:=omega) [gd_in,gd_and,wr_i64,isSl_1 hT.hd,isSl_1 hT.nd,r0,r1,r2,r3,vof,allM,hrh,hrn,s2,s8,cl (gh _),n1,n2,this]
  have h3' : ¬ ¬ (1 ≤ t.nodes.length ∧ t.nodes.length ≤ 4096):=by rw [hln]; omega
  have hes:=ndsV_of hT.ok
  have hw : optMap (view 20 [Row.cs 31 3 [[.m (.i .i64 t.states),.m h,.m n]] 0 false]) [.m n,.fn 31 [.pt 0 1 0 0]] = some [n,.fn 31 [.pt [.i .i64 t.states,h,n]]]:=rfl
  have hw2 : optMap (view 20 [Row.cs 31 3 [[.m (.i .i64 t.states),.m h,.m n]] 0 false]) [.m n,.fn 32 [.pt 0 1 0 0]] = some [n,.fn 32 [.pt [.i .i64 t.states,h,n]]]:=rfl
  have g1:=gives_view (vs:=[.m n,.fn 31 [.pt 0 1 0 0]]) (H:=[Row.cs 31 3 [[.m (.i .i64 t.states),.m h,.m n]] 0 false]) rfl rfl (contains_n hT.nd (by omega) hes (fun e=>!(levOk t 0 (dNd e))) (F:=31) (cap:=[.pt [.i .i64 t.states,h,n]]) (fun e he H=>by
   obtain ⟨x,z,rfl,hz⟩:=hes e he
   rw [dNd_i hz]
   exact rule1_s hT.hd (isSl_1 hT.nd) hz H) []) hw (.inr ⟨by simp [refs,ref1],rfl⟩)
  have g2:=gives_view (vs:=[.m n,.fn 32 [.pt 0 1 0 0]]) (H:=[Row.cs 31 3 [[.m (.i .i64 t.states),.m h,.m n]] 0 false]) rfl rfl (contains_n hT.nd (by omega) hes (fun e=>!(lenOk t 0 (dNd e))) (F:=32) (cap:=[.pt [.i .i64 t.states,h,n]]) (fun e he H=>by
   obtain ⟨x,z,rfl,hz⟩:=hes e he
   rw [dNd_i hz]
   exact rule2_s hz H) []) hw2 (.inr ⟨by simp [refs,ref1],rfl⟩)
  rw [any_allIx (levOk t) (fun _ _ _=>rfl) es 0,← hT.eq] at g1
  rw [any_allIx (lenOk t) (fun _ _ _=>rfl) es 0,← hT.eq] at g2
  cases hL : allIx (levOk t) 0 t.nodes with
  | false =>
   have : numU t = 4:=numU_of (by unfold rule7; rw [if_neg h2',if_neg hh',if_neg h3',if_pos hL]) (by omega)
   rw [hL] at g1
   simp (maxSteps:=2000000) (disch:=omega) [gd_in,gd_and,wr_i64,isSl_1 hT.hd,isSl_1 hT.nd,r0,r1,r2,r3,vof,allM,hrh,hrn,s2,s8,cl (gh _),n1,n2,cl g1,this]
  | true =>
   rw [hL] at g1
   have hL' : ¬ allIx (levOk t) 0 t.nodes = false:=by rw [hL]; simp
   cases hN : allIx (lenOk t) 0 t.nodes with
   | false =>
    have : numU t = 5:=numU_of (by unfold rule7; rw [if_neg h2',if_neg hh',if_neg h3',if_neg hL',if_pos hN]) (by omega)
    rw [hN] at g2
    simp (maxSteps:=2000000) (disch:=omega) [gd_in,gd_and,wr_i64,isSl_1 hT.hd,isSl_1 hT.nd,r0,r1,r2,r3,vof,allM,hrh,hrn,s2,s8,cl (gh _),n1,n2,cl g1,cl g2,this]
   | true =>
    rw [hN] at g2
    have hN' : ¬ allIx (lenOk t) 0 t.nodes = false:=by rw [hN]; simp
    have hlv : ∀ (i : Nat) (x : Nd),t.nodes[i]? = some x → x.1 ≤ t.hood.length:=fun i x hx=>by
     have:=allIx_get hL i x hx
     exact (of_decide_eq_true this).2
    have hS : ∀ x,x ∈ t.nodes → (x.2.length : Int) = t.states:=fun x hx=>by
     obtain ⟨i,hi⟩:=List.mem_iff_getElem?.1 hx
     exact of_decide_eq_true (allIx_get hN i x hi)
    have g3:=fun H=>indices_s hT hlv (by omega) H
    cases hX : allIx (kidOk t) 0 t.nodes with
    | false =>
     have : numU t = 6:=numU_of (by unfold rule7; rw [if_neg h2',if_neg hh',if_neg h3',if_neg hL',if_neg hN',if_pos hX]) (by omega)
     rw [hX] at g3
     simp (maxSteps:=2000000) (disch:=omega) [gd_in,gd_and,wr_i64,isSl_1 hT.hd,isSl_1 hT.nd,r0,r1,r2,r3,vof,allM,hrh,hrn,s2,s8,cl (gh _),n1,n2,cl g1,cl g2,cl (g3 _),this]
    | true =>
     rw [hX] at g3
     have hX' : ¬ allIx (kidOk t) 0 t.nodes = false:=by rw [hX]; simp
     have hlt1 : es.length - 1 < t.nodes.length:=by omega
     obtain ⟨z0,hz0,_⟩:=treeV_at hT (List.getElem?_eq_getElem hlt1)
     have hle1 : es.length - 1 < es.length:=by omega
     have hle2 : ((es.length - 1 : Nat) : Int) < es.length:=by omega
     have w1 : wr .i64 ((es.length : Int) - 1) = ((es.length - 1 : Nat) : Int):=by rw [wr_i64 (by omega) (by omega)]; omega
     have hlev:=levAt_at (List.getElem?_eq_getElem hlt1)
     have eroot : levAt t.nodes (t.nodes.length - 1) = t.nodes[es.length - 1].1:=by
      rw [← hlev,hln]
      congr 1
      omega
     by_cases hroot : t.nodes[es.length - 1].1 = t.hood.length
     rotate_left
     ·have : numU t = 7:=numU_of (by unfold rule7; rw [if_neg h2',if_neg hh',if_neg h3',if_neg hL',if_neg hN',if_neg hX',if_pos (by rw [eroot]; exact hroot)]) (by omega)
      simp (maxSteps:=2000000) (disch:=omega) [gd_in,gd_and,wr_i64,isSl_1 hT.hd,isSl_1 hT.nd,r0,r1,r2,r3,vof,allM,hrh,hrn,s2,s8,cl (gh _),n1,n2,cl g1,cl g2,cl (g3 _),w1,hle1,hle2,hz0,hroot,this]
     have h70 : rule7 t = 0:=by unfold rule7; rw [if_neg h2',if_neg hh',if_neg h3',if_neg hL',if_neg hN',if_neg hX',if_neg (by rw [eroot]; exact fun h=>h hroot)]
     have hok:=(rule7_0 t).1 h70
     have hU : numU t = if dupU t.nodes = true then 8 else if needU t.nodes = false then 9 else if outR t.nodes = t.nodes then 0 else 10:=by unfold numU; rw [if_neg (fun h=>h h70)]
     have g4:=fun H=>twice_s hT (by omega) hS (by omega) H
     cases hD : dupU t.nodes with
     | true =>
      rw [hD] at g4
      have : numU t = 8:=by rw [hU,if_pos hD]
      simp (maxSteps:=2000000) (disch:=omega) [gd_in,gd_and,wr_i64,isSl_1 hT.hd,isSl_1 hT.nd,r0,r1,r2,r3,vof,allM,hrh,hrn,s2,s8,cl (gh _),n1,n2,cl g1,cl g2,cl (g3 _),w1,hle1,hle2,hz0,hroot,cl (g4 _),this]
     | false =>
      rw [hD] at g4
      rw [if_neg (by rw [hD]; simp)] at hU
      have hKO:=kidsOk_of (okR_of hok)
      have g5:=fun H=>needed_s hT (by omega) (by omega) (by rw [← hln]; exact hKO) H
      have eN : ndP t.nodes es.length ((List.replicate es.length false).set (es.length - 1) true) = needU t.nodes:=by unfold needU; rw [hln]
      rw [eN] at g5
      cases hW : needU t.nodes with
      | false =>
       rw [hW] at g5
       have : numU t = 9:=by rw [hU,if_pos hW]
       simp (maxSteps:=2000000) (disch:=omega) [gd_in,gd_and,wr_i64,isSl_1 hT.hd,isSl_1 hT.nd,r0,r1,r2,r3,vof,allM,hrh,hrn,s2,s8,cl (gh _),n1,n2,cl g1,cl g2,cl (g3 _),w1,hle1,hle2,hz0,hroot,cl (g4 _),cl (g5 _),this]
      | true =>
       rw [hW] at g5
       rw [if_neg (by rw [hW]; simp)] at hU
       simp (maxSteps:=2000000) (disch:=omega) [gd_in,gd_and,wr_i64,isSl_1 hT.hd,isSl_1 hT.nd,r0,r1,r2,r3,vof,allM,hrh,hrn,s2,s8,cl (gh _),n1,n2,cl g1,cl g2,cl (g3 _),w1,hle1,hle2,hz0,hroot,cl (g4 _),cl (g5 _)]
       rw [callC_some]
       refine reduceP_s hT _ (fun _ z eo k1 k2 k3=>?_) (fun h=>by rw [hok] at h; cases h)
       have hV:=treeV_red hok k1 k2 (by rw [k3,red_eq hok]) (hd:=.sl (cells2 t.hood)) (.inl rfl) hT.hl
       have g6:=fun H=>same_s hV hT H
       have eD : decide ((⟨t.states,t.hood,outR t.nodes⟩ : TreeC).states = t.states ∧ (⟨t.states,t.hood,outR t.nodes⟩ : TreeC).hood = t.hood ∧ (⟨t.states,t.hood,outR t.nodes⟩ : TreeC).nodes = t.nodes) = decide (outR t.nodes = t.nodes):=by simp
       rw [eD] at g6
       by_cases hE : outR t.nodes = t.nodes
       ·rw [if_pos hE] at hU
        rw [decide_eq_true hE] at g6
        simp (maxSteps:=2000000) (disch:=omega) [gd_in,gd_and,wr_i64,isSl_1 hT.hd,isSl_1 hT.nd,r0,r1,r2,r3,vof,allM,hrh,hrn,s2,s8,cl (gh _),n1,n2,cl g1,cl g2,cl (g6 _),hU]
       ·rw [if_neg hE] at hU
        rw [decide_eq_false hE] at g6
        simp (maxSteps:=2000000) (disch:=omega) [gd_in,gd_and,wr_i64,isSl_1 hT.hd,isSl_1 hT.nd,r0,r1,r2,r3,vof,allM,hrh,hrn,s2,s8,cl (gh _),n1,n2,cl g1,cl g2,cl (g6 _),hU]
end Go.Mx.Tryz
set_option linter.unusedSimpArgs false
set_option linter.unusedVariables false
set_option linter.unusedSectionVars false
namespace Go.Mx.Tryz
open Go.Lib Go.Proofs

set_option maxHeartbeats 2000000 in
theorem rule58_s {t : TreeC} {h n : I} {es : List (List I)} (hT : TreeV t h n es) (HH : Hp) : Gives G 12 [.m (.ag [.i .i64 t.states,h,n])] HH (.m (.i .i64 (numU t))) HH:=by
 have hrh:=hT.hd.rules
 simp only [cells2_len] at hrh
 have hrn:=hT.nd.rules
 have hln:=treeV_len hT
 have gh:=fun H=>hood_r hT.hd (by have:=hT.hl; omega) H
 have hl1:=hT.hl
 have hl2:=hT.nl
 refine gives_pur rfl rfl rfl rfl rfl ?_
 by_cases s2 : t.states < 2
 ·have : numU t = 1:=numU_of (by unfold rule7; rw [if_pos (by omega : ¬ (2 ≤ t.states ∧ t.states ≤ 8))]) (by omega)
  simp (maxSteps:=2000000) (disch:=omega) [gd_in,gd_and,wr_i64,gcall_cx,hrh,hrn,s2,this]
 by_cases s8 : 8 < t.states
 ·have : numU t = 1:=numU_of (by unfold rule7; rw [if_pos (by omega : ¬ (2 ≤ t.states ∧ t.states ≤ 8))]) (by omega)
  simp (maxSteps:=2000000) (disch:=omega) [gd_in,gd_and,wr_i64,gcall_cx,hrh,hrn,s2,s8,this]
 have h2' : ¬ ¬ (2 ≤ t.states ∧ t.states ≤ 8):=by omega
 cases hh : hoodOk t.hood with
 | false =>
  have : numU t = 2:=numU_of (by unfold rule7; rw [if_neg h2',if_pos hh]) (by omega)
  rw [hh] at gh
  simp (maxSteps:=2000000) (disch:=omega) [gd_in,gd_and,wr_i64,gcall_cx,hrh,hrn,s2,s8,cl (gh _),this]
 | true =>
  rw [hh] at gh
  have hh' : ¬ hoodOk t.hood = false:=by rw [hh]; simp
  by_cases n1 : (es.length : Int) < 1
  ·have : numU t = 3:=numU_of (by unfold rule7; rw [if_neg h2',if_neg hh',if_pos (by rw [hln]; omega : ¬ (1 ≤ t.nodes.length ∧ t.nodes.length ≤ 4096))]) (by omega)
   simp (maxSteps:=2000000) (disch:=omega) [gd_in,gd_and,wr_i64,gcall_cx,hrh,hrn,s2,s8,cl (gh _),n1,this]
  by_cases n2 : (4096 : Int) < es.length
  ·have : numU t = 3:=numU_of (by unfold rule7; rw [if_neg h2',if_neg hh',if_pos (by rw [hln]; omega : ¬ (1 ≤ t.nodes.length ∧ t.nodes.length ≤ 4096))]) (by omega)
   simp (maxSteps:=2000000) (disch:=omega) [gd_in,gd_and,wr_i64,gcall_cx,hrh,hrn,s2,s8,cl (gh _),n1,n2,this]
  have h3' : ¬ ¬ (1 ≤ t.nodes.length ∧ t.nodes.length ≤ 4096):=by rw [hln]; omega
  simp (maxSteps:=2000000) (disch:=omega) [gd_in,gd_and,wr_i64,gcall_cx,hrh,hrn,s2,s8,cl (gh _),n1,n2]
  refine (?key : ∀ (i : Nat) (B : List (Nat × List V)),i ≤ t.nodes.length → getB B 1 = some [.m (.i .i64 t.states),.m h,.m n] → allIx (levOk t) 0 t.nodes = allIx (levOk t) i (t.nodes.drop i) → Run G c12_B0 (S12_0 (.fa 1 0) (.m (.i .i64 es.length)) (.m (.i .i64 (i : Int))) B []) _) 0 _ (Nat.zero_le _) rfl rfl
  refine indM (fun i : Nat=>t.nodes.length - i) fun i ih B hi hB hI=>?_
  unfold c12_B0
  cases hx : t.nodes[i]? with
  | some nd =>
   have hlt:=(get_drop hx).1
   have hlt1 : i < es.length:=by omega
   have hlt2 : (i : Int) < es.length:=by omega
   obtain ⟨z,hz,hzs,hzl,hzb⟩:=treeV_at hT hx
   have wi : wr .i64 ((i : Int) + 1) = ((i + 1 : Nat) : Int):=wr_i64 (by omega) (by omega)
   rw [(get_drop hx).2] at hI
   have hI : allIx (levOk t) 0 t.nodes = (levOk t i nd && allIx (levOk t) (i + 1) (t.nodes.drop (i + 1))):=hI
   have eN : levOk t i nd = decide (1 ≤ nd.1 ∧ nd.1 ≤ t.hood.length):=rfl
   have no:=fun (h : levOk t i nd = false)=>numU_of (t:=t) (k:=4) (by unfold rule7; rw [if_neg h2',if_neg hh',if_neg h3',if_pos (by rw [hI,h]; rfl)]) (by omega)
   by_cases m1 : nd.1 < 1
   ·have:=no (by rw [eN,decide_eq_false (by omega)])
    simp (maxSteps:=2000000) (disch:=omega) [gd_in,gd_and,wr_i64,hrn,hrh,hlt1,hlt2,hz,hB,m1,this]
   by_cases m2 : (t.hood.length : Int) < nd.1
   ·have:=no (by rw [eN,decide_eq_false (by omega)])
    simp (maxSteps:=2000000) (disch:=omega) [gd_in,gd_and,wr_i64,hrn,hrh,hlt1,hlt2,hz,hB,m1,m2,this]
   rw [eN,decide_eq_true (by omega),Bool.true_and] at hI
   have kk:=ih (i + 1) (by omega) B (by omega) hB hI
   simp (maxSteps:=2000000) (disch:=omega) [gd_in,gd_and,wr_i64,hrn,hrh,hlt1,hlt2,hz,hB,m1,m2,wi,-Int.natCast_add]
   exact kk
  | none =>
   have : i = es.length:=by have:=List.getElem?_eq_none_iff.1 hx; omega
   subst this
   rw [← hln,List.drop_length] at hI
   have hL : allIx (levOk t) 0 t.nodes = true:=hI
   have hL' : ¬ allIx (levOk t) 0 t.nodes = false:=by rw [hL]; simp
   clear hI ih
   simp (maxSteps:=2000000) (disch:=omega) [gd_in,gd_and,wr_i64,hrn]
   refine (?key5 : ∀ (i : Nat) (B : List (Nat × List V)),i ≤ t.nodes.length → getB B 1 = some [.m (.i .i64 t.states),.m h,.m n] → allIx (lenOk t) 0 t.nodes = allIx (lenOk t) i (t.nodes.drop i) → Run G c12_B1 (S12_1 (.fa 1 0) (.m (.i .i64 es.length)) (.m (.i .i64 (i : Int))) B []) _) 0 _ (Nat.zero_le _) hB rfl
   clear hB
   refine indM (fun i : Nat=>t.nodes.length - i) fun i ih B hi hB hI=>?_
   unfold c12_B1
   cases hx : t.nodes[i]? with
   | some nd =>
    have hlt:=(get_drop hx).1
    have hlt1 : i < es.length:=by omega
    have hlt2 : (i : Int) < es.length:=by omega
    obtain ⟨z,hz,hzs,hzl,hzb⟩:=treeV_at hT hx
    have hrz:=hzs.rules
    simp only [celI_len] at hrz
    have wi : wr .i64 ((i : Int) + 1) = ((i + 1 : Nat) : Int):=wr_i64 (by omega) (by omega)
    rw [(get_drop hx).2] at hI
    have hI : allIx (lenOk t) 0 t.nodes = (lenOk t i nd && allIx (lenOk t) (i + 1) (t.nodes.drop (i + 1))):=hI
    have eN : lenOk t i nd = decide ((nd.2.length : Int) = t.states):=rfl
    by_cases m3 : (nd.2.length : Int) = t.states
    ·rw [eN,decide_eq_true m3,Bool.true_and] at hI
     have kk:=ih (i + 1) (by omega) B (by omega) hB hI
     simp (maxSteps:=2000000) (disch:=omega) [gd_in,gd_and,wr_i64,hrn,hrz,hlt1,hlt2,hz,hB,m3,wi,isSl_1 hzs,-Int.natCast_add]
     exact kk
    ·have:=numU_of (t:=t) (k:=5) (by unfold rule7; rw [if_neg h2',if_neg hh',if_neg h3',if_neg hL',if_pos (by rw [hI,eN,decide_eq_false m3]; rfl)]) (by omega)
     simp (maxSteps:=2000000) (disch:=omega) [gd_in,gd_and,wr_i64,hrn,hrz,hlt1,hlt2,hz,hB,m3,isSl_1 hzs,this]
   | none =>
    have : i = es.length:=by have:=List.getElem?_eq_none_iff.1 hx; omega
    subst this
    rw [← hln,List.drop_length] at hI
    have hN : allIx (lenOk t) 0 t.nodes = true:=hI
    have hN' : ¬ allIx (lenOk t) 0 t.nodes = false:=by rw [hN]; simp
    clear hI ih
    have hlvs : ∀ (i : Nat) (x : Nd),t.nodes[i]? = some x → 1 ≤ x.1 ∧ x.1 ≤ t.hood.length:=fun i x hx=>of_decide_eq_true (allIx_get hL i x hx)
    have hSs : ∀ (i : Nat) (x : Nd),t.nodes[i]? = some x → (x.2.length : Int) = t.states:=fun i x hx=>of_decide_eq_true (allIx_get hN i x hx)
    have no6:=fun (h : allIx (kidOk t) 0 t.nodes = false)=>numU_of (t:=t) (k:=6) (by unfold rule7; rw [if_neg h2',if_neg hh',if_neg h3',if_neg hL',if_neg hN',if_pos h]) (by omega)
    simp (maxSteps:=2000000) (disch:=omega) [gd_in,gd_and,wr_i64,hrn]
    refine (?key6 : ∀ (i : Nat) (B : List (Nat × List V)),i ≤ t.nodes.length → getB B 1 = some [.m (.i .i64 t.states),.m h,.m n] → allIx (kidOk t) 0 t.nodes = allIx (kidOk t) i (t.nodes.drop i) → Run G c12_B3 (S12_3 (.fa 1 0) (.m (.i .i64 es.length)) (.m (.i .i64 (i : Int))) B []) _) 0 _ (Nat.zero_le _) hB rfl
    clear hB
    refine indM (fun i : Nat=>t.nodes.length - i) fun i ih B hi hB hI=>?_
    unfold c12_B3
    cases hx : t.nodes[i]? with
    | some nd =>
     have hlt:=(get_drop hx).1
     have hlt1 : i < es.length:=by omega
     have hlt2 : (i : Int) < es.length:=by omega
     obtain ⟨z,hz,hzs,hzl,hzb⟩:=treeV_at hT hx
     have hrz:=hzs.rules
     have hz1:=isSl_1 hzs
     simp only [celI_len] at hrz
     obtain ⟨m1,m2⟩:=hlvs i nd hx
     have m3:=hSs i nd hx
     have wi : wr .i64 ((i : Int) + 1) = ((i + 1 : Nat) : Int):=wr_i64 (by omega) (by omega)
     rw [(get_drop hx).2] at hI
     have hI : allIx (kidOk t) 0 t.nodes = (nd.2.all (elOk t i nd.1) && allIx (kidOk t) (i + 1) (t.nodes.drop (i + 1))):=hI
     simp (maxSteps:=2000000) (disch:=omega) [gd_in,gd_and,wr_i64,hrn,hlt1,hlt2,hz,hz1,hrz,hB]
     refine (?key2 : ∀ (j : Nat) (B : List (Nat × List V)),j ≤ nd.2.length → getB B 1 = some [.m (.i .i64 t.states),.m h,.m n] → getB B 7 = some [.m (.i .i64 nd.1),.m z] → allIx (kidOk t) 0 t.nodes = ((nd.2.drop j).all (elOk t i nd.1) && allIx (kidOk t) (i + 1) (t.nodes.drop (i + 1))) → Run G c12_B2 (S12_2 (.fa 1 0) (.m (.i .i64 es.length)) (.m (.i .i64 (i : Int))) (.fa 7 0) (.m (.i .i64 (j : Int))) B []) _) 0 _ (Nat.zero_le _) (by simpa using hB) (by simp) hI
     clear hI
     refine indM (fun j : Nat=>nd.2.length - j) fun j ihj B hj hB h5 hI=>?_
     unfold c12_B2
     cases hy : nd.2[j]? with
     | none =>
      have : j = nd.2.length:=by have:=List.getElem?_eq_none_iff.1 hy; omega
      subst this
      rw [List.drop_length] at hI
      have k:=ih (i + 1) (by omega) B (by omega) hB hI
      have hjs : ¬ (nd.2.length : Int) < t.states:=by omega
      simp (maxSteps:=2000000) (disch:=omega) [gd_in,gd_and,wr_i64,hrz,hB,h5,hjs,wi,-Int.natCast_add]
      exact k
     | some k =>
      have hjl:=(get_drop hy).1
      have hjl2 : (j : Int) < nd.2.length:=by omega
      have hjs : (j : Int) < t.states:=by omega
      have hk : nth (celI nd.2) j = some [.i .i64 k]:=celI_nth hy
      have wj : wr .i64 ((j : Int) + 1) = ((j + 1 : Nat) : Int):=wr_i64 (by omega) (by omega)
      have hkb:=hzb k (List.mem_of_getElem? hy)
      rw [(get_drop hy).2,List.all_cons] at hI
      have eE : elOk t i nd.1 k = decide (¬ k < 0 ∧ ¬ (nd.1 = 1 ∧ t.states ≤ k) ∧ ¬ (1 < nd.1 ∧ ((i : Int) ≤ k ∨ ¬ levAt t.nodes k = nd.1 - 1))):=rfl
      have go:=fun (h : elOk t i nd.1 k = true)=>ihj (j + 1) (by omega) B (by omega) hB h5 (by rw [hI,h,Bool.true_and])
      have no:=fun (h : elOk t i nd.1 k = false)=>no6 (by rw [hI,h]; rfl)
      have wl : wr .i64 (nd.1 - 1) = nd.1 - 1:=wr_i64 (by omega) (by omega)
      by_cases k0 : k < 0
      ·have:=no (by rw [eE]; exact decide_eq_false fun h=>h.1 k0)
       simp (maxSteps:=2000000) (disch:=omega) [gd_in,gd_and,wr_i64,hrz,hjs,hjl,hjl2,hk,hB,h5,k0,this]
      by_cases l1 : nd.1 = 1
      ·have l2 : ¬ 1 < nd.1:=by omega
       by_cases ks : t.states ≤ k
       ·have:=no (by rw [eE]; exact decide_eq_false fun h=>h.2.1 ⟨l1,ks⟩)
        simp (maxSteps:=2000000) (disch:=omega) [gd_in,gd_and,wr_i64,hrz,hjs,hjl,hjl2,hk,hB,h5,k0,l1,ks,this]
       ·have kk:=go (by rw [eE]; exact decide_eq_true ⟨k0,fun h=>ks h.2,fun h=>l2 h.1⟩)
        rw [l1] at h5
        simp (maxSteps:=2000000) (disch:=omega) [gd_in,gd_and,wr_i64,hrz,hjs,hjl,hjl2,hk,hB,h5,k0,ks,wj,-Int.natCast_add]
        exact kk
      ·have l2 : 1 < nd.1:=by omega
       by_cases ki : (i : Int) ≤ k
       ·have:=no (by rw [eE]; exact decide_eq_false fun h=>h.2.2 ⟨l2,.inl ki⟩)
        simp (maxSteps:=2000000) (disch:=omega) [gd_in,gd_and,wr_i64,hrz,hjs,hjl,hjl2,hk,hB,h5,k0,l1,l2,ki,this]
       ·obtain ⟨kn,rfl⟩:=Int.eq_ofNat_of_zero_le (show 0 ≤ k by omega)
        have hkn : kn < t.nodes.length:=by omega
        have hkn1 : kn < es.length:=by omega
        have hkn2 : (kn : Int) < es.length:=by omega
        obtain ⟨z',hz',_⟩:=treeV_at hT (List.getElem?_eq_getElem hkn)
        have hlv:=levAt_at (List.getElem?_eq_getElem hkn)
        have ki2 : ¬ i ≤ kn:=by omega
        by_cases hle : t.nodes[kn].1 = nd.1 - 1
        ·have kk:=go (by rw [eE]; exact decide_eq_true ⟨k0,fun h=>l1 h.1,fun h=>h.2.elim ki fun h2=>h2 (hlv.trans hle)⟩)
         simp (maxSteps:=2000000) (disch:=omega) [gd_in,gd_and,wr_i64,hrz,hrn,hjs,hjl,hjl2,hk,hB,h5,k0,l1,l2,ki,ki2,hkn1,hkn2,hz',wl,hle,wj,-Int.natCast_add]
         exact kk
        ·have:=no (by rw [eE]; exact decide_eq_false fun h=>h.2.2 ⟨l2,.inr fun h2=>hle (hlv.symm.trans h2)⟩)
         simp (maxSteps:=2000000) (disch:=omega) [gd_in,gd_and,wr_i64,hrz,hrn,hjs,hjl,hjl2,hk,hB,h5,k0,l1,l2,ki,ki2,hkn1,hkn2,hz',wl,hle,this]
    | none =>
     have : i = es.length:=by have:=List.getElem?_eq_none_iff.1 hx; omega
     subst this
     rw [← hln,List.drop_length] at hI
     have hX : allIx (kidOk t) 0 t.nodes = true:=hI
     have hX' : ¬ allIx (kidOk t) 0 t.nodes = false:=by rw [hX]; simp
     clear hI ih no6
     have hlt1 : es.length - 1 < t.nodes.length:=by omega
     obtain ⟨z0,hz0,_⟩:=treeV_at hT (List.getElem?_eq_getElem hlt1)
     have hle1 : es.length - 1 < es.length:=by omega
     have hle2 : ((es.length - 1 : Nat) : Int) < es.length:=by omega
     have w1 : wr .i64 ((es.length : Int) - 1) = ((es.length - 1 : Nat) : Int):=by rw [wr_i64 (by omega) (by omega)]; omega
     have hlev:=levAt_at (List.getElem?_eq_getElem hlt1)
     have eroot : levAt t.nodes (t.nodes.length - 1) = t.nodes[es.length - 1].1:=by
      rw [← hlev,hln]
      congr 1
      omega
     by_cases hroot : t.nodes[es.length - 1].1 = t.hood.length
     rotate_left
     ·have : numU t = 7:=numU_of (by unfold rule7; rw [if_neg h2',if_neg hh',if_neg h3',if_neg hL',if_neg hN',if_neg hX',if_pos (by rw [eroot]; exact hroot)]) (by omega)
      simp (maxSteps:=2000000) (disch:=omega) [gd_in,gd_and,wr_i64,hrn,hrh,hB,w1,hle1,hle2,hz0,hroot,this]
     have h70 : rule7 t = 0:=by unfold rule7; rw [if_neg h2',if_neg hh',if_neg h3',if_neg hL',if_neg hN',if_neg hX',if_neg (by rw [eroot]; exact fun h=>h hroot)]
     have hok:=(rule7_0 t).1 h70
     have hU : numU t = if dupU t.nodes = true then 8 else if needU t.nodes = false then 9 else if outR t.nodes = t.nodes then 0 else 10:=by unfold numU; rw [if_neg (fun h=>h h70)]
     simp (maxSteps:=2000000) (disch:=omega) [gd_in,gd_and,wr_i64,hrn,hrh,hB,w1,hle1,hle2,hz0,hroot]
     refine (?key8 : ∀ (i : Nat) (B : List (Nat × List V)),i ≤ es.length → getB B 1 = some [.m (.i .i64 t.states),.m h,.m n] → (∀ j' i',j' < i' → i' < i → ndAt t.nodes j' ≠ ndAt t.nodes i') → Run G c12_B5 (S12_5 (.fa 1 0) (.m (.i .i64 es.length)) (.m (.i .i64 (i : Int))) B []) _) 0 _ (Nat.zero_le _) hB (fun _ _ _ h=>by omega)
     clear hB
     refine indM (fun i : Nat=>es.length - i) fun i ih B hi hB hI=>?_
     unfold c12_B5
     by_cases hie : i < es.length
     ·have hie2 : (i : Int) < es.length:=by omega
      have hii : i < t.nodes.length:=by omega
      obtain ⟨zi,hzi,hzis,hzil,_⟩:=treeV_at hT (List.getElem?_eq_getElem hii)
      have wi : wr .i64 ((i : Int) + 1) = ((i + 1 : Nat) : Int):=wr_i64 (by omega) (by omega)
      have ai : ndAt t.nodes i = t.nodes[i]:=by unfold ndAt; rw [List.getElem?_eq_getElem hii]; rfl
      simp (maxSteps:=2000000) (disch:=omega) [gd_in,gd_and,wr_i64,hie2]
      refine (?key8b : ∀ (j : Nat) (B : List (Nat × List V)),j ≤ i → getB B 1 = some [.m (.i .i64 t.states),.m h,.m n] → (∀ j',j' < j → ndAt t.nodes j' ≠ ndAt t.nodes i) → Run G c12_B4 (S12_4 (.fa 1 0) (.m (.i .i64 es.length)) (.m (.i .i64 (i : Int))) (.m (.i .i64 (j : Int))) B []) _) 0 _ (Nat.zero_le _) hB (fun _ h=>by omega)
      clear hB
      refine indM (fun j : Nat=>i - j) fun j ihj B hj hB hJ=>?_
      unfold c12_B4
      by_cases hji : j < i
      ·have hji2 : (j : Int) < (i : Int):=by omega
       have hje : j < es.length:=by omega
       have hje2 : (j : Int) < es.length:=by omega
       have hjj : j < t.nodes.length:=by omega
       obtain ⟨zj,hzj,hzjs,hzjl,_⟩:=treeV_at hT (List.getElem?_eq_getElem hjj)
       have wj : wr .i64 ((j : Int) + 1) = ((j + 1 : Nat) : Int):=wr_i64 (by omega) (by omega)
       have aj : ndAt t.nodes j = t.nodes[j]:=by unfold ndAt; rw [List.getElem?_eq_getElem hjj]; rfl
       have ge:=fun H=>equal58_r (x:=t.nodes[i]) (y:=t.nodes[j]) hzis hzjs hzil H
       by_cases hq : t.nodes[i] = t.nodes[j]
       ·have hD : dupU t.nodes = true:=by
         cases hd : dupU t.nodes with
         | true=>rfl
         | false=>exact absurd (by rw [aj,ai,hq]) ((dupU_iff t.nodes).1 hd j i hji hii)
        have : numU t = 8:=by rw [hU,if_pos hD]
        rw [decide_eq_true hq] at ge
        simp (maxSteps:=2000000) (disch:=omega) [gd_in,gd_and,wr_i64,hrn,hji2,hji,hB,hie,hie2,hje,hje2,hzi,hzj,isSl_1 hzis,isSl_1 hzjs,allM,cl (ge _),this]
       ·rw [decide_eq_false hq] at ge
        have kk:=ihj (j + 1) (by omega) B (by omega) hB (fun j' h=>by
         by_cases c : j' < j
         ·exact hJ j' c
         ·have : j' = j:=by omega
          subst this
          rw [aj,ai]
          exact fun e=>hq e.symm)
        simp (maxSteps:=2000000) (disch:=omega) [gd_in,gd_and,wr_i64,hrn,hji2,hji,hB,hie,hie2,hje,hje2,hzi,hzj,isSl_1 hzis,isSl_1 hzjs,allM,cl (ge _),wj,-Int.natCast_add]
        exact kk
      ·have : j = i:=by omega
       subst this
       have kk:=ih (j + 1) (by omega) B (by omega) hB (fun j' i' h1 h2=>by
        by_cases c : i' < j
        ·exact hI j' i' h1 c
        ·have : i' = j:=by omega
         subst this
         exact hJ j' h1)
       simp (maxSteps:=2000000) (disch:=omega) [gd_in,gd_and,wr_i64,wi,-Int.natCast_add]
       exact kk
     ·have : i = es.length:=by omega
      subst this
      have hDn : dupU t.nodes = false:=(dupU_iff t.nodes).2 fun j' i' h1 h2=>hI j' i' h1 (by omega)
      rw [if_neg (by rw [hDn]; simp)] at hU
      clear hI ih
      have n0:=rowsB_nth (u:=List.replicate es.length false) (i:=es.length - 1) (x:=false) (by rw [List.getElem?_replicate,if_pos hle1])
      have s0:=rowsB_set (u:=List.replicate es.length false) (i:=es.length - 1) (by rw [List.length_replicate]; exact hle1)
      have e0 : ((es.length - 1 : Nat) : Int) = (es.length : Int) - 1:=by omega
      simp (maxSteps:=2000000) (disch:=omega) [gd_in,gd_and,wr_i64,hrn,w1,hle1,hle2,rowsB_rep,n0,s0]
      have hu : ((List.replicate es.length false).set (es.length - 1) true).length = es.length:=by simp
      have hKO : KidsOk t.nodes es.length:=by have:=kidsOk_of (okR_of hok); rwa [hln] at this
      have hWM : needU t.nodes = true ↔ ∀ j,j < es.length → (ndR t.nodes es.length ((List.replicate es.length false).set (es.length - 1) true))[j]? = some true:=by
       unfold needU
       rw [hln]
       exact needed_iff hKO es.length _ (Nat.le_refl _)
      generalize hMk : ndR t.nodes es.length ((List.replicate es.length false).set (es.length - 1) true) = M at hWM
      generalize (List.replicate es.length false).set (es.length - 1) true = u0 at hMk hu ⊢
      rw [e0]
      refine (?key9 : ∀ (i : Nat) (u : List Bool) (B : List (Nat × List V)),i ≤ es.length → u.length = es.length → getB B 1 = some [.m (.i .i64 t.states),.m h,.m n] → ndR t.nodes i u = M →
       Run G c12_B7 (S12_7 (.fa 1 0) (.m (.i .i64 es.length)) (.sl 0 es.length 1 0 es.length true) (.m (.i .i64 ((i : Int) - 1))) B [.cs 4 1 (rowsB u) es.length false]) _) es.length u0 _ (Nat.le_refl _) hu hB hMk
      clear hB hMk hu n0 s0 e0 w1 u0 B
      refine indM (fun i : Nat=>i) fun i ih u B hi hu hB hM=>?_
      unfold c12_B7
      cases i with
      | zero =>
       have hm : ¬ (0 : Int) ≤ ((0 : Nat) : Int) - 1:=by omega
       have hM0 : u = M:=hM
       subst hM0
       clear ih hM
       simp (maxSteps:=2000000) (disch:=omega) [gd_in,gd_and,wr_i64,hm]
       refine (?key10 : ∀ (j : Nat) (B : List (Nat × List V)),j ≤ es.length → getB B 1 = some [.m (.i .i64 t.states),.m h,.m n] → (∀ k,k < j → u[k]? = some true) →
        Run G c12_B8 (S12_8 (.fa 1 0) (.m (.i .i64 es.length)) (.sl 0 es.length 1 0 es.length true) (.m (.i .i64 (j : Int))) B [.cs 4 1 (rowsB u) es.length false]) _) 0 _ (Nat.zero_le _) hB (fun _ h=>by omega)
       clear hB B
       refine indM (fun j : Nat=>es.length - j) fun j ihj B hj hB hJ=>?_
       unfold c12_B8
       by_cases hje : j < es.length
       ·have hje2 : (j : Int) < es.length:=by omega
        have wj : wr .i64 ((j : Int) + 1) = ((j + 1 : Nat) : Int):=wr_i64 (by omega) (by omega)
        obtain ⟨b,hb⟩ : ∃ b,u[j]? = some b:=⟨u[j],List.getElem?_eq_getElem (by omega)⟩
        have nb:=rowsB_nth hb
        cases b with
        | false =>
         have hW : needU t.nodes = false:=by
          cases hw : needU t.nodes with
          | false=>rfl
          | true =>
           have:=hWM.1 hw j hje
           rw [hb] at this
           cases this
         have : numU t = 9:=by rw [hU,if_pos hW]
         simp (maxSteps:=2000000) (disch:=omega) [gd_in,gd_and,wr_i64,hje,hje2,nb,this]
        | true =>
         have kk:=ihj (j + 1) (by omega) B (by omega) hB (fun k hk=>by
          by_cases c : k < j
          ·exact hJ k c
          ·have : k = j:=by omega
           subst this
           exact hb)
         simp (maxSteps:=2000000) (disch:=omega) [gd_in,gd_and,wr_i64,hje,hje2,nb,wj,-Int.natCast_add]
         exact kk
       ·have : j = es.length:=by omega
        subst this
        have hW : needU t.nodes = true:=hWM.2 hJ
        rw [if_neg (by rw [hW]; simp)] at hU
        simp (maxSteps:=2000000) (disch:=omega) [gd_in,gd_and,wr_i64,hB]
        rw [callC_some]
        refine reduceR_s hT _ (fun _ z eo k1 k2 k3 _=>?_) (fun h=>by rw [hok] at h; cases h)
        have hV:=treeV_red hok k1 k2 k3 hT.hd hT.hl
        have g6:=fun H=>same_t hV hT H
        have eD : decide ((⟨t.states,t.hood,outR t.nodes⟩ : TreeC).states = t.states ∧ (⟨t.states,t.hood,outR t.nodes⟩ : TreeC).hood = t.hood ∧ (⟨t.states,t.hood,outR t.nodes⟩ : TreeC).nodes = t.nodes) = decide (outR t.nodes = t.nodes):=by simp
        rw [eD] at g6
        by_cases hE : outR t.nodes = t.nodes
        ·rw [if_pos hE] at hU
         rw [decide_eq_true hE] at g6
         simp (maxSteps:=2000000) (disch:=omega) [gd_in,gd_and,wr_i64,hB,cl (g6 _),hU]
        ·rw [if_neg hE] at hU
         rw [decide_eq_false hE] at g6
         simp (maxSteps:=2000000) (disch:=omega) [gd_in,gd_and,wr_i64,hB,cl (g6 _),hU]
      | succ i =>
       have wk : ((i + 1 : Nat) : Int) - 1 = (i : Int):=by omega
       have wi : wr .i64 ((i : Int) - 1) = (i : Int) - 1:=wr_i64 (by omega) (by omega)
       have hie : i < es.length:=by omega
       have hie' : (i : Int) < es.length:=by omega
       have hge : (0 : Int) ≤ (i : Int):=by omega
       have hin : i < t.nodes.length:=by omega
       rw [wk]
       obtain ⟨x,hx⟩ : ∃ x,t.nodes[i]? = some x:=⟨t.nodes[i],List.getElem?_eq_getElem hin⟩
       obtain ⟨zx,x1,x2,x3,_⟩:=treeV_at hT hx
       have rx:=x2.rules
       simp only [celI_len] at rx
       have hxn : ndAt t.nodes i = x:=by unfold ndAt; rw [hx]; rfl
       have ki:=hKO i hie
       rw [hxn] at ki
       have hxl : (x.2.length : Int) = t.states:=hSs i x hx
       obtain ⟨b,hb⟩ : ∃ b,u[i]? = some b:=⟨u[i],List.getElem?_eq_getElem (by omega)⟩
       have hs : ndR t.nodes (i + 1) u = ndR t.nodes i (if u[i]? = some true then stepM t.nodes i u else u):=rfl
       rw [hs,hb] at hM
       simp (maxSteps:=2000000) (disch:=omega) [gd_in,gd_and,wr_i64,hge]
       refine (?key9b : ∀ (s : Nat) (B : List (Nat × List V)) (v : List Bool),s ≤ x.2.length → v.length = es.length → getB B 1 = some [.m (.i .i64 t.states),.m h,.m n] → v[i]? = some b → (if b = true ∧ 1 < x.1 then v = marks u (x.2.take s) else s = 0 ∧ v = u) →
        Run G c12_B6 (S12_6 (.fa 1 0) (.m (.i .i64 es.length)) (.sl 0 es.length 1 0 es.length true) (.m (.i .i64 (i : Int))) (.m (.i .i64 (s : Int))) B [.cs 4 1 (rowsB v) es.length false]) _) 0 _ u (Nat.zero_le _) hu hB hb (by split <;> simp [marks])
       clear hB B hs
       refine indM (fun s : Nat=>x.2.length - s) fun s ihs B v hs hv hB hbv he=>?_
       unfold c12_B6
       have nb:=rowsB_nth hbv
       have hst0 : (0 : Int) < t.states:=by have:=(treeOk_get hok).1; omega
       cases b with
       | false =>
        rw [if_neg (by simp)] at he hM
        obtain ⟨rfl,rfl⟩:=he
        have kk:=fun B hB=>ih i (by omega) v B (by omega) hv hB hM
        simp (maxSteps:=2000000) (disch:=omega) [gd_in,gd_and,wr_i64,hB,hrn,hie,hie',nb,x1,rx,hst0,wi,-Int.natCast_add]
        exact kk _ hB
       | true =>
        rw [if_pos rfl] at hM
        unfold stepM at hM
        rw [hxn] at hM
        by_cases hl : 1 < x.1
        ·rw [if_pos ⟨rfl,hl⟩] at he
         rw [if_pos hl] at hM
         cases hks : x.2[s]? with
         | none =>
          have : s = x.2.length:=by have:=List.getElem?_eq_none_iff.1 hks; omega
          subst this
          rw [List.take_length] at he
          subst he
          have hns : ¬ ((x.2.length : Int) < t.states):=by omega
          have kk:=fun B hB=>ih i (by omega) _ B (by omega) hv hB hM
          simp (maxSteps:=2000000) (disch:=omega) [gd_in,gd_and,wr_i64,hB,hrn,hie,hie',nb,x1,rx,hl,hns,wi,-Int.natCast_add]
          exact kk _ hB
         | some k =>
          have hlts:=(List.getElem?_eq_some_iff.1 hks).1
          have hlts' : (s : Int) < x.2.length:=by omega
          have hst : (s : Int) < t.states:=by omega
          have m1:=celI_nth hks
          have ws : wr .i64 ((s : Int) + 1) = ((s + 1 : Nat) : Int):=wr_i64 (by omega) (by omega)
          obtain ⟨k0,k1⟩:=ki hl k (List.mem_of_getElem? hks)
          obtain ⟨m,rfl⟩ : ∃ m : Nat,k = (m : Int):=⟨k.toNat,by omega⟩
          have hm1 : m < es.length:=by omega
          have hm2 : (m : Int) < es.length:=by omega
          obtain ⟨b,hb2⟩ : ∃ b,v[m]? = some b:=⟨v[m],List.getElem?_eq_getElem (by omega)⟩
          have nb2:=rowsB_nth hb2
          have sb:=rowsB_set (u:=v) (i:=m) (by omega)
          have kk:=fun B hB=>ihs (s + 1) (by omega) B (v.set m true) (by omega) (by simpa using hv) hB (by
           rw [List.getElem?_set_ne (by omega)]
           exact hbv) (by
           rw [if_pos ⟨rfl,hl⟩,take_succ_get hks,he]
           unfold marks
           rw [List.foldl_append]
           rfl)
          simp (maxSteps:=2000000) (disch:=omega) [gd_in,gd_and,wr_i64,hB,hrn,hie,hie',nb,x1,rx,hl,hst,hlts,hlts',m1,hm1,hm2,nb2,sb,hv,ws,-Int.natCast_add]
          exact kk _ hB
        ·rw [if_neg (fun h=>hl h.2)] at he
         rw [if_neg hl] at hM
         obtain ⟨rfl,rfl⟩:=he
         have kk:=fun B hB=>ih i (by omega) v B (by omega) hv hB hM
         simp (maxSteps:=2000000) (disch:=omega) [gd_in,gd_and,wr_i64,hB,hrn,hie,hie',nb,x1,rx,hst0,hl,wi,-Int.natCast_add]
         exact kk _ hB
end Go.Mx.Tryz
set_option linter.unusedSimpArgs false
set_option linter.unusedVariables false
set_option linter.unusedSectionVars false
namespace Go.Mx.Tryz
open Go.Lib Go.Proofs

theorem law_rules (gw : Gives G 6 [] [] (.m (.b true)) []) {t : TreeC} {h n : I} {es : List (List I)} (hT : TreeV t h n es) : Gives G 4 [.m (.ag [.i .i64 t.states,h,n])] [] (.m (.b true)) []:=by
 have gf:=fun H=>fewT_l hT H
 have g1:=fun H=>rule_s hT H
 have g2:=fun H=>rule58_s hT H
 have g3:=fun H=>tree_r hT H
 have h0:=numU_0 t
 refine gives_pur rfl rfl rfl rfl rfl ?_
 cases hf : fewB t with
 | false =>
  rw [hf] at gf
  simp (maxSteps:=2000000) (disch:=omega) [gd_in,gd_and,wr_i64,cl (gf _),cl gw]
 | true =>
  rw [hf] at gf
  cases hok : treeOk t with
  | false =>
   rw [hok] at g3 h0
   have : ¬ numU t = 0:=fun e=>by cases (h0.1 e).1
   simp (maxSteps:=2000000) (disch:=omega) [gd_in,gd_and,wr_i64,gcall_cx,cl (gf _),cl (g1 _),cl (g2 _),cl (g3 _),cl gw,this]
  | true =>
   rw [hok] at g3
   simp (maxSteps:=2000000) (disch:=omega) [gd_in,gd_and,wr_i64,gcall_cx,cl (gf _),cl (g1 _),cl (g2 _),cl (g3 _)]
   rw [callC_some]
   refine reduceR_s hT _ (fun _ z eo k1 k2 k3 _=>?_) (fun h=>by rw [hok] at h; cases h)
   have hV:=treeV_red hok k1 k2 k3 hT.hd hT.hl
   have g6:=fun H=>same_t hV hT H
   have eD : decide ((⟨t.states,t.hood,outR t.nodes⟩ : TreeC).states = t.states ∧ (⟨t.states,t.hood,outR t.nodes⟩ : TreeC).hood = t.hood ∧ (⟨t.states,t.hood,outR t.nodes⟩ : TreeC).nodes = t.nodes) = decide (outR t.nodes = t.nodes):=by simp
   rw [eD] at g6
   by_cases hE : outR t.nodes = t.nodes
   ·have : numU t = 0:=h0.2 ⟨hok,hE⟩
    rw [decide_eq_true hE] at g6
    simp (maxSteps:=2000000) (disch:=omega) [gd_in,gd_and,wr_i64,gcall_cx,cl (g6 _),cl gw,this]
   ·have : ¬ numU t = 0:=fun e=>hE (h0.1 e).2
    rw [decide_eq_false hE] at g6
    simp (maxSteps:=2000000) (disch:=omega) [gd_in,gd_and,wr_i64,gcall_cx,cl (g6 _),cl gw,this]
theorem audit_rules (us : List V) (h : ArgsOk Go.Proofs.Tryz.prog maxLen 8 Go.Proofs.Tryz.f4.params.toList us) : Gives G 4 us [] (.m (.b true)) []:=by
 have e : Go.Proofs.Tryz.f4.params.toList = [31]:=by rw [Go.Proofs.Tryz.params4]
 have h:=e ▸ h
 obtain ⟨t,hh,nn,es,_,rfl,hT,h1⟩:=arg_tree (by decide) h
 have:=argsOk_nil h1
 subst this
 exact law_rules gives_awake hT
end Go.Mx.Tryz
