/- Fields of the reference: the grid of a pattern. -/
import Derived.Test.YtlhjjcaifenlbaaGreatDoorSeav
import Derived.Test.YtlhjjcaifenlbaaGreatDoorVn
import Derived.Test.YtlhjjcaifenlbaaGreatDoorStr
set_option linter.unusedSimpArgs false
set_option linter.unusedVariables false
set_option linter.unusedSectionVars false
set_option maxRecDepth 100000
namespace Go.Mx.Tryz
open Go.Lib Go.Proofs
def Acq (acc : List Int) (o : V) (H : Hp) : Prop:=(acc = [] /\ o = .m (.nl 4) /\ H = []) \/ (acc ≠ [] /\ o = .sl 0 acc.length 1 0 acc.length false /\ H = [.cs 3 1 (Bh acc) 0 false])
theorem Sg {acc : List Int} {o : V} {H : Hp} (h : Acq acc o H) (hl : acc.length <= 1000000) (x : Int) : ∃ o1 H1,(∀ B,EJ ⟨B,H⟩ 3 1 8 o [[.m (.i .i64 x)]] = some (o1,⟨B,H1⟩)) /\ AB o1 = true /\ Acq (acc ++ [x]) o1 H1:=by
 rcases h with ⟨rfl,rfl,rfl⟩ | ⟨hne,rfl,rfl⟩
 ·exact ⟨_,_,fun B=>rfl,rfl,.inr ⟨by simp,rfl,rfl⟩⟩
 ·have ha:=fun B=>Dc (M:=⟨B,[.cs 3 1 (Bh acc) 0 false]⟩) (r:=0) (bytes:=8) (xs:=[[.m (.i .i64 x)]]) rfl (by simp) (by simp [Fb]; omega) (by simp [])
  simp only [Fb,Adk,Adp,AdF,Oq,List.set_cons_zero] at ha
  exact ⟨_,_,ha,rfl,.inr ⟨by simp,by simp,rfl⟩⟩
theorem Yv {acc : List Int} {o : V} {H : Hp} (h : Acq acc o H) : AB o = true:=by
 rcases h with ⟨_,rfl,_⟩ | ⟨_,rfl,_⟩ <;> rfl
theorem Si {F : Nat} {acc : List Int} {o x : V} {t0 : I} {H : Hp} (hp : G.prim F = none) (hs : G.sh F = false) (ho : Acq acc o H) (h : ∀ w H,IsSl w (Ec acc) -> Gives G F [.m t0,.m w] H x H) (hf : Gg x = true) : Gives G F [.m t0,o] H x H:=by
 rcases ho with ⟨rfl,rfl,rfl⟩ | ⟨hne,rfl,rfl⟩
 ·exact h _ [] AH
 ·refine Ba (is:=[t0,.sl (Ec acc)]) hp hs (h _ [] (Be _)) ?_ (.inr ⟨by simp [DN,GP],hf⟩)
  have:=Us (r:=0) (ver:=acc.length) (st:=0) (len:=acc.length) (lim:=false) (base:=0) (fz:=false) (l:=acc) (H:=[Row.cs 3 1 (Bh acc) 0 false]) rfl (AcF _) 18
  rw [List.drop_zero,AcP (AcD _)] at this
  show Option.bind (some _) (fun _=>Option.bind (Option.bind (view 20 _ _) _) _) = _
  rw [this]
  rfl
end Go.Mx.Tryz
set_option maxHeartbeats 4000000
namespace Go.Mx.Tryz
open Go.Lib Go.Proofs
theorem SP (a b : Int × Int) (H : Hp) : Gives G 150 [.m (.ag [.i .i64 a.1,.i .i64 a.2]),.m (.ag [.i .i64 b.1,.i .i64 b.2])] H (.m (.b (KQ a b))) H:=by
 refine Ae rfl rfl rfl rfl rfl ?_
 simp (contextual:=true) [Ai,-Int.not_lt,-Int.not_le,-Nat.not_lt,-Nat.not_le,-List.map_take,KQ]
theorem AbU {v : I} {p : List (Int × Int)} (hv : IsSl v (Dt p)) (hl : (p.length : Int) <= 9223372036854775807) (H : Hp) : Gives G 111 [.m v] H (.m (.b (BW p))) H:=by
 have hr0:=hv.rules
 simp only [Bb] at hr0
 refine Ae rfl rfl rfl rfl rfl ?_
 by_cases h1 : 1 <= p.length /\ p.length <= 25
 rotate_left
 ·have e : BW p = false:=by unfold BW; rw [AcH h1]; rfl
  by_cases h2 : (p.length : Int) < 1
  ·simp (maxSteps:=2000000) (disch:=omega) [hr0,h2,e]
  ·have h3 : (25 : Int) < p.length:=by omega
   simp (maxSteps:=2000000) (disch:=omega) [hr0,h2,h3,e]
 have h2 : ¬ (p.length : Int) < 1:=by omega
 have h3 : ¬ (25 : Int) < p.length:=by omega
 have hR : BW p = JB none p:=by unfold BW; rw [AcI h1]; rfl
 rw [hR]
 simp (maxSteps:=2000000) (disch:=omega) [hr0,h2,h3]
 refine (?key : ∀ (i : Nat) (B : List (Nat × List V)),i <= p.length -> JB none p = JB (Eg p i) (p.drop i) -> Run G c111_B0 (S111_0 (.m v) (.m (.i .i64 i)) B []) _) 0 [] (AcF _) rfl
 refine Bk (fun i : Nat=>p.length - i) fun i ih B hi hr=>?_
 unfold c111_B0
 cases hx : p[i]? with
 | none =>
  have : i = p.length:=by have:=AcB.1 hx; omega
  subst this
  have : JB (Eg p p.length) [] = true:=by cases Eg p p.length <;> rfl
  simp [hr0,hr,this]
 | some c =>
  have hlt:=(Al hx).1
  have hn:=BX hx
  rw [(Al hx).2,KX hx,KM] at hr
  cases i with
  | zero =>
   simp (contextual:=true) (maxSteps:=2000000) (disch:=omega) [Ah,Ai,Ad,-Int.not_lt,-Int.not_le,-Nat.not_lt,-Nat.not_le,-List.map_take,hr0,hn,hlt,Aa]
   repeat' first | with_reducible apply And.intro | intro _
   all_goals first
    | (refine ih 1 (by omega) _ (by omega) ?_; grind [Eg])
    | grind [Eg]
  | succ j =>
   obtain ⟨c0,hx0⟩ : ∃ c0,p[j]? = some c0:=⟨p[j],AcA (by omega)⟩
   have hn0:=BX hx0
   have e3 : (j : Int) + 1 < p.length:=by omega
   have e4 : (j : Int) < p.length:=by omega
   have e6 : (0 : Int) <= j + 1:=by omega
   have e7 : ((j : Int) + 1).toNat = j + 1:=by omega
   have hp0 : Eg p (j + 1) = some c0:=hx0
   simp only [hp0] at hr
   simp (contextual:=true) (maxSteps:=2000000) (disch:=omega) [Ah,Ai,Ad,-Int.not_lt,-Int.not_le,-Nat.not_lt,-Nat.not_le,-List.map_take,hr0,hn,hn0,e3,e7,cl (SP _ _ _),Aa]
   repeat' first | with_reducible apply And.intro | intro _
   all_goals first
    | (refine ih (j + 2) (by omega) _ (by omega) ?_; grind)
    | grind
theorem VG {t : TreeC} {h n : I} {es : List (List I)} (hT : TreeV t h n es) (H : Hp) : Gives G 70 [.m (.ag [.i .i64 t.states,h,n])] H (.m (.b (Bp t))) H:=by
 have hrh:=hT.hd.rules
 simp only [Bb] at hrh
 have hrn:=hT.nd.rules
 have hln:=Dn hT
 have gh:=fun H=>AbU hT.hd (by have:=hT.hl; omega) H
 have hl1:=hT.hl
 have hl2:=hT.nl
 refine Ae rfl rfl rfl rfl rfl ?_
 have eO : Bp t = (decide (2 <= t.states /\ t.states <= 8) && (BW t.hood && (decide (1 <= t.nodes.length /\ t.nodes.length <= 4096) && (decide (levAt t.nodes (t.nodes.length - 1) = t.hood.length) && nodesOk t 0 t.nodes)))):=rfl
 by_cases s2 : t.states < 2
 ·have : Bp t = false:=by rw [eO,AcH (by omega)]; rfl
  simp (maxSteps:=2000000) (disch:=omega) [Ad,hrn,s2,this]
 by_cases s8 : 8 < t.states
 ·have : Bp t = false:=by rw [eO,AcH (by omega)]; rfl
  simp (maxSteps:=2000000) (disch:=omega) [Ad,hrn,s2,s8,this]
 cases hh : BW t.hood with
 | false =>
  have : Bp t = false:=by rw [eO,hh]; simp
  rw [hh] at gh
  simp (maxSteps:=2000000) (disch:=omega) [Ad,hrn,s2,s8,cl (gh _),this]
 | true =>
  rw [hh] at gh
  by_cases n1 : (es.length : Int) < 1
  ·have : Bp t = false:=by rw [eO,AcH (by rw [hln]; omega : ¬ (1 <= t.nodes.length /\ t.nodes.length <= 4096))]; simp
   simp (maxSteps:=2000000) (disch:=omega) [Ad,hrn,s2,s8,cl (gh _),n1,this]
  by_cases n2 : (4096 : Int) < es.length
  ·have : Bp t = false:=by rw [eO,AcH (by rw [hln]; omega : ¬ (1 <= t.nodes.length /\ t.nodes.length <= 4096))]; simp
   simp (maxSteps:=2000000) (disch:=omega) [Ad,hrn,s2,s8,cl (gh _),n1,n2,this]
  have hlt1 : es.length - 1 < t.nodes.length:=by omega
  obtain ⟨z0,hz0,_⟩:=Cl hT (AcA hlt1)
  have hle1 : es.length - 1 < es.length:=by omega
  have hle2 : ((es.length - 1 : Nat) : Int) < es.length:=by omega
  have w1 : wr .i64 ((es.length : Int) - 1) = ((es.length - 1 : Nat) : Int):=by rw [Aa (by omega) (by omega)]; omega
  have hlev:=Gy (AcA hlt1)
  have eroot : levAt t.nodes (t.nodes.length - 1) = t.nodes[es.length - 1].1:=by
   rw [<- hlev,hln]
   congr 1
   omega
  have hR : Bp t = (decide (t.nodes[es.length - 1].1 = t.hood.length) && nodesOk t 0 t.nodes):=by
   rw [eO,hh,AcI (by omega : 2 <= t.states /\ t.states <= 8),AcI (by omega : 1 <= t.nodes.length /\ t.nodes.length <= 4096),eroot]
   simp
  have hF : nodesOk t 0 t.nodes = false -> Bp t = false:=fun h=>by rw [hR,h,Bool.and_false]
  simp (maxSteps:=2000000) (disch:=omega) [Ad,hrn,s2,s8,cl (gh _),n1,n2]
  refine (?key : ∀ (i : Nat) (B : List (Nat × List V)),i <= t.nodes.length -> getB B 1 = some [.m (.i .i64 t.states),.m h,.m n] -> nodesOk t 0 t.nodes = nodesOk t i (t.nodes.drop i) -> Run G c70_B1 (S70_1 (.fa 1 0) (.m (.i .i64 es.length)) (.m (.i .i64 (i : Int))) B []) _) 0 _ (AcF _) rfl rfl
  refine Bk (fun i : Nat=>t.nodes.length - i) fun i ih B hi hB hI=>?_
  unfold c70_B1
  cases hx : t.nodes[i]? with
  | none =>
   have : i = es.length:=by have:=AcB.1 hx; omega
   subst this
   rw [<- hln,Ado] at hI
   have hI : nodesOk t 0 t.nodes = true:=hI
   rw [hI,Bool.and_true] at hR
   rw [hR]
   simp (maxSteps:=2000000) (disch:=omega) [hrn,hrh,hB,w1,hz0]
  | some nd =>
   have hlt:=(Al hx).1
   have hlt1 : i < es.length:=by omega
   have hlt2 : (i : Int) < es.length:=by omega
   obtain ⟨z,hz,hzs,hzl,hzb⟩:=Cl hT hx
   have hrz:=hzs.rules
   have hz1:=FY hzs
   simp only [Ck] at hrz
   have wi : wr .i64 ((i : Int) + 1) = ((i + 1 : Nat) : Int):=Aa (by omega) (by omega)
   rw [(Al hx).2,FV] at hI
   have eN : EM t i nd = (decide (1 <= nd.1 /\ nd.1 <= t.hood.length /\ (nd.2.length : Int) = t.states) && nd.2.all (Pv t i nd.1)):=rfl
   by_cases m1 : nd.1 < 1
   ·have:=hF (by rw [hI,eN,AcH (by omega)]; rfl)
    simp (maxSteps:=2000000) (disch:=omega) [Ab,hrn,hlt2,hz,hz1,hB,m1,this]
   by_cases m2 : (t.hood.length : Int) < nd.1
   ·have:=hF (by rw [hI,eN,AcH (by omega)]; rfl)
    simp (maxSteps:=2000000) (disch:=omega) [Ab,hrn,hrh,hlt2,hz,hz1,hB,m1,m2,this]
   by_cases m3 : (nd.2.length : Int) = t.states
   rotate_left
   ·have:=hF (by rw [hI,eN,AcH (by omega)]; rfl)
    simp (maxSteps:=2000000) (disch:=omega) [Ab,hrn,hrh,hlt2,hz,hz1,hrz,hB,m1,m2,m3,this]
   rw [eN,AcI (by omega : 1 <= nd.1 /\ nd.1 <= t.hood.length /\ (nd.2.length : Int) = t.states),AdB] at hI
   simp (maxSteps:=2000000) (disch:=omega) [Ab,hrn,hrh,hlt2,hz,hz1,hrz,hB,m1,m2,m3]
   refine (?key2 : ∀ (j : Nat) (B : List (Nat × List V)),j <= nd.2.length -> getB B 1 = some [.m (.i .i64 t.states),.m h,.m n] -> getB B 5 = some [.m (.i .i64 nd.1),.m z] -> nodesOk t 0 t.nodes = ((nd.2.drop j).all (Pv t i nd.1) && nodesOk t (i + 1) (t.nodes.drop (i + 1))) -> Run G c70_B0 (S70_0 (.fa 1 0) (.m (.i .i64 es.length)) (.m (.i .i64 (i : Int))) (.fa 5 0) (.m (.i .i64 (j : Int))) B []) _) 0 _ (AcF _) (by simpa using hB) (by simp) hI
   clear hI
   refine Bk (fun j : Nat=>nd.2.length - j) fun j ihj B hj hB h5 hI=>?_
   unfold c70_B0
   cases hy : nd.2[j]? with
   | none =>
    have : j = nd.2.length:=by have:=AcB.1 hy; omega
    subst this
    rw [Ado] at hI
    have k:=ih (i + 1) (by omega) B (by omega) hB hI
    have hjs : ¬ (nd.2.length : Int) < t.states:=by omega
    have hjs2 : ¬ ((nd.2.length : Nat) : Int) < t.states:=hjs
    simp (maxSteps:=2000000) (disch:=omega) [hB,hjs,wi,-Int.natCast_add]
    exact k
   | some k =>
    have hjl:=(Al hy).1
    have hjl2 : (j : Int) < nd.2.length:=by omega
    have hjs : (j : Int) < t.states:=by omega
    have hk : nth (Ec nd.2) j = some [.i .i64 k]:=CB hy
    have wj : wr .i64 ((j : Int) + 1) = ((j + 1 : Nat) : Int):=Aa (by omega) (by omega)
    have hkb:=hzb k (AcE hy)
    rw [(Al hy).2,List.all_cons] at hI
    have eE : Pv t i nd.1 k = decide (¬ k < 0 /\ ¬ (nd.1 = 1 /\ t.states <= k) /\ ¬ (1 < nd.1 /\ ((i : Int) <= k \/ ¬ levAt t.nodes k = nd.1 - 1))):=rfl
    have go:=fun (h : Pv t i nd.1 k = true)=>ihj (j + 1) (by omega) B (by omega) hB h5 (by rw [hI,h,AdB])
    have no:=fun (h : Pv t i nd.1 k = false)=>hF (by rw [hI,h]; rfl)
    have wl : wr .i64 (nd.1 - 1) = nd.1 - 1:=Aa (by omega) (by omega)
    by_cases k0 : k < 0
    ·have:=no (by rw [eE]; exact AcH fun h=>h.1 k0)
     simp (maxSteps:=2000000) (disch:=omega) [hrz,hjs,hk,hB,h5,k0,this]
    by_cases l1 : nd.1 = 1
    ·have l2 : ¬ 1 < nd.1:=by omega
     by_cases ks : t.states <= k
     ·have:=no (by rw [eE]; exact AcH fun h=>h.2.1 ⟨l1,ks⟩)
      simp (maxSteps:=2000000) (disch:=omega) [hrz,hjs,hk,hB,h5,k0,l1,ks,this]
     ·have kk:=go (by rw [eE]; exact AcI ⟨k0,fun h=>ks h.2,fun h=>l2 h.1⟩)
      rw [l1] at h5
      simp (maxSteps:=2000000) (disch:=omega) [hrz,hjs,hk,hB,h5,k0,ks,wj,-Int.natCast_add]
      exact kk
    ·have l2 : 1 < nd.1:=by omega
     by_cases ki : (i : Int) <= k
     ·have:=no (by rw [eE]; exact AcH fun h=>h.2.2 ⟨l2,.inl ki⟩)
      simp (maxSteps:=2000000) (disch:=omega) [hrz,hjs,hk,hB,h5,k0,l1,l2,ki,this]
     ·obtain ⟨kn,rfl⟩:=AcQ (show 0 <= k by omega)
      have hkn : kn < t.nodes.length:=by omega
      have hkn1 : kn < es.length:=by omega
      have hkn2 : (kn : Int) < es.length:=by omega
      obtain ⟨z',hz',_⟩:=Cl hT (AcA hkn)
      have hlv:=Gy (AcA hkn)
      have ki2 : ¬ i <= kn:=by omega
      by_cases hle : t.nodes[kn].1 = nd.1 - 1
      ·have kk:=go (by rw [eE]; exact AcI ⟨k0,fun h=>l1 h.1,fun h=>h.2.elim ki fun h2=>h2 (hlv.trans hle)⟩)
       simp (maxSteps:=2000000) (disch:=omega) [hrz,hrn,hjs,hk,hB,h5,k0,l1,l2,ki,hz',wl,hle,wj,-Int.natCast_add]
       exact kk
      ·have:=no (by rw [eE]; exact AcH fun h=>h.2.2 ⟨l2,.inr fun h2=>hle (hlv.symm.trans h2)⟩)
       simp (maxSteps:=2000000) (disch:=omega) [hrz,hrn,hjs,hk,hB,h5,k0,l1,l2,ki,hz',wl,hle,this]
set_option maxHeartbeats 4000000 in
theorem Abj {t : TreeC} {h n : I} {es : List (List I)} (hT : TreeV t h n es) (H : Hp) : Gives G 104 [.m (.ag [.i .i64 t.states,h,n])] H (.m (.b (Bp t))) H:=by
 have hrh:=hT.hd.rules
 simp only [Bb] at hrh
 have hrn:=hT.nd.rules
 have hln:=Dn hT
 have gh:=fun H=>AbT hT.hd (by have:=hT.hl; omega) H
 have hl1:=hT.hl
 have hl2:=hT.nl
 refine Ae rfl rfl rfl rfl rfl ?_
 have eO : Bp t = (decide (2 <= t.states /\ t.states <= 8) && (BW t.hood && (decide (1 <= t.nodes.length /\ t.nodes.length <= 4096) && (decide (levAt t.nodes (t.nodes.length - 1) = t.hood.length) && nodesOk t 0 t.nodes)))):=rfl
 by_cases s2 : t.states < 2
 ·have : Bp t = false:=by rw [eO,AcH (by omega)]; rfl
  simp (maxSteps:=2000000) (disch:=omega) [Ad,hrn,s2,this]
 by_cases s8 : 8 < t.states
 ·have : Bp t = false:=by rw [eO,AcH (by omega)]; rfl
  simp (maxSteps:=2000000) (disch:=omega) [Ad,hrn,s2,s8,this]
 cases hh : BW t.hood with
 | false =>
  have : Bp t = false:=by rw [eO,hh]; simp
  rw [hh] at gh
  simp (maxSteps:=2000000) (disch:=omega) [Ad,hrn,s2,s8,cl (gh _),this]
 | true =>
  rw [hh] at gh
  by_cases n1 : (es.length : Int) < 1
  ·have : Bp t = false:=by rw [eO,AcH (by rw [hln]; omega : ¬ (1 <= t.nodes.length /\ t.nodes.length <= 4096))]; simp
   simp (maxSteps:=2000000) (disch:=omega) [Ad,hrn,s2,s8,cl (gh _),n1,this]
  by_cases n2 : (4096 : Int) < es.length
  ·have : Bp t = false:=by rw [eO,AcH (by rw [hln]; omega : ¬ (1 <= t.nodes.length /\ t.nodes.length <= 4096))]; simp
   simp (maxSteps:=2000000) (disch:=omega) [Ad,hrn,s2,s8,cl (gh _),n1,n2,this]
  have hlt1 : es.length - 1 < t.nodes.length:=by omega
  obtain ⟨z0,hz0,_⟩:=Cl hT (AcA hlt1)
  have hle1 : es.length - 1 < es.length:=by omega
  have hle2 : ((es.length - 1 : Nat) : Int) < es.length:=by omega
  have w1 : wr .i64 ((es.length : Int) - 1) = ((es.length - 1 : Nat) : Int):=by rw [Aa (by omega) (by omega)]; omega
  have hlev:=Gy (AcA hlt1)
  have eroot : levAt t.nodes (t.nodes.length - 1) = t.nodes[es.length - 1].1:=by
   rw [<- hlev,hln]
   congr 1
   omega
  by_cases hroot : t.nodes[es.length - 1].1 = t.hood.length
  rotate_left
  ·have : Bp t = false:=by rw [eO,AcH (by rw [eroot]; exact hroot : ¬ levAt t.nodes (t.nodes.length - 1) = t.hood.length)]; simp
   simp (maxSteps:=2000000) (disch:=omega) [Ad,hrh,hrn,s2,s8,cl (gh _),n1,n2,w1,hz0,hroot,this]
  have hR : Bp t = nodesOk t 0 t.nodes:=by
   rw [eO,hh,AcI (by omega : 2 <= t.states /\ t.states <= 8),AcI (by omega : 1 <= t.nodes.length /\ t.nodes.length <= 4096),AcI (by rw [eroot]; exact hroot : levAt t.nodes (t.nodes.length - 1) = t.hood.length)]
   simp
  rw [hR]
  simp (maxSteps:=2000000) (disch:=omega) [Ad,hrh,hrn,s2,s8,cl (gh _),n1,n2,w1,hz0,hroot]
  refine (?key : ∀ (i : Nat) (B : List (Nat × List V)),i <= t.nodes.length -> getB B 1 = some [.m (.i .i64 t.states),.m h,.m n] -> nodesOk t 0 t.nodes = nodesOk t i (t.nodes.drop i) -> Run G c104_B1 (S104_1 (.fa 1 0) (.m n) (.m (.i .i64 es.length)) (.m (.i .i64 (i : Int))) B []) _) 0 _ (AcF _) rfl rfl
  refine Bk (fun i : Nat=>t.nodes.length - i) fun i ih B hi hB hI=>?_
  unfold c104_B1
  cases hx : t.nodes[i]? with
  | none =>
   have : i = es.length:=by have:=AcB.1 hx; omega
   subst this
   rw [<- hln,Ado] at hI
   have hI : nodesOk t 0 t.nodes = true:=hI
   simp (maxSteps:=2000000) (disch:=omega) [hI]
  | some nd =>
   have hlt:=(Al hx).1
   have hlt1 : i < es.length:=by omega
   have hlt2 : (i : Int) < es.length:=by omega
   obtain ⟨z,hz,hzs,hzl,hzb⟩:=Cl hT hx
   have hrz:=hzs.rules
   have hz1:=FY hzs
   simp only [Ck] at hrz
   have wi : wr .i64 ((i : Int) + 1) = ((i + 1 : Nat) : Int):=Aa (by omega) (by omega)
   rw [(Al hx).2,FV] at hI
   have eN : EM t i nd = (decide (1 <= nd.1 /\ nd.1 <= t.hood.length /\ (nd.2.length : Int) = t.states) && nd.2.all (Pv t i nd.1)):=rfl
   by_cases m1 : nd.1 < 1
   ·have : nodesOk t 0 t.nodes = false:=by rw [hI,eN,AcH (by omega)]; rfl
    simp (maxSteps:=2000000) (disch:=omega) [Ab,hrn,hlt2,hz,hz1,m1,this]
   by_cases m2 : (t.hood.length : Int) < nd.1
   ·have : nodesOk t 0 t.nodes = false:=by rw [hI,eN,AcH (by omega)]; rfl
    simp (maxSteps:=2000000) (disch:=omega) [Ab,hrn,hrh,hlt2,hz,hz1,hB,m1,m2,this]
   by_cases m3 : (nd.2.length : Int) = t.states
   rotate_left
   ·have : nodesOk t 0 t.nodes = false:=by rw [hI,eN,AcH (by omega)]; rfl
    simp (maxSteps:=2000000) (disch:=omega) [Ab,hrn,hrh,hlt2,hz,hz1,hrz,hB,m1,m2,m3,this]
   rw [eN,AcI (by omega : 1 <= nd.1 /\ nd.1 <= t.hood.length /\ (nd.2.length : Int) = t.states),AdB] at hI
   simp (maxSteps:=2000000) (disch:=omega) [Ab,hrn,hrh,hlt2,hz,hz1,hrz,hB,m1,m2,m3]
   rw [<- m3]
   refine (?key2 : ∀ (j : Nat) (B : List (Nat × List V)),j <= nd.2.length -> getB B 1 = some [.m (.i .i64 t.states),.m h,.m n] -> getB B 5 = some [.m (.i .i64 nd.1),.m z] -> nodesOk t 0 t.nodes = ((nd.2.drop j).all (Pv t i nd.1) && nodesOk t (i + 1) (t.nodes.drop (i + 1))) -> Run G c104_B0 (S104_0 (.fa 1 0) (.m (.i .i64 (i : Int))) (.fa 5 0) (.m n) (.m (.i .i64 es.length)) (.m (.i .i64 (i : Int))) (.m z) (.m (.i .i64 nd.2.length)) (.m (.i .i64 (j : Int))) B []) _) 0 _ (AcF _) (by simpa using hB) (by simp) hI
   clear hI
   refine Bk (fun j : Nat=>nd.2.length - j) fun j ihj B hj hB h5 hI=>?_
   unfold c104_B0
   cases hy : nd.2[j]? with
   | none =>
    have : j = nd.2.length:=by have:=AcB.1 hy; omega
    subst this
    rw [Ado] at hI
    have k:=ih (i + 1) (by omega) B (by omega) hB hI
    simp (maxSteps:=2000000) (disch:=omega) [wi,-Int.natCast_add]
    exact k
   | some k =>
    have hjl:=(Al hy).1
    have hjl2 : (j : Int) < nd.2.length:=by omega
    have hk : nth (Ec nd.2) j = some [.i .i64 k]:=CB hy
    have wj : wr .i64 ((j : Int) + 1) = ((j + 1 : Nat) : Int):=Aa (by omega) (by omega)
    have hkb:=hzb k (AcE hy)
    rw [(Al hy).2,List.all_cons] at hI
    have eE : Pv t i nd.1 k = decide (¬ k < 0 /\ ¬ (nd.1 = 1 /\ t.states <= k) /\ ¬ (1 < nd.1 /\ ((i : Int) <= k \/ ¬ levAt t.nodes k = nd.1 - 1))):=rfl
    have go:=fun (h : Pv t i nd.1 k = true)=>ihj (j + 1) (by omega) B (by omega) hB h5 (by rw [hI,h,AdB])
    have no:=fun (h : Pv t i nd.1 k = false)=>(by rw [hI,h]; rfl : nodesOk t 0 t.nodes = false)
    have wl : wr .i64 (nd.1 - 1) = nd.1 - 1:=Aa (by omega) (by omega)
    by_cases k0 : k < 0
    ·have:=no (by rw [eE]; exact AcH fun h=>h.1 k0)
     simp (maxSteps:=2000000) (disch:=omega) [hrz,hjl2,hk,k0,this]
    by_cases l1 : nd.1 = 1
    ·have l2 : ¬ 1 < nd.1:=by omega
     by_cases ks : t.states <= k
     ·have:=no (by rw [eE]; exact AcH fun h=>h.2.1 ⟨l1,ks⟩)
      simp (maxSteps:=2000000) (disch:=omega) [hrz,hjl2,hk,hB,h5,k0,l1,ks,this]
     ·have kk:=go (by rw [eE]; exact AcI ⟨k0,fun h=>ks h.2,fun h=>l2 h.1⟩)
      rw [l1] at h5
      simp (maxSteps:=2000000) (disch:=omega) [hrz,hjl2,hk,hB,h5,k0,ks,wj,-Int.natCast_add]
      exact kk
    ·have l2 : 1 < nd.1:=by omega
     by_cases ki : (i : Int) <= k
     ·have:=no (by rw [eE]; exact AcH fun h=>h.2.2 ⟨l2,.inl ki⟩)
      simp (maxSteps:=2000000) (disch:=omega) [hrz,hjl2,hk,h5,k0,l1,l2,ki,this]
     ·obtain ⟨kn,rfl⟩:=AcQ (show 0 <= k by omega)
      have hkn : kn < t.nodes.length:=by omega
      have hkn1 : kn < es.length:=by omega
      have hkn2 : (kn : Int) < es.length:=by omega
      obtain ⟨z',hz',_⟩:=Cl hT (AcA hkn)
      have hlv:=Gy (AcA hkn)
      have ki2 : ¬ i <= kn:=by omega
      by_cases hle : t.nodes[kn].1 = nd.1 - 1
      ·have kk:=go (by rw [eE]; exact AcI ⟨k0,fun h=>l1 h.1,fun h=>h.2.elim ki fun h2=>h2 (hlv.trans hle)⟩)
       simp (maxSteps:=2000000) (disch:=omega) [hrz,hrn,hjl2,hk,hB,h5,k0,l1,l2,ki,hz',wl,hle,wj,-Int.natCast_add]
       exact kk
      ·have:=no (by rw [eE]; exact AcH fun h=>h.2.2 ⟨l2,.inr fun h2=>hle (hlv.symm.trans h2)⟩)
       simp (maxSteps:=2000000) (disch:=omega) [hrz,hrn,hjl2,hk,hB,h5,k0,l1,l2,ki,hz',wl,hle,this]
theorem Jr {nodes : List (Int × List Int)} {j : Nat} {nd : Int × List Int} (h : nodes[j]? = some nd) {s : Nat} {k : Int} (hk : nd.2[s]? = some k) : Fp nodes (j : Int) (s : Int) = k:=by
 unfold Fp
 rw [show ((j : Int)).toNat = j from rfl,h]
 dsimp only
 rw [show ((s : Int)).toNat = s from rfl,hk]
 rfl
set_option maxHeartbeats 2000000 in
theorem XL {t : TreeC} {h n w : I} {es : List (List I)} (hT : TreeV t h n es) (hR : TreeR t) {ins : List Int} (hw : IsSl w (Ec ins)) (hl : ins.length <= t.hood.length) (hs : ∀ s,s ∈ ins -> 0 <= s /\ s < t.states) (H : Hp) : Gives G 105 [.m (.ag [.i .i64 t.states,h,n]),.m w] H (.m (.i .i64 (Jj t ins))) H:=by
 have hrn:=hT.nd.rules
 have hln:=Dn hT
 have hl2:=hT.nl
 have hrw:=hw.rules
 simp only [Ck] at hrw
 have hh:=BN hR.hood
 have n1:=hR.n1
 have n2:=hR.n2
 have w1 : wr .i64 ((es.length : Int) - 1) = (t.nodes.length : Int) - 1:=by rw [Aa (by omega) (by omega)]; omega
 refine Ae rfl rfl rfl rfl rfl ?_
 simp (maxSteps:=2000000) (disch:=omega) [hrn,hrw,w1]
 refine (?key : ∀ (i : Nat) (k : Int) (B : List (Nat × List V)),i <= ins.length -> getB B 2 = some [.m (.i .i64 t.states),.m h,.m n] -> k = Jj t (ins.take i) -> Run G c105_B0 (S105_0 (.fa 2 0) (.m (.i .i64 k)) (.m w) (.m (.i .i64 ins.length)) (.m (.i .i64 (i : Int))) B []) _) 0 _ _ (AcF _) rfl rfl
 refine Bk (fun i : Nat=>ins.length - i) fun i ih k B hi hB hk=>?_
 unfold c105_B0
 cases hx : ins[i]? with
 | none =>
  have : i = ins.length:=by have:=AcB.1 hx; omega
  subst this
  rw [AcV] at hk
  simp (maxSteps:=2000000) (disch:=omega) [hk]
 | some s =>
  have hlt:=(Al hx).1
  have hlt2 : (i : Int) < ins.length:=by omega
  have hsv:=hs s (AcE hx)
  have hsx : nth (Ec ins) i = some [.i .i64 s]:=CB hx
  have htl : (ins.take i).length = i:=by rw [AcL]; omega
  obtain ⟨j,nd,hkj,hnd,hlev,hlen⟩:=KD hR i (ins.take i) htl (by omega) fun x hx=>hs x (AdH hx)
  rw [<- hk] at hkj
  obtain ⟨z,hz,hzs,hzl,_⟩:=Cl hT hnd
  have hrz:=hzs.rules
  simp only [Ck] at hrz
  have hjl:=(Al hnd).1
  have hjl1 : j < es.length:=by omega
  have hjl2 : (j : Int) < es.length:=by omega
  obtain ⟨sn,rfl⟩:=AcQ hsv.1
  have hsn : sn < nd.2.length:=by omega
  have hsn2 : (sn : Int) < nd.2.length:=by omega
  obtain ⟨k2,hk2⟩ : ∃ k2,nd.2[sn]? = some k2:=⟨_,AcA hsn⟩
  have hk3 : nth (Ec nd.2) sn = some [.i .i64 k2]:=CB hk2
  have wi : wr .i64 ((i : Int) + 1) = ((i + 1 : Nat) : Int):=Aa (by omega) (by omega)
  have e1 : Jj t (ins.take (i + 1)) = k2:=by
   rw [Ap hx,Ee,<- hk,hkj]
   exact Jr hnd hk2
  have kk:=ih (i + 1) (by omega) k2 B (by omega) hB e1.symm
  rw [hkj]
  simp (maxSteps:=2000000) (disch:=omega) [hrw,hrn,hlt2,hsx,hB,hz,hrz,hk3,wi,-Int.natCast_add]
  exact kk
theorem Jn {t : TreeC} {h n : I} {es : List (List I)} (hT : TreeV t h n es) (H : Hp) : Gives G 61 [.m (.ag [.i .i64 t.states,h,n])] H (.m (.b (AI t))) H:=by
 have g1:=fun H=>Abj hT H
 have hrh:=hT.hd.rules
 simp only [Bb] at hrh
 refine Ae rfl rfl rfl rfl rfl ?_
 have eQ : AI t = (Bp t && decide (Jj t (List.replicate t.hood.length 0) = 0)):=rfl
 cases ht : Bp t with
 | false =>
  rw [ht] at g1 eQ
  have eQ : AI t = false:=eQ
  simp (maxSteps:=2000000) (disch:=omega) [Ad,cl (g1 _),eQ]
 | true =>
  rw [ht] at g1 eQ
  rw [AdB] at eQ
  have hR:=Gq ht
  have hh:=BN hR.hood
  have hz : ∀ s,s ∈ List.replicate t.hood.length (0 : Int) -> 0 <= s /\ s < t.states:=fun s hs=>by
   have:=(List.mem_replicate.1 hs).2
   have:=hR.s2
   omega
  have hrow : (List.replicate t.hood.length ([V.m (.i .i64 0)] : List V)) = Bh (List.replicate t.hood.length 0):=by unfold Bh; rw [List.map_replicate]
  have gv0:=XL hT hR (Be (Ec (List.replicate t.hood.length 0))) (by simp) hz []
  have gv:=Ba (H:=[Row.cs 3 1 (Bh (List.replicate t.hood.length 0)) 0 false]) (vs:=[.m (.ag [.i .i64 t.states,h,n]),.sl 0 t.hood.length 1 0 t.hood.length true]) (is:=[.ag [.i .i64 t.states,h,n],.sl (Ec (List.replicate t.hood.length 0))]) rfl rfl gv0 (by
   have:=Us (r:=0) (ver:=t.hood.length) (st:=0) (len:=t.hood.length) (lim:=true) (base:=0) (fz:=false) (l:=List.replicate t.hood.length 0) (H:=[Row.cs 3 1 (Bh (List.replicate t.hood.length 0)) 0 false]) rfl (AcF _) 18
   rw [List.drop_zero,AcP (by simp)] at this
   show Option.bind (some _) (fun _=>Option.bind (Option.bind (view 20 _ _) _) _) = _
   rw [this]
   rfl) (.inr ⟨by simp [DN,GP],rfl⟩)
  rw [eQ]
  have hb : (t.hood.length : Int) <= 17592186044416:=by omega
  simp (maxSteps:=2000000) (disch:=omega) [Ac,Ab,Ad,cl (g1 _),hrh,hrow,cl gv]
def Lf (p : List Ce) : Int:=p.foldl (fun m c=>max m c.s) 0
theorem KF (p : List Ce) (c : Ce) : Lf (p ++ [c]) = max (Lf p) c.s:=by simp [Lf]
theorem Ht {k : Int} (hk : 0 < k) : ∀ n (p : List Ce),p.length = n -> (Lf p < k ↔ ∀ c,c ∈ p -> c.s < k)
 | 0,p,h=>by
  rw [AcT h]
  simp [Lf,hk]
 | n + 1,p,h=>by
  obtain ⟨q,c,rfl⟩ : ∃ q c,p = q ++ [c]:=⟨p.dropLast,p.getLast (by intro e; rw [e] at h; simp at h),(List.dropLast_concat_getLast _).symm⟩
  have ih:=Ht hk n q (by simpa using h)
  rw [KF]
  constructor
  ·intro h1 d hd
   rcases Adx.1 hd with hd | hd
   ·exact ih.1 (by omega) d hd
   ·rw [AcZ.1 hd]; omega
  ·intro h1
   have:=ih.2 fun d hd=>h1 d (by simp [hd])
   have:=h1 c (by simp)
   omega
theorem Abk {v : I} {p : List Ce} (hv : IsSl v (Ag p)) (hl : (p.length : Int) <= 9223372036854775806) (H : Hp) : Gives G 63 [.m v] H (.m (.i .i64 (Lf p))) H:=by
 have hr:=hv.rules
 simp only [show (Ag p).length = p.length from by simp [Ag]] at hr
 refine Ae rfl rfl rfl rfl rfl ?_
 simp (maxSteps:=2000000) (disch:=omega) [hr]
 refine (?key : ∀ (i : Nat) (m : Int) (B : List (Nat × List V)),i <= p.length -> m = Lf (p.take i) -> Run G c63_B0 (S63_0 (.m v) (.m (.i .i64 m)) (.m (.i .i64 p.length)) (.m (.i .i64 (i : Int))) B []) _) 0 0 _ (AcF _) rfl
 refine Bk (fun i : Nat=>p.length - i) fun i ih m B hi hm=>?_
 unfold c63_B0
 cases hx : p[i]? with
 | none =>
  have : i = p.length:=by have:=AcB.1 hx; omega
  subst this
  rw [AcV] at hm
  simp (maxSteps:=2000000) (disch:=omega) [hm]
 | some c =>
  have hlt:=(Al hx).1
  have hlt' : (i : Int) < p.length:=by omega
  have hn:=An hx
  have wi : wr .i64 ((i : Int) + 1) = ((i + 1 : Nat) : Int):=Aa (by omega) (by omega)
  have k:=ih (i + 1) (by omega) (max m c.s) B (by omega) (by rw [Ap hx,KF,<- hm])
  simp (maxSteps:=2000000) (disch:=omega) [hr,hlt',hn,wi,-Int.natCast_add]
  exact k
def BR (t : TreeC) (p : List Ce) : Int:=if AI t = true then if AP p = true then if Lf p < t.states then 0 else 10 else 2 else 11
theorem SM {t : TreeC} {h n v : I} {es : List (List I)} {p : List Ce} (hT : TreeV t h n es) (hv : IsSl v (Ag p)) (hl : (p.length : Int) <= 9223372036854775806) (H : Hp) : Gives G 81 [.m (.ag [.i .i64 t.states,h,n]),.m v] H (.m (.i .i64 (BR t p))) H:=by
 have g1:=fun H=>Jn hT H
 have g2:=fun H=>Da hv (by omega) H
 have g3:=fun H=>Abk hv hl H
 refine Ae rfl rfl rfl rfl rfl ?_
 unfold BR
 cases hq : AI t with
 | false =>
  rw [hq] at g1
  simp (maxSteps:=2000000) (disch:=omega) [cl (g1 _)]
 | true =>
  rw [hq] at g1
  cases hr : AP p with
  | false =>
   rw [hr] at g2
   simp (maxSteps:=2000000) (disch:=omega) [cl (g1 _),cl (g2 _)]
  | true =>
   rw [hr] at g2
   by_cases ht : Lf p < t.states
   ·have ht2 : ¬ t.states <= Lf p:=by omega
    simp (maxSteps:=2000000) (disch:=omega) [cl (g1 _),cl (g2 _),cl (g3 _),ht,ht2]
   ·have ht2 : t.states <= Lf p:=by omega
    simp (maxSteps:=2000000) (disch:=omega) [cl (g1 _),cl (g2 _),cl (g3 _),ht,ht2]
theorem BI {t : TreeC} {p : List Ce} (h : BR t p = 0) : AI t = true /\ AP p = true /\ Gi t p:=by
 unfold BR at h
 split at h
 ·rename_i hq
  split at h
  ·rename_i hr
   split at h
   ·rename_i ht
    have:=(Ht (by have:=(Db hq).s2; omega) _ p rfl).1 ht
    refine ⟨hq,hr,fun c hc=>⟨?_,this c hc⟩⟩
    have:=(Cs hr).2.1 c hc
    unfold Cj at this
    simp only [Acx,AcK] at this
    omega
   ·cases h
  ·cases h
 ·cases h
theorem Yi (x y : Int) (H : Hp) : Gives G 119 [.m (.ag [.i .i64 x,.i .i64 y])] H (.m (.b (AE x y))) H:=by
 refine Ae rfl rfl rfl rfl rfl ?_
 have e : AE x y = (decide (max x y <= 1048576) && decide (-1048576 <= min x y)):=by
  unfold AE
  rw [Adg]
  simp only [Acx,AcK]
  omega
 rw [e]
 by_cases h1 : max x y <= 1048576
 ·simp (maxSteps:=2000000) (disch:=omega) [h1]
 ·simp (maxSteps:=2000000) (disch:=omega) [h1]
def fzm (m : List ((Int × Int) × Int)) : I:=.mp (m.map fun e=>[ekP e.1,.i .i64 e.2])
theorem XK {H : Hp} {r : Nat} {m : List ((Int × Int) × Int)} (h : nth H r = some (mPI m)) (k : Nat) : view (k + 2) H (.mp r) = some (fzm m):=by
 show Option.bind (nth H r) _ = _
 rw [h]
 show Option.bind (Ak (fun (p : I × V)=>(view (k + 1) H p.2).bind fun x=>some [p.1,x]) (m.map fun p=>(ekP p.1,evI p.2))) _ = _
 have e : Ak (fun (p : I × V)=>(view (k + 1) H p.2).bind fun x=>some [p.1,x]) (m.map fun p=>(ekP p.1,evI p.2)) = some (m.map fun e=>[ekP e.1,.i .i64 e.2]):=by
  clear h
  induction m with
  | nil=>rfl
  | cons a r ih =>
   show Option.bind (some [ekP a.1,I.i .i64 a.2]) _ = _
   simp only [AcG,Adi]
   show Option.bind (Ak _ (r.map fun p=>(ekP p.1,evI p.2))) _ = _
   rw [ih]
   rfl
 rw [e]
 rfl
theorem NF : ∀ m : List ((Int × Int) × Int),pairs (m.map fun e=>[ekP e.1,I.i .i64 e.2]) = some (m.map fun p=>(ekP p.1,evI p.2))
 | []=>rfl
 | a :: r=>by
  show Option.bind (pairs (r.map fun e=>[ekP e.1,I.i .i64 e.2])) _ = _
  rw [NF r]
  rfl
theorem AbY (M : Mem) (m : List ((Int × Int) × Int)) (x y : Int) : readX M (.lkp ⟨true,[1,1]⟩ [.m (.i .i64 0)] false false) [.m (fzm m),.m (.ag [.i .i64 x,.i .i64 y])] = some (.m (.i .i64 ((CW m (x,y)).getD 0))):=by
 have h1:=Xg m x y false
 have h2 : readX M (.lkp ⟨true,[1,1]⟩ [.m (.i .i64 0)] false false) [.m (fzm m),.m (.ag [.i .i64 x,.i .i64 y])] = (pairs (m.map fun e=>[ekP e.1,I.i .i64 e.2])).bind fun es=>Ff ⟨true,[1,1]⟩ [.m (.i .i64 0)] false false (.mp es false) (.ag [.i .i64 x,.i .i64 y]):=rfl
 rw [h2,NF]
 exact h1
theorem of_m {v : I} {p : List Ce} (hv : IsSl v (Ag p)) (hr : AP p = true) (H : Hp) : Gives G 117 [.m v] H (.m (fzm (Jp p))) H:=by
 obtain ⟨pw,hg,hl⟩:=Cs hr
 have hrv:=hv.rules
 simp only [show (Ag p).length = p.length from by simp [Ag]] at hrv
 refine Ae rfl rfl rfl rfl rfl ?_
 simp (maxSteps:=2000000) (disch:=omega) [hrv]
 refine (?key : ∀ (i : Nat) (B : List (Nat × List V)),i <= p.length -> Run G c117_B0 (S117_0 (.mp 0) (.m v) (.m (.i .i64 p.length)) (.m (.i .i64 (i : Int))) B [mPI (Jp (p.take i))]) _) 0 _ (AcF _)
 refine Bk (fun i : Nat=>p.length - i) fun i ih B hi=>?_
 unfold c117_B0
 cases hx : p[i]? with
 | none =>
  have : i = p.length:=by have:=AcB.1 hx; omega
  subst this
  rw [AcV]
  have hvw : viewR [mPI (Jp p)] (.mp 0) = some (.m (fzm (Jp p))):=by
   show (view 20 _ _).bind _ = _
   rw [XK (H:=[mPI (Jp p)]) (r:=0) (m:=Jp p) rfl 18]
   rfl
  simp (maxSteps:=2000000) (disch:=omega) [hvw]
 | some c =>
  have hlt:=(Al hx).1
  have hlt' : (i : Int) < p.length:=by omega
  have hn:=An hx
  have wi : wr .i64 ((i : Int) + 1) = ((i + 1 : Nat) : Int):=Aa (by omega) (by omega)
  have pw':=pw
  rw [<- List.take_append_drop i p,(Al hx).2] at pw'
  have hm:=Sp pw'
  rw [<- Ap hx] at hm
  have k:=ih (i + 1) (by omega)
  simp (maxSteps:=2000000) (disch:=omega) [Ab,hrv,hlt',hn,wi,hm,-Int.natCast_add]
  exact k _ (by omega)
set_option maxHeartbeats 2000000 in
theorem AbO {t : TreeC} {h n : I} {es : List (List I)} (hT : TreeV t h n es) (hR : TreeR t) {p : List Ce} (hp : Gi t p) (x y : Int) (hx : -10000000 <= x /\ x <= 10000000) (hy : -10000000 <= y /\ y <= 10000000) (H : Hp) : Gives G 118 [.m (fzm (Jp p)),.m (.ag [.i .i64 t.states,h,n]),.m (.ag [.i .i64 x,.i .i64 y])] H (.m (.i .i64 (Bg t p x y))) H:=by
 have hrn:=hT.nd.rules
 have hln:=Dn hT
 have hl2:=hT.nl
 have hrh:=hT.hd.rules
 simp only [Bb] at hrh
 have hh:=BN hR.hood
 have n1:=hR.n1
 have n2:=hR.n2
 have w1 : wr .i64 ((es.length : Int) - 1) = (t.nodes.length : Int) - 1:=by rw [Aa (by omega) (by omega)]; omega
 refine Ae rfl rfl rfl rfl rfl ?_
 simp (maxSteps:=2000000) (disch:=omega) [hrn,hrh,w1]
 refine (?key : ∀ (i : Nat) (k : Int) (B : List (Nat × List V)),i <= t.hood.length -> getB B 4 = some [.m (.i .i64 t.states),.m h,.m n] -> getB B 5 = some [.m (.i .i64 x),.m (.i .i64 y)] -> k = Jj t ((KP t p x y).take i) -> Run G c118_B0 (S118_0 (.m (fzm (Jp p))) (.fa 4 0) (.fa 5 0) (.m (.i .i64 k)) (.m h) (.m (.i .i64 t.hood.length)) (.m (.i .i64 (i : Int))) B []) _) 0 _ _ (AcF _) rfl rfl rfl
 refine Bk (fun i : Nat=>t.hood.length - i) fun i ih k B hi hB h5 hk=>?_
 unfold c118_B0
 cases ho : t.hood[i]? with
 | none =>
  have : i = t.hood.length:=by have:=AcB.1 ho; omega
  subst this
  rw [AcP (by rw [Fq]; exact AcD _)] at hk
  have hk : k = Bg t p x y:=hk
  simp (maxSteps:=2000000) (disch:=omega) [hk]
 | some o =>
  have hlt:=(Al ho).1
  have hlt2 : (i : Int) < t.hood.length:=by omega
  have hox:=BX ho
  have hob:=Dp hR.hood o (AcE ho)
  have hs : (KP t p x y)[i]? = some (CU p (x + o.1) (y + o.2)):=by unfold KP; rw [AcY,ho]; rfl
  have hsv:=Ju hR hp (x + o.1) (y + o.2)
  have htl : ((KP t p x y).take i).length = i:=by rw [AcL,Fq]; omega
  obtain ⟨j,nd,hkj,hnd,hlev,hlen⟩:=KD hR i ((KP t p x y).take i) htl (by omega) fun z hz=>Js hR hp z (AdH hz)
  rw [<- hk] at hkj
  obtain ⟨z,hz,hzs,hzl,_⟩:=Cl hT hnd
  have hrz:=hzs.rules
  simp only [Ck] at hrz
  have hjl:=(Al hnd).1
  have hjl1 : j < es.length:=by omega
  have hjl2 : (j : Int) < es.length:=by omega
  have hmf:=OY p (x + o.1) (y + o.2)
  have hfz:=fun M=>AbY M (Jp p) (x + o.1) (y + o.2)
  rw [hmf] at hfz
  obtain ⟨sn,hsn0⟩:=AcQ hsv.1
  rw [hsn0] at hs hsv hfz
  have hsn : sn < nd.2.length:=by omega
  have hsn2 : (sn : Int) < nd.2.length:=by omega
  obtain ⟨k2,hk2⟩ : ∃ k2,nd.2[sn]? = some k2:=⟨_,AcA hsn⟩
  have hk3 : nth (Ec nd.2) sn = some [.i .i64 k2]:=CB hk2
  have wi : wr .i64 ((i : Int) + 1) = ((i + 1 : Nat) : Int):=Aa (by omega) (by omega)
  have wx : wr .i64 (x + o.1) = x + o.1:=Aa (by omega) (by omega)
  have wy : wr .i64 (y + o.2) = y + o.2:=Aa (by omega) (by omega)
  have e1 : Jj t ((KP t p x y).take (i + 1)) = k2:=by
   rw [Ap hs,Ee,<- hk,hkj]
   exact Jr hnd hk2
  have kk:=fun B'=>ih (i + 1) (by omega) k2 B' (by omega)
  rw [hkj]
  simp (maxSteps:=2000000) (disch:=omega) [Ab,hrh,hrn,hlt2,hox,hB,h5,hz,hrz,wx,wy,hfz,hk3,wi,-Int.natCast_add]
  exact kk _ (by simpa using hB) (by simpa using h5) e1.symm
set_option maxHeartbeats 2000000 in
theorem Rq {t : TreeC} {h n w : I} {es : List (List I)} (hT : TreeV t h n es) (hR : TreeR t) {ins : List Int} (hw : IsSl w (Ec ins)) (hl : ins.length <= t.hood.length) (hs : ∀ s,s ∈ ins -> 0 <= s /\ s < t.states) (H : Hp) : Gives G 112 [.m (.ag [.i .i64 t.states,h,n]),.m w] H (.m (.i .i64 (Jj t ins))) H:=by
 have hrn:=hT.nd.rules
 have hln:=Dn hT
 have hl2:=hT.nl
 have hrw:=hw.rules
 simp only [Ck] at hrw
 have hh:=BN hR.hood
 have n1:=hR.n1
 have n2:=hR.n2
 have w1 : wr .i64 ((es.length : Int) - 1) = (t.nodes.length : Int) - 1:=by rw [Aa (by omega) (by omega)]; omega
 refine Ae rfl rfl rfl rfl rfl ?_
 simp (maxSteps:=2000000) (disch:=omega) [hrn,w1]
 refine (?key : ∀ (i : Nat) (k : Int) (B : List (Nat × List V)),i <= ins.length -> getB B 2 = some [.m (.i .i64 t.states),.m h,.m n] -> k = Jj t (ins.take i) -> Run G c112_B0 (S112_0 (.m w) (.fa 2 0) (.m (.i .i64 k)) (.m (.i .i64 (i : Int))) B []) _) 0 _ _ (AcF _) rfl rfl
 refine Bk (fun i : Nat=>ins.length - i) fun i ih k B hi hB hk=>?_
 unfold c112_B0
 cases hx : ins[i]? with
 | none =>
  have : i = ins.length:=by have:=AcB.1 hx; omega
  subst this
  rw [AcV] at hk
  simp (maxSteps:=2000000) (disch:=omega) [hrw,hk]
 | some s =>
  have hlt:=(Al hx).1
  have hlt2 : (i : Int) < ins.length:=by omega
  have hsv:=hs s (AcE hx)
  have hsx : nth (Ec ins) i = some [.i .i64 s]:=CB hx
  have htl : (ins.take i).length = i:=by rw [AcL]; omega
  obtain ⟨j,nd,hkj,hnd,hlev,hlen⟩:=KD hR i (ins.take i) htl (by omega) fun x hx=>hs x (AdH hx)
  rw [<- hk] at hkj
  obtain ⟨z,hz,hzs,hzl,_⟩:=Cl hT hnd
  have hrz:=hzs.rules
  simp only [Ck] at hrz
  have hjl:=(Al hnd).1
  have hjl1 : j < es.length:=by omega
  have hjl2 : (j : Int) < es.length:=by omega
  obtain ⟨sn,rfl⟩:=AcQ hsv.1
  have hsn : sn < nd.2.length:=by omega
  have hsn2 : (sn : Int) < nd.2.length:=by omega
  obtain ⟨k2,hk2⟩ : ∃ k2,nd.2[sn]? = some k2:=⟨_,AcA hsn⟩
  have hk3 : nth (Ec nd.2) sn = some [.i .i64 k2]:=CB hk2
  have wi : wr .i64 ((i : Int) + 1) = ((i + 1 : Nat) : Int):=Aa (by omega) (by omega)
  have e1 : Jj t (ins.take (i + 1)) = k2:=by
   rw [Ap hx,Ee,<- hk,hkj]
   exact Jr hnd hk2
  have kk:=ih (i + 1) (by omega) k2 B (by omega) hB e1.symm
  rw [hkj]
  simp (maxSteps:=2000000) (disch:=omega) [hrw,hrn,hlt2,hsx,hB,hz,hrz,hk3,wi,-Int.natCast_add]
  exact kk
theorem Acd {t : TreeC} {h n w : I} {es : List (List I)} (hT : TreeV t h n es) (hO : Bp t = true) {ins : List Int} (hw : IsSl w (Ec ins)) (hl : ins.length = t.hood.length) (hs : ∀ s,s ∈ ins -> 0 <= s /\ s < t.states) (H : Hp) : Gives G 71 [.m (.ag [.i .i64 t.states,h,n]),.m w] H (.tu [.m (.i .i64 (Jj t ins)),.m (.i .i64 0)]) H:=by
 have hR:=Gq hO
 have g1:=fun H=>VG hT H
 rw [hO] at g1
 have g2:=fun H=>Rq hT hR hw (by omega) hs H
 have hh:=BN hR.hood
 have hrw:=hw.rules
 simp only [Ck] at hrw
 have hrh:=hT.hd.rules
 simp only [Bb] at hrh
 have hl2 : (ins.length : Int) = t.hood.length:=by omega
 refine Ae rfl rfl rfl rfl rfl ?_
 simp (maxSteps:=2000000) (disch:=omega) [cl (g1 _),hrw,hrh,hl]
 refine (?key : ∀ (i : Nat) (B : List (Nat × List V)),i <= ins.length -> getB B 2 = some [.m (.i .i64 t.states),.m h,.m n] -> Run G c71_B0 (S71_0 (.m w) (.fa 2 0) (.m (.i .i64 (i : Int))) B []) _) 0 _ (AcF _) rfl
 refine Bk (fun i : Nat=>ins.length - i) fun i ih B hi hB=>?_
 unfold c71_B0
 cases hx : ins[i]? with
 | none =>
  have : i = ins.length:=by have:=AcB.1 hx; omega
  subst this
  simp (maxSteps:=2000000) (disch:=omega) [hrw,hB,cl (g2 _)]
 | some s =>
  have hlt:=(Al hx).1
  have hlt2 : (i : Int) < ins.length:=by omega
  have hsv:=hs s (AcE hx)
  have h1 : ¬ s < 0:=by omega
  have h2 : ¬ t.states <= s:=by omega
  have hsx : nth (Ec ins) i = some [.i .i64 s]:=CB hx
  have wi : wr .i64 ((i : Int) + 1) = ((i + 1 : Nat) : Int):=Aa (by omega) (by omega)
  have kk:=ih (i + 1) (by omega) B (by omega) hB
  simp (maxSteps:=2000000) (disch:=omega) [hrw,hlt2,hsx,hB,h1,h2,wi,-Int.natCast_add]
  exact kk
theorem Jo {t : TreeC} {h n : I} {es : List (List I)} (hT : TreeV t h n es) (H : Hp) : Gives G 36 [.m (.ag [.i .i64 t.states,h,n])] H (.m (.b (AI t))) H:=by
 have g1:=fun H=>VG hT H
 have hrh:=hT.hd.rules
 simp only [Bb] at hrh
 refine Ae rfl rfl rfl rfl rfl ?_
 have eQ : AI t = (Bp t && decide (Jj t (List.replicate t.hood.length 0) = 0)):=rfl
 cases ht : Bp t with
 | false =>
  rw [ht] at g1 eQ
  have eQ : AI t = false:=eQ
  simp (maxSteps:=2000000) (disch:=omega) [cl (g1 _),eQ]
 | true =>
  rw [ht] at g1 eQ
  rw [AdB] at eQ
  have hR:=Gq ht
  have hh:=BN hR.hood
  have hz : ∀ s,s ∈ List.replicate t.hood.length (0 : Int) -> 0 <= s /\ s < t.states:=fun s hs=>by
   have:=(List.mem_replicate.1 hs).2
   have:=hR.s2
   omega
  have hrow : (List.replicate t.hood.length ([V.m (.i .i64 0)] : List V)) = Bh (List.replicate t.hood.length 0):=by unfold Bh; rw [List.map_replicate]
  have gv0:=Acd hT ht (Be (Ec (List.replicate t.hood.length 0))) (by simp) hz []
  have gv:=Ba (H:=[Row.cs 3 1 (Bh (List.replicate t.hood.length 0)) 0 false]) (vs:=[.m (.ag [.i .i64 t.states,h,n]),.sl 0 t.hood.length 1 0 t.hood.length true]) (is:=[.ag [.i .i64 t.states,h,n],.sl (Ec (List.replicate t.hood.length 0))]) rfl rfl gv0 (by
   have:=Us (r:=0) (ver:=t.hood.length) (st:=0) (len:=t.hood.length) (lim:=true) (base:=0) (fz:=false) (l:=List.replicate t.hood.length 0) (H:=[Row.cs 3 1 (Bh (List.replicate t.hood.length 0)) 0 false]) rfl (AcF _) 18
   rw [List.drop_zero,AcP (by simp)] at this
   show Option.bind (some _) (fun _=>Option.bind (Option.bind (view 20 _ _) _) _) = _
   rw [this]
   rfl) (.inr ⟨by simp [DN,GP],rfl⟩)
  rw [eQ]
  have hb : (t.hood.length : Int) <= 17592186044416:=by omega
  simp (maxSteps:=2000000) (disch:=omega) [Ac,Ab,cl (g1 _),hrh,hrow,cl gv]
theorem IE {t : TreeC} {h n v : I} {es : List (List I)} {p : List Ce} (hT : TreeV t h n es) (hv : IsSl v (Ag p)) (hl : (p.length : Int) <= 9223372036854775806) (H : Hp) : Gives G 37 [.m (.ag [.i .i64 t.states,h,n]),.m v] H (.m (.i .i64 (BR t p))) H:=by
 have g1:=fun H=>Jo hT H
 have g2:=fun H=>Hy hv (by omega) H
 have hrv:=hv.rules
 simp only [show (Ag p).length = p.length from by simp [Ag]] at hrv
 refine Ae rfl rfl rfl rfl rfl ?_
 have eC : BR t p = if AI t = true then if AP p = true then if Lf p < t.states then 0 else 10 else 2 else 11:=rfl
 cases hq : AI t with
 | false =>
  rw [hq] at g1 eC
  have eC : BR t p = 11:=eC
  simp (maxSteps:=2000000) (disch:=omega) [cl (g1 _),eC]
 | true =>
  rw [hq] at g1 eC
  cases hr : AP p with
  | false =>
   rw [hr] at g2 eC
   have eC : BR t p = 2:=eC
   simp (maxSteps:=2000000) (disch:=omega) [cl (g1 _),cl (g2 _),eC]
  | true =>
   rw [hr] at g2 eC
   have eC : BR t p = if Lf p < t.states then 0 else 10:=eC
   have hs2:=(Db hq).s2
   have htop:=Ht (k:=t.states) (by omega) _ p rfl
   simp (maxSteps:=2000000) (disch:=omega) [cl (g1 _),cl (g2 _)]
   refine (?key : ∀ (i : Nat) (B : List (Nat × List V)),i <= p.length -> getB B 2 = some [.m (.i .i64 t.states),.m h,.m n] -> (∀ (j : Nat) c,j < i -> p[j]? = some c -> c.s < t.states) -> Run G c37_B0 (S37_0 (.m v) (.fa 2 0) (.m (.i .i64 (i : Int))) B []) _) 0 _ (AcF _) rfl (fun j c h=>by omega)
   refine Bk (fun i : Nat=>p.length - i) fun i ih B hi hB hall=>?_
   unfold c37_B0
   cases hx : p[i]? with
   | none =>
    have : i = p.length:=by have:=AcB.1 hx; omega
    subst this
    have e0 : BR t p = 0:=by
     rw [eC,AcC (htop.2 fun c hc=>by
      obtain ⟨j,hj⟩:=Adz.1 hc
      exact hall j c (Al hj).1 hj)]
    simp (maxSteps:=2000000) (disch:=omega) [hrv,e0]
   | some c =>
    have hlt:=(Al hx).1
    have hlt' : (i : Int) < p.length:=by omega
    have hn:=An hx
    have wi : wr .i64 ((i : Int) + 1) = ((i + 1 : Nat) : Int):=Aa (by omega) (by omega)
    by_cases hc : t.states <= c.s
    ·have e1 : BR t p = 10:=by rw [eC,Acz (fun h=>by have:=htop.1 h c (AcE hx); omega)]
     simp (maxSteps:=2000000) (disch:=omega) [hrv,hlt',hn,hB,hc,e1]
    ·have kk:=ih (i + 1) (by omega) B (by omega) hB (fun j d hj hd=>by
      by_cases e : j < i
      ·exact hall j d e hd
      ·have : j = i:=by omega
       subst this
       rw [hx] at hd
       cases hd
       omega)
     simp (maxSteps:=2000000) (disch:=omega) [hrv,hlt',hn,hB,hc,wi,-Int.natCast_add]
     exact kk
theorem AbS {y : I} {es : List (List I)} (h : IsSl y es) : Ay (.m y) = some [.m y]:=by
 rcases h with rfl | ⟨rfl,_⟩ <;> rfl
theorem Acn {p : List Ce} (hr : AP p = true) : ∃ (bx by_ : Int) (w h : Nat),Lb p = [bx,by_,(w : Int),(h : Int)] /\ (w <= 2097153 /\ h <= 2097153) /\ (-1048576 <= bx /\ bx <= 1048576) /\ (-1048576 <= by_ /\ by_ <= 1048576) /\ (∀ c,c ∈ p -> (bx <= c.x /\ c.x < bx + w) /\ (by_ <= c.y /\ c.y < by_ + h)) /\ ((1 <= w /\ 1 <= h) \/ (w = 0 /\ h = 0)):=by
 cases p with
 | nil=>exact ⟨0,0,0,0,rfl,by omega,by omega,by omega,fun c hc=>(by cases hc),.inr ⟨rfl,rfl⟩⟩
 | cons a r =>
  obtain ⟨_,hg,_⟩:=Cs hr
  have hb : ∀ c,c ∈ a :: r -> (-1048576 <= c.x /\ c.x <= 1048576) /\ (-1048576 <= c.y /\ c.y <= 1048576):=fun c hc=>by
   have:=hg c hc
   unfold Cj AE at this
   simp only [Acx,AcK] at this
   omega
  obtain ⟨l,hl⟩ : ∃ d,(a :: r)[(a :: r).length - 1]? = some d:=⟨_,AcA (by simp)⟩
  obtain ⟨y1,y2⟩:=Jl hr hl
  have hla : ∀ h,(a :: r).getLast h = l:=fun h=>by
   rw [List.getLast_eq_getElem,<- Acv,<- hl,AcA]
  have mx:=fun (e : Ce) (he : e ∈ a :: r)=>(NL ((a :: r).map Ce.x) a.x).2 _ (List.mem_map_of_mem he)
  have mn:=fun (e : Ce) (he : e ∈ a :: r)=>(HG ((a :: r).map Ce.x) a.x).2 _ (List.mem_map_of_mem he)
  have my:=fun (e : Ce) (he : e ∈ a :: r)=>(NL ((a :: r).map Ce.y) a.y).2 _ (List.mem_map_of_mem he)
  have ny:=fun (e : Ce) (he : e ∈ a :: r)=>(HG ((a :: r).map Ce.y) a.y).2 _ (List.mem_map_of_mem he)
  rw [y2] at my
  rw [y1] at ny
  have bX : mxF a.x ((a :: r).map Ce.x) <= 1048576:=Sn _ _ _ ⟨(hb a (AcX ..)).1.2,fun y hy=>by
   obtain ⟨e,he,rfl⟩:=Adc.1 hy
   exact (hb e he).1.2⟩
  have bN : -1048576 <= mnF a.x ((a :: r).map Ce.x):=IA _ _ _ ⟨(hb a (AcX ..)).1.1,fun y hy=>by
   obtain ⟨e,he,rfl⟩:=Adc.1 hy
   exact (hb e he).1.1⟩
  have hlb:=hb l (AcE hl)
  have hab:=hb a (AcX ..)
  have m5:=mn a (AcX ..)
  have m6:=mx a (AcX ..)
  have m7:=my a (AcX ..)
  have e : Lb (a :: r) = [mnF a.x ((a :: r).map Ce.x),a.y,wr .i64 (wr .i64 (mxF a.x ((a :: r).map Ce.x) - mnF a.x ((a :: r).map Ce.x)) + 1),wr .i64 (wr .i64 (l.y - a.y) + 1)]:=by
   unfold Lb
   dsimp only
   rw [AcC hr,hla]
  generalize mnF a.x ((a :: r).map Ce.x) = n at *
  generalize mxF a.x ((a :: r).map Ce.x) = m at *
  rw [Aa (x:=m - n) (by omega) (by omega),Aa (x:=m - n + 1) (by omega) (by omega),Aa (x:=l.y - a.y) (by omega) (by omega),Aa (x:=l.y - a.y + 1) (by omega) (by omega)] at e
  obtain ⟨w,hw⟩:=AcQ (show 0 <= m - n + 1 by omega)
  obtain ⟨k,hk⟩:=AcQ (show 0 <= l.y - a.y + 1 by omega)
  rw [hw,hk] at e
  refine ⟨n,a.y,w,k,e,by omega,by omega,by omega,fun c hc=>?_,.inl ⟨by omega,by omega⟩⟩
  have h1:=mx c hc
  have h2:=mn c hc
  have h3:=my c hc
  have h4:=ny c hc
  omega
theorem Sz {q : List Ce} {c : Ce} (h : ∀ d,d ∈ q -> ¬ (d.x = c.x /\ d.y = c.y)) (x y : Int) : CU (q ++ [c]) x y = if c.x = x /\ c.y = y then c.s else CU q x y:=by
 induction q with
 | nil=>rfl
 | cons d r ih =>
  have ih:=ih fun e he=>h e (AdI _ he)
  have hd:=h d (AcX ..)
  have e1 : CU (d :: r ++ [c]) x y = if d.x = x /\ d.y = y then d.s else CU (r ++ [c]) x y:=rfl
  have e2 : CU (d :: r) x y = if d.x = x /\ d.y = y then d.s else CU r x y:=rfl
  rw [e1,e2,ih]
  by_cases h1 : d.x = x /\ d.y = y
  ·rw [AcC h1,AcC h1,Acz]
   intro h2
   exact hd ⟨by omega,by omega⟩
  ·rw [Acz h1,Acz h1]
theorem Jv {p : List Ce} {x y : Int} (h : ∀ c,c ∈ p -> ¬ (c.x = x /\ c.y = y)) : CU p x y = 0:=AdE fun hn=>by
 obtain ⟨c,hc,h1,h2,_⟩:=NV hn
 exact h c hc ⟨h1,h2⟩
def CD (p : List Ce) (bx by_ : Int) (w n : Nat) : List Int:=(List.range n).map fun k=>CU p (bx + ((k % w : Nat) : Int)) (by_ + ((k / w : Nat) : Int))
theorem Dq (p : List Ce) (bx by_ : Int) (w n : Nat) : (CD p bx by_ w n).length = n:=by simp [CD]
theorem VV {a b w : Nat} (h : a < w) : (b * w + a) / w = b /\ (b * w + a) % w = a:=by
 constructor
 ·rw [AdK,Nat.mul_add_div (by omega),Nat.div_eq_of_lt h]; rfl
 ·rw [AdK,Nat.mul_add_mod,Nat.mod_eq_of_lt h]
theorem UT (p : List Ce) (bx by_ : Int) {w n a b : Nat} (ha : a < w) (hn : b * w + a < n) : (CD p bx by_ w n)[b * w + a]? = some (CU p (bx + a) (by_ + b)):=by
 unfold CD
 rw [AcY,List.getElem?_range hn]
 obtain ⟨h1,h2⟩:=VV (b:=b) ha
 show some (CU p (bx + (((b * w + a) % w : Nat) : Int)) (by_ + (((b * w + a) / w : Nat) : Int))) = _
 rw [h1,h2]
theorem UR {q : List Ce} {c : Ce} (bx by_ : Int) {w n a b : Nat} (ha : a < w) (hn : b * w + a < n) (hx : c.x = bx + a) (hy : c.y = by_ + b) (h : ∀ d,d ∈ q -> ¬ (d.x = c.x /\ d.y = c.y)) : CD (q ++ [c]) bx by_ w n = (CD q bx by_ w n).set (b * w + a) c.s:=by
 refine List.ext_getElem? fun k=>?_
 rw [List.getElem?_set]
 by_cases hk : k < n
 ·have e : ∀ p,(CD p bx by_ w n)[k]? = some (CU p (bx + ((k % w : Nat) : Int)) (by_ + ((k / w : Nat) : Int))):=fun p=>by
   unfold CD
   rw [AcY,List.getElem?_range hk]
   rfl
  rw [e,e,Dq,Sz h]
  by_cases hk0 : b * w + a = k
  ·subst hk0
   obtain ⟨h1,h2⟩:=VV (b:=b) ha
   rw [h1,h2,AcC rfl,AcC hn,AcC ⟨hx,hy⟩]
  ·rw [Acz hk0,Acz]
   intro ⟨h1,h2⟩
   have e1 : k % w = a:=by omega
   have e2 : k / w = b:=by omega
   have:=Nat.div_add_mod k w
   rw [e1,e2,AdK] at this
   exact hk0 this
 ·have e : ∀ p,(CD p bx by_ w n)[k]? = none:=fun p=>AcB.2 (by rw [Dq]; omega)
  rw [e,e,Acz (by omega)]
theorem US (bx by_ : Int) (w n : Nat) : CD [] bx by_ w n = List.replicate n 0:=by
 unfold CD
 rw [show (fun k : Nat=>CU [] (bx + ((k % w : Nat) : Int)) (by_ + ((k / w : Nat) : Int))) = fun _=>0 from rfl,List.map_const',List.length_range]
theorem w1_x {l : List Int} {j : Nat} (h : j < l.length) (x : Int) : DD 1 (Bh l) j 0 [.m (.i .i64 x)] = some (Bh (l.set j x)):=by
 have hx : l[j]? = some l[j]:=AcA h
 have hn : nth (Bh l) j = some [.m (.i .i64 l[j])]:=by rw [AV]; simp [Bh,h]
 show (nth (Bh l) j).bind _ = _
 rw [hn]
 show Bl (Bh l) j [.m (.i .i64 x)] = _
 rw [BF _ _ _ (by rw [Fb]; exact h)]
 simp [Bh,List.map_set]
def KV (fl : Bool) (bx by_ w h : Int) (cs li : I) : I:=.ag [.b fl,.i .i64 bx,.i .i64 by_,.i .i64 w,.i .i64 h,cs,li]
structure FldV (p : List Ce) (v x : I) : Prop where
 ex : ∃ (bx by_ : Int) (w h : Nat) (fl : Bool) (cs : I),x = KV fl bx by_ w h cs v /\ (w <= 2097153 /\ h <= 2097153) /\ (-1048576 <= bx /\ bx <= 1048576) /\ (-1048576 <= by_ /\ by_ <= 1048576) /\ (∀ c,c ∈ p -> (bx <= c.x /\ c.x < bx + w) /\ (by_ <= c.y /\ c.y < by_ + h)) /\ ((1 <= w /\ 1 <= h) \/ (w = 0 /\ h = 0)) /\ (fl = true -> w * h <= 40000 /\ IsSl cs (Ec (CD p bx by_ w (w * h)))) /\ CR (.m cs) = true
set_option maxHeartbeats 4000000 in
theorem Uu {v : I} {p : List Ce} (hv : IsSl v (Ag p)) (hr : AP p = true) (H : Hp) : ∃ x,FldV p v x /\ Gives G 98 [.m v] H (.m x) H:=by
 obtain ⟨pw,hg,hl⟩:=Cs hr
 have hrv:=hv.rules
 simp only [show (Ag p).length = p.length from by simp [Ag]] at hrv
 have hv1:=FY hv
 have hvc:=AbS hv
 obtain ⟨bx,by_,w,h,hbx,hwh,hbx1,hby1,hin,hne⟩:=Acn hr
 have g1:=fun H=>Acm hv (by omega) H
 unfold Od at g1
 rw [hbx] at g1
 simp only [Adi,List.map_nil] at g1
 obtain ⟨P,hP⟩ : ∃ P,P = w * h:=⟨_,rfl⟩
 have hPb : P <= 2097153 * 2097153:=by rw [hP]; exact Nat.mul_le_mul hwh.1 hwh.2
 have hPi : (w : Int) * (h : Int) = (P : Int):=by rw [hP]; simp
 have wP : wr .i64 ((w : Int) * (h : Int)) = (P : Int):=by rw [hPi]; exact Aa (by omega) (by omega)
 have key : ∃ x H',Gives G 98 [.m v] H x H' /\ (H' = H /\ ∃ y,FldV p v y /\ x = .m y):=by
  refine AQ ?_
  refine Cu rfl rfl rfl rfl rfl ?_
  generalize hQ : (fun (x : V) (H' : Hp)=>H' = H /\ ∃ y,FldV p v y /\ x = .m y) = Q
  have qk : ∀ y,FldV p v y -> Q (.m y) H:=fun y hy=>by rw [<- hQ]; exact ⟨rfl,y,hy,rfl⟩
  clear hQ
  by_cases hf : P <= 40000
  ·have hf2 : (P : Int) <= 40000:=by omega
   have hrow : (List.replicate P ([V.m (.i .i64 0)] : List V)) = Bh (CD (p.take 0) bx by_ w P):=by rw [List.take_zero,US]; unfold Bh; rw [List.map_replicate]
   have hb : (P : Int) <= 17592186044416:=by omega
   simp (maxSteps:=2000000) (disch:=omega) [Ac,Ab,cl (g1 _),wP,hf2,hv1,hvc,hrow]
   refine (?key : ∀ (i b0 : Nat) (B : List (Nat × List V)),i <= p.length -> b0 <= P -> getB B 2 = some [.m (.b false),.m (.i .i64 0),.m (.i .i64 0),.m (.i .i64 0),.m (.i .i64 0),.m (.nl 4),.m (.nl 4)] -> getB B 3 = some [.m (.i .i64 bx),.m (.i .i64 by_),.m (.i .i64 w),.m (.i .i64 h)] -> getB B 5 = some [.m (.b true),.m (.i .i64 bx),.m (.i .i64 by_),.m (.i .i64 w),.m (.i .i64 h),.sl 0 P 1 0 P true,.m v] -> Run G c98_B0 (S98_0 (.m v) (.fa 2 0) (.fa 3 0) (.fa 5 0) (.m (.i .i64 (i : Int))) B [Row.cs 3 1 (Bh (CD (p.take i) bx by_ w P)) b0 false]) _) 0 0 _ (AcF _) (AcF _) rfl rfl rfl
   refine Bk (fun i : Nat=>p.length - i) fun i ih b0 B hi hb0 hB2 hB3 hB5=>?_
   unfold c98_B0
   cases hx : p[i]? with
   | none =>
    have : i = p.length:=by have:=AcB.1 hx; omega
    subst this
    rw [AcV]
    have hvw : view 19 [Row.cs 3 1 (Bh (CD p bx by_ w P)) b0 false] (.sl 0 P 1 0 P true) = some (.sl (Ec (CD p bx by_ w P))):=by
     have:=Us (r:=0) (ver:=P) (st:=0) (len:=P) (lim:=true) (base:=b0) (fz:=false) (l:=CD p bx by_ w P) (H:=[Row.cs 3 1 (Bh (CD p bx by_ w P)) b0 false]) rfl hb0 17
     rw [List.drop_zero,AcP (by rw [Dq]; exact AcD _)] at this
     exact this
    have k:=qk (KV true bx by_ w h (.sl (Ec (CD p bx by_ w P))) v) ⟨bx,by_,w,h,true,_,rfl,hwh,hbx1,hby1,hin,hne,fun _=>⟨by omega,by rw [<- hP]; exact Be _⟩,rfl⟩
    unfold KV at k
    have hvw2 : viewR [Row.cs 3 1 (Bh (CD p bx by_ w P)) b0 false] (.ag [.m (.b true),.m (.i .i64 bx),.m (.i .i64 by_),.m (.i .i64 w),.m (.i .i64 h),.sl 0 P 1 0 P true,.m v]) = some (.m (.ag [.b true,.i .i64 bx,.i .i64 by_,.i .i64 w,.i .i64 h,.sl (Ec (CD p bx by_ w P)),v])):=by
     show Option.bind (Option.bind (Ak (view 19 _) _) _) _ = _
     simp only [Ak,hvw,AcG]
     rfl
    simp (maxSteps:=2000000) (disch:=omega) [Ab,hrv,hB2,hB5,hv1,hvw2]
    exact k
   | some c =>
    have hlt:=(Al hx).1
    have hlt' : (i : Int) < p.length:=by omega
    have hn:=An hx
    have wi : wr .i64 ((i : Int) + 1) = ((i + 1 : Nat) : Int):=Aa (by omega) (by omega)
    have hci:=hin c (AcE hx)
    obtain ⟨a,ha⟩:=AcQ (show 0 <= c.x - bx by omega)
    obtain ⟨b,hb⟩:=AcQ (show 0 <= c.y - by_ by omega)
    have haw : a < w:=by omega
    have hbh : b < h:=by omega
    have hk : b * w + a < P:=by
     rw [hP]
     have h1 : (b + 1) * w <= h * w:=Adh _ hbh
     rw [Add,Nat.one_mul,AdK h w] at h1
     omega
    obtain ⟨M,hM⟩ : ∃ M,M = b * w:=⟨_,rfl⟩
    have hMi : (b : Int) * (w : Int) = (M : Int):=by rw [hM]; simp
    rw [<- hM] at hk
    have w47 : wr .i64 (c.y - by_) = (b : Int):=by rw [hb]; exact Aa (by omega) (by omega)
    have w50 : wr .i64 ((b : Int) * (w : Int)) = (M : Int):=by rw [hMi]; exact Aa (by omega) (by omega)
    have w56 : wr .i64 ((M : Int) + c.x) = (M : Int) + c.x:=Aa (by omega) (by omega)
    obtain ⟨k0,hk0⟩ : ∃ k0,k0 = M + a:=⟨_,rfl⟩
    have w59 : wr .i64 ((M : Int) + c.x - bx) = (k0 : Int):=by rw [Aa (by omega) (by omega)]; omega
    have hk1 : k0 < P:=by omega
    have hk2 : (k0 : Int) < P:=by omega
    have hdis : ∀ d,d ∈ p.take i -> ¬ (d.x = c.x /\ d.y = c.y):=fun d hd=>by
     have pw':=pw
     rw [<- List.take_append_drop i p,(Al hx).2] at pw'
     have:=(Adv.1 pw').2.2 d hd c (AcX ..)
     unfold AW at this
     simp only [AcK] at this
     omega
    have hgs:=UR (q:=p.take i) (c:=c) bx by_ (w:=w) (n:=P) (a:=a) (b:=b) haw (by omega) (by omega) (by omega) hdis
    rw [<- Ap hx,<- hM,<- hk0] at hgs
    have hw1:=w1_x (l:=CD (p.take i) bx by_ w P) (j:=k0) (by rw [Dq]; exact hk1) c.s
    rw [<- hgs] at hw1
    have kk:=ih (i + 1) (by omega) P B (by omega) (AcD _) hB2 hB3 hB5
    have hrl : (Bh (CD (p.take i) bx by_ w P)).length = P:=by rw [Fb,Dq]
    simp (maxSteps:=2000000) (disch:=omega) [Ab,hrv,hlt',hn,hB3,hB5,w47,w50,w56,w59,hw1,hrl,wi,-Int.natCast_add]
    exact kk
  ·have hf2 : ¬ (P : Int) <= 40000:=by omega
   have k:=qk (KV false bx by_ w h (.nl 4) v) ⟨bx,by_,w,h,false,.nl 4,rfl,hwh,hbx1,hby1,hin,hne,fun h=>(by cases h),rfl⟩
   unfold KV at k
   simp (maxSteps:=2000000) (disch:=omega) [Ab,cl (g1 _),wP,hf2,hv1,hvc]
   exact k
 obtain ⟨x,H',h1,rfl,y,h2,rfl⟩:=key
 exact ⟨y,h2,h1⟩
end Go.Mx.Tryz
