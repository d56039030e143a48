/- Fields of the reference: the positions near a pattern. -/
import Derived.Test.YtlhjjcaifenlbaaGreatDoorNa
set_option linter.unusedSimpArgs false
set_option linter.unusedVariables false
set_option linter.unusedSectionVars false
set_option maxRecDepth 100000
set_option maxHeartbeats 4000000
namespace Go.Mx.Tryz
open Go.Lib Go.Proofs
theorem Wo (a b:Int×Int)(H:Hp):Gives G 150 [.m (.ag [J4 a.1,J4 a.2]),.m (.ag [J4 b.1,J4 b.2])] H (.m (.b (Nc a b))) H:=by
 refine Ae rfl rfl rfl rfl rfl ?_
 simp (contextual:=true) [Aj,-Int.not_lt,-Int.not_le,-Nat.not_lt,-Nat.not_le,-List.map_take,Nc]
variable {v:I}
theorem AgD {p:List (Int×Int)}(hv:IsSl v (Az p))(hl:(p.length:Int)<=9223372036854775807)(H:Hp):Gives G 111 [.m v] H (.m (.b (BR p))) H:=by
 have u:=hv.rules
 simp only[Bq]at u
 refine Ae rfl rfl rfl rfl rfl ?_
 by_cases h1:1<=p.length/\p.length<=25
 rotate_left
 ·have e:BR p=false:=by unfold BR;rw[Ahs h1];rfl
  by_cases E:(p.length:Int)<1
  ·simp (disch:=omega) [u,E,e]
  ·have W:(25:Int)<p.length:=by omega
   simp (disch:=omega) [u,E,W,e]
 have E:¬(p.length:Int)<1:=by omega
 have W:¬(25:Int)<p.length:=by omega
 have hR:BR p=Lv none p:=by unfold BR;rw[Ahq h1];rfl
 rw[hR]
 simp (disch:=omega) [u,E,W]
 refine(?key:∀(i:Nat) (B:LE),i<=p.length->Lv none p=Lv (EN p i) (p.drop i)->Run G c111_B0 (S111_0 (.m v) (J0 i) B []) _) 0 [] (Aho _) rfl
 refine Bl (fun i:Nat=>p.length-i) fun i Z B hi J=>?_
 unfold c111_B0
 cases hx:p[i]? with
 | none =>
  have:i=p.length:=by have:=Ahn.1 hx;omega
  subst this
  have:Lv (EN p p.length) []=true:=by cases EN p p.length <;> rfl
  simp[u,J,this]
 | some c =>
  have N:=(Am hx).1
  have hn:=Cm hx
  rw[(Am hx).2,Np hx,MY]at J
  cases i with
  | zero =>
   simp (contextual:=true) (maxSteps:=2000000) (disch:=omega) [Ai,Aj,Ad,-Int.not_lt,-Int.not_le,-Nat.not_lt,-Nat.not_le,-List.map_take,u,hn,N,Aa]
   repeat' first|with_reducible apply And.intro|intro _
   all_goals first
    | (refine Z 1 (by omega) _ (by omega) ?_;grind [EN])
    | grind [EN]
  | succ j =>
   obtain⟨Y,z⟩:∃Y,p[j]? = some Y:=⟨p[j],Ahh (by omega)⟩
   have U:=Cm z
   have e3:(j:Int)+1<p.length:=by omega
   have e4:(j:Int)<p.length:=by omega
   have e6:(0:Int)<=j+1:=by omega
   have e7:((j:Int)+1).toNat=j+1:=by omega
   have Q:EN p (j+1)=some Y:=z
   simp only[Q]at J
   simp (contextual:=true) (maxSteps:=2000000) (disch:=omega) [Ai,Aj,Ad,-Int.not_lt,-Int.not_le,-Nat.not_lt,-Nat.not_le,-List.map_take,u,hn,U,e3,e7,cl (Wo _ _ _),Aa]
   repeat' first|with_reducible apply And.intro|intro _
   all_goals first
    | (refine Z (j+2) (by omega) _ (by omega) ?_;grind)
    | grind
variable {t:TreeC} {h n:I} {es:LT}
theorem ZQ (Z:TreeV t h n es)(H:Hp):Gives G 70 [.m (.ag [J4 t.states,h,n])] H (.m (.b (AY t))) H:=by
 have W:=Z.hd.rules
 simp only[Bq]at W
 have u:=Z.nd.rules
 have a1:=CK Z
 have gh:=fun H=>AgD Z.hd (by have:=Z.hl;omega) H
 have hl1:=Z.hl
 have hl2:=Z.nl
 refine Ae rfl rfl rfl rfl rfl ?_
 have eO:AY t=(decide (2<=t.states/\t.states<=8)&&(BR t.hood&&(decide (1<=t.nodes.length/\t.nodes.length<=4096)&&(decide (levAt t.nodes (t.nodes.length-1)=t.hood.length)&&nodesOk t 0 t.nodes)))):=rfl
 by_cases s2:t.states<2
 ·have:AY t=false:=by rw[eO,Ahs (by omega)];rfl
  simp (disch:=omega) [Ad,u,s2,this]
 by_cases s8:8<t.states
 ·have:AY t=false:=by rw[eO,Ahs (by omega)];rfl
  simp (disch:=omega) [Ad,u,s2,s8,this]
 cases hh:BR t.hood with
 | false =>
  have:AY t=false:=by rw[eO,hh];simp
  rw[hh]at gh
  simp (disch:=omega) [Ad,u,s2,s8,cl (gh _),this]
 | true =>
  rw[hh]at gh
  by_cases n1:(es.length:Int)<1
  ·have:AY t=false:=by rw[eO,Ahs (by rw[a1];omega:¬(1<=t.nodes.length/\t.nodes.length<=4096))];simp
   simp (disch:=omega) [Ad,u,s2,s8,cl (gh _),n1,this]
  by_cases n2:(4096:Int)<es.length
  ·have:AY t=false:=by rw[eO,Ahs (by rw[a1];omega:¬(1<=t.nodes.length/\t.nodes.length<=4096))];simp
   simp (disch:=omega) [Ad,u,s2,s8,cl (gh _),n1,n2,this]
  have Y:es.length-1<t.nodes.length:=by omega
  obtain⟨z0,hz0,_⟩:=Ch Z (Ahh Y)
  have hle1:es.length-1<es.length:=by omega
  have hle2:((es.length-1:Nat):Int)<es.length:=by omega
  have w1:wr .i64 ((es.length:Int)-1)=((es.length-1:Nat):Int):=by rw[Aa (by omega) (by omega)];omega
  have hlev:=HG (Ahh Y)
  have eroot:levAt t.nodes (t.nodes.length-1)=t.nodes[es.length-1].1:=by
   rw[<-hlev,a1]
   congr 1
   omega
  have hR:AY t=(decide (t.nodes[es.length-1].1=t.hood.length)&&nodesOk t 0 t.nodes):=by
   rw[eO,hh,Ahq (by omega:2<=t.states/\t.states<=8),Ahq (by omega:1<=t.nodes.length/\t.nodes.length<=4096),eroot]
   simp
  have hF:nodesOk t 0 t.nodes=false->AY t=false:=fun h=>by rw[hR,h,Bool.and_false]
  simp (disch:=omega) [Ad,u,s2,s8,cl (gh _),n1,n2]
  refine(?key:∀(i:Nat) (B:LE),i<=t.nodes.length->getB B 1=some [J0 t.states,.m h,.m n]->nodesOk t 0 t.nodes=nodesOk t i (t.nodes.drop i)->Run G c70_B1 (S70_1 (.fa 1 0) (J0 es.length) (J0 (i:Int)) B []) _) 0 _ (Aho _) rfl rfl
  refine Bl (fun i:Nat=>t.nodes.length-i) fun i ih B hi Q N=>?_
  unfold c70_B1
  cases hx:t.nodes[i]? with
  | none =>
   have:i=es.length:=by have:=Ahn.1 hx;omega
   subst this
   rw[<-a1,Aia]at N
   have N:nodesOk t 0 t.nodes=true:=N
   rw[N,Bool.and_true]at hR
   rw[hR]
   simp (disch:=omega) [u,W,Q,w1,hz0]
  | some nd =>
   have hlt:=(Am hx).1
   have Y:i<es.length:=by omega
   have U:(i:Int)<es.length:=by omega
   obtain⟨z,hz,hzs,hzl,hzb⟩:=Ch Z hx
   have J:=hzs.rules
   have a0:=Cv hzs
   simp only[Bo]at J
   have wi:=J1 i (by omega)
   rw[(Am hx).2,Hf]at N
   have eN:Es t i nd=(decide (1<=nd.1/\nd.1<=t.hood.length/\(nd.2.length:Int)=t.states)&&nd.2.all (Si t i nd.1)):=rfl
   by_cases m1:nd.1<1
   ·have:=hF (by rw[N,eN,Ahs (by omega)];rfl)
    simp (disch:=omega) [Ab,u,U,hz,a0,Q,m1,this]
   by_cases m2:(t.hood.length:Int)<nd.1
   ·have:=hF (by rw[N,eN,Ahs (by omega)];rfl)
    simp (disch:=omega) [Ab,u,W,U,hz,a0,Q,m1,m2,this]
   by_cases m3:(nd.2.length:Int)=t.states
   rotate_left
   ·have:=hF (by rw[N,eN,Ahs (by omega)];rfl)
    simp (disch:=omega) [Ab,u,W,U,hz,a0,J,Q,m1,m2,m3,this]
   rw[eN,Ahq (by omega:1<=nd.1/\nd.1<=t.hood.length/\(nd.2.length:Int)=t.states),Aiy]at N
   simp (disch:=omega) [Ab,u,W,U,hz,a0,J,Q,m1,m2,m3]
   refine(?key2:∀(j:Nat) (B:LE),j<=nd.2.length->getB B 1=some [J0 t.states,.m h,.m n]->getB B 5=some [J0 nd.1,.m z]->nodesOk t 0 t.nodes=((nd.2.drop j).all (Si t i nd.1)&&nodesOk t (i+1) (t.nodes.drop (i+1)))->Run G c70_B0 (S70_0 (.fa 1 0) (J0 es.length) (J0 (i:Int)) (.fa 5 0) (J0 (j:Int)) B []) _) 0 _ (Aho _) (by simpa using Q) (by simp) N
   clear N
   refine Bl (fun j:Nat=>nd.2.length-j) fun j ihj B hj Q h5 N=>?_
   unfold c70_B0
   cases hy:nd.2[j]? with
   | none =>
    have:j=nd.2.length:=by have:=Ahn.1 hy;omega
    subst this
    rw[Aia]at N
    have k:=ih (i+1) (by omega) B (by omega) Q N
    have E:¬(nd.2.length:Int)<t.states:=by omega
    have hjs2:¬((nd.2.length:Nat):Int)<t.states:=E
    simp (disch:=omega) [Q,E,wi,-Int.natCast_add]
    exact k
   | some k =>
    have hjl:=(Am hy).1
    have hjl2:(j:Int)<nd.2.length:=by omega
    have E:(j:Int)<t.states:=by omega
    have hk:nth (BT nd.2) j=some [J4 k]:=Cg hy
    have wj:=J1 j (by omega)
    have hkb:=hzb k (Ahm hy)
    rw[(Am hy).2,List.all_cons]at N
    have eE:Si t i nd.1 k=decide (¬k<0 /\ ¬(nd.1=1/\t.states<=k) /\ ¬(1<nd.1/\((i:Int)<=k \/ ¬levAt t.nodes k=nd.1-1))):=rfl
    have go:=fun(h:Si t i nd.1 k=true)=>ihj (j+1) (by omega) B (by omega) Q h5 (by rw[N,h,Aiy])
    have no:=fun(h:Si t i nd.1 k=false)=>hF (by rw[N,h];rfl)
    have wl:=J2 (nd.1-1) (by omega)
    by_cases k0:k<0
    ·have:=no (by rw[eE];exact Ahs fun h=>h.1 k0)
     simp (disch:=omega) [J,E,hk,Q,h5,k0,this]
    by_cases l1:nd.1=1
    ·have l2:¬1<nd.1:=by omega
     by_cases ks:t.states<=k
     ·have:=no (by rw[eE];exact Ahs fun h=>h.2.1 ⟨l1,ks⟩)
      simp (disch:=omega) [J,E,hk,Q,h5,k0,l1,ks,this]
     ·have kk:=go (by rw[eE];exact Ahq ⟨k0,fun h=>ks h.2,fun h=>l2 h.1⟩)
      rw[l1]at h5
      simp (disch:=omega) [J,E,hk,Q,h5,k0,ks,wj,-Int.natCast_add]
      exact kk
    ·have l2:1<nd.1:=by omega
     by_cases ki:(i:Int)<=k
     ·have:=no (by rw[eE];exact Ahs fun h=>h.2.2 ⟨l2,.inl ki⟩)
      simp (disch:=omega) [J,E,hk,Q,h5,k0,l1,l2,ki,this]
     ·obtain⟨kn,rfl⟩:=AhA (show 0<=k by omega)
      have hkn:kn<t.nodes.length:=by omega
      have hkn1:kn<es.length:=by omega
      have hkn2:(kn:Int)<es.length:=by omega
      obtain⟨z',hz',_⟩:=Ch Z (Ahh hkn)
      have hlv:=HG (Ahh hkn)
      have ki2:¬i<=kn:=by omega
      by_cases hle:t.nodes[kn].1=nd.1-1
      ·have kk:=go (by rw[eE];exact Ahq ⟨k0,fun h=>l1 h.1,fun h=>h.2.elim ki fun h2=>h2 (hlv.trans hle)⟩)
       simp (disch:=omega) [J,u,E,hk,Q,h5,k0,l1,l2,ki,hz',wl,hle,wj,-Int.natCast_add]
       exact kk
      ·have:=no (by rw[eE];exact Ahs fun h=>h.2.2 ⟨l2,.inr fun h2=>hle (hlv.symm.trans h2)⟩)
       simp (disch:=omega) [J,u,E,hk,Q,h5,k0,l1,l2,ki,hz',wl,hle,this]
set_option maxHeartbeats 4000000 in
theorem Aft (hT:TreeV t h n es)(H:Hp):Gives G 104 [.m (.ag [J4 t.states,h,n])] H (.m (.b (AY t))) H:=by
 have W:=hT.hd.rules
 simp only[Bq]at W
 have u:=hT.nd.rules
 have hln:=CK hT
 have gh:=fun H=>AgC hT.hd (by have:=hT.hl;omega) H
 have hl1:=hT.hl
 have hl2:=hT.nl
 refine Ae rfl rfl rfl rfl rfl ?_
 have eO:AY t=(decide (2<=t.states/\t.states<=8)&&(BR t.hood&&(decide (1<=t.nodes.length/\t.nodes.length<=4096)&&(decide (levAt t.nodes (t.nodes.length-1)=t.hood.length)&&nodesOk t 0 t.nodes)))):=rfl
 by_cases s2:t.states<2
 ·have:AY t=false:=by rw[eO,Ahs (by omega)];rfl
  simp (disch:=omega) [Ad,u,s2,this]
 by_cases s8:8<t.states
 ·have:AY t=false:=by rw[eO,Ahs (by omega)];rfl
  simp (disch:=omega) [Ad,u,s2,s8,this]
 cases hh:BR t.hood with
 | false =>
  have:AY t=false:=by rw[eO,hh];simp
  rw[hh]at gh
  simp (disch:=omega) [Ad,u,s2,s8,cl (gh _),this]
 | true =>
  rw[hh]at gh
  by_cases n1:(es.length:Int)<1
  ·have:AY t=false:=by rw[eO,Ahs (by rw[hln];omega:¬(1<=t.nodes.length/\t.nodes.length<=4096))];simp
   simp (disch:=omega) [Ad,u,s2,s8,cl (gh _),n1,this]
  by_cases n2:(4096:Int)<es.length
  ·have:AY t=false:=by rw[eO,Ahs (by rw[hln];omega:¬(1<=t.nodes.length/\t.nodes.length<=4096))];simp
   simp (disch:=omega) [Ad,u,s2,s8,cl (gh _),n1,n2,this]
  have a0:es.length-1<t.nodes.length:=by omega
  obtain⟨z0,hz0,_⟩:=Ch hT (Ahh a0)
  have hle1:es.length-1<es.length:=by omega
  have hle2:((es.length-1:Nat):Int)<es.length:=by omega
  have w1:wr .i64 ((es.length:Int)-1)=((es.length-1:Nat):Int):=by rw[Aa (by omega) (by omega)];omega
  have hlev:=HG (Ahh a0)
  have Z:levAt t.nodes (t.nodes.length-1)=t.nodes[es.length-1].1:=by
   rw[<-hlev,hln]
   congr 1
   omega
  by_cases J:t.nodes[es.length-1].1=t.hood.length
  rotate_left
  ·have:AY t=false:=by rw[eO,Ahs (by rw[Z];exact J:¬levAt t.nodes (t.nodes.length-1)=t.hood.length)];simp
   simp (disch:=omega) [Ad,W,u,s2,s8,cl (gh _),n1,n2,w1,hz0,J,this]
  have hR:AY t=nodesOk t 0 t.nodes:=by
   rw[eO,hh,Ahq (by omega:2<=t.states/\t.states<=8),Ahq (by omega:1<=t.nodes.length/\t.nodes.length<=4096),Ahq (by rw[Z];exact J:levAt t.nodes (t.nodes.length-1)=t.hood.length)]
   simp
  rw[hR]
  simp (disch:=omega) [Ad,W,u,s2,s8,cl (gh _),n1,n2,w1,hz0,J]
  refine(?key:∀(i:Nat) (B:LE),i<=t.nodes.length->getB B 1=some [J0 t.states,.m h,.m n]->nodesOk t 0 t.nodes=nodesOk t i (t.nodes.drop i)->Run G c104_B1 (S104_1 (.fa 1 0) (.m n) (J0 es.length) (J0 (i:Int)) B []) _) 0 _ (Aho _) rfl rfl
  refine Bl (fun i:Nat=>t.nodes.length-i) fun i ih B hi Y Q=>?_
  unfold c104_B1
  cases hx:t.nodes[i]? with
  | none =>
   have:i=es.length:=by have:=Ahn.1 hx;omega
   subst this
   rw[<-hln,Aia]at Q
   have Q:nodesOk t 0 t.nodes=true:=Q
   simp (disch:=omega) [Q]
  | some nd =>
   have hlt:=(Am hx).1
   have a0:i<es.length:=by omega
   have U:(i:Int)<es.length:=by omega
   obtain⟨z,hz,hzs,hzl,hzb⟩:=Ch hT hx
   have N:=hzs.rules
   have hz1:=Cv hzs
   simp only[Bo]at N
   have wi:=J1 i (by omega)
   rw[(Am hx).2,Hf]at Q
   have eN:Es t i nd=(decide (1<=nd.1/\nd.1<=t.hood.length/\(nd.2.length:Int)=t.states)&&nd.2.all (Si t i nd.1)):=rfl
   by_cases m1:nd.1<1
   ·have:nodesOk t 0 t.nodes=false:=by rw[Q,eN,Ahs (by omega)];rfl
    simp (disch:=omega) [Ab,u,U,hz,hz1,m1,this]
   by_cases m2:(t.hood.length:Int)<nd.1
   ·have:nodesOk t 0 t.nodes=false:=by rw[Q,eN,Ahs (by omega)];rfl
    simp (disch:=omega) [Ab,u,W,U,hz,hz1,Y,m1,m2,this]
   by_cases m3:(nd.2.length:Int)=t.states
   rotate_left
   ·have:nodesOk t 0 t.nodes=false:=by rw[Q,eN,Ahs (by omega)];rfl
    simp (disch:=omega) [Ab,u,W,U,hz,hz1,N,Y,m1,m2,m3,this]
   rw[eN,Ahq (by omega:1<=nd.1/\nd.1<=t.hood.length/\(nd.2.length:Int)=t.states),Aiy]at Q
   simp (disch:=omega) [Ab,u,W,U,hz,hz1,N,Y,m1,m2,m3]
   rw[<-m3]
   refine(?key2:∀(j:Nat) (B:LE),j<=nd.2.length->getB B 1=some [J0 t.states,.m h,.m n]->getB B 5=some [J0 nd.1,.m z]->nodesOk t 0 t.nodes=((nd.2.drop j).all (Si t i nd.1)&&nodesOk t (i+1) (t.nodes.drop (i+1)))->Run G c104_B0 (S104_0 (.fa 1 0) (J0 (i:Int)) (.fa 5 0) (.m n) (J0 es.length) (J0 (i:Int)) (.m z) (J0 nd.2.length) (J0 (j:Int)) B []) _) 0 _ (Aho _) (by simpa using Y) (by simp) Q
   clear Q
   refine Bl (fun j:Nat=>nd.2.length-j) fun j ihj B hj Y h5 Q=>?_
   unfold c104_B0
   cases hy:nd.2[j]? with
   | none =>
    have:j=nd.2.length:=by have:=Ahn.1 hy;omega
    subst this
    rw[Aia]at Q
    have k:=ih (i+1) (by omega) B (by omega) Y Q
    simp (disch:=omega) [wi,-Int.natCast_add]
    exact k
   | some k =>
    have hjl:=(Am hy).1
    have E:(j:Int)<nd.2.length:=by omega
    have hk:nth (BT nd.2) j=some [J4 k]:=Cg hy
    have wj:=J1 j (by omega)
    have hkb:=hzb k (Ahm hy)
    rw[(Am hy).2,List.all_cons]at Q
    have eE:Si t i nd.1 k=decide (¬k<0 /\ ¬(nd.1=1/\t.states<=k) /\ ¬(1<nd.1/\((i:Int)<=k \/ ¬levAt t.nodes k=nd.1-1))):=rfl
    have go:=fun(h:Si t i nd.1 k=true)=>ihj (j+1) (by omega) B (by omega) Y h5 (by rw[Q,h,Aiy])
    have no:=fun(h:Si t i nd.1 k=false)=>(by rw[Q,h];rfl:nodesOk t 0 t.nodes=false)
    have wl:=J2 (nd.1-1) (by omega)
    by_cases k0:k<0
    ·have:=no (by rw[eE];exact Ahs fun h=>h.1 k0)
     simp (disch:=omega) [N,E,hk,k0,this]
    by_cases l1:nd.1=1
    ·have l2:¬1<nd.1:=by omega
     by_cases ks:t.states<=k
     ·have:=no (by rw[eE];exact Ahs fun h=>h.2.1 ⟨l1,ks⟩)
      simp (disch:=omega) [N,E,hk,Y,h5,k0,l1,ks,this]
     ·have kk:=go (by rw[eE];exact Ahq ⟨k0,fun h=>ks h.2,fun h=>l2 h.1⟩)
      rw[l1]at h5
      simp (disch:=omega) [N,E,hk,Y,h5,k0,ks,wj,-Int.natCast_add]
      exact kk
    ·have l2:1<nd.1:=by omega
     by_cases ki:(i:Int)<=k
     ·have:=no (by rw[eE];exact Ahs fun h=>h.2.2 ⟨l2,.inl ki⟩)
      simp (disch:=omega) [N,E,hk,h5,k0,l1,l2,ki,this]
     ·obtain⟨kn,rfl⟩:=AhA (show 0<=k by omega)
      have hkn:kn<t.nodes.length:=by omega
      have hkn1:kn<es.length:=by omega
      have hkn2:(kn:Int)<es.length:=by omega
      obtain⟨z',hz',_⟩:=Ch hT (Ahh hkn)
      have hlv:=HG (Ahh hkn)
      have ki2:¬i<=kn:=by omega
      by_cases hle:t.nodes[kn].1=nd.1-1
      ·have kk:=go (by rw[eE];exact Ahq ⟨k0,fun h=>l1 h.1,fun h=>h.2.elim ki fun h2=>h2 (hlv.trans hle)⟩)
       simp (disch:=omega) [N,u,E,hk,Y,h5,k0,l1,l2,ki,hz',wl,hle,wj,-Int.natCast_add]
       exact kk
      ·have:=no (by rw[eE];exact Ahs fun h=>h.2.2 ⟨l2,.inr fun h2=>hle (hlv.symm.trans h2)⟩)
       simp (disch:=omega) [N,u,E,hk,Y,h5,k0,l1,l2,ki,hz',wl,hle,this]
theorem KY {u:List (Int×List Int)}{j:Nat}{nd:Int×List Int}(h:u[j]? = some nd){s:Nat}{k:Int}(z:nd.2[s]? = some k):Gj u (j:Int) (s:Int)=k:=by
 unfold Gj
 rw[show ((j:Int)).toNat=j from rfl,h]
 dsimp only
 rw[show ((s:Int)).toNat=s from rfl,z]
 rfl
variable {w:I} {ins:List Int}
set_option maxHeartbeats 2000000 in
theorem Ace (hT:TreeV t h n es)(hR:TreeR t)(hw:IsSl w (BT ins))(hl:ins.length<=t.hood.length)(hs:∀s,s∈ins->0<=s/\s<t.states)(H:Hp):Gives G 105 [.m (.ag [J4 t.states,h,n]),.m w] H (J0 (KM t ins)) H:=by
 have Z:=hT.nd.rules
 have hln:=CK hT
 have hl2:=hT.nl
 have u:=hw.rules
 simp only[Bo]at u
 have hh:=BZ hR.hood
 have n1:=hR.n1
 have n2:=hR.n2
 have w1:wr .i64 ((es.length:Int)-1)=(t.nodes.length:Int)-1:=by rw[Aa (by omega) (by omega)];omega
 refine Ae rfl rfl rfl rfl rfl ?_
 simp (disch:=omega) [Z,u,w1]
 refine(?key:∀(i:Nat) (k:Int) (B:LE),i<=ins.length->getB B 2=some [J0 t.states,.m h,.m n]->k=KM t (ins.take i)->Run G c105_B0 (S105_0 (.fa 2 0) (J0 k) (.m w) (J0 ins.length) (J0 (i:Int)) B []) _) 0 _ _ (Aho _) rfl rfl
 refine Bl (fun i:Nat=>ins.length-i) fun i ih k B hi hB hk=>?_
 unfold c105_B0
 cases J:ins[i]? with
 | none =>
  have:i=ins.length:=by have:=Ahn.1 J;omega
  subst this
  rw[AhI]at hk
  simp (disch:=omega) [hk]
 | some s =>
  have hlt:=(Am J).1
  have U:(i:Int)<ins.length:=by omega
  have hsv:=hs s (Ahm J)
  have hsx:nth (BT ins) i=some [J4 s]:=Cg J
  have htl:(ins.take i).length=i:=by rw[Ahx];omega
  obtain⟨j,nd,N,E,hlev,hlen⟩:=MK hR i (ins.take i) htl (by omega) fun x J=>hs x (Ain J)
  rw[<-hk]at N
  obtain⟨z,hz,hzs,hzl,_⟩:=Ch hT E
  have W:=hzs.rules
  simp only[Bo]at W
  have hjl:=(Am E).1
  have hjl1:j<es.length:=by omega
  have hjl2:(j:Int)<es.length:=by omega
  obtain⟨sn,rfl⟩:=AhA hsv.1
  have hsn:sn<nd.2.length:=by omega
  have hsn2:(sn:Int)<nd.2.length:=by omega
  obtain⟨Y,Q⟩:∃Y,nd.2[sn]? = some Y:=⟨_,Ahh hsn⟩
  have hk3:nth (BT nd.2) sn=some [J4 Y]:=Cg Q
  have wi:=J1 i (by omega)
  have e1:KM t (ins.take (i+1))=Y:=by
   rw[As J,EL,<-hk,N]
   exact KY E Q
  have kk:=ih (i+1) (by omega) Y B (by omega) hB e1.symm
  rw[N]
  simp (disch:=omega) [u,Z,U,hsx,hB,hz,W,hk3,wi,-Int.natCast_add]
  exact kk
theorem KS (Q:TreeV t h n es)(H:Hp):Gives G 61 [.m (.ag [J4 t.states,h,n])] H (.m (.b (Bd t))) H:=by
 have g1:=fun H=>Aft Q H
 have E:=Q.hd.rules
 simp only[Bq]at E
 refine Ae rfl rfl rfl rfl rfl ?_
 have u:Bd t=(AY t&&decide (KM t (List.replicate t.hood.length 0)=0)):=rfl
 cases ht:AY t with
 | false =>
  rw[ht]at g1 u
  have u:Bd t=false:=u
  simp (disch:=omega) [Ad,cl (g1 _),u]
 | true =>
  rw[ht]at g1 u
  rw[Aiy]at u
  have J:=HA ht
  have Z:=BZ J.hood
  have Y:∀s,s∈List.replicate t.hood.length (0:Int)->0<=s/\s<t.states:=fun s W=>by
   have:=(List.mem_replicate.1 W).2
   have:=J.s2
   omega
  have z:(List.replicate t.hood.length ([V.m (J4 0)]:List V))=BA (List.replicate t.hood.length 0):=by unfold BA;rw[List.map_replicate]
  have N:=Ace Q J (Bf (BT (List.replicate t.hood.length 0))) (by simp) Y []
  have U:=AU (H:=[Row.cs 3 1 (BA (List.replicate t.hood.length 0)) 0 false]) (vs:=[.m (.ag [J4 t.states,h,n]),.sl 0 t.hood.length 1 0 t.hood.length true]) (is:=[.ag [J4 t.states,h,n],.sl (BT (List.replicate t.hood.length 0))]) rfl rfl N (by
   have:=XZ (r:=0) (ver:=t.hood.length) (st:=0) (len:=t.hood.length) (lim:=true) (base:=0) (fz:=false) (l:=List.replicate t.hood.length 0) (H:=[Row.cs 3 1 (BA (List.replicate t.hood.length 0)) 0 false]) rfl (Aho _) 18
   rw[Aio,Ahz (by simp)]at this
   show Option.bind (some _) (fun _=>Option.bind (Option.bind (view 20 _ _) _) _)=_
   rw[this]
   rfl) (.inr ⟨by simp[Du,Fp],rfl⟩)
  rw[u]
  have hb:(t.hood.length:Int)<=17592186044416:=by omega
  simp (disch:=omega) [Ac,Ab,Ad,cl (g1 _),E,z,cl U]
def RT (p:List Ce):Int:=p.foldl (fun m c=>max m c.s) 0
theorem MM (p:List Ce)(c:Ce):RT (p++[c])=max (RT p) c.s:=by simp[RT]
theorem II {k:Int}(J:0<k):∀n (p:List Ce),p.length=n->(RT p<k ↔ ∀c,c∈p->c.s<k)
 | 0,p,h=>by
  rw[AhJ h]
  simp[RT,J]
 | n+1,p,h=>by
  obtain⟨q,c,rfl⟩:∃q c,p=q++[c]:=⟨p.dropLast,p.getLast (by intro e;rw[e]at h;simp at h),(List.dropLast_concat_getLast _).symm⟩
  have E:=II J n q (by simpa using h)
  rw[MM]
  constructor
  ·intro z d u
   rcases AhV.1 u with u|u
   ·exact E.1 (by omega) d u
   ·rw[AhH.1 u];omega
  ·intro z
   have:=E.2 fun d u=>z d (by simp[u])
   have:=z c (by simp)
   omega
variable {p:List Ce}
theorem top_s (Q:IsSl v (Af p))(hl:(p.length:Int)<=9223372036854775806)(H:Hp):Gives G 63 [.m v] H (J0 (RT p)) H:=by
 have z:=Q.rules
 simp only[J3]at z
 refine Ae rfl rfl rfl rfl rfl ?_
 simp (disch:=omega) [z]
 refine(?key:∀(i:Nat) (m:Int) (B:LE),i<=p.length->m=RT (p.take i)->Run G c63_B0 (S63_0 (.m v) (J0 m) (J0 p.length) (J0 (i:Int)) B []) _) 0 0 _ (Aho _) rfl
 refine Bl (fun i:Nat=>p.length-i) fun i N m B Y E=>?_
 unfold c63_B0
 cases hx:p[i]? with
 | none =>
  have:i=p.length:=by have:=Ahn.1 hx;omega
  subst this
  rw[AhI]at E
  simp (disch:=omega) [E]
 | some c =>
  have U:=(Am hx).1
  have u:(i:Int)<p.length:=by omega
  have W:=Ap hx
  have J:=J1 i (by omega)
  have k:=N (i+1) (by omega) (max m c.s) B (by omega) (by rw[As hx,MM,<-E])
  simp (disch:=omega) [z,u,W,J,-Int.natCast_add]
  exact k
def CB (t:TreeC)(p:List Ce):Int:=if Bd t=true then if right p=true then if RT p<t.states then 0 else 10 else 2 else 11
theorem Wk (N:TreeV t h n es)(J:IsSl v (Af p))(hl:(p.length:Int)<=9223372036854775806)(H:Hp):Gives G 81 [.m (.ag [J4 t.states,h,n]),.m v] H (J0 (CB t p)) H:=by
 have g1:=fun H=>KS N H
 have z:=fun H=>El J (by omega) H
 have g3:=fun H=>top_s J hl H
 refine Ae rfl rfl rfl rfl rfl ?_
 unfold CB
 cases hq:Bd t with
 | false =>
  rw[hq]at g1
  simp (disch:=omega) [cl (g1 _)]
 | true =>
  rw[hq]at g1
  cases hr:right p with
  | false =>
   rw[hr]at z
   simp (disch:=omega) [cl (g1 _),cl (z _)]
  | true =>
   rw[hr]at z
   by_cases E:RT p<t.states
   ·have u:¬t.states<=RT p:=by omega
    simp (disch:=omega) [cl (g1 _),cl (z _),cl (g3 _),E,u]
   ·have u:t.states<=RT p:=by omega
    simp (disch:=omega) [cl (g1 _),cl (z _),cl (g3 _),E,u]
theorem BU (h:CB t p=0):Bd t=true/\right p=true/\Hu t p:=by
 unfold CB at h
 split at h
 ·rename_i E
  split at h
  ·rename_i z
   split at h
   ·rename_i J
    have:=(II (by have:=(DK E).s2;omega) _ p rfl).1 J
    refine⟨E,z,fun c u=>⟨?_,this c u⟩⟩
    have:=(CN z).2.1 c u
    unfold Cz at this
    simp only[Ahi,Aht]at this
    omega
   ·cases h
  ·cases h
 ·cases h
theorem AcP (x y:Int)(H:Hp):Gives G 119 [.m (.ag [J4 x,J4 y])] H (.m (.b (placed x y))) H:=by
 refine Ae rfl rfl rfl rfl rfl ?_
 have e:placed x y=(decide (max x y<=1048576)&&decide (-1048576<=min x y)):=by
  unfold placed
  rw[Aie]
  simp only[Ahi,Aht]
  omega
 rw[e]
 by_cases u:max x y<=1048576
 ·simp (disch:=omega) [u]
 ·simp (disch:=omega) [u]
def fzm (m:List ((Int×Int)×Int)):I:=.mp (m.map fun e=>[ekP e.1,.i .i64 e.2])
theorem Acd {H:Hp}{r:Nat}{m:List ((Int×Int)×Int)}(h:nth H r=some (mPI m))(k:Nat):view (k+2) H (.mp r)=some (fzm m):=by
 show Option.bind (nth H r) _=_
 rw[h]
 show Option.bind (Ah (fun(p:I×V)=>(view (k+1) H p.2).bind fun x=>some [p.1,x]) (m.map fun p=>(ekP p.1,evI p.2))) _=_
 have e:Ah (fun(p:I×V)=>(view (k+1) H p.2).bind fun x=>some [p.1,x]) (m.map fun p=>(ekP p.1,evI p.2))=some (m.map fun e=>[ekP e.1,J4 e.2]):=by
  clear h
  induction m with
  | nil=>rfl
  | cons a r u =>
   show Option.bind (some [ekP a.1,I.i .i64 a.2]) _=_
   simp only[Ahp,AhL]
   show Option.bind (Ah _ (r.map fun p=>(ekP p.1,evI p.2))) _=_
   rw[u]
   rfl
 rw[e]
 rfl
theorem Qs:∀m:List ((Int×Int)×Int),pairs (m.map fun e=>[ekP e.1,I.i .i64 e.2])=some (m.map fun p=>(ekP p.1,evI p.2))
 | []=>rfl
 | a::r=>by
  show Option.bind (pairs (r.map fun e=>[ekP e.1,I.i .i64 e.2])) _=_
  rw[Qs r]
  rfl
theorem AgH (M:Mem)(m:List ((Int×Int)×Int))(x y:Int):readX M (.lkp ⟨true,[1,1]⟩ [J0 0] false false) [.m (fzm m),.m (.ag [J4 x,J4 y])]=some (J0 ((CG m (x,y)).getD 0)):=by
 have z:=Abw m x y false
 have u:readX M (.lkp ⟨true,[1,1]⟩ [J0 0] false false) [.m (fzm m),.m (.ag [J4 x,J4 y])]=(pairs (m.map fun e=>[ekP e.1,I.i .i64 e.2])).bind fun es=>Hb ⟨true,[1,1]⟩ [J0 0] false false (.mp es false) (.ag [J4 x,J4 y]):=rfl
 rw[u,Qs]
 exact z
theorem of_m (hv:IsSl v (Af p))(Y:right p=true)(H:Hp):Gives G 117 [.m v] H (.m (fzm (KX p))) H:=by
 obtain⟨Z,hg,hl⟩:=CN Y
 have u:=hv.rules
 simp only[J3]at u
 refine Ae rfl rfl rfl rfl rfl ?_
 simp (disch:=omega) [u]
 refine(?key:∀(i:Nat) (B:LE),i<=p.length->Run G c117_B0 (S117_0 (.mp 0) (.m v) (J0 p.length) (J0 (i:Int)) B [mPI (KX (p.take i))]) _) 0 _ (Aho _)
 refine Bl (fun i:Nat=>p.length-i) fun i U B hi=>?_
 unfold c117_B0
 cases hx:p[i]? with
 | none =>
  have:i=p.length:=by have:=Ahn.1 hx;omega
  subst this
  rw[AhI]
  have J:viewR [mPI (KX p)] (.mp 0)=some (.m (fzm (KX p))):=by
   show (view 20 _ _).bind _=_
   rw[Acd (H:=[mPI (KX p)]) (r:=0) (m:=KX p) rfl 18]
   rfl
  simp (disch:=omega) [J]
 | some c =>
  have hlt:=(Am hx).1
  have z:(i:Int)<p.length:=by omega
  have W:=Ap hx
  have Q:=J1 i (by omega)
  have E:=Z
  rw[<-List.take_append_drop i p,(Am hx).2]at E
  have N:=Vw E
  rw[<-As hx]at N
  have k:=U (i+1) (by omega)
  simp (disch:=omega) [Ab,u,z,W,Q,N,-Int.natCast_add]
  exact k _ (by omega)
set_option maxHeartbeats 2000000 in
theorem Agq (Y:TreeV t h n es)(N:TreeR t)(hp:Hu t p)(x y:Int)(hx:-10000000<=x/\x<=10000000)(hy:-10000000<=y/\y<=10000000)(H:Hp):Gives G 118 [.m (fzm (KX p)),.m (.ag [J4 t.states,h,n]),.m (.ag [J4 x,J4 y])] H (J0 (Bw t p x y)) H:=by
 have hrn:=Y.nd.rules
 have hln:=CK Y
 have hl2:=Y.nl
 have J:=Y.hd.rules
 simp only[Bq]at J
 have hh:=BZ N.hood
 have n1:=N.n1
 have n2:=N.n2
 have w1:wr .i64 ((es.length:Int)-1)=(t.nodes.length:Int)-1:=by rw[Aa (by omega) (by omega)];omega
 refine Ae rfl rfl rfl rfl rfl ?_
 simp (disch:=omega) [hrn,J,w1]
 refine(?key:∀(i:Nat) (k:Int) (B:LE),i<=t.hood.length->getB B 4=some [J0 t.states,.m h,.m n]->getB B 5=some [J0 x,J0 y]->k=KM t ((Nb t p x y).take i)->Run G c118_B0 (S118_0 (.m (fzm (KX p))) (.fa 4 0) (.fa 5 0) (J0 k) (.m h) (J0 t.hood.length) (J0 (i:Int)) B []) _) 0 _ _ (Aho _) rfl rfl rfl
 refine Bl (fun i:Nat=>t.hood.length-i) fun i ih k B hi hB h5 U=>?_
 unfold c118_B0
 cases ho:t.hood[i]? with
 | none =>
  have:i=t.hood.length:=by have:=Ahn.1 ho;omega
  subst this
  rw[Ahz (by rw[Gk];exact Ahk _)]at U
  have U:k=Bw t p x y:=U
  simp (disch:=omega) [U]
 | some o =>
  have hlt:=(Am ho).1
  have a1:(i:Int)<t.hood.length:=by omega
  have hox:=Cm ho
  have hob:=Eb N.hood o (Ahm ho)
  have hs:(Nb t p x y)[i]? = some (DB p (x+o.1) (y+o.2)):=by unfold Nb;rw[AhD,ho];rfl
  have Z:=Ll N hp (x+o.1) (y+o.2)
  have htl:((Nb t p x y).take i).length=i:=by rw[Ahx,Gk];omega
  obtain⟨j,nd,Q,E,hlev,hlen⟩:=MK N i ((Nb t p x y).take i) htl (by omega) fun z hz=>La N hp z (Ain hz)
  rw[<-U]at Q
  obtain⟨z,hz,hzs,hzl,_⟩:=Ch Y E
  have a2:=hzs.rules
  simp only[Bo]at a2
  have hjl:=(Am E).1
  have hjl1:j<es.length:=by omega
  have hjl2:(j:Int)<es.length:=by omega
  have hmf:=Sa p (x+o.1) (y+o.2)
  have u:=fun M=>AgH M (KX p) (x+o.1) (y+o.2)
  rw[hmf]at u
  obtain⟨sn,a0⟩:=AhA Z.1
  rw[a0]at hs Z u
  have hsn:sn<nd.2.length:=by omega
  have hsn2:(sn:Int)<nd.2.length:=by omega
  obtain⟨k2,W⟩:∃k2,nd.2[sn]? = some k2:=⟨_,Ahh hsn⟩
  have hk3:nth (BT nd.2) sn=some [J4 k2]:=Cg W
  have wi:=J1 i (by omega)
  have wx:=J2 (x+o.1) (by omega)
  have wy:=J2 (y+o.2) (by omega)
  have e1:KM t ((Nb t p x y).take (i+1))=k2:=by
   rw[As hs,EL,<-U,Q]
   exact KY E W
  have kk:=fun B'=>ih (i+1) (by omega) k2 B' (by omega)
  rw[Q]
  simp (disch:=omega) [Ab,J,hrn,a1,hox,hB,h5,hz,a2,wx,wy,u,hk3,wi,-Int.natCast_add]
  exact kk _ (by simpa using hB) (by simpa using h5) e1.symm
set_option maxHeartbeats 2000000 in
theorem Up (hT:TreeV t h n es)(hR:TreeR t)(hw:IsSl w (BT ins))(hl:ins.length<=t.hood.length)(hs:∀s,s∈ins->0<=s/\s<t.states)(H:Hp):Gives G 112 [.m (.ag [J4 t.states,h,n]),.m w] H (J0 (KM t ins)) H:=by
 have Z:=hT.nd.rules
 have hln:=CK hT
 have hl2:=hT.nl
 have u:=hw.rules
 simp only[Bo]at u
 have hh:=BZ hR.hood
 have n1:=hR.n1
 have n2:=hR.n2
 have w1:wr .i64 ((es.length:Int)-1)=(t.nodes.length:Int)-1:=by rw[Aa (by omega) (by omega)];omega
 refine Ae rfl rfl rfl rfl rfl ?_
 simp (disch:=omega) [Z,w1]
 refine(?key:∀(i:Nat) (k:Int) (B:LE),i<=ins.length->getB B 2=some [J0 t.states,.m h,.m n]->k=KM t (ins.take i)->Run G c112_B0 (S112_0 (.m w) (.fa 2 0) (J0 k) (J0 (i:Int)) B []) _) 0 _ _ (Aho _) rfl rfl
 refine Bl (fun i:Nat=>ins.length-i) fun i ih k B hi hB hk=>?_
 unfold c112_B0
 cases J:ins[i]? with
 | none =>
  have:i=ins.length:=by have:=Ahn.1 J;omega
  subst this
  rw[AhI]at hk
  simp (disch:=omega) [u,hk]
 | some s =>
  have hlt:=(Am J).1
  have U:(i:Int)<ins.length:=by omega
  have hsv:=hs s (Ahm J)
  have hsx:nth (BT ins) i=some [J4 s]:=Cg J
  have htl:(ins.take i).length=i:=by rw[Ahx];omega
  obtain⟨j,nd,N,E,hlev,hlen⟩:=MK hR i (ins.take i) htl (by omega) fun x J=>hs x (Ain J)
  rw[<-hk]at N
  obtain⟨z,hz,hzs,hzl,_⟩:=Ch hT E
  have W:=hzs.rules
  simp only[Bo]at W
  have hjl:=(Am E).1
  have hjl1:j<es.length:=by omega
  have hjl2:(j:Int)<es.length:=by omega
  obtain⟨sn,rfl⟩:=AhA hsv.1
  have hsn:sn<nd.2.length:=by omega
  have hsn2:(sn:Int)<nd.2.length:=by omega
  obtain⟨Y,Q⟩:∃Y,nd.2[sn]? = some Y:=⟨_,Ahh hsn⟩
  have hk3:nth (BT nd.2) sn=some [J4 Y]:=Cg Q
  have wi:=J1 i (by omega)
  have e1:KM t (ins.take (i+1))=Y:=by
   rw[As J,EL,<-hk,N]
   exact KY E Q
  have kk:=ih (i+1) (by omega) Y B (by omega) hB e1.symm
  rw[N]
  simp (disch:=omega) [u,Z,U,hsx,hB,hz,W,hk3,wi,-Int.natCast_add]
  exact kk
theorem AgL (N:TreeV t h n es)(Y:AY t=true)(W:IsSl w (BT ins))(hl:ins.length=t.hood.length)(hs:∀s,s∈ins->0<=s/\s<t.states)(H:Hp):Gives G 71 [.m (.ag [J4 t.states,h,n]),.m w] H (.tu [J0 (KM t ins),J0 0]) H:=by
 have U:=HA Y
 have g1:=fun H=>ZQ N H
 rw[Y]at g1
 have g2:=fun H=>Up N U W (by omega) hs H
 have hh:=BZ U.hood
 have u:=W.rules
 simp only[Bo]at u
 have z:=N.hd.rules
 simp only[Bq]at z
 have hl2:(ins.length:Int)=t.hood.length:=by omega
 refine Ae rfl rfl rfl rfl rfl ?_
 simp (disch:=omega) [cl (g1 _),u,z,hl]
 refine(?key:∀(i:Nat) (B:LE),i<=ins.length->getB B 2=some [J0 t.states,.m h,.m n]->Run G c71_B0 (S71_0 (.m w) (.fa 2 0) (J0 (i:Int)) B []) _) 0 _ (Aho _) rfl
 refine Bl (fun i:Nat=>ins.length-i) fun i Z B hi J=>?_
 unfold c71_B0
 cases hx:ins[i]? with
 | none =>
  have:i=ins.length:=by have:=Ahn.1 hx;omega
  subst this
  simp (disch:=omega) [u,J,cl (g2 _)]
 | some s =>
  have hlt:=(Am hx).1
  have E:(i:Int)<ins.length:=by omega
  have hsv:=hs s (Ahm hx)
  have h1:¬s<0:=by omega
  have h2:¬t.states<=s:=by omega
  have Q:nth (BT ins) i=some [J4 s]:=Cg hx
  have wi:=J1 i (by omega)
  have kk:=Z (i+1) (by omega) B (by omega) J
  simp (disch:=omega) [u,E,Q,J,h1,h2,wi,-Int.natCast_add]
  exact kk
theorem KU (N:TreeV t h n es)(H:Hp):Gives G 36 [.m (.ag [J4 t.states,h,n])] H (.m (.b (Bd t))) H:=by
 have g1:=fun H=>ZQ N H
 have E:=N.hd.rules
 simp only[Bq]at E
 refine Ae rfl rfl rfl rfl rfl ?_
 have u:Bd t=(AY t&&decide (KM t (List.replicate t.hood.length 0)=0)):=rfl
 cases ht:AY t with
 | false =>
  rw[ht]at g1 u
  have u:Bd t=false:=u
  simp (disch:=omega) [cl (g1 _),u]
 | true =>
  rw[ht]at g1 u
  rw[Aiy]at u
  have Q:=HA ht
  have Z:=BZ Q.hood
  have Y:∀s,s∈List.replicate t.hood.length (0:Int)->0<=s/\s<t.states:=fun s W=>by
   have:=(List.mem_replicate.1 W).2
   have:=Q.s2
   omega
  have z:(List.replicate t.hood.length ([V.m (J4 0)]:List V))=BA (List.replicate t.hood.length 0):=by unfold BA;rw[List.map_replicate]
  have J:=AgL N ht (Bf (BT (List.replicate t.hood.length 0))) (by simp) Y []
  have U:=AU (H:=[Row.cs 3 1 (BA (List.replicate t.hood.length 0)) 0 false]) (vs:=[.m (.ag [J4 t.states,h,n]),.sl 0 t.hood.length 1 0 t.hood.length true]) (is:=[.ag [J4 t.states,h,n],.sl (BT (List.replicate t.hood.length 0))]) rfl rfl J (by
   have:=XZ (r:=0) (ver:=t.hood.length) (st:=0) (len:=t.hood.length) (lim:=true) (base:=0) (fz:=false) (l:=List.replicate t.hood.length 0) (H:=[Row.cs 3 1 (BA (List.replicate t.hood.length 0)) 0 false]) rfl (Aho _) 18
   rw[Aio,Ahz (by simp)]at this
   show Option.bind (some _) (fun _=>Option.bind (Option.bind (view 20 _ _) _) _)=_
   rw[this]
   rfl) (.inr ⟨by simp[Du,Fp],rfl⟩)
  rw[u]
  have hb:(t.hood.length:Int)<=17592186044416:=by omega
  simp (disch:=omega) [Ac,Ab,cl (g1 _),E,z,cl U]
theorem Nm (hT:TreeV t h n es)(hv:IsSl v (Af p))(hl:(p.length:Int)<=9223372036854775806)(H:Hp):Gives G 37 [.m (.ag [J4 t.states,h,n]),.m v] H (J0 (CB t p)) H:=by
 have g1:=fun H=>KU hT H
 have U:=fun H=>IU hv (by omega) H
 have z:=hv.rules
 simp only[J3]at z
 refine Ae rfl rfl rfl rfl rfl ?_
 have u:CB t p=if Bd t=true then if right p=true then if RT p<t.states then 0 else 10 else 2 else 11:=rfl
 cases hq:Bd t with
 | false =>
  rw[hq]at g1 u
  have u:CB t p=11:=u
  simp (disch:=omega) [cl (g1 _),u]
 | true =>
  rw[hq]at g1 u
  cases hr:right p with
  | false =>
   rw[hr]at U u
   have u:CB t p=2:=u
   simp (disch:=omega) [cl (g1 _),cl (U _),u]
  | true =>
   rw[hr]at U u
   have u:CB t p=if RT p<t.states then 0 else 10:=u
   have hs2:=(DK hq).s2
   have N:=II (k:=t.states) (by omega) _ p rfl
   simp (disch:=omega) [cl (g1 _),cl (U _)]
   refine(?key:∀(i:Nat) (B:LE),i<=p.length->getB B 2=some [J0 t.states,.m h,.m n]->(∀(j:Nat) c,j<i->p[j]? = some c->c.s<t.states)->Run G c37_B0 (S37_0 (.m v) (.fa 2 0) (J0 (i:Int)) B []) _) 0 _ (Aho _) rfl (fun j c h=>by omega)
   refine Bl (fun i:Nat=>p.length-i) fun i ih B hi Y J=>?_
   unfold c37_B0
   cases hx:p[i]? with
   | none =>
    have:i=p.length:=by have:=Ahn.1 hx;omega
    subst this
    have e0:CB t p=0:=by
     rw[u,Ahl (N.2 fun c Q=>by
      obtain⟨j,W⟩:=List.mem_iff_getElem?.1 Q
      exact J j c (Am W).1 W)]
    simp (disch:=omega) [z,e0]
   | some c =>
    have hlt:=(Am hx).1
    have E:(i:Int)<p.length:=by omega
    have hn:=Ap hx
    have wi:=J1 i (by omega)
    by_cases Q:t.states<=c.s
    ·have e1:CB t p=10:=by rw[u,Ahj (fun h=>by have:=N.1 h c (Ahm hx);omega)]
     simp (disch:=omega) [z,E,hn,Y,Q,e1]
    ·have kk:=ih (i+1) (by omega) B (by omega) Y (fun j d W Z=>by
      by_cases e:j<i
      ·exact J j d e Z
      ·have:j=i:=by omega
       subst this
       rw[hx]at Z
       cases Z
       omega)
     simp (disch:=omega) [z,E,hn,Y,Q,wi,-Int.natCast_add]
     exact kk
theorem Aae {y:I}(h:IsSl y es):Ay (.m y)=some [.m y]:=by
 rcases h with rfl|⟨rfl,_⟩ <;> rfl
theorem AgV (Q:right p=true):∃(bx by_:Int) (w h:Nat),Nr p=[bx,by_,(w:Int),(h:Int)]/\(w<=2097153/\h<=2097153)/\(-1048576<=bx/\bx<=1048576)/\(-1048576<=by_/\by_<=1048576)/\(∀c,c∈p->(bx<=c.x/\c.x<bx+w)/\(by_<=c.y/\c.y<by_+h))/\((1<=w/\1<=h)\/(w=0/\h=0)):=by
 cases p with
 | nil=>exact⟨0,0,0,0,rfl,by omega,by omega,by omega,fun c z=>(by cases z),.inr ⟨rfl,rfl⟩⟩
 | cons a r =>
  obtain⟨_,hg,_⟩:=CN Q
  have E:∀c,c∈a::r->(-1048576<=c.x/\c.x<=1048576)/\(-1048576<=c.y/\c.y<=1048576):=fun c z=>by
   have:=hg c z
   unfold Cz placed at this
   simp only[Ahi,Aht]at this
   omega
  obtain⟨l,N⟩:∃d,(a::r)[(a::r).length-1]? = some d:=⟨_,Ahh (by simp)⟩
  obtain⟨y1,y2⟩:=KP Q N
  have W:∀h,(a::r).getLast h=l:=fun h=>by
   rw[List.getLast_eq_getElem,<-Ahe,<-N,Ahh]
  have mx:=fun(e:Ce) (u:e∈a::r)=>(Qz ((a::r).map Ce.x) a.x).2 _ (AiD u)
  have Y:=fun(e:Ce) (u:e∈a::r)=>(Ja ((a::r).map Ce.x) a.x).2 _ (AiD u)
  have U:=fun(e:Ce) (u:e∈a::r)=>(Qz ((a::r).map Ce.y) a.y).2 _ (AiD u)
  have Z:=fun(e:Ce) (u:e∈a::r)=>(Ja ((a::r).map Ce.y) a.y).2 _ (AiD u)
  rw[y2]at U
  rw[y1]at Z
  have bX:mxF a.x ((a::r).map Ce.x)<=1048576:=Vu _ _ _ ⟨(E a (AhG ..)).1.2,fun y J=>by
   obtain⟨e,u,rfl⟩:=AhE.1 J
   exact(E e u).1.2⟩
  have bN:-1048576<=mnF a.x ((a::r).map Ce.x):=JZ _ _ _ ⟨(E a (AhG ..)).1.1,fun y J=>by
   obtain⟨e,u,rfl⟩:=AhE.1 J
   exact(E e u).1.1⟩
  have hlb:=E l (Ahm N)
  have hab:=E a (AhG ..)
  have m5:=Y a (AhG ..)
  have m6:=mx a (AhG ..)
  have m7:=U a (AhG ..)
  have e:Nr (a::r)=[mnF a.x ((a::r).map Ce.x),a.y,wr .i64 (wr .i64 (mxF a.x ((a::r).map Ce.x)-mnF a.x ((a::r).map Ce.x))+1),wr .i64 (wr .i64 (l.y-a.y)+1)]:=by
   unfold Nr
   dsimp only
   rw[Ahl Q,W]
  generalize mnF a.x ((a::r).map Ce.x)=n at *
  generalize mxF a.x ((a::r).map Ce.x)=m at *
  rw[Aa (x:=m-n) (by omega) (by omega),Aa (x:=m-n+1) (by omega) (by omega),Aa (x:=l.y-a.y) (by omega) (by omega),Aa (x:=l.y-a.y+1) (by omega) (by omega)]at e
  obtain⟨w,hw⟩:=AhA (show 0<=m-n+1 by omega)
  obtain⟨k,hk⟩:=AhA (show 0<=l.y-a.y+1 by omega)
  rw[hw,hk]at e
  refine⟨n,a.y,w,k,e,by omega,by omega,by omega,fun c z=>?_,.inl ⟨by omega,by omega⟩⟩
  have h1:=mx c z
  have h2:=Y c z
  have h3:=U c z
  have h4:=Z c z
  omega
variable {q:List Ce}
theorem VQ {c:Ce}(h:∀d,d∈q -> ¬(d.x=c.x/\d.y=c.y))(x y:Int):DB (q++[c]) x y=if c.x=x/\c.y=y then c.s else DB q x y:=by
 induction q with
 | nil=>rfl
 | cons d r z =>
  have z:=z fun e J=>h e (AhZ _ J)
  have Q:=h d (AhG ..)
  have E:DB (d::r++[c]) x y=if d.x=x/\d.y=y then d.s else DB (r++[c]) x y:=rfl
  have N:DB (d::r) x y=if d.x=x/\d.y=y then d.s else DB r x y:=rfl
  rw[E,N,z]
  by_cases u:d.x=x/\d.y=y
  ·rw[Ahl u,Ahl u,Ahj]
   intro U
   exact Q ⟨by omega,by omega⟩
  ·rw[Ahj u,Ahj u]
theorem Lm {x y:Int}(h:∀c,c∈p -> ¬(c.x=x/\c.y=y)):DB p x y=0:=Aiu fun J=>by
 obtain⟨c,u,E,z,_⟩:=QP J
 exact h c u ⟨E,z⟩
def Db (p:List Ce)(bx by_:Int)(w n:Nat):List Int:=(List.range n).map fun k=>DB p (bx+((k%w:Nat):Int)) (by_+((k / w:Nat):Int))
theorem Ec (p:List Ce)(bx by_:Int)(w n:Nat):(Db p bx by_ w n).length=n:=by simp[Db]
variable {a b:Nat}
theorem Aai {w:Nat}(h:a<w):(b*w+a) / w=b/\(b*w+a)%w=a:=by
 constructor
 ·rw[AiK,Nat.mul_add_div (by omega),Nat.div_eq_of_lt h];rfl
 ·rw[AiK,Nat.mul_add_mod,Nat.mod_eq_of_lt h]
theorem YU (p:List Ce)(bx by_:Int){w n:Nat}(u:a<w)(J:b*w+a<n):(Db p bx by_ w n)[b*w+a]? = some (DB p (bx+a) (by_+b)):=by
 unfold Db
 rw[AhD,List.getElem?_range J]
 obtain⟨E,z⟩:=Aai (b:=b) u
 show some (DB p (bx+(((b*w+a)%w:Nat):Int)) (by_+(((b*w+a) / w:Nat):Int)))=_
 rw[E,z]
theorem YS {c:Ce}(bx by_:Int){w n:Nat}(J:a<w)(W:b*w+a<n)(Z:c.x=bx+a)(Q:c.y=by_+b)(h:∀d,d∈q -> ¬(d.x=c.x/\d.y=c.y)):Db (q++[c]) bx by_ w n=(Db q bx by_ w n).set (b*w+a) c.s:=by
 refine List.ext_getElem? fun k=>?_
 rw[List.getElem?_set]
 by_cases U:k<n
 ·have e:∀p,(Db p bx by_ w n)[k]? = some (DB p (bx+((k%w:Nat):Int)) (by_+((k / w:Nat):Int))):=fun p=>by
   unfold Db
   rw[AhD,List.getElem?_range U]
   rfl
  rw[e,e,Ec,VQ h]
  by_cases u:b*w+a=k
  ·subst u
   obtain⟨z,E⟩:=Aai (b:=b) J
   rw[z,E,Ahl rfl,Ahl W,Ahl ⟨Z,Q⟩]
  ·rw[Ahj u,Ahj]
   intro⟨z,E⟩
   have N:k%w=a:=by omega
   have Y:k / w=b:=by omega
   have:=Nat.div_add_mod k w
   rw[N,Y,AiK]at this
   exact u this
 ·have e:∀p,(Db p bx by_ w n)[k]? = none:=fun p=>Ahn.2 (by rw[Ec];omega)
  rw[e,e,Ahj (by omega)]
theorem YT (bx by_:Int)(w n:Nat):Db [] bx by_ w n=List.replicate n 0:=by
 unfold Db
 rw[show (fun k:Nat=>DB [] (bx+((k%w:Nat):Int)) (by_+((k / w:Nat):Int)))=fun _=>0 from rfl,List.map_const',List.length_range]
theorem w1_x {l:List Int}{j:Nat}(h:j<l.length)(x:Int):BS 1 (BA l) j 0 [J0 x]=some (BA (l.set j x)):=by
 have z:l[j]? = some l[j]:=Ahh h
 have u:nth (BA l) j=some [.m (J4 l[j])]:=by rw[AL];simp[BA,h]
 show (nth (BA l) j).bind _=_
 rw[u]
 show AO (BA l) j [J0 x]=_
 rw[AA _ _ _ (by rw[FU];exact h)]
 simp[BA,List.map_set]
def Nk (fl:Bool)(bx by_ w h:Int)(cs li:I):I:=.ag [.b fl,.i .i64 bx,.i .i64 by_,.i .i64 w,.i .i64 h,cs,li]
structure FldV (p:List Ce)(v x:I):Prop where
 ex:∃(bx by_:Int) (w h:Nat) (fl:Bool) (cs:I),x=Nk fl bx by_ w h cs v/\(w<=2097153/\h<=2097153)/\(-1048576<=bx/\bx<=1048576)/\(-1048576<=by_/\by_<=1048576)/\(∀c,c∈p->(bx<=c.x/\c.x<bx+w)/\(by_<=c.y/\c.y<by_+h))/\((1<=w/\1<=h)\/(w=0/\h=0))/\(fl=true->w*h<=40000/\IsSl cs (BT (Db p bx by_ w (w*h))))/\BM (.m cs)=true
set_option maxHeartbeats 4000000 in
theorem Yc (hv:IsSl v (Af p))(hr:right p=true)(H:Hp):∃x,FldV p v x/\Gives G 98 [.m v] H (.m x) H:=by
 obtain⟨pw,hg,hl⟩:=CN hr
 have N:=hv.rules
 simp only[J3]at N
 have Y:=Cv hv
 have hvc:=Aae hv
 obtain⟨bx,by_,w,h,hbx,u,z,E,J,hne⟩:=AgV hr
 have g1:=fun H=>AgU hv (by omega) H
 unfold QZ at g1
 rw[hbx]at g1
 simp only[AhL,List.map_nil]at g1
 obtain⟨P,hP⟩:∃P,P=w*h:=⟨_,rfl⟩
 have hPb:P<=2097153*2097153:=by rw[hP];exact Nat.mul_le_mul u.1 u.2
 have hPi:(w:Int)*(h:Int)=(P:Int):=by rw[hP];simp
 have wP:wr .i64 ((w:Int)*(h:Int))=(P:Int):=by rw[hPi];exact Aa (by omega) (by omega)
 have key:∃x H',Gives G 98 [.m v] H x H'/\(H'=H /\ ∃y,FldV p v y/\x=.m y):=by
  refine AJ ?_
  refine Cs rfl rfl rfl rfl rfl ?_
  generalize hQ:(fun(x:V) (H':Hp)=>H'=H /\ ∃y,FldV p v y/\x=.m y)=Q
  have qk:∀y,FldV p v y->Q (.m y) H:=fun y hy=>by rw[<-hQ];exact⟨rfl,y,hy,rfl⟩
  clear hQ
  by_cases hf:P<=40000
  ·have U:(P:Int)<=40000:=by omega
   have hrow:(List.replicate P ([V.m (J4 0)]:List V))=BA (Db (p.take 0) bx by_ w P):=by rw[List.take_zero,YT];unfold BA;rw[List.map_replicate]
   have hb:(P:Int)<=17592186044416:=by omega
   simp (disch:=omega) [Ac,Ab,cl (g1 _),wP,U,Y,hvc,hrow]
   refine(?key:∀(i Z:Nat) (B:LE),i<=p.length->Z<=P->getB B 2=some [.m (.b false),J0 0,J0 0,J0 0,J0 0,.m (.nl 4),.m (.nl 4)]->getB B 3=some [J0 bx,J0 by_,J0 w,J0 h]->getB B 5=some [.m (.b true),J0 bx,J0 by_,J0 w,J0 h,.sl 0 P 1 0 P true,.m v]->Run G c98_B0 (S98_0 (.m v) (.fa 2 0) (.fa 3 0) (.fa 5 0) (J0 (i:Int)) B [Row.cs 3 1 (BA (Db (p.take i) bx by_ w P)) Z false]) _) 0 0 _ (Aho _) (Aho _) rfl rfl rfl
   refine Bl (fun i:Nat=>p.length-i) fun i ih Z B hi hb0 hB2 hB3 W=>?_
   unfold c98_B0
   cases hx:p[i]? with
   | none =>
    have:i=p.length:=by have:=Ahn.1 hx;omega
    subst this
    rw[AhI]
    have hvw:view 19 [Row.cs 3 1 (BA (Db p bx by_ w P)) Z false] (.sl 0 P 1 0 P true)=some (.sl (BT (Db p bx by_ w P))):=by
     have:=XZ (r:=0) (ver:=P) (st:=0) (len:=P) (lim:=true) (base:=Z) (fz:=false) (l:=Db p bx by_ w P) (H:=[Row.cs 3 1 (BA (Db p bx by_ w P)) Z false]) rfl hb0 17
     rw[Aio,Ahz (by rw[Ec];exact Ahk _)]at this
     exact this
    have k:=qk (Nk true bx by_ w h (.sl (BT (Db p bx by_ w P))) v) ⟨bx,by_,w,h,true,_,rfl,u,z,E,J,hne,fun _=>⟨by omega,by rw[<-hP];exact Bf _⟩,rfl⟩
    unfold Nk at k
    have hvw2:viewR [Row.cs 3 1 (BA (Db p bx by_ w P)) Z false] (.ag [.m (.b true),J0 bx,J0 by_,J0 w,J0 h,.sl 0 P 1 0 P true,.m v])=some (.m (.ag [.b true,J4 bx,J4 by_,J4 w,J4 h,.sl (BT (Db p bx by_ w P)),v])):=by
     show Option.bind (Option.bind (Ah (view 19 _) _) _) _=_
     simp only[Ah,hvw,Ahp]
     rfl
    simp (disch:=omega) [Ab,N,hB2,W,Y,hvw2]
    exact k
   | some c =>
    have hlt:=(Am hx).1
    have hlt':(i:Int)<p.length:=by omega
    have hn:=Ap hx
    have wi:=J1 i (by omega)
    have hci:=J c (Ahm hx)
    obtain⟨a,ha⟩:=AhA (show 0<=c.x-bx by omega)
    obtain⟨b,hb⟩:=AhA (show 0<=c.y-by_ by omega)
    have haw:a<w:=by omega
    have hbh:b<h:=by omega
    have hk:b*w+a<P:=by
     rw[hP]
     have h1:(b+1)*w<=h*w:=Aif _ hbh
     rw[AhU,Nat.one_mul,AiK h w]at h1
     omega
    obtain⟨M,hM⟩:∃M,M=b*w:=⟨_,rfl⟩
    have hMi:(b:Int)*(w:Int)=(M:Int):=by rw[hM];simp
    rw[<-hM]at hk
    have w47:wr .i64 (c.y-by_)=(b:Int):=by rw[hb];exact Aa (by omega) (by omega)
    have w50:wr .i64 ((b:Int)*(w:Int))=(M:Int):=by rw[hMi];exact Aa (by omega) (by omega)
    have w56:=J2 ((M:Int)+c.x) (by omega)
    obtain⟨k0,hk0⟩:∃k0,k0=M+a:=⟨_,rfl⟩
    have w59:wr .i64 ((M:Int)+c.x-bx)=(k0:Int):=by rw[Aa (by omega) (by omega)];omega
    have hk1:k0<P:=by omega
    have hk2:(k0:Int)<P:=by omega
    have hdis:∀d,d∈p.take i -> ¬(d.x=c.x/\d.y=c.y):=fun d hd=>by
     have pw':=pw
     rw[<-List.take_append_drop i p,(Am hx).2]at pw'
     have:=(Ait.1 pw').2.2 d hd c (AhG ..)
     unfold Ba at this
     simp only[Aht]at this
     omega
    have hgs:=YS (q:=p.take i) (c:=c) bx by_ (w:=w) (n:=P) (a:=a) (b:=b) haw (by omega) (by omega) (by omega) hdis
    rw[<-As hx,<-hM,<-hk0]at hgs
    have hw1:=w1_x (l:=Db (p.take i) bx by_ w P) (j:=k0) (by rw[Ec];exact hk1) c.s
    rw[<-hgs]at hw1
    have kk:=ih (i+1) (by omega) P B (by omega) (Ahk _) hB2 hB3 W
    have hrl:(BA (Db (p.take i) bx by_ w P)).length=P:=by rw[FU,Ec]
    simp (disch:=omega) [Ab,N,hlt',hn,hB3,W,w47,w50,w56,w59,hw1,hrl,wi,-Int.natCast_add]
    exact kk
  ·have U:¬(P:Int)<=40000:=by omega
   have k:=qk (Nk false bx by_ w h (.nl 4) v) ⟨bx,by_,w,h,false,.nl 4,rfl,u,z,E,J,hne,fun h=>(by cases h),rfl⟩
   unfold Nk at k
   simp (disch:=omega) [Ab,cl (g1 _),wP,U,Y,hvc]
   exact k
 obtain⟨x,H',h1,rfl,y,h2,rfl⟩:=key
 exact⟨y,h2,h1⟩
end Go.Mx.Tryz
namespace Go.Mx.Tryz
open Go.Lib
instance:DecidableEq Ce:=fun a b=>if h:a.x=b.x/\a.y=b.y/\a.s=b.s then isTrue (by cases a;cases b;obtain⟨h1,h2,h3⟩:=h;dsimp only at h1 h2 h3;rw[h1,h2,h3]) else isFalse fun e=>h (by rw[e];exact⟨rfl,rfl,rfl⟩)
noncomputable def stp (t:TreeC)(p:List Ce):List Ce×Int:=@Classical.epsilon _ ⟨([],0)⟩ (DM t p)
variable {t:TreeC} {p:List Ce}
theorem JR {r:List Ce×Int}(h:DM t p r):stp t p=r:=JS (@Classical.epsilon_spec_aux _ ⟨([],0)⟩ (DM t p) ⟨r,h⟩) h
def Dr (t:TreeC):Prop:=∀p,CB t p=0->DM t p (stp t p)
variable {q:List Ce}
theorem Adv (u:Bd t=true)(N:q.Pairwise (fun a b=>Ba a b=true))(E:∀c,c∈q->Cz c=true)(Q:q.length<=5000)(J:Hu t q):CB t q=0:=by
  unfold CB
  rw[Ahl u,Ahl (Gg N E Q),Ahl ((II (by have:=(DK u).s2;omega) _ q rfl).2 fun c z=>(J c z).2)]
theorem IK (E:CB t p=0)(hs:DM t p (stp t p))(N:(stp t p).2=0):CB t (stp t p).1=0:=by
  obtain⟨z,Z,Q⟩:=BU E
  have u:DM t p ((stp t p).1,0):=by rw[<-N];exact hs
  obtain⟨W,Y,U,J⟩:=Qc (DK z) Q u
  exact Adv z W Y U J
theorem Ux (hs:DM t p (stp t p))(u:¬(stp t p).2=0):(stp t p).1=[]:=by
  generalize stp t p=r at *
  rcases hs with ⟨rfl,_⟩|⟨_,q,_,_,rfl⟩
  · rfl
  · split
    · rfl
    · rename_i z
      rw[Ahj z]at u
      exact absurd rfl u
noncomputable def Ca (t:TreeC)(p:List Ce):List Ce×Int:=if CB t p=0 then stp t p else ([],CB t p)
theorem Acu (E:Dr t)(z:(Ca t p).2=0):CB t p=0/\Ca t p=stp t p/\CB t (Ca t p).1=0:=by
  unfold Ca at *
  by_cases u:CB t p=0
  · rw[Ahl u]at *
    exact⟨u,rfl,IK u (E p u) z⟩
  · rw[Ahj u]at z
    exact absurd z u
noncomputable def BQ (t:TreeC):Nat->List Ce->List Ce×Int
  | 0,p=>(p,0)
  | n+1,p=>if (stp t p).2=0 then BQ t n (stp t p).1 else ([],(stp t p).2)
theorem ZU {t:TreeC}:∀(n:Nat) (p:List Ce),¬(BQ t n p).2=0->(BQ t n p).1=[]
  | 0,p,h=>absurd rfl h
  | n+1,p,h=>by
    unfold BQ at *
    by_cases u:(stp t p).2=0
    · rw[Ahl u]at *
      exact ZU n _ h
    · rw[Ahj u]
noncomputable def rnE (t:TreeC)(p:List Ce)(n:Int):List Ce×Int:=if CB t p=0 then if 0<=n/\n<=10000 then BQ t n.toNat p else ([],2) else ([],CB t p)
theorem Uw (E:Bd t=true):stp t []=([],0):=by
  have u:∀x y,Bw t [] x y=0:=fun x y=>Aiu fun h=>by
    obtain⟨c,o,z,_⟩:=HE E h
    cases z
  refine JR (.inr ⟨fun x y h=>absurd (u x y) h,[],.nil,fun c=>⟨fun h=>(by cases h),fun h=>absurd (by rw[h.1];exact u _ _) h.2⟩,rfl⟩)
def mvd:List Ce->List Ce->Option (Int×Int)
  | c::r,d::s=>if d::s=(c::r).map (fun e=>⟨e.x+(d.x-c.x),e.y+(d.y-c.y),e.s⟩) then some (d.x-c.x,d.y-c.y) else none
  | _,_=>none
theorem Vv (p:List Ce):mvd p []=none:=by cases p <;> rfl
noncomputable def HJ (t:TreeC)(p:List Ce):Nat->Int->List Ce->(Int×Int×Int)×Bool×Int
  | 0,_,_=>((0,0,0),false,0)
  | k+1,g,q=>if (stp t q).2=0 then match mvd p (stp t q).1 with
      | some d=>((g,d.1,d.2),true,0)
      | none=>HJ t p k (g+1) (stp t q).1
    else ((0,0,0),false,(stp t q).2)
variable {k:Nat}
theorem Nj {g:Int}(u:(stp t q).2=0):HJ t p (k+1) g q=match mvd p (stp t q).1 with
      | some d=>((g,d.1,d.2),true,0)
      | none=>HJ t p k (g+1) (stp t q).1:=by
  rw[HJ,Ahl u]
theorem QR {g:Int}(u:¬(stp t q).2=0):HJ t p (k+1) g q=((0,0,0),false,(stp t q).2):=by
  rw[HJ,Ahj u]
theorem HI {t:TreeC}(u:Bd t=true)(p:List Ce):∀(k:Nat) (g:Int),HJ t p k g []=((0,0,0),false,0)
  | 0,_=>rfl
  | k+1,g=>by
    rw[Nj (by rw[Uw u]),Uw u]
    show (match mvd p []with
      | some d=>((g,d.1,d.2),true,0)
      | none=>HJ t p k (g+1) [])=_
    rw[Vv]
    exact HI u p k (g+1)
theorem Ni {t:TreeC}(E:Bd t=true)(p:List Ce):∀(k:Nat) (g:Int) (q:List Ce) (m:Int×Int×Int) (e:Int),HJ t p k g q=(m,true,e) -> ∃j:Nat,j<k/\m.1=g+j/\e=0 /\ ∀i,i<=j->(BQ t i q).2=0 /\ ¬(BQ t i q).1=[]
  | 0,g,q,m,e,h=>by cases h
  | k+1,g,q,m,e,h=>by
    have u:¬q=[]:=fun e=>by rw[e,HI E]at h;cases h
    by_cases z:(stp t q).2=0
    · rw[Nj z]at h
      cases hm:mvd p (stp t q).1 with
      | some d =>
        rw[hm]at h
        cases h
        refine⟨0,by omega,by simp,rfl,fun i N=>?_⟩
        have:i=0:=by omega
        subst this
        exact⟨rfl,u⟩
      | none =>
        rw[hm]at h
        obtain⟨j,U,W,Q,J⟩:=Ni E p k (g+1) _ m e h
        refine⟨j+1,by omega,by omega,Q,fun i N=>?_⟩
        cases i with
        | zero=>exact⟨rfl,u⟩
        | succ i =>
          have e:BQ t (i+1) q=BQ t i (stp t q).1:=by rw[BQ,Ahl z]
          rw[e]
          exact J i (by omega)
    · rw[QR z]at h
      cases h
theorem QQ {t:TreeC}(p:List Ce):∀(k:Nat) (g:Int) (q:List Ce),¬(HJ t p k g q).2.2=0->(HJ t p k g q).2.1=false
  | 0,g,q,h=>rfl
  | k+1,g,q,h=>by
    by_cases u:(stp t q).2=0
    · rw[Nj u]at *
      cases hm:mvd p (stp t q).1 with
      | some d=>rw[hm]at h;exact absurd rfl h
      | none=>rw[hm]at h;exact QQ p k _ _ h
    · rw[QR u]
noncomputable def OH (t:TreeC)(p:List Ce)(most:Int):(Int×Int×Int)×Bool×Int:=if CB t p=0 then if 1<=most/\most<=64 then HJ t p most.toNat 1 p else ((0,0,0),false,2) else ((0,0,0),false,CB t p)
theorem YW {u:Int}(h:¬(OH t p u).2.2=0):(OH t p u).2.1=false:=by
  unfold OH at *
  split
  · rename_i z
    rw[Ahl z]at h
    split
    · rename_i E
      rw[Ahl E]at h
      exact QQ _ _ _ _ h
    · rfl
  · rfl
noncomputable def YR (t:TreeC)(p:List Ce)(m:Int×Int×Int):Bool×Int:=((OH t p m.1).2.1&&decide ((OH t p m.1).1=m),(OH t p m.1).2.2)
structure Sh where
  c:List Ce
  m:Int×Int×Int
def Un (p:List Ce):Bool:=match Nr p with
  | [_,_,w,h]=>decide (10000<w)||decide (10000<h)
  | _=>false
noncomputable def CL (t:TreeC)(s:Sh):Bool:=(!s.c.isEmpty&&right s.c)&&(!Un s.c&&((YR t s.c s.m).1&&decide ((YR t s.c s.m).2=0)))
def Spr (w:Int)(p:List Ce):Prop:=∀c d,c∈p->d∈p->c.x-d.x<=w/\c.y-d.y<=w
variable {w:Int}
theorem Acs (U:Bd t=true)(hs:DM t p (stp t p))(h:Spr w p):Spr (w+4) (stp t p).1:=by
  have u:∀c,c∈(stp t p).1 -> ∃d,d∈p/\(-2<=c.x-d.x/\c.x-d.x<=2)/\(-2<=c.y-d.y/\c.y-d.y<=2):=by
    generalize stp t p=r at *
    intro c z
    rcases hs with ⟨rfl,_⟩|⟨_,q,_,hm,rfl⟩
    · cases z
    · split at z
      · cases z
      · have N:=(hm c).1 z
        have Z:¬Bw t p c.x c.y=0:=by rw[<-N.1];exact N.2
        obtain⟨d,o,hd,ho,ex,ey⟩:=HE U Z
        have Q:=Eb (DK U).hood o ho
        exact⟨d,hd,by omega,by omega⟩
  intro a b W Q
  obtain⟨a',E,_,_⟩:=u a W
  obtain⟨Y,J,_,_⟩:=u b Q
  have:=h a' Y E J
  omega
theorem UO {t:TreeC}(z:Dr t):∀(n:Nat) (p:List Ce),CB t p=0->(BQ t n p).2=0->CB t (BQ t n p).1=0
  | 0,p,hc,_=>hc
  | n+1,p,hc,h=>by
    unfold BQ at *
    by_cases u:(stp t p).2=0
    · rw[Ahl u]at *
      exact UO z n _ (IK hc (z p hc) u) h
    · rw[Ahj u]at h
      exact absurd h u
theorem UN {t:TreeC}(z:Dr t)(E:Bd t=true):∀(n:Nat) (p:List Ce) (w:Int),CB t p=0->Spr w p->(BQ t n p).2=0->Spr (w+4*n) (BQ t n p).1
  | 0,p,w,hc,h,_=>by simpa[BQ]using h
  | n+1,p,w,hc,h,h0=>by
    unfold BQ at *
    by_cases u:(stp t p).2=0
    · rw[Ahl u]at *
      have:=UN z E n _ _ (IK hc (z p hc) u) (Acs E (z p hc) h) h0
      rw[show w+4*((n+1:Nat):Int)=w+4+4*(n:Int) from by omega]
      exact this
    · rw[Ahj u]at h0
      exact absurd h0 u
structure ShipR (t:TreeC)(s:Sh):Prop where
  q:Bd t=true
  ck:CB t s.c=0
  p1:1<=s.m.1
  p2:s.m.1<=64
  ph:∀i:Nat,(i:Int)<s.m.1->(BQ t i s.c).2=0 /\ ¬(BQ t i s.c).1=[]/\CB t (BQ t i s.c).1=0/\Spr 11000 (BQ t i s.c).1
theorem XY (J:right p=true)(z:Un p=false):Spr 9999 p:=by
  obtain⟨bx,by_,w,h,e,_,_,_,u,_⟩:=AgV J
  unfold Un at z
  rw[e]at z
  simp only[Bool.or_eq_false_iff,decide_eq_false_iff_not]at z
  intro c d E N
  have U:=u c E
  have Q:=u d N
  omega
theorem Fa (Y:Dr t){s:Sh}(h:CL t s=true):ShipR t s:=by
  unfold CL at h
  simp only[Ahi,AhQ,Aht]at h
  obtain⟨⟨h1,h2⟩,h3,u,E⟩:=h
  unfold YR at u E
  simp only[Ahi,Aht]at u E
  obtain⟨u,N⟩:=u
  unfold OH at u E N
  have z:CB t s.c=0:=by
    refine Aiu fun U=>?_
    rw[Ahj U]at u
    cases u
  rw[Ahl z]at u E N
  have W:1<=s.m.1/\s.m.1<=64:=by
    refine Aiu fun U=>?_
    rw[Ahj U]at u
    cases u
  rw[Ahl W]at u E N
  have Q:=(BU z).1
  obtain⟨j,k1,k2,_,Z⟩:=Ni Q s.c s.m.1.toNat 1 s.c s.m 0 (by
    generalize HJ t s.c s.m.1.toNat 1 s.c=r at *
    obtain⟨a,b,c⟩:=r
    dsimp only at *
    rw[u,E,N])
  refine⟨Q,z,W.1,W.2,fun i hi=>?_⟩
  have J:=Z i (by omega)
  refine⟨J.1,J.2,UO Y i s.c z J.1,?_⟩
  have:=UN Y Q i s.c 9999 z (XY h2 h3) J.1
  intro c d z hd
  have:=this c d z hd
  omega
def shF (p:List Ce)(dx dy:Int):List Ce×Int:=if (-2097152<=dx/\dx<=2097152)/\(-2097152<=dy/\dy<=2097152) then if (p.all fun c=>placed (c.x+dx) (c.y+dy))=true then (p.map (mvC (-dx) (-dy)),0) else ([],5) else ([],5)
def tnS (k:Nat)(p:List Ce):List Ce:=AP (p.map (tnC k))
theorem Ut (h:p.Pairwise fun a b=>Ba a b=true):Sn k p (tnS k p):=⟨Bp _,CZ (GP k (Fc h))⟩
theorem PW (h:p.Pairwise fun a b=>Ba a b=true)(u:Sn k p q):q=tnS k p:=KV (Ut h).2 u.2 (u.1.trans (Ut h).1.symm)
theorem AfP (h:Spr w p)(N:q.Perm (p.map (tnC k))):Spr w q:=fun c d Q U=>by
  obtain⟨E,z,rfl⟩:=AhE.1 (N.mem_iff.1 Q)
  obtain⟨J,u,rfl⟩:=AhE.1 (N.mem_iff.1 U)
  have Y:=h E J z u
  have W:=h J E u z
  unfold tnC CD
  split <;> dsimp only <;> omega
theorem AfQ {a b:Int}(h:Spr w p):Spr w (p.map (mvC a b)):=fun c d E Q=>by
  obtain⟨J,z,rfl⟩:=AhE.1 E
  obtain⟨N,u,rfl⟩:=AhE.1 Q
  have U:=h J N z u
  unfold mvC
  dsimp only
  omega
theorem Ka (z:right p=true)(h:Spr 11000 p):right (BG p)=true:=by
  obtain⟨E,Q,J⟩:=Aw z
  refine Gg (Ado E) (fun c u=>?_) (by unfold BG;rw[Ahr];exact J)
  refine UE (p:=p) (fun c d u N=>?_) (fun c u=>?_) c u
  · have:=h c d u N
    omega
  · exact(AW z u).2.2
theorem QM:BG p=[]↔p=[]:=by unfold BG;simp
noncomputable def Sx (t:TreeC)(s:Sh)(n k:Nat):List Ce:=BG (tnS k (BG (BQ t n s.c).1))
theorem Qe {s:Sh}(h:ShipR t s){n:Nat}(W:(n:Int)<s.m.1)(k:Nat):right (BG (BQ t n s.c).1)=true/\right (tnS k (BG (BQ t n s.c).1))=true/\right (Sx t s n k)=true /\ ¬Sx t s n k=[]:=by
  obtain⟨h1,Y,h3,E⟩:=h.ph n W
  have Z:=(BU h3).2.1
  have u:=Ka Z E
  have z:=Ut (k:=k) (Aw u).1
  have N:=JQ u z
  have Q:Spr 11000 (tnS k (BG (BQ t n s.c).1)):=AfP (AfQ E) z.1
  refine⟨u,N,Ka N Q,fun e=>Y ?_⟩
  have U:=QM.1 e
  have J:=z.1.length_eq
  rw[U,Ahr]at J
  exact QM.1 (AhJ J.symm)
structure St5 where
  i:Int
  n:Int
  k:Int
  x:Int
  y:Int
noncomputable def phF (t:TreeC)(s:Sh)(n:Int):List Ce×Int:=if Bd t=true then if (0<=n/\n<=10000)/\CL t s=true then (BG (BQ t (n.toNat%s.m.1.toNat) s.c).1,0) else ([],2) else ([],11)
noncomputable def plF (t:TreeC)(l:List Sh)(x:St5):List Ce×Int:=if Bd t=true then match (if 0<=x.i then l[x.i.toNat]? else none) with
    | some s=>if (0<=x.k/\x.k<=7)/\((0<=x.n/\x.n<=10000)/\CL t s=true) then shF (Sx t s (x.n.toNat%s.m.1.toNat) x.k.toNat) x.x x.y else ([],2)
    | none=>([],13)
  else ([],11)
variable {dx dy:Int}
theorem MR (z:right p=true):right (shF p dx dy).1=true/\((shF p dx dy).2=0->(shF p dx dy).1=p.map (mvC (-dx) (-dy))):=by
  obtain⟨U,W,Q⟩:=Aw z
  unfold shF
  split
  · split
    · rename_i N
      refine⟨Gg ?_ (fun c J=>?_) (by rw[Ahr];exact Q),fun _=>rfl⟩
      · exact List.Pairwise.map _ (fun a b u=>by rw[VG];exact u) U
      · obtain⟨d,E,rfl⟩:=AhE.1 J
        have Y:=Ahu.1 N d E
        have Z:=AW z E
        unfold Cz mvC placed at *
        simp only[Ahi,Aht]at *
        omega
    · exact⟨rfl,fun h=>by cases h⟩
  · exact⟨rfl,fun h=>by cases h⟩
theorem pl_ok (Q:Dr t){l:List Sh}{x:St5}:right (plF t l x).1=true/\((plF t l x).2=0 -> ¬(plF t l x).1=[]):=by
  unfold plF
  split
  · split
    · rename_i s _
      split
      · rename_i h
        have z:=Fa Q h.2.2
        have u:((x.n.toNat%s.m.1.toNat:Nat):Int)<s.m.1:=by
          have:=z.p1
          have:=Nat.mod_lt x.n.toNat (show 0<s.m.1.toNat from by omega)
          omega
        obtain⟨_,_,E,J⟩:=Qe z u x.k.toNat
        refine⟨(MR E).1,fun N=>?_⟩
        rw[(MR E).2 N]
        simpa using J
      · exact⟨rfl,fun h=>by cases h⟩
    · exact⟨rfl,fun h=>by cases h⟩
  · exact⟨rfl,fun h=>by cases h⟩
open Go.Proofs
variable {o:V} {H:Hp}
theorem UX {f:List Ce}(h:Sz f o H):view 20 H o=some (zP f):=by
 rcases h with ⟨rfl,rfl,rfl⟩|⟨u,rfl,rfl⟩
 ·rfl
 ·have:=On (r:=0) (b:=0) (X:=[]) (A:=[]) (q:=f) (n:=f.length) rfl (Aho _) 18
  rw[this]
  unfold zP
  rw[Ahj u]
theorem QK (l:List Ce):Bn (Af l)=AE l:=by
 unfold Bn Af AE
 rw[Aim]
 rfl
theorem AgP (p:List Ce)(z:p≠[])(hl:p.length<=1000000):Gives G 89 [.m (.sl (Af p))] [] (.sl 0 p.length 3 0 p.length false) [Row.cs 73 3 (AE p) 0 false]:=by
 refine .of_ret (Bg mono rfl rfl rfl rfl rfl ?_)
 have u:FC 4 (.m (.sl (Af p)))=some false:=rfl
 have E:∀B,An (fun _ _ _=>none) ⟨B,[]⟩ (.app 73 3 24) [.ls [],.m (.sl (Af p))]=some (.sl 0 p.length 3 0 p.length false,⟨B,[Row.cs 73 3 (AE p) 0 false]⟩):=fun B=>by
  obtain⟨c,r,rfl⟩:=AiL z
  show Bv ⟨B,[]⟩ 73 3 24 (Bn (Af (c::r)))=_
  rw[QK]
  have J:Nat.ble ((AE (c::r)).length*24) 140737488355328=true:=by rw[Bh];exact Ahq (by rw[Do];omega)
  have N:((AE (c::r)).all fun e=>Nat.beq e.length 3&&e.all BM)=true:=by
   unfold AE
   rw[List.all_map,Ahu]
   exact fun _ _=>rfl
  unfold Bv
  rw[J,N,Do]
  rfl
 simp[u,-Dz,E]
theorem Zi:Gives G 89 [.m (.sl (Af []))] [] (.ls []) []:=by
 refine .of_ret (Bg mono rfl rfl rfl rfl rfl ?_)
 have u:FC 4 (.m (.sl (Af [])))=some false:=rfl
 have z:∀B,An (fun _ _ _=>none) ⟨B,[]⟩ (.app 73 3 24) [.ls [],.m (.sl (Af []))]=some (.ls [],⟨B,[]⟩):=fun B=>rfl
 simp[u,-Dz,z]
theorem Zh:Gives G 89 [.m (.nl 4)] [] (.m (.nl 4)) []:=by
 refine .of_ret (Bg mono rfl rfl rfl rfl rfl ?_)
 have u:FC 4 (.m (.nl 4))=some true:=rfl
 simp[u]
theorem Qf (u:-2097152<=dx/\dx<=2097152)(z:-2097152<=dy/\dy<=2097152):shF p dx dy=if (p.all fun c=>placed (c.x+dx) (c.y+dy))=true then (p.map (mvC (-dx) (-dy)),0) else ([],5):=by
 unfold shF
 rw[Ahl ⟨u,z⟩]
theorem Qg (h:¬((-2097152<=dx/\dx<=2097152)/\(-2097152<=dy/\dy<=2097152))):shF p dx dy=([],5):=by
 unfold shF
 rw[Ahj h]
variable {c:Ce}
theorem UL (J:-2097152<=dx/\dx<=2097152)(E:-2097152<=dy/\dy<=2097152)(u:c∈p)(h:placed (c.x+dx) (c.y+dy)=false):shF p dx dy=([],5):=by
 rw[Qf J E,Ahj]
 rw[Ahu]
 intro z
 rw[z c u]at h
 cases h
variable {v:I}
theorem Yk (hv:IsSl v (Af p))(hp:right p=true)(dx dy:Int):∃x,IsSl x (Af (shF p dx dy).1) /\ ∀H,Gives G 46 [.m v,J0 dx,J0 dy] H (.tu [.m x,J0 (shF p dx dy).2]) H:=by
 have hl:=(Aw hp).2.2
 have hr:=hv.rules
 simp only[J3]at hr
 have g1:=fun H=>El hv (by omega) H
 rw[hp]at g1
 by_cases hd:(-2097152<=dx/\dx<=2097152)/\(-2097152<=dy/\dy<=2097152)
 rotate_left
 ·rw[Qg hd]
  refine⟨.nl 4,AM,fun H=>Ae rfl rfl rfl rfl rfl ?_⟩
  by_cases J:2097152<max dx dy
  ·simp (maxSteps:=2000000) (disch:=omega) [cl (g1 _),J]
  ·have h2:min dx dy < -2097152:=by omega
   simp (maxSteps:=2000000) (disch:=omega) [cl (g1 _),J,h2]
 obtain⟨hx,hy⟩:=hd
 have J:¬2097152<max dx dy:=by omega
 have h2:¬min dx dy < -2097152:=by omega
 by_cases Z:p=[]
 ·subst Z
  rw[Qf hx hy]
  show ∃x,IsSl x (Af []) /\ ∀H,Gives G 46 [.m v,J0 dx,J0 dy] H (.tu [.m x,J0 0]) H
  rcases hv with rfl|⟨rfl,_⟩
  ·refine⟨.sl [],Bf _,fun H=>Ae rfl rfl rfl rfl rfl ?_⟩
   simp (maxSteps:=2000000) (disch:=omega) [cl (g1 _),J,h2,cl Zi,c46_B0]
  ·refine⟨.nl 4,AM,fun H=>Ae rfl rfl rfl rfl rfl ?_⟩
   simp (maxSteps:=2000000) (disch:=omega) [cl (g1 _),J,h2,cl Zh,c46_B0]
 have hve:v=.sl (Af p):=by
  rcases hv with rfl|⟨rfl,h0⟩
  ·rfl
  ·exact absurd (by simpa[Af]using h0) Z
 subst hve
 have gc:=AgP p Z (by omega)
 have key:∃x H',Gives G 46 [.m (.sl (Af p)),J0 dx,J0 dy] [] x H'/\(H'=[] /\ ∃z,IsSl z (Af (shF p dx dy).1)/\x=.tu [.m z,J0 (shF p dx dy).2]):=by
  refine AJ ?_
  refine Cs rfl rfl rfl rfl rfl ?_
  generalize hQ:(fun(x:V) (H':Hp)=>H'=[] /\ ∃z,IsSl z (Af (shF p dx dy).1)/\x=.tu [.m z,J0 (shF p dx dy).2])=Q
  have qk:shF p dx dy=(p.map (mvC (-dx) (-dy)),0)->Q (.tu [.m (.sl (Af (p.map (mvC (-dx) (-dy))))),J0 0]) []:=fun h=>by rw[<-hQ];exact⟨rfl,_,by rw[h];exact Bf _,by rw[h]⟩
  have qe:shF p dx dy=([],5)->Q (.tu [.m (.nl 4),J0 5]) []:=fun h=>by rw[<-hQ];exact⟨rfl,_,by rw[h];exact AM,by rw[h]⟩
  clear hQ
  simp (maxSteps:=2000000) (disch:=omega) [cl (g1 _),J,h2,cl gc]
  refine(?key:∀(j b:Nat) (g:List Ce) (B:LE),j<=p.length->b<=p.length->g=(p.take j).map (mvC (-dx) (-dy))++p.drop j->((p.take j).all fun c=>placed (c.x+dx) (c.y+dy))=true->Run G c46_B0 (S46_0 (J0 dx) (J0 dy) (.sl 0 p.length 3 0 p.length false) (J0 (p.length:Int)) (J0 (j:Int)) B [Row.cs 73 3 (AE g) b false]) _) 0 0 p _ (Aho _) (Aho _) (by simp) rfl
  refine Bl (fun j:Nat=>p.length-j) fun j ih b g B hj W hg u=>?_
  have U:g.length=p.length:=by rw[hg,Ahv,Ahr,Ahx,AhT];omega
  unfold c46_B0
  cases hpj:p[j]? with
  | some c =>
   have hlt:=(Am hpj).1
   have E:(j:Int)<p.length:=by omega
   have wj:=J1 j (by omega)
   have hbc:=AW hp (Ahm hpj)
   have w1:=J2 (c.x+dx) (by omega)
   have w2:=J2 (c.y+dy) (by omega)
   have htl:((p.take j).map (mvC (-dx) (-dy))).length=j:=by rw[Ahr,Ahx];omega
   have hgc:g[j]? = some c:=by
    rw[hg,AhP (by omega),htl,Nat.sub_self,(Am hpj).2]
    rfl
   have N:(g.set j ⟨c.x+dx,c.y,c.s⟩)[j]? = some ⟨c.x+dx,c.y,c.s⟩:=by
    rw[AiM (by omega)]
   have hgc2:(g.set j ⟨c.x+dx,c.y+dy,c.s⟩)[j]? = some ⟨c.x+dx,c.y+dy,c.s⟩:=by
    rw[AiM (by omega)]
   have rx:=r3_x hgc
   have ry:=r3_y N
   have wx:=w3_x hgc (c.x+dx)
   have wy:=w3_y N (c.y+dy)
   rw[List.set_set]at wy
   have e:g.set j ⟨c.x+dx,c.y+dy,c.s⟩=(p.take (j+1)).map (mvC (-dx) (-dy))++p.drop (j+1):=by
    rw[hg,AiF _ _ (by omega),htl,Nat.sub_self,(Am hpj).2,As hpj]
    simp[mvC]
   have rr:nth (AE (g.set j ⟨c.x+dx,c.y+dy,c.s⟩)) j=some [J0 (c.x+dx),J0 (c.y+dy),J0 c.s]:=CM hgc2
   have rr3:CW 3 (AE (g.set j ⟨c.x+dx,c.y+dy,c.s⟩)) j 0 3=some [J0 (c.x+dx),J0 (c.y+dy),J0 c.s]:=by
    rw[KR,rr]
    rfl
   have ga:=fun H=>Ady ⟨c.x+dx,c.y+dy,c.s⟩ H
   have gp:=fun H=>HC (c.x+dx) (c.y+dy) H
   dsimp only at ry wy ga
   have Y:placed (c.x+dx) (c.y+dy)=true->((p.take (j+1)).all fun c=>placed (c.x+dx) (c.y+dy))=true:=fun h=>by
    rw[As hpj,List.all_append,u]
    simp[h]
   have k2:=fun h B'=>ih (j+1) (by omega) p.length _ B' (by omega) (Ahk _) e (Y h)
   cases hpl:placed (c.x+dx) (c.y+dy) with
   | true =>
    have k3:=k2 hpl
    rw[hpl]at gp
    simp (maxSteps:=2000000) (disch:=omega) [Ab,E,wj,w1,w2,rx,ry,wx,wy,rr3,W,U,cl (ga _),cl (gp _),-Int.natCast_add]
    exact k3 _
   | false =>
    have k3:=qe (UL hx hy (Ahm hpj) hpl)
    rw[hpl]at gp
    simp (maxSteps:=2000000) (disch:=omega) [Ab,E,w1,w2,rx,ry,wx,wy,rr3,W,U,cl (ga _),cl (gp _)]
    exact k3
  | none =>
   have:j=p.length:=by have:=Ahn.1 hpj;omega
   subst this
   rw[AhI]at hg u
   rw[Aia,Aid]at hg
   have k2:=qk (by rw[Qf hx hy,Ahl u])
   rw[<-hg]at k2
   have hvw:=On (r:=0) (b:=b) (X:=[]) (A:=[]) (q:=g) (n:=p.length) U W 18
   simp (maxSteps:=2000000) (disch:=omega) [hvw]
   exact k2
 obtain⟨x,H',g,rfl,z,J,rfl⟩:=key
 exact⟨z,J,fun H=>AU (H:=H) (is:=[.sl (Af p),J4 dx,J4 dy]) rfl rfl g rfl (.inl ⟨rfl,rfl⟩)⟩
theorem Yj (hv:IsSl v (Af p))(hp:right p=true)(dx dy:Int)(H:Hp):Gives G 48 [.m v,J0 dx,J0 dy] H (.tu [.m (zP (shF p dx dy).1),J0 (shF p dx dy).2]) H:=by
 have hl:=(Aw hp).2.2
 have Z:=hv.rules
 simp only[J3]at Z
 have g1:=fun H=>IU hv (by omega) H
 rw[hp]at g1
 by_cases hd:(-2097152<=dx/\dx<=2097152)/\(-2097152<=dy/\dy<=2097152)
 rotate_left
 ·rw[Qg hd]
  refine Ae rfl rfl rfl rfl rfl ?_
  by_cases h1:dx < -2097152
  ·simp (maxSteps:=2000000) (disch:=omega) [cl (g1 _),h1,zP]
  ·by_cases h2:2097152<dx
   ·simp (maxSteps:=2000000) (disch:=omega) [cl (g1 _),h1,h2,zP]
   ·by_cases h3:dy < -2097152
    ·simp (maxSteps:=2000000) (disch:=omega) [cl (g1 _),h1,h2,h3,zP]
    ·have h4:2097152<dy:=by omega
     simp (maxSteps:=2000000) (disch:=omega) [cl (g1 _),h1,h2,h3,h4,zP]
 obtain⟨W,U⟩:=hd
 refine Ae rfl rfl rfl rfl rfl ?_
 simp (maxSteps:=2000000) (disch:=omega) [cl (g1 _),show ¬dx < -2097152 from by omega,show ¬2097152<dx from by omega,show ¬dy < -2097152 from by omega,show ¬2097152<dy from by omega]
 refine(?key:∀(i:Nat) (f:List Ce) (o:V) (B:LE) (H1:Hp),i<=p.length->f=(p.take i).map (mvC (-dx) (-dy))->((p.take i).all fun c=>placed (c.x+dx) (c.y+dy))=true->Sz f o H1->Run G c48_B0 (S48_0 (.m v) (J0 dx) (J0 dy) o (J0 (i:Int)) B H1) _) 0 [] _ _ _ (Aho _) rfl rfl (.inl ⟨rfl,rfl,rfl⟩)
 refine Bl (fun i:Nat=>p.length-i) fun i ih f o B H1 hi Y u ho=>?_
 unfold c48_B0
 have hfl:f.length=i:=by rw[Y,Ahr,Ahx];omega
 obtain⟨hvw,Q⟩:=DZ ho
 cases hx:p[i]? with
 | some c =>
  have hlt:=(Am hx).1
  have z:(i:Int)<p.length:=by omega
  have hn:=Ap hx
  have wi:=J2 ((i:Int)+1) (by omega)
  have N:p.take (i+1)=p.take i++[c]:=As hx
  have hbd:=AW hp (Ahm hx)
  have wx:=J2 (c.x+dx) (by omega)
  have wy:=J2 (c.y+dy) (by omega)
  have gp:=fun H=>HD (c.x+dx) (c.y+dy) H
  obtain⟨o1,H2,ha,hn1,ho1⟩:=Cc ho (by omega) (mvC (-dx) (-dy) c)
  have e1:(mvC (-dx) (-dy) c).x=c.x+dx:=by unfold mvC;dsimp only;omega
  have e2:(mvC (-dx) (-dy) c).y=c.y+dy:=by unfold mvC;dsimp only;omega
  have e3:(mvC (-dx) (-dy) c).s=c.s:=rfl
  simp only[e1,e2,e3]at ha
  have he:f++[mvC (-dx) (-dy) c]=(p.take (i+1)).map (mvC (-dx) (-dy)):=by rw[N,Y];simp
  cases hpl:placed (c.x+dx) (c.y+dy) with
  | true =>
   rw[hpl]at gp
   have E:((p.take (i+1)).all fun c=>placed (c.x+dx) (c.y+dy))=true:=by
    rw[N,List.all_append,u]
    simp[hpl]
   have k2:=fun B'=>ih (i+1) (by omega) _ _ B' _ (by omega) he E ho1
   generalize shF p dx dy=res at *
   simp (maxSteps:=2000000) (disch:=omega) [Z,z,hn,wi,wx,wy,cl (gp _),ha,Al hn1]
   exact k2 _
  | false =>
   rw[hpl]at gp
   rw[UL W U (Ahm hx) hpl]
   simp (maxSteps:=2000000) (disch:=omega) [Z,z,hn,wx,wy,cl (gp _),zP]
 | none =>
  have:i=p.length:=by have:=Ahn.1 hx;omega
  subst this
  rw[AhI]at Y u
  rw[Qf W U,Ahl u,<-Y]
  have J:=UX ho
  generalize zP f=zz at *
  simp (maxSteps:=2000000) (disch:=omega) [Z,J,Al Q]
  exact Q
theorem VO (hv:IsSl v (Af p))(W:right p=true)(H:Hp):Gives G 116 [.m v] H (.m (if p=[] then v else zP (BG p))) H:=by
 have hl:=(Aw W).2.2
 have N:=hv.rules
 simp only[J3]at N
 have g1:=fun H=>IU hv (by omega) H
 rw[W]at g1
 refine Ae rfl rfl rfl rfl rfl ?_
 cases hpe:p with
 | nil =>
  have hl0:p.length=0:=by rw[hpe];rfl
  rw[Ahl rfl]
  rw[<-hpe]at *
  simp (disch:=omega) [cl (g1 _),N,hl0]
 | cons c r =>
 have hne:¬p=[]:=by rw[hpe];simp
 rw[<-hpe,Ahj hne]
 have h0:p[0]? = some c:=by rw[hpe];rfl
 have hn0:=Ap h0
 have hp0:0<p.length:=(Am h0).1
 have Z:¬p.length=0:=by omega
 have hp1':¬(p.length:Int)=0:=by omega
 have hlx:Hg p=mnF c.x (p.map Ce.x):=by rw[hpe];rfl
 have hly:GX p=mnF c.y (p.map Ce.y):=by rw[hpe];rfl
 have hbx:=QE W
 have hby:=QD W
 simp (disch:=omega) [cl (g1 _),N,Z,hn0]
 refine(?key:∀(i:Nat) (x y:Int) (B:LE),i<=p.length->x=mnF c.x ((p.take i).map Ce.x)->y=mnF c.y ((p.take i).map Ce.y)->Run G c116_B0 (S116_0 (.m v) (J0 x) (J0 y) (J0 (i:Int)) B []) _) 0 c.x c.y _ (Aho _) rfl rfl
 refine Bl (fun i:Nat=>p.length-i) fun i ih x y B hi E J=>?_
 unfold c116_B0
 cases hx:p[i]? with
 | some a =>
  have hlt:=(Am hx).1
  have u:(i:Int)<p.length:=by omega
  have hn:=Ap hx
  have wi:=J1 i (by omega)
  have a0:=HF c.x ((p.take i).map Ce.x) a.x
  have U:=HF c.y ((p.take i).map Ce.y) a.y
  rw[<-Da Ce.x hx,<-E]at a0
  rw[<-Da Ce.y hx,<-J]at U
  have k2:=fun B'=>ih (i+1) (by omega) (min x a.x) (min y a.y) B' (by omega) a0.symm U.symm
  simp (disch:=omega) [N,u,hn,wi,-Int.natCast_add]
  exact k2 _
 | none =>
  have:i=p.length:=by have:=Ahn.1 hx;omega
  subst this
  clear ih
  rw[AhI]at E J
  rw[<-hlx]at E
  rw[<-hly]at J
  subst E J
  simp (disch:=omega) [N]
  refine(?key2:∀(i:Nat) (f:List Ce) (o:V) (B:LE) (H1:Hp),i<=p.length->f=(p.take i).map (mvC (Hg p) (GX p))->Sz f o H1->Run G c116_B1 (S116_1 (.m v) (J0 (Hg p)) (J0 (GX p)) o (J0 (i:Int)) B H1) _) 0 [] _ _ _ (Aho _) rfl (.inl ⟨rfl,rfl,rfl⟩)
  clear hx hi B
  refine Bl (fun i:Nat=>p.length-i) fun i ih f o B H1 hi hf ho=>?_
  unfold c116_B1
  have hfl:f.length=i:=by rw[hf,Ahr,Ahx];omega
  obtain⟨Q,Y⟩:=DZ ho
  cases hx:p[i]? with
  | some a =>
   have hlt:=(Am hx).1
   have u:(i:Int)<p.length:=by omega
   have hn:=Ap hx
   have wi:=J1 i (by omega)
   have hba:=AW W (Ahm hx)
   have w1:=J2 (a.x-Hg p) (by omega)
   have w2:=J2 (a.y-GX p) (by omega)
   obtain⟨o1,H2,ha,hn1,ho1⟩:=Cc ho (by omega) (mvC (Hg p) (GX p) a)
   have e:f++[mvC (Hg p) (GX p) a]=(p.take (i+1)).map (mvC (Hg p) (GX p)):=by rw[As hx,hf];simp
   have k2:=fun B'=>ih (i+1) (by omega) _ o1 B' H2 (by omega) e ho1
   simp only[mvC]at ha
   generalize Hg p=lx at *
   generalize GX p=ly at *
   simp (disch:=omega) [N,u,hn,wi,w1,w2,ha,Al hn1,-Int.natCast_add]
   exact k2 _
  | none =>
   have:i=p.length:=by have:=Ahn.1 hx;omega
   subst this
   rw[AhI]at hf
   have e:f=BG p:=hf
   rw[e]at Q
   generalize zP (BG p)=z at *
   simp (disch:=omega) [N,Q,Al Y]
   exact Y
theorem JU (E:IsSl v (Af p))(hl:p.length<=5000)(N:∀c,c∈p->Cz c=true)(J:p.Pairwise apart)(H:Hp):Gives G 94 [.m v] H (.tu [.m (zP (AP p)),J0 0]) H:=by
 have u:=E.rules
 simp only[J3]at u
 have Q:=fun H=>MS E hl N J H
 generalize zP (AP p)=z at *
 refine Ae rfl rfl rfl rfl rfl ?_
 simp (disch:=omega) [u,show ¬(5000:Int)<p.length from by omega,show ¬5000<p.length from by omega,cl (Q _)]
theorem Ack (hv:IsSl v (Af p))(J:right p=true)(k:Int)(hk:-9223372036854775808<=k/\k<=9223372036854775807)(H:Hp):Gives G 115 [J0 k,.m v] H (.tu [.m (zP (tnS (CP k) p)),J0 0]) H:=by
 have hl:p.length<=5000:=(Aw J).2.2
 have U:=hv.rules
 simp only[J3]at U
 have g1:=fun H=>IU hv (by omega) H
 rw[J]at g1
 have hgd:∀c,c∈p.map (tnC (CP k))->Cz c=true:=fun c hc=>by
  have hq:=JQ J (Ut (k:=CP k) (Aw J).1)
  exact(Aw hq).2.1 c ((Ut (k:=CP k) (Aw J).1).1.mem_iff.2 hc)
 have hap:(p.map (tnC (CP k))).Pairwise apart:=GP _ (Fc (Aw J).1)
 refine Ae rfl rfl rfl rfl rfl ?_
 simp (disch:=omega) [cl (g1 _)]
 refine(?key:∀(i:Nat) (f:List Ce) (o:V) (B:LE) (z:Hp),i<=p.length->f=(p.take i).map (tnC (CP k))->OutI f o z->Run G c115_B0 (S115_0 (J0 k) (.m v) o (J0 (i:Int)) B z) _) 0 [] _ _ _ (Aho _) rfl (.inl ⟨rfl,rfl,rfl⟩)
 refine Bl (fun i:Nat=>p.length-i) fun i ih f o B z hi Q ho=>?_
 unfold c115_B0
 have hfl:f.length=i:=by rw[Q,Ahr,Ahx];omega
 cases hx:p[i]? with
 | some c =>
  have hlt:=(Am hx).1
  have N:(i:Int)<p.length:=by omega
  have hn:=Ap hx
  have wi:=J1 i (by omega)
  have htk:p.take (i+1)=p.take i++[c]:=As hx
  have hbd:=AW J (Ahm hx)
  have ga:=fun H=>Adz k c.x c.y hk (by omega) (by omega) H
  have he:f++[tnC (CP k) c]=(p.take (i+1)).map (tnC (CP k)):=by rw[htk,Q];simp
  have hnf:=AcX ho
  obtain⟨o1,H2,ha,u,ho1⟩:=Vb ho (by omega) (.cs 43 2 [[J0 (tnC (CP k) c).x,J0 (tnC (CP k) c).y]] 1 false) (tnC (CP k) c)
  have e1:(tnC (CP k) c).x=(CD (CP k) c.x c.y).1:=rfl
  have e2:(tnC (CP k) c).y=(CD (CP k) c.x c.y).2:=rfl
  have e3:(tnC (CP k) c).s=c.s:=rfl
  have k2:=fun B'=>ih (i+1) (by omega) _ o1 B' H2 (by omega) he ho1
  simp only[e1,e2,e3]at ha
  generalize (CD (CP k) c.x c.y).1=tx at *
  generalize (CD (CP k) c.x c.y).2=ty at *
  have hse:=fun y=>UM z (Row.cs 43 2 [[J0 0,J0 0]] 0 false) y
  have E:=fun(y:Row)=>CU z [y] 0
  simp only[Nat.add_zero]at E
  have hn0:∀y:Row,nth [y] 0=some y:=fun _=>rfl
  have hw:BS 2 [[V.m (J4 0),V.m (J4 0)]] 0 0 [V.m (J4 tx),V.m (J4 ty)]=some [[V.m (J4 tx),V.m (J4 ty)]]:=rfl
  have a1:CW 2 [[V.m (J4 tx),V.m (J4 ty)]] 0 0 1=some [V.m (J4 tx)]:=rfl
  have a0:CW 2 [[V.m (J4 tx),V.m (J4 ty)]] 0 1 1=some [V.m (J4 ty)]:=rfl
  simp (disch:=omega) [Ab,U,N,hn,wi,cl (ga _),hse,E,hn0,hw,a1,a0,ha,Al u,-Int.natCast_add]
  exact k2 _
 | none =>
  have:i=p.length:=by have:=Ahn.1 hx;omega
  subst this
  clear ih hx hi
  rw[AhI]at Q
  rcases ho with ⟨h1,rfl,rfl⟩|⟨E,rfl,u⟩
  ·have:p=[]:=by cases p with|nil=>rfl|cons a b=>simp[h1]at Q
   subst this
   have gf:=fun H=>JU (p:=[]) AM (by simp) (by simp) List.Pairwise.nil H
   simp (disch:=omega) [U,cl (gf _)]
   rfl
  ·subst Q
   have gf:=JU (Bf (Af (p.map (tnC (CP k))))) (by rw[Ahr];exact hl) hgd hap []
   have Z:AP (p.map (tnC (CP k)))≠[]:=fun h=>by
    have:=Bs (p.map (tnC (CP k)))
    rw[h]at this
    exact E (AhJ this.symm)
   have hzg:FD (.tu [.m (zP (AP (p.map (tnC (CP k))))),J0 0])=false:=by
    unfold zP
    rw[Ahj Z]
    rfl
   have W:=Uo u (Aho _) 18
   unfold tnS
   generalize p.map (tnC (CP k))=f at *
   have hvs:Ah (view 20 z) [V.sl 1 f.length 3 0 f.length false]=some [.sl (Af f)]:=by
    simp only[Ah,W,Ahp]
   have Y:AX ([V.sl 1 f.length 3 0 f.length false].flatMap Du) z=some (z.set 1 (.cs 73 3 (AE f) 0 true)):=by
    show Option.bind (nth z 1) _=_
    rw[u]
    show Option.bind (gd ((AE f).all fun e=>e.all isM) (some (Row.cs 73 3 (AE f) 0 true))) _=_
    rw[IT]
    show Option.bind (AO z 1 _) _=_
    rw[AA _ _ _ (AQ u)]
    rfl
   have gF:=BW (is:=[.sl (Af f)]) rfl rfl gf hvs (by simp[Du,Fp]) hzg rfl Y
   generalize zP (AP f)=zz at *
   simp (disch:=omega) [U,cl gF]
def Wx (p:List Ce)(c:Ce):Bool:=p.any fun d=>decide (d.x=c.x)&&decide (d.y=c.y)
theorem MZ (d:Ce)(s:List Ce)(c:Ce):Wx (d::s) c=((decide (d.x=c.x)&&decide (d.y=c.y))||Wx s c):=rfl
theorem Vl (h:∀d,d∈p->apart c d):Wx p c=false:=by
 unfold Wx
 rw[List.any_eq_false]
 intro d z
 have:=h d z
 unfold apart at this
 simp only[Ahi,Aht]
 exact fun u=>this ⟨u.1.symm,u.2.symm⟩
variable {s:List Ce} {d:Ce}
theorem Vk (h:apart c d):Wx (d::s) c=Wx s c:=by
 rw[MZ]
 have:(decide (d.x=c.x)&&decide (d.y=c.y))=false:=by
  rw[Bool.eq_false_iff]
  simp only[ne_eq,Ahi,Aht]
  exact fun u=>h ⟨u.1.symm,u.2.symm⟩
 rw[this,Bool.false_or]
theorem FG {a b:Ce}(h:Ba a b=true):apart a b:=by
 unfold Ba at h
 unfold apart
 simp at h
 omega
def pkF (a b:List Ce)(has:Bool):List Ce:=a.filter fun c=>Wx b c==has
variable {r b:List Ce}
theorem pk_a (u:Bool)(h:∀d,d∈b->Ba c d=true):pkF (c::r) b u=(if u=true then [] else [c])++pkF r b u:=by
 have e:=Vl (p:=b) (c:=c) fun d z=>FG (h d z)
 unfold pkF
 rw[List.filter_cons,e]
 cases u <;> rfl
variable {a:List Ce}
theorem pk_b (u:Bool)(h:∀c,c∈a->Ba d c=true):pkF a (d::s) u=pkF a s u:=by
 unfold pkF
 refine List.filter_congr fun c z=>?_
 rw[Vk (Fg (FG (h c z)))]
theorem pk_ab (u:Bool)(E:c.x=d.x)(z:c.y=d.y)(h:∀e,e∈r->Ba c e=true):pkF (c::r) (d::s) u=(if u=true then [c] else [])++pkF r s u:=by
 have e:Wx (d::s) c=true:=by rw[MZ,E,z];simp
 have N:pkF r (d::s) u=pkF r s u:=pk_b u fun e J=>by
  have:=h e J
  unfold Ba at *
  rw[<-E,<-z]
  exact this
 rw[<-N]
 unfold pkF
 rw[List.filter_cons,e]
 cases u <;> rfl
theorem AcS (b:List Ce)(u:Bool):pkF [] b u=[]:=rfl
theorem ZW:pkF a b true=[] ↔ ∀c,c∈a -> ∀d,d∈b->apart c d:=by
 unfold pkF
 rw[List.filter_eq_nil_iff]
 refine⟨fun h c u d z E=>?_,fun h c u=>?_⟩
 ·have J:=h c u
  have N:Wx b c=true:=by
   unfold Wx
   rw[List.any_eq_true]
   exact⟨d,z,by simp[E.1,E.2]⟩
  rw[N]at J
  exact J rfl
 ·rw[Vl fun d z=>h c u d z]
  simp
theorem Sl (p:List Ce):Ww 3 (Af p)=true:=by
 cases p <;> rfl
theorem IJ (h:IsSl v (Af (c::r))):∃u,IsSl u (Af r)/\Aq (.slc 3 true false false) [.m v,J0 1]=some (.m u):=by
 refine⟨subI v 1 (Af (c::r)).length,?_,?_⟩
 ·have:=h.sub 1 (Af (c::r)).length
  have e:((Af (c::r)).drop 1).take ((Af (c::r)).length-1)=Af r:=by
   show (Af r).take _=_
   rw[Ahz (by simp[Af])]
  rw[e]at this
  exact this
 ·rw[h.slc (Sl _) rfl]
  have z:KK (Af (c::r)).length true false false [J0 1]=some (1,(Af (c::r)).length):=by
   rw[AbU]
   have:bnd (Af (c::r)).length (J0 1)=some 1:=by
    show gd (Nat.ble 1 (Af (c::r)).length) (some 1)=_
    rw[Bh,Ahq (by simp[Af])]
    rfl
   rw[this]
   rfl
  rw[z]
  rfl
def Vis (f:Nat)(cap:List V)(x y:Ce)(a b:Bool):List V:=[.m (.ag x.i),.m (.ag y.i),.m (.b a),.m (.b b)]++cap
set_option maxHeartbeats 2000000 in
theorem Adk {v:I}{a b:List Ce}{H:Hp}{f:Nat}{cap:List V}(hcap:AB (.fn f cap)=true){Inv:List Ce->List Ce->Hp->Prop} 
  (h1:∀c r b H (Q:V->Hp->Prop),Inv (c::r) b H->(∀d,d∈b->Ba c d=true)->(∀H',Inv r b H'->Q (.tu []) H')->Ret G f (Vis f cap c ⟨0,0,0⟩ true false) H Q)
  (h2:∀d s a H (Q:V->Hp->Prop),Inv a (d::s) H->(∀c,c∈a->Ba d c=true)->(∀H',Inv a s H'->Q (.tu []) H')->Ret G f (Vis f cap ⟨0,0,0⟩ d false true) H Q)
  (h3:∀c r d s H (Q:V->Hp->Prop),Inv (c::r) (d::s) H->c.x=d.x->c.y=d.y->(∀e,e∈r->Ba c e=true)->(∀e,e∈s->Ba d e=true)->(∀H',Inv r s H'->Q (.tu []) H')->Ret G f (Vis f cap c d true true) H Q)
  {w:I} (hv:IsSl v (Af a)) (hw:IsSl w (Af b)) (ha:a.Pairwise fun x y=>Ba x y=true) (hb:b.Pairwise fun x y=>Ba x y=true) (hla:a.length<=1000000) (hlb:b.length<=1000000) (U:Inv a b H) {Q:V->Hp->Prop} (hQ:∀H',Inv [] [] H'->Q (.tu []) H'):Ret G 90 [.m v,.m w,.fn f cap] H Q:=by
 refine Bg mono rfl rfl rfl (by simp[hcap]) rfl ?_
 simp (maxSteps:=2000000) (disch:=omega) []
 refine(?key:∀(k:Nat) (a b:List Ce) (v w:I) (B:LE) (H:Hp),a.length+b.length=k->IsSl v (Af a)->IsSl w (Af b)->(a.Pairwise fun x y=>Ba x y=true)->(b.Pairwise fun x y=>Ba x y=true)->a.length<=1000000->b.length<=1000000->Inv a b H->Run G c90_B0 (S90_0 (.m v) (.m w) (.fn f cap) B H) _) _ a b v w _ H rfl hv hw ha hb hla hlb U
 clear U hlb hla hb ha hw hv a b v w H
 refine Bl (fun k:Nat=>k) fun k ih a b v w B H hk hv hw ha hb hla hlb U=>?_
 unfold c90_B0
 have N:=hv.rules
 have J:=hw.rules
 simp only[J3]at N
 simp only[J3]at J
 cases hae:a with
 | nil =>
  have la:a.length=0:=by rw[hae];rfl
  cases hbe:b with
  | nil =>
   have lb:b.length=0:=by rw[hbe];rfl
   have k2:=hQ H (by rw[hae,hbe]at U;exact U)
   simp (maxSteps:=2000000) (disch:=omega) [N,J,la,lb]
   exact k2
  | cons d s =>
   have hd:b[0]? = some d:=by rw[hbe];rfl
   have hn:=Ap hd
   have lb:b.length=s.length+1:=by rw[hbe];rfl
   rw[hbe]at hw hb U
   rw[hae]at U
   obtain⟨u,hu,ht⟩:=IJ hw
   have Y:=(AhK.1 hb)
   have k2:=fun H' z B'=>ih s.length (by omega) [] s v u B' H' (by simp) (by rw[<-hae];exact hv) hu .nil Y.2 (by simp) (by omega) z
   simp (maxSteps:=2000000) (disch:=omega) [N,J,la,lb,hn,show ¬((s.length:Int)+1=0) from by omega,show (0:Int)<(s.length:Int)+1 from by omega]
   rw[Ao]
   refine h2 d s [] H _ U (fun c hc=>by cases hc) fun H' z=>?_
   simp (maxSteps:=2000000) (disch:=omega) [ht]
   exact k2 H' z _
 | cons c r =>
  have hc:a[0]? = some c:=by rw[hae];rfl
  have hn:=Ap hc
  have la:a.length=r.length+1:=by rw[hae];rfl
  rw[hae]at hv ha U
  obtain⟨u,hu,ht⟩:=IJ hv
  have ha2:=(AhK.1 ha)
  cases hbe:b with
  | nil =>
   have lb:b.length=0:=by rw[hbe];rfl
   rw[hbe]at U
   have k2:=fun H' z B'=>ih r.length (by omega) r [] u w B' H' (by simp) hu (by rw[<-hbe];exact hw) ha2.2 .nil (by omega) (by simp) z
   simp (maxSteps:=2000000) (disch:=omega) [N,J,la,lb,hn,show ¬((r.length:Int)+1=0) from by omega,show (0:Int)<(r.length:Int)+1 from by omega]
   rw[Ao]
   refine h1 c r [] H _ U (fun c hc=>by cases hc) fun H' z=>?_
   simp (maxSteps:=2000000) (disch:=omega) [ht]
   exact k2 H' z _
  | cons d s =>
   have hd:b[0]? = some d:=by rw[hbe];rfl
   have hn2:=Ap hd
   have lb:b.length=s.length+1:=by rw[hbe];rfl
   rw[hbe]at hw hb U
   obtain⟨u2,hu2,ht2⟩:=IJ hw
   have Y:=(AhK.1 hb)
   have go:=fun H=>Qt c d H
   by_cases Z:Ba c d=true
   ·have E:HN c.x c.y d.x d.y=-1:=by
     unfold Ba at Z
     unfold HN Ed
     simp only[Aht]at Z
     grind
    rw[E]at go
    have k2:=fun H' z B'=>ih (r.length+(s.length+1)) (by omega) r (d::s) u w B' H' rfl hu hw ha2.2 hb (by omega) (by simp;omega) z
    simp (maxSteps:=2000000) (disch:=omega) [N,J,la,lb,hn,hn2,show ¬((r.length:Int)+1=0) from by omega,show (0:Int)<(r.length:Int)+1 from by omega,show ¬((s.length:Int)+1=0) from by omega,cl (go _)]
    rw[Ao]
    refine h1 c r (d::s) H _ U (fun e he=>?_) fun H' z=>?_
    ·rcases AhF.1 he with rfl|he
     ·exact Z
     ·exact De Z (Y.1 e he)
    simp (maxSteps:=2000000) (disch:=omega) [ht]
    exact k2 H' z _
   ·by_cases W:Ba d c=true
    ·have E:HN c.x c.y d.x d.y=1:=by
      unfold Ba at W
      unfold HN Ed
      simp only[Aht]at W
      grind
     rw[E]at go
     have k2:=fun H' z B'=>ih (r.length+1+s.length) (by omega) (c::r) s v u2 B' H' rfl hv hu2 ha Y.2 (by simp;omega) (by omega) z
     simp (maxSteps:=2000000) (disch:=omega) [N,J,la,lb,hn,hn2,show ¬((r.length:Int)+1=0) from by omega,show (0:Int)<(r.length:Int)+1 from by omega,show ¬((s.length:Int)+1=0) from by omega,cl (go _)]
     rw[Ao]
     refine h2 d s (c::r) H _ U (fun e he=>?_) fun H' z=>?_
     ·rcases AhF.1 he with rfl|he
      ·exact W
      ·exact De W (ha2.1 e he)
     simp (maxSteps:=2000000) (disch:=omega) [ht2]
     exact k2 H' z _
    ·have hxy:c.x=d.x/\c.y=d.y:=by
      unfold Ba at Z W
      simp only[Aht]at Z W
      omega
     have E:HN c.x c.y d.x d.y=0:=by
      unfold HN Ed
      grind
     rw[E]at go
     have k2:=fun H' z B'=>ih (r.length+s.length) (by omega) r s u u2 B' H' rfl hu hu2 ha2.2 Y.2 (by omega) (by omega) z
     simp (maxSteps:=2000000) (disch:=omega) [N,J,la,lb,hn,hn2,show ¬((r.length:Int)+1=0) from by omega,show (0:Int)<(r.length:Int)+1 from by omega,show ¬((s.length:Int)+1=0) from by omega,cl (go _)]
     rw[Ao]
     refine h3 c r d s H _ U hxy.1 hxy.2 ha2.1 Y.1 fun H' z=>?_
     simp (maxSteps:=2000000) (disch:=omega) [ht,ht2]
     exact k2 H' z _
theorem at_r {f:I}(hv:IsSl v (Af p))(hl:p.length<=5000)(hF:FldV p v f)(x y:Int)(hx:-10000000<=x/\x<=10000000)(hy:-10000000<=y/\y<=10000000)(H:Hp):Gives G 131 [.m f,J0 x,J0 y] H (J0 (DB p x y)) H:=by
 obtain⟨bx,by_,w,h,fl,cs,rfl,hwh,hbx,hby,u,hne,hfl,_⟩:=hF.ex
 have gg:=fun H=>get_r hv (by omega) x y H
 unfold Nk
 refine Ae rfl rfl rfl rfl rfl ?_
 cases fl with
 | false=>simp (disch:=omega) [cl (gg _)]
 | true =>
  obtain⟨hP,a0⟩:=hfl rfl
  have E:=a0.rules
  simp only[Bo,Ec]at E
  have Y:wr .i64 (bx+(w:Int))=bx+w:=Aa (by omega) (by omega)
  have wy:wr .i64 (by_+(h:Int))=by_+h:=Aa (by omega) (by omega)
  by_cases N:x<bx
  ·have e:DB p x y=0:=Lm fun c z=>by have:=u c z;omega
   simp (disch:=omega) [N,e]
  by_cases W:bx+(w:Int)<=x
  ·have e:DB p x y=0:=Lm fun c z=>by have:=u c z;omega
   simp (disch:=omega) [N,Y,W,e]
  by_cases y1:y<by_
  ·have e:DB p x y=0:=Lm fun c z=>by have:=u c z;omega
   simp (disch:=omega) [N,Y,W,y1,e]
  by_cases y2:by_+(h:Int)<=y
  ·have e:DB p x y=0:=Lm fun c z=>by have:=u c z;omega
   simp (disch:=omega) [N,Y,W,y1,wy,y2,e]
  obtain⟨a,ha⟩:=AhA (show 0<=x-bx by omega)
  obtain⟨b,hb⟩:=AhA (show 0<=y-by_ by omega)
  have haw:a<w:=by omega
  have hbh:b<h:=by omega
  have U:b*w+a<w*h:=by
   have h1:(b+1)*w<=h*w:=Aif _ hbh
   rw[AhU,Nat.one_mul,AiK h w]at h1
   omega
  have J:=YU p bx by_ (w:=w) (n:=w*h) (a:=a) (b:=b) haw U
  rw[show bx+(a:Int)=x from by omega,show by_+(b:Int)=y from by omega]at J
  obtain⟨M,hM⟩:∃M,M=b*w:=⟨_,rfl⟩
  have hMi:(b:Int)*(w:Int)=(M:Int):=by rw[hM];simp
  obtain⟨P,a1⟩:∃P,P=w*h:=⟨_,rfl⟩
  rw[<-hM]at U J
  rw[<-a1]at U J hP E
  obtain⟨Q,Z⟩:∃Q,Q=M+a:=⟨_,rfl⟩
  rw[<-Z]at J U
  have hn:nth (BT (Db p bx by_ w P)) Q=some [J4 (DB p x y)]:=Cg J
  have w55:wr .i64 (y-by_)=(b:Int):=by rw[hb];exact Aa (by omega) (by omega)
  have w59:wr .i64 ((b:Int)*(w:Int))=(M:Int):=by rw[hMi];exact Aa (by omega) (by omega)
  have a2:=J2 ((M:Int)+x) (by omega)
  have a3:wr .i64 ((M:Int)+x-bx)=(Q:Int):=by rw[Aa (by omega) (by omega)];omega
  have hk2:(Q:Int)<P:=by omega
  generalize DB p x y=g at *
  simp (maxSteps:=2000000) (disch:=omega) [N,Y,W,y1,wy,y2,w55,w59,a2,a3,E,hn]
theorem Agp {h n f:I}{es:LT}(hT:TreeV t h n es)(Y:TreeR t)(hv:IsSl v (Af p))(hl:p.length<=5000)(hF:FldV p v f)(hp:Hu t p)(x y:Int)(hx:-9000000<=x/\x<=9000000)(hy:-9000000<=y/\y<=9000000)(H:Hp):Gives G 100 [.m (.ag [J4 t.states,h,n]),.m f,J0 x,J0 y] H (J0 (Bw t p x y)) H:=by
 have E:=hT.hd.rules
 simp only[Bq]at E
 have hh:=BZ Y.hood
 have ga:=fun x y hx hy H=>at_r hv hl hF x y hx hy H
 have U:=hF
 obtain⟨bx,by_,w,k,fl,cs,rfl,_⟩:=U.ex
 have gv:=fun w H hw=>Up hT Y (w:=w) (ins:=Nb t p x y) hw (by rw[Gk];exact Ahk _) (La Y hp) H
 clear hF U
 unfold Nk at ga ⊢
 refine Ae rfl rfl rfl rfl rfl ?_
 simp (disch:=omega) []
 refine(?key:∀(i:Nat) (o:V) (B:LE) (Z:Hp),i<=t.hood.length->getB B 4=some [J0 t.states,.m h,.m n]->getB B 5=some [.m (.b fl),J0 bx,J0 by_,J0 w,J0 k,.m cs,.m v]->AgZ ((Nb t p x y).take i) o Z->Run G c100_B0 (S100_0 (J0 x) (J0 y) (.fa 4 0) (.fa 5 0) o (J0 (i:Int)) B Z) _) 0 _ _ _ (Aho _) rfl rfl (.inl ⟨rfl,rfl,rfl⟩)
 refine Bl (fun i:Nat=>t.hood.length-i) fun i ih o B Z hi z Q W=>?_
 unfold c100_B0
 have hnf:=Adc W
 cases hy2:t.hood[i]? with
 | none =>
  have:i=t.hood.length:=by have:=Ahn.1 hy2;omega
  subst this
  rw[Ahz (by rw[Gk];exact Ahk _)]at W
  have gc:=Vn (F:=112) (t0:=.ag [J4 t.states,h,n]) rfl rfl W gv rfl
  have e:KM t (Nb t p x y)=Bw t p x y:=rfl
  rw[e]at gc
  simp (disch:=omega) [E,z,cl gc]
 | some u =>
  have hlt:=(Am hy2).1
  have J:(i:Int)<t.hood.length:=by omega
  have a0:=Cm hy2
  have hob:=Eb Y.hood u (Ahm hy2)
  have wi:=J1 i (by omega)
  have wx:=J2 (x+u.1) (by omega)
  have wy:=J2 (y+u.2) (by omega)
  have g1:=fun H=>ga (x+u.1) (y+u.2) (by omega) (by omega) H
  have hs:(Nb t p x y)[i]? = some (DB p (x+u.1) (y+u.2)):=by unfold Nb;rw[AhD,hy2];rfl
  obtain⟨o1,H2,hap,hn1,N⟩:=Vm W (by rw[Ahx];omega) (DB p (x+u.1) (y+u.2))
  rw[<-As hs]at N
  have kk:=ih (i+1) (by omega) o1 B H2 (by omega) z Q N
  generalize DB p (x+u.1) (y+u.2)=g at *
  simp (disch:=omega) [E,J,a0,z,Q,wx,wy,cl (g1 _),hap,wi,Al hn1,-Int.natCast_add]
  exact kk
variable {α:Type}
theorem Qj (l:List α)(x y:α):AO (l++[x]) l.length y=some (l++[y]):=by
 rw[AA _ _ _ (by simp)]
 simp
theorem ZZ (l:List α)(x:α):nth (l++[x]) l.length=some x:=by rw[AL];simp
def GS (l:List (Int×Int)):L0:=l.map fun p=>[.m (.i .i64 p.1),.m (.i .i64 p.2)]
@[simp] theorem UR (l:List (Int×Int)):(GS l).length=l.length:=by simp[GS]
def z2 (l:List (Int×Int)):I:=if l=[] then .nl 4 else .sl (Az l)
theorem z2_sl (l:List (Int×Int)):IsSl (z2 l) (Az l):=by
 unfold z2
 split
 ·rename_i h;subst h;exact AM
 ·exact Bf _
def Wr (acc:List (Int×Int))(o:V)(H:Hp):Prop:=(acc=[]/\o=.m (.nl 4))\/(acc≠[] /\ ∃r,o=.sl r acc.length 2 0 acc.length false/\nth H r=some (.cs 43 2 (GS acc) 0 false))
variable {acc:List (Int×Int)}
theorem MU (h:Wr acc o H)(hl:acc.length<=1000000)(x y:Int):∃u J,(∀B,EK ⟨B,H⟩ 43 2 16 o [[J0 x,J0 y]]=some (u,⟨B,J⟩))/\AB u=true/\Wr (acc++[(x,y)]) u J:=by
 rcases h with ⟨rfl,rfl⟩|⟨N,r,rfl,E⟩
 ·refine⟨.sl H.length 1 2 0 1 false,H++[.cs 43 2 (GS [(x,y)]) 0 false],fun B=>rfl,rfl,.inr ⟨by simp,H.length,rfl,CU H _ 0⟩⟩
 ·have z:=fun B=>CC (M:=⟨B,H⟩) (r:=r) (bytes:=16) (xs:=[[J0 x,J0 y]]) E (by simp) (by simp;omega) rfl
  have es:GS acc++[[V.m (J4 x),J0 y]]=GS (acc++[(x,y)]):=by simp[GS]
  simp only[UR,AhR,AhW,Aih,es]at z
  refine⟨_,_,z,rfl,.inr ⟨by simp,r,by simp,?_⟩⟩
  exact Be (AQ E)
theorem Vf (h:Wr acc o H)(x:Row):Wr acc o (H++[x]):=by
 rcases h with h|⟨u,r,E,z⟩
 ·exact .inl h
 ·exact .inr ⟨u,r,E,by rw[BK _ _ _ (AQ z)];exact z⟩
theorem opt2 (k:Nat)(H:Hp):∀l:List (Int×Int),Ah (fun e=>Ah (view (k+1) H) e) (GS l)=some (Az l)
 | []=>rfl
 | x::r=>by
  show Option.bind (some [I.i .i64 x.1,J4 x.2]) _=_
  simp only[Ahp]
  have:=opt2 k H r
  show Option.bind (Ah _ (GS r)) _=_
  rw[this]
  rfl
theorem view2 {r:Nat}{f:List (Int×Int)}(h:nth H r=some (.cs 43 2 (GS f) 0 false))(k:Nat):view (k+2) H (.sl r f.length 2 0 f.length false)=some (.sl (Az f)):=by
 have e:elems H (.sl r f.length 2 0 f.length false)=some (GS f):=by
  show Option.bind (nth H r) _=_
  rw[h]
  show gd (Nat.ble 0 f.length&&Nat.beq 2 2) (some (((GS f).drop 0).take f.length))=_
  rw[Bh,Ahq (Aho _),Aio,Ahz (by simp)]
  rfl
 show Option.bind (elems H (.sl r f.length 2 0 f.length false)) _=_
 rw[e]
 show Option.bind (Ah _ (GS f)) _=_
 rw[opt2]
 rfl
theorem Ea (h:Wr acc o H):view 20 H o=some (z2 acc)/\AB o=true:=by
 rcases h with ⟨rfl,rfl⟩|⟨u,r,rfl,z⟩
 ·exact⟨rfl,rfl⟩
 ·refine⟨?_,rfl⟩
  unfold z2
  rw[Ahj u]
  exact view2 z 18
theorem Ve (h:Wr acc o H):viewR H o=some (.m (z2 acc)):=by
 have u:=(Ea h).1
 rcases h with ⟨rfl,rfl⟩|⟨z,r,rfl,E⟩
 ·rfl
 ·show (view 20 _ _).bind _=_
  rw[u]
  rfl
def nr (c:Ce)(k:Int×Int):Prop:=(-2<=k.1-c.x/\k.1-c.x<=2)/\(-2<=k.2-c.y/\k.2-c.y<=2)
instance (c:Ce) (k:Int×Int):Decidable (nr c k):=by unfold nr;infer_instance
def nrs (p:List Ce)(i:Nat)(k:Int×Int):Prop:=∃c,c∈p.take i/\nr c k
theorem Qu {i:Nat}(z:p[i]? = some c)(k:Int×Int):nrs p (i+1) k↔nrs p i k\/nr c k:=by
 unfold nrs
 rw[As z]
 constructor
 ·rintro⟨d,u,h⟩
  rcases AhV.1 u with u|u
  ·exact .inl ⟨d,u,h⟩
  ·rw[AhH.1 u]at h;exact .inr h
 ·rintro (⟨d,u,h⟩|h)
  ·exact⟨d,by simp[u],h⟩
  ·exact⟨c,by simp,h⟩
structure NearQ (p:List Ce)(acc:List (Int×Int)):Prop where
 nd:acc.Nodup
 all:∀c k,c∈p->nr c k->k∈acc
 len:acc.length<=1000000
 bnd:∀k,k∈acc->(-4000000<=k.1/\k.1<=4000000)/\(-4000000<=k.2/\k.2<=4000000)
variable {bx by_:Int} {cs:I}
theorem VZ {fl:Bool}{h:Int}(hv:IsSl v (Af p))(hl:p.length<=5000)(hg:∀c,c∈p->Cz c=true)(i:Nat)(hi:i<=p.length)(k:Int×Int)(hk:(-4000000<=k.1/\k.1<=4000000)/\(-4000000<=k.2/\k.2<=4000000))(H:Hp):∃b,(b=true↔nrs p i k)/\Gives G 130 [.m (Nk fl bx by_ w h cs v),J0 (i:Int),.m (.ag [J4 k.1,J4 k.2])] H (.m (.b b)) H:=by
 have J:=hv.rules
 simp only[J3]at J
 have key:∃x H',Gives G 130 [.m (Nk fl bx by_ w h cs v),J0 (i:Int),.m (.ag [J4 k.1,J4 k.2])] H x H'/\(H'=H /\ ∃b,(b=true↔nrs p i k)/\x=.m (.b b)):=by
  refine AJ ?_
  refine Cs rfl rfl rfl rfl rfl ?_
  generalize hQ:(fun(x:V) (H':Hp)=>H'=H /\ ∃b,(b=true↔nrs p i k)/\x=.m (.b b))=Q
  have qt:nrs p i k->Q (.m (.b true)) H:=fun N=>by rw[<-hQ];exact⟨rfl,true,⟨fun _=>N,fun _=>rfl⟩,rfl⟩
  have qf:¬nrs p i k->Q (.m (.b false)) H:=fun N=>by rw[<-hQ];exact⟨rfl,false,⟨fun h=>(by cases h),fun h=>absurd h N⟩,rfl⟩
  clear hQ
  unfold Nk
  simp (maxSteps:=2000000) (disch:=omega) []
  refine(?key:∀(j:Nat) (B:LE),j<=i->getB B 3=some [.m (.b fl),J0 bx,J0 by_,J0 w,J0 h,.m cs,.m v]->getB B 5=some [J0 k.1,J0 k.2] -> ¬nrs p j k->Run G c130_B0 (S130_0 (J0 (i:Int)) (.fa 3 0) (.fa 5 0) (J0 (j:Int)) B []) _) 0 _ (Aho _) rfl rfl (fun⟨c,hc,_⟩=>by simp at hc)
  refine Bl (fun j:Nat=>i-j) fun j ih B hj u z a0=>?_
  unfold c130_B0
  by_cases hji:j<i
  ·have E:(j:Int)<i:=by omega
   obtain⟨c,hx⟩:∃c,p[j]? = some c:=⟨_,Ahh (by omega)⟩
   have hlt:=(Am hx).1
   have hlt':(j:Int)<p.length:=by omega
   have hn:=Ap hx
   have hcb:(-1048576<=c.x/\c.x<=1048576)/\(-1048576<=c.y/\c.y<=1048576):=by
    have:=hg c (Ahm hx)
    unfold Cz placed at this
    simp only[Ahi,Aht]at this
    omega
   obtain⟨dx,hdx⟩:∃dx,dx=k.1-c.x:=⟨_,rfl⟩
   obtain⟨dy,hdy⟩:∃dy,dy=k.2-c.y:=⟨_,rfl⟩
   have w1:wr .i64 (k.1-c.x)=dx:=by rw[hdx];exact Aa (by omega) (by omega)
   have w2:wr .i64 (k.2-c.y)=dy:=by rw[hdy];exact Aa (by omega) (by omega)
   have w3:=J2 (-dx) (by omega)
   have w4:=J2 (-dy) (by omega)
   have wj:=J1 j (by omega)
   have Y:nr c k↔max dx (-dx)<=2/\max dy (-dy)<=2:=by
    unfold nr
    rw[<-hdx,<-hdy]
    omega
   have U:=Qu hx k
   by_cases Z:max dx (-dx)<=2
   ·by_cases h2:max dy (-dy)<=2
    ·have W:=qt (by
      obtain⟨d,hd,N⟩:=U.2 (.inr (Y.2 ⟨Z,h2⟩))
      refine⟨d,?_,N⟩
      obtain⟨m,hm⟩:=List.mem_iff_getElem?.1 hd
      have hml:=(Am hm).1
      rw[Ahx]at hml
      rw[AhN]at hm
      split at hm
      ·exact List.mem_iff_getElem?.2 ⟨m,by rw[AhN,Ahl (by omega)];exact hm⟩
      ·cases hm)
     simp (maxSteps:=2000000) (disch:=omega) [J,E,hn,u,z,w1,w2,w3,w4,Z,h2]
     exact W
    ·have W:=ih (j+1) (by omega) B (by omega) u z (fun N=>(U.1 N).elim a0 fun h=>h2 (Y.1 h).2)
     simp (maxSteps:=2000000) (disch:=omega) [J,E,hn,u,z,w1,w2,w3,w4,Z,h2,wj,-Int.natCast_add]
     exact W
   ·have W:=ih (j+1) (by omega) B (by omega) u z (fun N=>(U.1 N).elim a0 fun h=>Z (Y.1 h).1)
    simp (maxSteps:=2000000) (disch:=omega) [J,E,hn,u,z,w1,w2,w3,Z,wj,-Int.natCast_add]
    exact W
  ·have:j=i:=by omega
   subst this
   have W:=qf a0
   simp (maxSteps:=2000000) (disch:=omega) []
   exact W
 obtain⟨x,H',Z,rfl,b,h2,rfl⟩:=key
 exact⟨b,h2,Z⟩
theorem Adf {w h:Nat}(hwh:(w+4)*(h+4)<=1000000)(hw4:w<=1000000/\h<=1000000)(hbx:-1048576<=bx/\bx<=1048576)(hby:-1048576<=by_/\by_<=1048576)(hin:∀c,c∈p->(bx<=c.x/\c.x<bx+w)/\(by_<=c.y/\c.y<by_+h))(H:Hp):
  ∃acc,NearQ p acc/\Gives G 99 [.m (Nk true bx by_ w h cs v)] H (.m (z2 acc)) H:=by
 have key:∃x H',Gives G 99 [.m (Nk true bx by_ w h cs v)] H x H'/\(H'=H /\ ∃acc,NearQ p acc/\x=.m (z2 acc)):=by
  refine AJ ?_
  refine Cs rfl rfl rfl rfl rfl ?_
  generalize hQ:(fun(x:V) (H':Hp)=>H'=H /\ ∃acc,NearQ p acc/\x=.m (z2 acc))=Q
  have qk:∀acc,NearQ p acc->Q (.m (z2 acc)) H:=fun acc hh=>by rw[<-hQ];exact⟨rfl,acc,hh,rfl⟩
  clear hQ
  have y0:=J2 (by_-2) (by omega)
  have x0:=J2 (bx-2) (by omega)
  have yh:wr .i64 (by_+(h:Int))=by_+h:=Aa (by omega) (by omega)
  have yh2:wr .i64 (by_+(h:Int)+2)=by_+h+2:=Aa (by omega) (by omega)
  have xw:wr .i64 (bx+(w:Int))=bx+w:=Aa (by omega) (by omega)
  have xw2:wr .i64 (bx+(w:Int)+2)=bx+w+2:=Aa (by omega) (by omega)
  unfold Nk
  simp (maxSteps:=2000000) (disch:=omega) [y0]
  refine(?key:∀(r:Nat) (W:Int) (acc:List (Int×Int)) (o:V) (B:LE) (Y:Hp),r<=h+4->W=by_-2+(r:Int)->getB B 1=some [.m (.b true),J0 bx,J0 by_,J0 w,J0 h,.m cs,.m v]->acc.Nodup->(∀u z,(u,z)∈acc↔(bx-2<=u/\u<bx+w+2)/\(by_-2<=z/\z<by_-2+r))->acc.length=r*(w+4)->Wr acc o Y->Run G c99_B1 (S99_1 (.fa 1 0) o (J0 W) B Y) _) 0 (by_-2) [] _ _ _ (Aho _) (by simp) rfl .nil (fun u z=>⟨fun h=>by simp at h,fun h=>by omega⟩) (by simp) (.inl ⟨rfl,rfl⟩)
  refine Bl (fun r:Nat=>h+4-r) fun r ih W acc o B Y hr hyy Z N E J ho=>?_
  unfold c99_B1
  obtain⟨hvw,hnf⟩:=Ea ho
  by_cases hrh:r<h+4
  ·have t1:W<by_+h+2:=by omega
   have wr1:=J2 (W+1) (by omega)
   simp (maxSteps:=2000000) (disch:=omega) [Z,yh,yh2,t1,x0]
   refine(?key2:∀(q:Nat) (xx:Int) (acc:List (Int×Int)) (o:V) (B:LE) (Y:Hp),q<=w+4->xx=bx-2+(q:Int)->getB B 1=some [.m (.b true),J0 bx,J0 by_,J0 w,J0 h,.m cs,.m v]->acc.Nodup->(∀u z,(u,z)∈acc↔((bx-2<=u/\u<bx+w+2)/\(by_-2<=z/\z<by_-2+r))\/(z=by_-2+r/\(bx-2<=u/\u<bx-2+q)))->acc.length=r*(w+4)+q->Wr acc o Y->Run G c99_B0 (S99_0 (.fa 1 0) o (J0 W) (J0 xx) B Y) _) 0 (bx-2) acc o _ Y (Aho _) (by simp) Z N (fun u z=>(E u z).trans ⟨fun h=>.inl h,fun h=>h.elim id fun h=>by omega⟩) (by omega) ho
   clear hvw hnf E N J ho Z acc o B Y
   refine Bl (fun q:Nat=>w+4-q) fun q ihq xx acc o B Y hq hxx Z N E J ho=>?_
   unfold c99_B0
   obtain⟨hvw,hnf⟩:=Ea ho
   by_cases hqw:q<w+4
   ·have t2:xx<bx+w+2:=by omega
    have wq1:=J2 (xx+1) (by omega)
    have hlb:acc.length<=1000000:=by
     have U:r*(w+4)+(w+4)<=(w+4)*(h+4):=by
      rw[AiK (w+4) (h+4),<-Nat.succ_mul]
      exact Aif _ hrh
     omega
    obtain⟨o1,H2,hap,hn1,ho1⟩:=MU ho hlb xx W
    have k:=ihq (q+1) (by omega) (xx+1) (acc++[(xx,W)]) o1 B H2 (by omega) (by omega) Z (by
     rw[List.nodup_append]
     refine⟨N,by simp,fun a ha b hb=>?_⟩
     rw[AhH.1 hb]
     intro e
     subst e
     have:=(E _ _).1 ha
     omega) (fun u z=>by
     rw[AhV,AhH,E,Ahf]
     constructor
     ·rintro ((U|U)|U)
      ·exact .inl U
      ·exact .inr (by omega)
      ·exact .inr (by omega)
     ·rintro (U|U)
      ·exact .inl (.inl U)
      ·by_cases hu:u<bx-2+q
       ·exact .inl (.inr (by omega))
       ·exact .inr (by omega)) (by simp;omega) ho1
    simp (maxSteps:=2000000) (disch:=omega) [Z,xw,xw2,t2,hap,wq1,Al hn1,-Int.natCast_add]
    exact k
   ·have:q=w+4:=by omega
    subst this
    have t2:¬xx<bx+w+2:=by omega
    have k:=ih (r+1) (by omega) (W+1) acc o B Y (by omega) (by omega) Z N (fun u z=>(E u z).trans (by
     constructor
     ·rintro (U|U)
      ·omega
      ·omega
     ·intro U
      by_cases hz:z<by_-2+r
      ·exact .inl (by omega)
      ·exact .inr (by omega))) (by rw[J,Nat.succ_mul]) ho
    simp (maxSteps:=2000000) (disch:=omega) [Z,xw,xw2,t2,wr1,-Int.natCast_add]
    exact k
  ·have:r=h+4:=by omega
   subst this
   have t1:¬W<by_+h+2:=by omega
   have k:=qk acc ⟨N,fun c k hc hk=>by
    have:=hin c hc
    obtain⟨a,b⟩:=k
    unfold nr at hk
    dsimp only at hk
    exact(E a b).2 (by omega),by rw[J,AiK];omega,fun k hk=>by
    obtain⟨a,b⟩:=k
    have:=(E a b).1 hk
    dsimp only
    omega⟩
   have hvr:=Ve ho
   simp (maxSteps:=2000000) (disch:=omega) [Z,yh,yh2,t1,Al hnf,hvr,-Int.natCast_add]
   first|exact k|exact⟨hnf,k⟩
 obtain⟨x,H',U,rfl,acc,h2,rfl⟩:=key
 exact⟨acc,h2,U⟩
theorem Ade {h:Int}(hv:IsSl v (Af p))(hl:p.length<=5000)(hg:∀c,c∈p->Cz c=true)(H:Hp):
  ∃acc,NearQ p acc/\Gives G 99 [.m (Nk false bx by_ w h cs v)] H (.m (z2 acc)) H:=by
 have a1:=hv.rules
 simp only[J3]at a1
 have ge:=fun i hi k hk H=>VZ (fl:=false) (bx:=bx) (by_:=by_) (w:=w) (h:=h) (cs:=cs) hv hl hg i hi k hk H
 have key:∃x H',Gives G 99 [.m (Nk false bx by_ w h cs v)] H x H'/\(H'=H /\ ∃acc,NearQ p acc/\x=.m (z2 acc)):=by
  refine AJ ?_
  refine Cs rfl rfl rfl rfl rfl ?_
  generalize hQ:(fun(x:V) (H':Hp)=>H'=H /\ ∃acc,NearQ p acc/\x=.m (z2 acc))=Q
  have qk:∀acc,NearQ p acc->Q (.m (z2 acc)) H:=fun acc hh=>by rw[<-hQ];exact⟨rfl,acc,hh,rfl⟩
  clear hQ
  unfold Nk at ge ⊢
  simp (maxSteps:=2000000) (disch:=omega) []
  refine(?key:∀(i:Nat) (acc:List (Int×Int)) (o:V) (B:LE) (J:Hp),i<=p.length->getB B 1=some [.m (.b false),J0 bx,J0 by_,J0 w,J0 h,.m cs,.m v]->acc.Nodup->(∀k,k∈acc↔nrs p i k)->acc.length<=25*i->Wr acc o J->Run G c99_B4 (S99_4 (.fa 1 0) o (J0 (i:Int)) B J) _) 0 [] _ _ _ (Aho _) rfl .nil (fun k=>⟨fun h=>by simp at h,fun⟨c,hc,_⟩=>by simp at hc⟩) (by simp) (.inl ⟨rfl,rfl⟩)
  refine Bl (fun i:Nat=>p.length-i) fun i ih acc o B J hi N E u U Z=>?_
  unfold c99_B4
  obtain⟨hvw,a0⟩:=Ea Z
  cases hx:p[i]? with
  | none =>
   have:i=p.length:=by have:=Ahn.1 hx;omega
   subst this
   have hvr:=Ve Z
   have k:=qk acc ⟨E,fun c k hc hk=>(u k).2 ⟨c,by rw[AhI];exact hc,hk⟩,by omega,fun k hk=>by
    obtain⟨c,hc,hn⟩:=(u k).1 hk
    rw[AhI]at hc
    have:=hg c hc
    unfold Cz placed at this
    simp only[Ahi,Aht]at this
    unfold nr at hn
    omega⟩
   simp (maxSteps:=2000000) (disch:=omega) [a1,N,Al a0,hvr]
   first|exact k|exact⟨a0,k⟩
  | some c =>
   have hlt:=(Am hx).1
   have hlt':(i:Int)<p.length:=by omega
   have hn:=Ap hx
   have wi:=J1 i (by omega)
   have hcb:(-1048576<=c.x/\c.x<=1048576)/\(-1048576<=c.y/\c.y<=1048576):=by
    have:=hg c (Ahm hx)
    unfold Cz placed at this
    simp only[Ahi,Aht]at this
    omega
   simp (maxSteps:=2000000) (disch:=omega) [a1,hlt',N]
   refine(?key2:∀(r:Nat) (W:Int) (acc:List (Int×Int)) (o:V) (B:LE) (J:Hp),r<=5->W=-2+(r:Int)->getB B 1=some [.m (.b false),J0 bx,J0 by_,J0 w,J0 h,.m cs,.m v]->acc.Nodup->(∀k,k∈acc↔nrs p i k\/(nr c k/\k.2-c.y<W))->acc.length<=25*i+5*r->Wr acc o J->Run G c99_B3 (S99_3 (.fa 1 0) o (J0 (i:Int)) (J0 W) B J) _) 0 (-2) acc o _ J (Aho _) (by simp) N E (fun k=>(u k).trans ⟨fun h=>.inl h,fun h=>h.elim id fun h=>by unfold nr at h;omega⟩) (by omega) Z
   clear hvw a0 u E U Z N acc o B J
   refine Bl (fun r:Nat=>5-r) fun r ihr W acc o B J hr hyy N E u U Z=>?_
   unfold c99_B3
   obtain⟨hvw,a0⟩:=Ea Z
   by_cases hr5:r<5
   ·have t1:W<=2:=by omega
    have wy1:=J2 (W+1) (by omega)
    simp (maxSteps:=2000000) (disch:=omega) [t1]
    refine(?key3:∀(q:Nat) (xx:Int) (acc:List (Int×Int)) (o:V) (B:LE) (J:Hp),q<=5->xx=-2+(q:Int)->getB B 1=some [.m (.b false),J0 bx,J0 by_,J0 w,J0 h,.m cs,.m v]->acc.Nodup->(∀k,k∈acc↔nrs p i k\/(nr c k/\(k.2-c.y<W\/(k.2-c.y=W/\k.1-c.x<xx))))->acc.length<=25*i+5*r+q->Wr acc o J->Run G c99_B2 (S99_2 (.fa 1 0) o (J0 (i:Int)) (J0 W) (J0 xx) B J) _) 0 (-2) acc o _ J (Aho _) (by simp) N E (fun k=>(u k).trans ⟨fun h=>h.elim .inl fun h=>.inr ⟨h.1,.inl h.2⟩,fun h=>h.elim .inl fun h=>.inr ⟨h.1,by have:=h.1;unfold nr at this;omega⟩⟩) (by omega) Z
    clear hvw a0 u E U Z N acc o B J
    refine Bl (fun q:Nat=>5-q) fun q ihq xx acc o B J hq hxx N E u U Z=>?_
    unfold c99_B2
    obtain⟨hvw,a0⟩:=Ea Z
    by_cases hq5:q<5
    ·have t2:xx<=2:=by omega
     have wx1:=J2 (xx+1) (by omega)
     obtain⟨X,hX⟩:∃X,X=c.x+xx:=⟨_,rfl⟩
     obtain⟨Y,hY⟩:∃Y,Y=c.y+W:=⟨_,rfl⟩
     have wX:wr .i64 (c.x+xx)=X:=by rw[hX];exact Aa (by omega) (by omega)
     have wY:wr .i64 (c.y+W)=Y:=by rw[hY];exact Aa (by omega) (by omega)
     have hnrk:nr c (X,Y):=by unfold nr;dsimp only;omega
     have ho':=Vf Z (.cs 43 2 [[J0 X,J0 Y]] 1 false)
     obtain⟨b,hb,gE⟩:=ge i (by omega) (X,Y) (by dsimp only;omega) (J++[.cs 43 2 [[J0 X,J0 Y]] 1 false])
     dsimp only at gE
     have w22:∀a b c d:V,BS 2 [[a,b]] 0 0 [c,d]=some [[c,d]]:=fun _ _ _ _=>rfl
     have r22:∀a b:V,CW 2 [[a,b]] 0 0 2=some [a,b]:=fun _ _=>rfl
     cases b with
     | true =>
      have hold:=hb.1 rfl
      have k:=ihq (q+1) (by omega) (xx+1) acc o B (J++[.cs 43 2 [[J0 X,J0 Y]] 1 false]) (by omega) (by omega) N E (fun k=>(u k).trans (by
       constructor
       ·rintro (z|⟨z,h2⟩)
        ·exact .inl z
        ·exact .inr ⟨z,by omega⟩
       ·rintro (z|⟨z,h2⟩)
        ·exact .inl z
        ·by_cases e:k=(X,Y)
         ·subst e;exact .inl hold
         ·refine .inr ⟨z,?_⟩
          have:¬(k.1=X/\k.2=Y):=fun h=>e (Prod.ext h.1 h.2)
          omega)) (by omega) ho'
      simp (maxSteps:=2000000) (disch:=omega) [Ab,t2,N,a1,hn,wX,wY,Qj,ZZ,w22,r22,cl gE,wx1]
      exact k
     | false =>
      have hnew:¬nrs p i (X,Y):=fun h=>by have:=hb.2 h;cases this
      obtain⟨o1,H2,hap,hn1,ho1⟩:=MU ho' (by omega) X Y
      have k:=ihq (q+1) (by omega) (xx+1) (acc++[(X,Y)]) o1 B H2 (by omega) (by omega) N (by
       rw[List.nodup_append]
       refine⟨E,by simp,fun a ha b hb=>?_⟩
       rw[AhH.1 hb]
       intro e
       subst e
       rcases (u _).1 ha with z|⟨_,h2⟩
       ·exact hnew z
       ·dsimp only at h2;omega) (fun k=>by
       rw[AhV,AhH,u]
       constructor
       ·rintro ((z|⟨z,h2⟩)|rfl)
        ·exact .inl z
        ·exact .inr ⟨z,by omega⟩
        ·exact .inr ⟨hnrk,by dsimp only;omega⟩
       ·rintro (z|⟨z,h2⟩)
        ·exact .inl (.inl z)
        ·by_cases e:k=(X,Y)
         ·exact .inr e
         ·refine .inl (.inr ⟨z,?_⟩)
          have:¬(k.1=X/\k.2=Y):=fun h=>e (Prod.ext h.1 h.2)
          omega) (by simp;omega) ho1
      simp (maxSteps:=2000000) (disch:=omega) [Ab,t2,N,a1,hn,wX,wY,Qj,ZZ,w22,r22,cl gE,hap,wx1,Al hn1]
      exact k
    ·have:q=5:=by omega
     subst this
     have t2:¬xx<=2:=by omega
     have k:=ihr (r+1) (by omega) (W+1) acc o B J (by omega) (by omega) N E (fun k=>(u k).trans (by
      constructor
      ·rintro (z|⟨z,h2⟩)
       ·exact .inl z
       ·exact .inr ⟨z,by omega⟩
      ·rintro (z|⟨z,h2⟩)
       ·exact .inl z
       ·refine .inr ⟨z,?_⟩
        unfold nr at z
        omega)) (by omega) Z
     simp (maxSteps:=2000000) (disch:=omega) [t2,wy1]
     exact k
   ·have:r=5:=by omega
    subst this
    have t1:¬W<=2:=by omega
    have k:=ih (i+1) (by omega) acc o B J (by omega) N E (fun k=>(u k).trans (by
     rw[Qu hx]
     constructor
     ·rintro (z|⟨z,h2⟩)
      ·exact .inl z
      ·exact .inr z
     ·rintro (z|z)
      ·exact .inl z
      ·exact .inr ⟨z,by unfold nr at z;omega⟩)) (by omega) Z
    simp (maxSteps:=2000000) (disch:=omega) [t1,wi,-Int.natCast_add]
    exact k
 obtain⟨x,H',z,rfl,acc,h2,rfl⟩:=key
 exact⟨acc,h2,z⟩
end Go.Mx.Tryz
