/- Fields of the reference: the state of a cell, the new state of a cell. -/
import Derived.Test.YtiehnedoinlfeaaGreatDoorNa
set_option linter.unusedSimpArgs false
set_option linter.unusedVariables false
set_option linter.unusedSectionVars false
set_option maxRecDepth 100000
set_option maxHeartbeats 4000000
namespace Go.Mx.Tryz
open Go.Lib Go.Proofs
theorem Wk (a b:Int×Int)(H:Hp):Gives G 135 [.m (.ag [J4 a.1,J4 a.2]),.m (.ag [J4 b.1,J4 b.2])] H (.m (.b (MX a b))) H:=by
 refine Af rfl rfl rfl rfl rfl ?_
 simp (contextual:=true) [Aj,-Int.not_lt,-Int.not_le,-Nat.not_lt,-Nat.not_le,-List.map_take,MX]
variable {v:I}
theorem AgN {p:List (Int×Int)}(hv:IsSl v (Au p))(hl:(p.length:Int)<=9223372036854775807)(H:Hp):Gives G 91 [.m v] H (.m (.b (BP p))) H:=by
 have u:=hv.rules
 simp only[Bo]at u
 refine Af rfl rfl rfl rfl rfl ?_
 by_cases h1:1<=p.length/\p.length<=25
 rotate_left
 ·have e:BP p=false:=by unfold BP;rw[AhB h1];rfl
  by_cases E:(p.length:Int)<1
  ·simp (maxSteps:=2000000) (disch:=omega) [u,E,e]
  ·have J:(25:Int)<p.length:=by omega
   simp (maxSteps:=2000000) (disch:=omega) [u,E,J,e]
 have E:¬(p.length:Int)<1:=by omega
 have J:¬(25:Int)<p.length:=by omega
 have hR:BP p=Lm none p:=by unfold BP;rw[AhA h1];rfl
 rw[hR]
 simp (maxSteps:=2000000) (disch:=omega) [u,E,J]
 refine(?key:∀(i:Nat) (B:LE),i<=p.length->Lm none p=Lm (EP p i) (p.drop i)->Run G c91_B0 (S91_0 (.m v) (J0 i) B []) _) 0 [] (Ahy _) rfl
 refine Bj (fun i:Nat=>p.length-i) fun i Z B hi Y=>?_
 unfold c91_B0
 cases hx:p[i]? with
 | none =>
  have:i=p.length:=by have:=Ahx.1 hx;omega
  subst this
  have:Lm (EP p p.length) []=true:=by cases EP p p.length <;> rfl
  simp[u,Y,this]
 | some c =>
  have Q:=(Am hx).1
  have hn:=BZ hx
  rw[(Am hx).2,Nm hx,MR]at Y
  cases i with
  | zero =>
   simp (contextual:=true) (maxSteps:=2000000) (disch:=omega) [Ai,Aj,Ad,-Int.not_lt,-Int.not_le,-Nat.not_lt,-Nat.not_le,-List.map_take,u,hn,Q,Aa]
   repeat' first|with_reducible apply And.intro|intro _
   all_goals first
    | (refine Z 1 (by omega) _ (by omega) ?_;grind [EP])
    | grind [EP]
  | succ j =>
   obtain⟨U,z⟩:∃U,p[j]? = some U:=⟨p[j],Ahr (by omega)⟩
   have W:=BZ z
   have e3:(j:Int)+1<p.length:=by omega
   have e4:(j:Int)<p.length:=by omega
   have e6:(0:Int)<=j+1:=by omega
   have e7:((j:Int)+1).toNat=j+1:=by omega
   have N:EP p (j+1)=some U:=z
   simp only[N]at Y
   simp (contextual:=true) (maxSteps:=2000000) (disch:=omega) [Ai,Aj,Ad,-Int.not_lt,-Int.not_le,-Nat.not_lt,-Nat.not_le,-List.map_take,u,hn,W,e3,e7,cl (Wk _ _ _),Aa]
   repeat' first|with_reducible apply And.intro|intro _
   all_goals first
    | (refine Z (j+2) (by omega) _ (by omega) ?_;grind)
    | grind
variable {t:TreeC} {h n:I} {es:LT}
theorem ZS (Z:TreeV t h n es)(H:Hp):Gives G 52 [.m (.ag [J4 t.states,h,n])] H (.m (.b (AZ t))) H:=by
 have W:=Z.hd.rules
 simp only[Bo]at W
 have u:=Z.nd.rules
 have a1:=CN Z
 have gh:=fun H=>AgN Z.hd (by have:=Z.hl;omega) H
 have hl1:=Z.hl
 have hl2:=Z.nl
 refine Af rfl rfl rfl rfl rfl ?_
 have eO:AZ t=(decide (2<=t.states/\t.states<=8)&&(BP t.hood&&(decide (1<=t.nodes.length/\t.nodes.length<=4096)&&(decide (levAt t.nodes (t.nodes.length-1)=t.hood.length)&&nodesOk t 0 t.nodes)))):=rfl
 by_cases s2:t.states<2
 ·have:AZ t=false:=by rw[eO,AhB (by omega)];rfl
  simp (maxSteps:=2000000) (disch:=omega) [Ad,u,s2,this]
 by_cases s8:8<t.states
 ·have:AZ t=false:=by rw[eO,AhB (by omega)];rfl
  simp (maxSteps:=2000000) (disch:=omega) [Ad,u,s2,s8,this]
 cases hh:BP t.hood with
 | false =>
  have:AZ t=false:=by rw[eO,hh];simp
  rw[hh]at gh
  simp (maxSteps:=2000000) (disch:=omega) [Ad,u,s2,s8,cl (gh _),this]
 | true =>
  rw[hh]at gh
  by_cases n1:(es.length:Int)<1
  ·have:AZ t=false:=by rw[eO,AhB (by rw[a1];omega:¬(1<=t.nodes.length/\t.nodes.length<=4096))];simp
   simp (maxSteps:=2000000) (disch:=omega) [Ad,u,s2,s8,cl (gh _),n1,this]
  by_cases n2:(4096:Int)<es.length
  ·have:AZ t=false:=by rw[eO,AhB (by rw[a1];omega:¬(1<=t.nodes.length/\t.nodes.length<=4096))];simp
   simp (maxSteps:=2000000) (disch:=omega) [Ad,u,s2,s8,cl (gh _),n1,n2,this]
  have Y:es.length-1<t.nodes.length:=by omega
  obtain⟨z0,hz0,_⟩:=Cg Z (Ahr Y)
  have hle1:es.length-1<es.length:=by omega
  have hle2:((es.length-1:Nat):Int)<es.length:=by omega
  have w1:wr .i64 ((es.length:Int)-1)=((es.length-1:Nat):Int):=by rw[Aa (by omega) (by omega)];omega
  have hlev:=HK (Ahr Y)
  have eroot:levAt t.nodes (t.nodes.length-1)=t.nodes[es.length-1].1:=by
   rw[<-hlev,a1]
   congr 1
   omega
  have hR:AZ t=(decide (t.nodes[es.length-1].1=t.hood.length)&&nodesOk t 0 t.nodes):=by
   rw[eO,hh,AhA (by omega:2<=t.states/\t.states<=8),AhA (by omega:1<=t.nodes.length/\t.nodes.length<=4096),eroot]
   simp
  have hF:nodesOk t 0 t.nodes=false->AZ t=false:=fun h=>by rw[hR,h,Bool.and_false]
  simp (maxSteps:=2000000) (disch:=omega) [Ad,u,s2,s8,cl (gh _),n1,n2]
  refine(?key:∀(i:Nat) (B:LE),i<=t.nodes.length->getB B 1=some [J0 t.states,.m h,.m n]->nodesOk t 0 t.nodes=nodesOk t i (t.nodes.drop i)->Run G c52_B1 (S52_1 (.fa 1 0) (J0 es.length) (J0 (i:Int)) B []) _) 0 _ (Ahy _) rfl rfl
  refine Bj (fun i:Nat=>t.nodes.length-i) fun i ih B hi Q N=>?_
  unfold c52_B1
  cases hx:t.nodes[i]? with
  | none =>
   have:i=es.length:=by have:=Ahx.1 hx;omega
   subst this
   rw[<-a1,Aik]at N
   have N:nodesOk t 0 t.nodes=true:=N
   rw[N,Bool.and_true]at hR
   rw[hR]
   simp (maxSteps:=2000000) (disch:=omega) [u,W,Q,w1,hz0]
  | some nd =>
   have hlt:=(Am hx).1
   have Y:i<es.length:=by omega
   have U:(i:Int)<es.length:=by omega
   obtain⟨z,hz,hzs,hzl,hzb⟩:=Cg Z hx
   have E:=hzs.rules
   have a0:=Cx hzs
   simp only[Bp]at E
   have wi:=J1 i (by omega)
   rw[(Am hx).2,Hh]at N
   have eN:Eu t i nd=(decide (1<=nd.1/\nd.1<=t.hood.length/\(nd.2.length:Int)=t.states)&&nd.2.all (Si t i nd.1)):=rfl
   by_cases m1:nd.1<1
   ·have:=hF (by rw[N,eN,AhB (by omega)];rfl)
    simp (maxSteps:=2000000) (disch:=omega) [Ab,u,U,hz,a0,Q,m1,this]
   by_cases m2:(t.hood.length:Int)<nd.1
   ·have:=hF (by rw[N,eN,AhB (by omega)];rfl)
    simp (maxSteps:=2000000) (disch:=omega) [Ab,u,W,U,hz,a0,Q,m1,m2,this]
   by_cases m3:(nd.2.length:Int)=t.states
   rotate_left
   ·have:=hF (by rw[N,eN,AhB (by omega)];rfl)
    simp (maxSteps:=2000000) (disch:=omega) [Ab,u,W,U,hz,a0,E,Q,m1,m2,m3,this]
   rw[eN,AhA (by omega:1<=nd.1/\nd.1<=t.hood.length/\(nd.2.length:Int)=t.states),AiJ]at N
   simp (maxSteps:=2000000) (disch:=omega) [Ab,u,W,U,hz,a0,E,Q,m1,m2,m3]
   refine(?key2:∀(j:Nat) (B:LE),j<=nd.2.length->getB B 1=some [J0 t.states,.m h,.m n]->getB B 5=some [J0 nd.1,.m z]->nodesOk t 0 t.nodes=((nd.2.drop j).all (Si t i nd.1)&&nodesOk t (i+1) (t.nodes.drop (i+1)))->Run G c52_B0 (S52_0 (.fa 1 0) (J0 es.length) (J0 (i:Int)) (.fa 5 0) (J0 (j:Int)) B []) _) 0 _ (Ahy _) (by simpa using Q) (by simp) N
   clear N
   refine Bj (fun j:Nat=>nd.2.length-j) fun j ihj B hj Q h5 N=>?_
   unfold c52_B0
   cases hy:nd.2[j]? with
   | none =>
    have:j=nd.2.length:=by have:=Ahx.1 hy;omega
    subst this
    rw[Aik]at N
    have k:=ih (i+1) (by omega) B (by omega) Q N
    have J:¬(nd.2.length:Int)<t.states:=by omega
    have hjs2:¬((nd.2.length:Nat):Int)<t.states:=J
    simp (maxSteps:=2000000) (disch:=omega) [Q,J,wi,-Int.natCast_add]
    exact k
   | some k =>
    have hjl:=(Am hy).1
    have hjl2:(j:Int)<nd.2.length:=by omega
    have J:(j:Int)<t.states:=by omega
    have hk:nth (BR nd.2) j=some [J4 k]:=Cf hy
    have wj:=J1 j (by omega)
    have hkb:=hzb k (Ahw hy)
    rw[(Am hy).2,List.all_cons]at N
    have eE:Si t i nd.1 k=decide (¬k<0 /\ ¬(nd.1=1/\t.states<=k) /\ ¬(1<nd.1/\((i:Int)<=k \/ ¬levAt t.nodes k=nd.1-1))):=rfl
    have go:=fun(h:Si t i nd.1 k=true)=>ihj (j+1) (by omega) B (by omega) Q h5 (by rw[N,h,AiJ])
    have no:=fun(h:Si t i nd.1 k=false)=>hF (by rw[N,h];rfl)
    have wl:=J2 (nd.1-1) (by omega)
    by_cases k0:k<0
    ·have:=no (by rw[eE];exact AhB fun h=>h.1 k0)
     simp (maxSteps:=2000000) (disch:=omega) [E,J,hk,Q,h5,k0,this]
    by_cases l1:nd.1=1
    ·have l2:¬1<nd.1:=by omega
     by_cases ks:t.states<=k
     ·have:=no (by rw[eE];exact AhB fun h=>h.2.1 ⟨l1,ks⟩)
      simp (maxSteps:=2000000) (disch:=omega) [E,J,hk,Q,h5,k0,l1,ks,this]
     ·have kk:=go (by rw[eE];exact AhA ⟨k0,fun h=>ks h.2,fun h=>l2 h.1⟩)
      rw[l1]at h5
      simp (maxSteps:=2000000) (disch:=omega) [E,J,hk,Q,h5,k0,ks,wj,-Int.natCast_add]
      exact kk
    ·have l2:1<nd.1:=by omega
     by_cases ki:(i:Int)<=k
     ·have:=no (by rw[eE];exact AhB fun h=>h.2.2 ⟨l2,.inl ki⟩)
      simp (maxSteps:=2000000) (disch:=omega) [E,J,hk,Q,h5,k0,l1,l2,ki,this]
     ·obtain⟨kn,rfl⟩:=AhK (show 0<=k by omega)
      have hkn:kn<t.nodes.length:=by omega
      have hkn1:kn<es.length:=by omega
      have hkn2:(kn:Int)<es.length:=by omega
      obtain⟨z',hz',_⟩:=Cg Z (Ahr hkn)
      have hlv:=HK (Ahr hkn)
      have ki2:¬i<=kn:=by omega
      by_cases hle:t.nodes[kn].1=nd.1-1
      ·have kk:=go (by rw[eE];exact AhA ⟨k0,fun h=>l1 h.1,fun h=>h.2.elim ki fun h2=>h2 (hlv.trans hle)⟩)
       simp (maxSteps:=2000000) (disch:=omega) [E,u,J,hk,Q,h5,k0,l1,l2,ki,hz',wl,hle,wj,-Int.natCast_add]
       exact kk
      ·have:=no (by rw[eE];exact AhB fun h=>h.2.2 ⟨l2,.inr fun h2=>hle (hlv.symm.trans h2)⟩)
       simp (maxSteps:=2000000) (disch:=omega) [E,u,J,hk,Q,h5,k0,l1,l2,ki,hz',wl,hle,this]
set_option maxHeartbeats 4000000 in
theorem AfA (hT:TreeV t h n es)(H:Hp):Gives G 46 [.m (.ag [J4 t.states,h,n])] H (.m (.b (AZ t))) H:=by
 have W:=hT.hd.rules
 simp only[Bo]at W
 have u:=hT.nd.rules
 have hln:=CN hT
 have gh:=fun H=>AgM hT.hd (by have:=hT.hl;omega) H
 have hl1:=hT.hl
 have hl2:=hT.nl
 refine Af rfl rfl rfl rfl rfl ?_
 have eO:AZ t=(decide (2<=t.states/\t.states<=8)&&(BP t.hood&&(decide (1<=t.nodes.length/\t.nodes.length<=4096)&&(decide (levAt t.nodes (t.nodes.length-1)=t.hood.length)&&nodesOk t 0 t.nodes)))):=rfl
 by_cases s2:t.states<2
 ·have:AZ t=false:=by rw[eO,AhB (by omega)];rfl
  simp (maxSteps:=2000000) (disch:=omega) [Ad,u,s2,this]
 by_cases s8:8<t.states
 ·have:AZ t=false:=by rw[eO,AhB (by omega)];rfl
  simp (maxSteps:=2000000) (disch:=omega) [Ad,u,s2,s8,this]
 cases hh:BP t.hood with
 | false =>
  have:AZ t=false:=by rw[eO,hh];simp
  rw[hh]at gh
  simp (maxSteps:=2000000) (disch:=omega) [Ad,u,s2,s8,cl (gh _),this]
 | true =>
  rw[hh]at gh
  by_cases n1:(es.length:Int)<1
  ·have:AZ t=false:=by rw[eO,AhB (by rw[hln];omega:¬(1<=t.nodes.length/\t.nodes.length<=4096))];simp
   simp (maxSteps:=2000000) (disch:=omega) [Ad,u,s2,s8,cl (gh _),n1,this]
  by_cases n2:(4096:Int)<es.length
  ·have:AZ t=false:=by rw[eO,AhB (by rw[hln];omega:¬(1<=t.nodes.length/\t.nodes.length<=4096))];simp
   simp (maxSteps:=2000000) (disch:=omega) [Ad,u,s2,s8,cl (gh _),n1,n2,this]
  have a0:es.length-1<t.nodes.length:=by omega
  obtain⟨z0,hz0,_⟩:=Cg hT (Ahr a0)
  have hle1:es.length-1<es.length:=by omega
  have hle2:((es.length-1:Nat):Int)<es.length:=by omega
  have w1:wr .i64 ((es.length:Int)-1)=((es.length-1:Nat):Int):=by rw[Aa (by omega) (by omega)];omega
  have hlev:=HK (Ahr a0)
  have Y:levAt t.nodes (t.nodes.length-1)=t.nodes[es.length-1].1:=by
   rw[<-hlev,hln]
   congr 1
   omega
  by_cases N:t.nodes[es.length-1].1=t.hood.length
  rotate_left
  ·have:AZ t=false:=by rw[eO,AhB (by rw[Y];exact N:¬levAt t.nodes (t.nodes.length-1)=t.hood.length)];simp
   simp (maxSteps:=2000000) (disch:=omega) [Ad,W,u,s2,s8,cl (gh _),n1,n2,w1,hz0,N,this]
  have hR:AZ t=nodesOk t 0 t.nodes:=by
   rw[eO,hh,AhA (by omega:2<=t.states/\t.states<=8),AhA (by omega:1<=t.nodes.length/\t.nodes.length<=4096),AhA (by rw[Y];exact N:levAt t.nodes (t.nodes.length-1)=t.hood.length)]
   simp
  rw[hR]
  simp (maxSteps:=2000000) (disch:=omega) [Ad,W,u,s2,s8,cl (gh _),n1,n2,w1,hz0,N]
  refine(?key:∀(i:Nat) (B:LE),i<=t.nodes.length->getB B 1=some [J0 t.states,.m h,.m n]->nodesOk t 0 t.nodes=nodesOk t i (t.nodes.drop i)->Run G c46_B1 (S46_1 (.fa 1 0) (.m n) (J0 es.length) (J0 (i:Int)) B []) _) 0 _ (Ahy _) rfl rfl
  refine Bj (fun i:Nat=>t.nodes.length-i) fun i ih B hi Z Q=>?_
  unfold c46_B1
  cases hx:t.nodes[i]? with
  | none =>
   have:i=es.length:=by have:=Ahx.1 hx;omega
   subst this
   rw[<-hln,Aik]at Q
   have Q:nodesOk t 0 t.nodes=true:=Q
   simp (maxSteps:=2000000) (disch:=omega) [Q]
  | some nd =>
   have hlt:=(Am hx).1
   have a0:i<es.length:=by omega
   have U:(i:Int)<es.length:=by omega
   obtain⟨z,hz,hzs,hzl,hzb⟩:=Cg hT hx
   have J:=hzs.rules
   have hz1:=Cx hzs
   simp only[Bp]at J
   have wi:=J1 i (by omega)
   rw[(Am hx).2,Hh]at Q
   have eN:Eu t i nd=(decide (1<=nd.1/\nd.1<=t.hood.length/\(nd.2.length:Int)=t.states)&&nd.2.all (Si t i nd.1)):=rfl
   by_cases m1:nd.1<1
   ·have:nodesOk t 0 t.nodes=false:=by rw[Q,eN,AhB (by omega)];rfl
    simp (maxSteps:=2000000) (disch:=omega) [Ab,u,U,hz,hz1,m1,this]
   by_cases m2:(t.hood.length:Int)<nd.1
   ·have:nodesOk t 0 t.nodes=false:=by rw[Q,eN,AhB (by omega)];rfl
    simp (maxSteps:=2000000) (disch:=omega) [Ab,u,W,U,hz,hz1,Z,m1,m2,this]
   by_cases m3:(nd.2.length:Int)=t.states
   rotate_left
   ·have:nodesOk t 0 t.nodes=false:=by rw[Q,eN,AhB (by omega)];rfl
    simp (maxSteps:=2000000) (disch:=omega) [Ab,u,W,U,hz,hz1,J,Z,m1,m2,m3,this]
   rw[eN,AhA (by omega:1<=nd.1/\nd.1<=t.hood.length/\(nd.2.length:Int)=t.states),AiJ]at Q
   simp (maxSteps:=2000000) (disch:=omega) [Ab,u,W,U,hz,hz1,J,Z,m1,m2,m3]
   rw[<-m3]
   refine(?key2:∀(j:Nat) (B:LE),j<=nd.2.length->getB B 1=some [J0 t.states,.m h,.m n]->getB B 5=some [J0 nd.1,.m z]->nodesOk t 0 t.nodes=((nd.2.drop j).all (Si t i nd.1)&&nodesOk t (i+1) (t.nodes.drop (i+1)))->Run G c46_B0 (S46_0 (.fa 1 0) (J0 (i:Int)) (.fa 5 0) (.m n) (J0 es.length) (J0 (i:Int)) (.m z) (J0 nd.2.length) (J0 (j:Int)) B []) _) 0 _ (Ahy _) (by simpa using Z) (by simp) Q
   clear Q
   refine Bj (fun j:Nat=>nd.2.length-j) fun j ihj B hj Z h5 Q=>?_
   unfold c46_B0
   cases hy:nd.2[j]? with
   | none =>
    have:j=nd.2.length:=by have:=Ahx.1 hy;omega
    subst this
    rw[Aik]at Q
    have k:=ih (i+1) (by omega) B (by omega) Z Q
    simp (maxSteps:=2000000) (disch:=omega) [wi,-Int.natCast_add]
    exact k
   | some k =>
    have hjl:=(Am hy).1
    have E:(j:Int)<nd.2.length:=by omega
    have hk:nth (BR nd.2) j=some [J4 k]:=Cf hy
    have wj:=J1 j (by omega)
    have hkb:=hzb k (Ahw hy)
    rw[(Am hy).2,List.all_cons]at Q
    have eE:Si t i nd.1 k=decide (¬k<0 /\ ¬(nd.1=1/\t.states<=k) /\ ¬(1<nd.1/\((i:Int)<=k \/ ¬levAt t.nodes k=nd.1-1))):=rfl
    have go:=fun(h:Si t i nd.1 k=true)=>ihj (j+1) (by omega) B (by omega) Z h5 (by rw[Q,h,AiJ])
    have no:=fun(h:Si t i nd.1 k=false)=>(by rw[Q,h];rfl:nodesOk t 0 t.nodes=false)
    have wl:=J2 (nd.1-1) (by omega)
    by_cases k0:k<0
    ·have:=no (by rw[eE];exact AhB fun h=>h.1 k0)
     simp (maxSteps:=2000000) (disch:=omega) [J,E,hk,k0,this]
    by_cases l1:nd.1=1
    ·have l2:¬1<nd.1:=by omega
     by_cases ks:t.states<=k
     ·have:=no (by rw[eE];exact AhB fun h=>h.2.1 ⟨l1,ks⟩)
      simp (maxSteps:=2000000) (disch:=omega) [J,E,hk,Z,h5,k0,l1,ks,this]
     ·have kk:=go (by rw[eE];exact AhA ⟨k0,fun h=>ks h.2,fun h=>l2 h.1⟩)
      rw[l1]at h5
      simp (maxSteps:=2000000) (disch:=omega) [J,E,hk,Z,h5,k0,ks,wj,-Int.natCast_add]
      exact kk
    ·have l2:1<nd.1:=by omega
     by_cases ki:(i:Int)<=k
     ·have:=no (by rw[eE];exact AhB fun h=>h.2.2 ⟨l2,.inl ki⟩)
      simp (maxSteps:=2000000) (disch:=omega) [J,E,hk,h5,k0,l1,l2,ki,this]
     ·obtain⟨kn,rfl⟩:=AhK (show 0<=k by omega)
      have hkn:kn<t.nodes.length:=by omega
      have hkn1:kn<es.length:=by omega
      have hkn2:(kn:Int)<es.length:=by omega
      obtain⟨z',hz',_⟩:=Cg hT (Ahr hkn)
      have hlv:=HK (Ahr hkn)
      have ki2:¬i<=kn:=by omega
      by_cases hle:t.nodes[kn].1=nd.1-1
      ·have kk:=go (by rw[eE];exact AhA ⟨k0,fun h=>l1 h.1,fun h=>h.2.elim ki fun h2=>h2 (hlv.trans hle)⟩)
       simp (maxSteps:=2000000) (disch:=omega) [J,u,E,hk,Z,h5,k0,l1,l2,ki,hz',wl,hle,wj,-Int.natCast_add]
       exact kk
      ·have:=no (by rw[eE];exact AhB fun h=>h.2.2 ⟨l2,.inr fun h2=>hle (hlv.symm.trans h2)⟩)
       simp (maxSteps:=2000000) (disch:=omega) [J,u,E,hk,Z,h5,k0,l1,l2,ki,hz',wl,hle,this]
theorem KS {u:List (Int×List Int)}{j:Nat}{nd:Int×List Int}(h:u[j]? = some nd){s:Nat}{k:Int}(z:nd.2[s]? = some k):Gk u (j:Int) (s:Int)=k:=by
 unfold Gk
 rw[show ((j:Int)).toNat=j from rfl,h]
 dsimp only
 rw[show ((s:Int)).toNat=s from rfl,z]
 rfl
variable {w:I} {ins:List Int}
set_option maxHeartbeats 2000000 in
theorem Acj (hT:TreeV t h n es)(hR:TreeR t)(hw:IsSl w (BR ins))(hl:ins.length<=t.hood.length)(hs:∀s,s∈ins->0<=s/\s<t.states)(H:Hp):Gives G 47 [.m (.ag [J4 t.states,h,n]),.m w] H (J0 (KJ t ins)) H:=by
 have Z:=hT.nd.rules
 have hln:=CN hT
 have hl2:=hT.nl
 have N:=hw.rules
 simp only[Bp]at N
 have hh:=BY hR.hood
 have n1:=hR.n1
 have n2:=hR.n2
 have w1:wr .i64 ((es.length:Int)-1)=(t.nodes.length:Int)-1:=by rw[Aa (by omega) (by omega)];omega
 refine Af rfl rfl rfl rfl rfl ?_
 simp (maxSteps:=2000000) (disch:=omega) [Z,N,w1]
 refine(?key:∀(i:Nat) (k:Int) (B:LE),i<=ins.length->getB B 2=some [J0 t.states,.m h,.m n]->k=KJ t (ins.take i)->Run G c47_B0 (S47_0 (.fa 2 0) (J0 k) (.m w) (J0 ins.length) (J0 (i:Int)) B []) _) 0 _ _ (Ahy _) rfl rfl
 refine Bj (fun i:Nat=>ins.length-i) fun i ih k B hi hB hk=>?_
 unfold c47_B0
 cases E:ins[i]? with
 | none =>
  have:i=ins.length:=by have:=Ahx.1 E;omega
  subst this
  rw[AhS]at hk
  simp (maxSteps:=2000000) (disch:=omega) [hk]
 | some s =>
  have hlt:=(Am E).1
  have W:(i:Int)<ins.length:=by omega
  have hsv:=hs s (Ahw E)
  have hsx:nth (BR ins) i=some [J4 s]:=Cf E
  have htl:(ins.take i).length=i:=by rw[AhH];omega
  obtain⟨j,nd,u,J,hlev,hlen⟩:=MA hR i (ins.take i) htl (by omega) fun x E=>hs x (Aiz E)
  rw[<-hk]at u
  obtain⟨z,hz,hzs,hzl,_⟩:=Cg hT J
  have U:=hzs.rules
  simp only[Bp]at U
  have hjl:=(Am J).1
  have hjl1:j<es.length:=by omega
  have hjl2:(j:Int)<es.length:=by omega
  obtain⟨sn,rfl⟩:=AhK hsv.1
  have hsn:sn<nd.2.length:=by omega
  have hsn2:(sn:Int)<nd.2.length:=by omega
  obtain⟨Y,Q⟩:∃Y,nd.2[sn]? = some Y:=⟨_,Ahr hsn⟩
  have hk3:nth (BR nd.2) sn=some [J4 Y]:=Cf Q
  have wi:=J1 i (by omega)
  have e1:KJ t (ins.take (i+1))=Y:=by
   rw[As E,EN,<-hk,u]
   exact KS J Q
  have kk:=ih (i+1) (by omega) Y B (by omega) hB e1.symm
  rw[u]
  simp (maxSteps:=2000000) (disch:=omega) [N,Z,W,hsx,hB,hz,U,hk3,wi,-Int.natCast_add]
  exact kk
theorem KO (J:TreeV t h n es)(H:Hp):Gives G 27 [.m (.ag [J4 t.states,h,n])] H (.m (.b (Bb t))) H:=by
 have g1:=fun H=>AfA J H
 have E:=J.hd.rules
 simp only[Bo]at E
 refine Af rfl rfl rfl rfl rfl ?_
 have u:Bb t=(AZ t&&decide (KJ t (List.replicate t.hood.length 0)=0)):=rfl
 cases ht:AZ t with
 | false =>
  rw[ht]at g1 u
  have u:Bb t=false:=u
  simp (maxSteps:=2000000) (disch:=omega) [Ad,cl (g1 _),u]
 | true =>
  rw[ht]at g1 u
  rw[AiJ]at u
  have Q:=HD ht
  have hh:=BY Q.hood
  have W:∀s,s∈List.replicate t.hood.length (0:Int)->0<=s/\s<t.states:=fun s U=>by
   have:=(List.mem_replicate.1 U).2
   have:=Q.s2
   omega
  have z:(List.replicate t.hood.length ([V.m (J4 0)]:List V))=Bz (List.replicate t.hood.length 0):=by unfold Bz;rw[List.map_replicate]
  have N:=Acj J Q (AX (BR (List.replicate t.hood.length 0))) (by simp) W []
  have Y:=AQ (H:=[Row.cs 3 1 (Bz (List.replicate t.hood.length 0)) 0 false]) (vs:=[.m (.ag [J4 t.states,h,n]),.sl 0 t.hood.length 1 0 t.hood.length true]) (is:=[.ag [J4 t.states,h,n],.sl (BR (List.replicate t.hood.length 0))]) rfl rfl N (by
   have:=XX (r:=0) (ver:=t.hood.length) (st:=0) (len:=t.hood.length) (lim:=true) (base:=0) (fz:=false) (l:=List.replicate t.hood.length 0) (H:=[Row.cs 3 1 (Bz (List.replicate t.hood.length 0)) 0 false]) rfl (Ahy _) 18
   rw[AiA,AhJ (by simp)]at this
   show Option.bind (some _) (fun _=>Option.bind (Option.bind (view 20 _ _) _) _)=_
   rw[this]
   rfl) (.inr ⟨by simp[Dv,Fs],rfl⟩)
  rw[u]
  have Z:(t.hood.length:Int)<=17592186044416:=by omega
  simp (maxSteps:=2000000) (disch:=omega) [Ac,Ab,Ad,cl (g1 _),E,z,cl Y]
def RS (p:List Ce):Int:=p.foldl (fun m c=>max m c.s) 0
theorem MC (p:List Ce)(c:Ce):RS (p++[c])=max (RS p) c.s:=by simp[RS]
theorem IK {k:Int}(E:0<k):∀n (p:List Ce),p.length=n->(RS p<k ↔ ∀c,c∈p->c.s<k)
 | 0,p,h=>by
  rw[AhT h]
  simp[RS,E]
 | n+1,p,h=>by
  obtain⟨q,c,rfl⟩:∃q c,p=q++[c]:=⟨p.dropLast,p.getLast (by intro e;rw[e]at h;simp at h),(List.dropLast_concat_getLast _).symm⟩
  have J:=IK E n q (by simpa using h)
  rw[MC]
  constructor
  ·intro z d u
   rcases Aig.1 u with u|u
   ·exact J.1 (by omega) d u
   ·rw[AhQ.1 u];omega
  ·intro z
   have:=J.2 fun d u=>z d (by simp[u])
   have:=z c (by simp)
   omega
variable {p:List Ce}
theorem top_s (Q:IsSl v (Ae p))(hl:(p.length:Int)<=9223372036854775806)(H:Hp):Gives G 75 [.m v] H (J0 (RS p)) H:=by
 have E:=Q.rules
 simp only[J3]at E
 refine Af rfl rfl rfl rfl rfl ?_
 simp (maxSteps:=2000000) (disch:=omega) [E]
 refine(?key:∀(i:Nat) (m:Int) (B:LE),i<=p.length->m=RS (p.take i)->Run G c75_B0 (S75_0 (.m v) (J0 m) (J0 p.length) (J0 (i:Int)) B []) _) 0 0 _ (Ahy _) rfl
 refine Bj (fun i:Nat=>p.length-i) fun i W m B Y z=>?_
 unfold c75_B0
 cases hx:p[i]? with
 | none =>
  have:i=p.length:=by have:=Ahx.1 hx;omega
  subst this
  rw[AhS]at z
  simp (maxSteps:=2000000) (disch:=omega) [z]
 | some c =>
  have J:=(Am hx).1
  have u:(i:Int)<p.length:=by omega
  have U:=Ap hx
  have N:=J1 i (by omega)
  have k:=W (i+1) (by omega) (max m c.s) B (by omega) (by rw[As hx,MC,<-z])
  simp (maxSteps:=2000000) (disch:=omega) [E,u,U,N,-Int.natCast_add]
  exact k
def CE (t:TreeC)(p:List Ce):Int:=if Bb t=true then if right p=true then if RS p<t.states then 0 else 10 else 2 else 11
theorem Wf (N:TreeV t h n es)(J:IsSl v (Ae p))(hl:(p.length:Int)<=9223372036854775806)(H:Hp):Gives G 40 [.m (.ag [J4 t.states,h,n]),.m v] H (J0 (CE t p)) H:=by
 have g1:=fun H=>KO N H
 have z:=fun H=>En J (by omega) H
 have g3:=fun H=>top_s J hl H
 refine Af rfl rfl rfl rfl rfl ?_
 unfold CE
 cases hq:Bb t with
 | false =>
  rw[hq]at g1
  simp (maxSteps:=2000000) (disch:=omega) [cl (g1 _)]
 | true =>
  rw[hq]at g1
  cases hr:right p with
  | false =>
   rw[hr]at z
   simp (maxSteps:=2000000) (disch:=omega) [cl (g1 _),cl (z _)]
  | true =>
   rw[hr]at z
   by_cases E:RS p<t.states
   ·have u:¬t.states<=RS p:=by omega
    simp (maxSteps:=2000000) (disch:=omega) [cl (g1 _),cl (z _),cl (g3 _),E,u]
   ·have u:t.states<=RS p:=by omega
    simp (maxSteps:=2000000) (disch:=omega) [cl (g1 _),cl (z _),cl (g3 _),E,u]
theorem Ca (h:CE t p=0):Bb t=true/\right p=true/\Hx t p:=by
 unfold CE at h
 split at h
 ·rename_i z
  split at h
  ·rename_i u
   split at h
   ·rename_i J
    have:=(IK (by have:=(DL z).s2;omega) _ p rfl).1 J
    refine⟨z,u,fun c E=>⟨?_,this c E⟩⟩
    have:=(CP u).2.1 c E
    unfold CC at this
    simp only[Ahs,AhC]at this
    omega
   ·cases h
  ·cases h
 ·cases h
theorem AcT (x y:Int)(H:Hp):Gives G 78 [.m (.ag [J4 x,J4 y])] H (.m (.b (placed x y))) H:=by
 refine Af rfl rfl rfl rfl rfl ?_
 have e:placed x y=(decide (max x y<=1048576)&&decide (-1048576<=min x y)):=by
  unfold placed
  rw[Aio]
  simp only[Ahs,AhC]
  omega
 rw[e]
 by_cases u:max x y<=1048576
 ·simp (maxSteps:=2000000) (disch:=omega) [u]
 ·simp (maxSteps:=2000000) (disch:=omega) [u]
def fzm (m:List ((Int×Int)×Int)):I:=.mp (m.map fun e=>[ekP e.1,.i .i64 e.2])
theorem Aci {H:Hp}{r:Nat}{m:List ((Int×Int)×Int)}(h:nth H r=some (mPI m))(k:Nat):view (k+2) H (.mp r)=some (fzm m):=by
 show Option.bind (nth H r) _=_
 rw[h]
 show Option.bind (Ah (fun(p:I×V)=>(view (k+1) H p.2).bind fun x=>some [p.1,x]) (m.map fun p=>(ekP p.1,evI p.2))) _=_
 have e:Ah (fun(p:I×V)=>(view (k+1) H p.2).bind fun x=>some [p.1,x]) (m.map fun p=>(ekP p.1,evI p.2))=some (m.map fun e=>[ekP e.1,J4 e.2]):=by
  clear h
  induction m with
  | nil=>rfl
  | cons a r u =>
   show Option.bind (some [ekP a.1,I.i .i64 a.2]) _=_
   simp only[Ahz,AhV]
   show Option.bind (Ah _ (r.map fun p=>(ekP p.1,evI p.2))) _=_
   rw[u]
   rfl
 rw[e]
 rfl
theorem Qq:∀m:List ((Int×Int)×Int),pairs (m.map fun e=>[ekP e.1,I.i .i64 e.2])=some (m.map fun p=>(ekP p.1,evI p.2))
 | []=>rfl
 | a::r=>by
  show Option.bind (pairs (r.map fun e=>[ekP e.1,I.i .i64 e.2])) _=_
  rw[Qq r]
  rfl
theorem AgR (M:Mem)(m:List ((Int×Int)×Int))(x y:Int):readX M (.lkp ⟨true,[1,1]⟩ [J0 0] false false) [.m (fzm m),.m (.ag [J4 x,J4 y])]=some (J0 ((CJ m (x,y)).getD 0)):=by
 have u:=AbB m x y false
 have z:readX M (.lkp ⟨true,[1,1]⟩ [J0 0] false false) [.m (fzm m),.m (.ag [J4 x,J4 y])]=(pairs (m.map fun e=>[ekP e.1,I.i .i64 e.2])).bind fun es=>He ⟨true,[1,1]⟩ [J0 0] false false (.mp es false) (.ag [J4 x,J4 y]):=rfl
 rw[z,Qq]
 exact u
theorem of_m (Y:IsSl v (Ae p))(hr:right p=true)(H:Hp):Gives G 76 [.m v] H (.m (fzm (KR p))) H:=by
 obtain⟨Z,hg,hl⟩:=CP hr
 have u:=Y.rules
 simp only[J3]at u
 refine Af rfl rfl rfl rfl rfl ?_
 simp (maxSteps:=2000000) (disch:=omega) [u]
 refine(?key:∀(i:Nat) (B:LE),i<=p.length->Run G c76_B0 (S76_0 (.mp 0) (.m v) (J0 p.length) (J0 (i:Int)) B [mPI (KR (p.take i))]) _) 0 _ (Ahy _)
 refine Bj (fun i:Nat=>p.length-i) fun i ih B hi=>?_
 unfold c76_B0
 cases hx:p[i]? with
 | none =>
  have:i=p.length:=by have:=Ahx.1 hx;omega
  subst this
  rw[AhS]
  have J:viewR [mPI (KR p)] (.mp 0)=some (.m (fzm (KR p))):=by
   show (view 20 _ _).bind _=_
   rw[Aci (H:=[mPI (KR p)]) (r:=0) (m:=KR p) rfl 18]
   rfl
  simp (maxSteps:=2000000) (disch:=omega) [J]
 | some c =>
  have W:=(Am hx).1
  have E:(i:Int)<p.length:=by omega
  have U:=Ap hx
  have Q:=J1 i (by omega)
  have z:=Z
  rw[<-List.take_append_drop i p,(Am hx).2]at z
  have N:=Vx z
  rw[<-As hx]at N
  have k:=ih (i+1) (by omega)
  simp (maxSteps:=2000000) (disch:=omega) [Ab,u,E,U,Q,N,-Int.natCast_add]
  exact k _ (by omega)
set_option maxHeartbeats 2000000 in
theorem AgA (Z:TreeV t h n es)(N:TreeR t)(hp:Hx t p)(x y:Int)(hx:-10000000<=x/\x<=10000000)(hy:-10000000<=y/\y<=10000000)(H:Hp):Gives G 77 [.m (fzm (KR p)),.m (.ag [J4 t.states,h,n]),.m (.ag [J4 x,J4 y])] H (J0 (Bv t p x y)) H:=by
 have hrn:=Z.nd.rules
 have hln:=CN Z
 have hl2:=Z.nl
 have E:=Z.hd.rules
 simp only[Bo]at E
 have hh:=BY N.hood
 have n1:=N.n1
 have n2:=N.n2
 have w1:wr .i64 ((es.length:Int)-1)=(t.nodes.length:Int)-1:=by rw[Aa (by omega) (by omega)];omega
 refine Af rfl rfl rfl rfl rfl ?_
 simp (maxSteps:=2000000) (disch:=omega) [hrn,E,w1]
 refine(?key:∀(i:Nat) (k:Int) (B:LE),i<=t.hood.length->getB B 4=some [J0 t.states,.m h,.m n]->getB B 5=some [J0 x,J0 y]->k=KJ t ((MU t p x y).take i)->Run G c77_B0 (S77_0 (.m (fzm (KR p))) (.fa 4 0) (.fa 5 0) (J0 k) (.m h) (J0 t.hood.length) (J0 (i:Int)) B []) _) 0 _ _ (Ahy _) rfl rfl rfl
 refine Bj (fun i:Nat=>t.hood.length-i) fun i ih k B hi hB h5 U=>?_
 unfold c77_B0
 cases ho:t.hood[i]? with
 | none =>
  have:i=t.hood.length:=by have:=Ahx.1 ho;omega
  subst this
  rw[AhJ (by rw[Gl];exact Ahu _)]at U
  have U:k=Bv t p x y:=U
  simp (maxSteps:=2000000) (disch:=omega) [U]
 | some o =>
  have hlt:=(Am ho).1
  have a1:(i:Int)<t.hood.length:=by omega
  have hox:=BZ ho
  have hob:=Ed N.hood o (Ahw ho)
  have hs:(MU t p x y)[i]? = some (DD p (x+o.1) (y+o.2)):=by unfold MU;rw[AhN,ho];rfl
  have Y:=Lb N hp (x+o.1) (y+o.2)
  have htl:((MU t p x y).take i).length=i:=by rw[AhH,Gl];omega
  obtain⟨j,nd,u,J,hlev,hlen⟩:=MA N i ((MU t p x y).take i) htl (by omega) fun z hz=>KV N hp z (Aiz hz)
  rw[<-U]at u
  obtain⟨z,hz,hzs,hzl,_⟩:=Cg Z J
  have a0:=hzs.rules
  simp only[Bp]at a0
  have hjl:=(Am J).1
  have hjl1:j<es.length:=by omega
  have hjl2:(j:Int)<es.length:=by omega
  have hmf:=Sa p (x+o.1) (y+o.2)
  have Q:=fun M=>AgR M (KR p) (x+o.1) (y+o.2)
  rw[hmf]at Q
  obtain⟨sn,hsn0⟩:=AhK Y.1
  rw[hsn0]at hs Y Q
  have hsn:sn<nd.2.length:=by omega
  have hsn2:(sn:Int)<nd.2.length:=by omega
  obtain⟨k2,W⟩:∃k2,nd.2[sn]? = some k2:=⟨_,Ahr hsn⟩
  have hk3:nth (BR nd.2) sn=some [J4 k2]:=Cf W
  have wi:=J1 i (by omega)
  have wx:=J2 (x+o.1) (by omega)
  have wy:=J2 (y+o.2) (by omega)
  have e1:KJ t ((MU t p x y).take (i+1))=k2:=by
   rw[As hs,EN,<-U,u]
   exact KS J W
  have kk:=fun B'=>ih (i+1) (by omega) k2 B' (by omega)
  rw[u]
  simp (maxSteps:=2000000) (disch:=omega) [Ab,E,hrn,a1,hox,hB,h5,hz,a0,wx,wy,Q,hk3,wi,-Int.natCast_add]
  exact kk _ (by simpa using hB) (by simpa using h5) e1.symm
set_option maxHeartbeats 2000000 in
theorem Uq (hT:TreeV t h n es)(hR:TreeR t)(hw:IsSl w (BR ins))(hl:ins.length<=t.hood.length)(hs:∀s,s∈ins->0<=s/\s<t.states)(H:Hp):Gives G 92 [.m (.ag [J4 t.states,h,n]),.m w] H (J0 (KJ t ins)) H:=by
 have Z:=hT.nd.rules
 have hln:=CN hT
 have hl2:=hT.nl
 have N:=hw.rules
 simp only[Bp]at N
 have hh:=BY hR.hood
 have n1:=hR.n1
 have n2:=hR.n2
 have w1:wr .i64 ((es.length:Int)-1)=(t.nodes.length:Int)-1:=by rw[Aa (by omega) (by omega)];omega
 refine Af rfl rfl rfl rfl rfl ?_
 simp (maxSteps:=2000000) (disch:=omega) [Z,w1]
 refine(?key:∀(i:Nat) (k:Int) (B:LE),i<=ins.length->getB B 2=some [J0 t.states,.m h,.m n]->k=KJ t (ins.take i)->Run G c92_B0 (S92_0 (.m w) (.fa 2 0) (J0 k) (J0 (i:Int)) B []) _) 0 _ _ (Ahy _) rfl rfl
 refine Bj (fun i:Nat=>ins.length-i) fun i ih k B hi hB hk=>?_
 unfold c92_B0
 cases E:ins[i]? with
 | none =>
  have:i=ins.length:=by have:=Ahx.1 E;omega
  subst this
  rw[AhS]at hk
  simp (maxSteps:=2000000) (disch:=omega) [N,hk]
 | some s =>
  have hlt:=(Am E).1
  have W:(i:Int)<ins.length:=by omega
  have hsv:=hs s (Ahw E)
  have hsx:nth (BR ins) i=some [J4 s]:=Cf E
  have htl:(ins.take i).length=i:=by rw[AhH];omega
  obtain⟨j,nd,u,J,hlev,hlen⟩:=MA hR i (ins.take i) htl (by omega) fun x E=>hs x (Aiz E)
  rw[<-hk]at u
  obtain⟨z,hz,hzs,hzl,_⟩:=Cg hT J
  have U:=hzs.rules
  simp only[Bp]at U
  have hjl:=(Am J).1
  have hjl1:j<es.length:=by omega
  have hjl2:(j:Int)<es.length:=by omega
  obtain⟨sn,rfl⟩:=AhK hsv.1
  have hsn:sn<nd.2.length:=by omega
  have hsn2:(sn:Int)<nd.2.length:=by omega
  obtain⟨Y,Q⟩:∃Y,nd.2[sn]? = some Y:=⟨_,Ahr hsn⟩
  have hk3:nth (BR nd.2) sn=some [J4 Y]:=Cf Q
  have wi:=J1 i (by omega)
  have e1:KJ t (ins.take (i+1))=Y:=by
   rw[As E,EN,<-hk,u]
   exact KS J Q
  have kk:=ih (i+1) (by omega) Y B (by omega) hB e1.symm
  rw[u]
  simp (maxSteps:=2000000) (disch:=omega) [N,Z,W,hsx,hB,hz,U,hk3,wi,-Int.natCast_add]
  exact kk
theorem AgV (N:TreeV t h n es)(U:AZ t=true)(W:IsSl w (BR ins))(hl:ins.length=t.hood.length)(hs:∀s,s∈ins->0<=s/\s<t.states)(H:Hp):Gives G 53 [.m (.ag [J4 t.states,h,n]),.m w] H (.tu [J0 (KJ t ins),J0 0]) H:=by
 have Y:=HD U
 have g1:=fun H=>ZS N H
 rw[U]at g1
 have g2:=fun H=>Uq N Y W (by omega) hs H
 have hh:=BY Y.hood
 have u:=W.rules
 simp only[Bp]at u
 have z:=N.hd.rules
 simp only[Bo]at z
 have a0:(ins.length:Int)=t.hood.length:=by omega
 refine Af rfl rfl rfl rfl rfl ?_
 simp (maxSteps:=2000000) (disch:=omega) [cl (g1 _),u,z,hl]
 refine(?key:∀(i:Nat) (B:LE),i<=ins.length->getB B 2=some [J0 t.states,.m h,.m n]->Run G c53_B0 (S53_0 (.m w) (.fa 2 0) (J0 (i:Int)) B []) _) 0 _ (Ahy _) rfl
 refine Bj (fun i:Nat=>ins.length-i) fun i ih B hi Q=>?_
 unfold c53_B0
 cases hx:ins[i]? with
 | none =>
  have:i=ins.length:=by have:=Ahx.1 hx;omega
  subst this
  simp (maxSteps:=2000000) (disch:=omega) [u,Q,cl (g2 _)]
 | some s =>
  have a1:=(Am hx).1
  have E:(i:Int)<ins.length:=by omega
  have hsv:=hs s (Ahw hx)
  have h1:¬s<0:=by omega
  have Z:¬t.states<=s:=by omega
  have J:nth (BR ins) i=some [J4 s]:=Cf hx
  have wi:=J1 i (by omega)
  have kk:=ih (i+1) (by omega) B (by omega) Q
  simp (maxSteps:=2000000) (disch:=omega) [u,E,J,Q,h1,Z,wi,-Int.natCast_add]
  exact kk
theorem KP (J:TreeV t h n es)(H:Hp):Gives G 29 [.m (.ag [J4 t.states,h,n])] H (.m (.b (Bb t))) H:=by
 have g1:=fun H=>ZS J H
 have E:=J.hd.rules
 simp only[Bo]at E
 refine Af rfl rfl rfl rfl rfl ?_
 have u:Bb t=(AZ t&&decide (KJ t (List.replicate t.hood.length 0)=0)):=rfl
 cases ht:AZ t with
 | false =>
  rw[ht]at g1 u
  have u:Bb t=false:=u
  simp (maxSteps:=2000000) (disch:=omega) [cl (g1 _),u]
 | true =>
  rw[ht]at g1 u
  rw[AiJ]at u
  have Q:=HD ht
  have hh:=BY Q.hood
  have W:∀s,s∈List.replicate t.hood.length (0:Int)->0<=s/\s<t.states:=fun s U=>by
   have:=(List.mem_replicate.1 U).2
   have:=Q.s2
   omega
  have z:(List.replicate t.hood.length ([V.m (J4 0)]:List V))=Bz (List.replicate t.hood.length 0):=by unfold Bz;rw[List.map_replicate]
  have N:=AgV J ht (AX (BR (List.replicate t.hood.length 0))) (by simp) W []
  have Y:=AQ (H:=[Row.cs 3 1 (Bz (List.replicate t.hood.length 0)) 0 false]) (vs:=[.m (.ag [J4 t.states,h,n]),.sl 0 t.hood.length 1 0 t.hood.length true]) (is:=[.ag [J4 t.states,h,n],.sl (BR (List.replicate t.hood.length 0))]) rfl rfl N (by
   have:=XX (r:=0) (ver:=t.hood.length) (st:=0) (len:=t.hood.length) (lim:=true) (base:=0) (fz:=false) (l:=List.replicate t.hood.length 0) (H:=[Row.cs 3 1 (Bz (List.replicate t.hood.length 0)) 0 false]) rfl (Ahy _) 18
   rw[AiA,AhJ (by simp)]at this
   show Option.bind (some _) (fun _=>Option.bind (Option.bind (view 20 _ _) _) _)=_
   rw[this]
   rfl) (.inr ⟨by simp[Dv,Fs],rfl⟩)
  rw[u]
  have Z:(t.hood.length:Int)<=17592186044416:=by omega
  simp (maxSteps:=2000000) (disch:=omega) [Ac,Ab,cl (g1 _),E,z,cl Y]
theorem Nj (hT:TreeV t h n es)(hv:IsSl v (Ae p))(hl:(p.length:Int)<=9223372036854775806)(H:Hp):Gives G 58 [.m (.ag [J4 t.states,h,n]),.m v] H (J0 (CE t p)) H:=by
 have g1:=fun H=>KP hT H
 have Q:=fun H=>IV hv (by omega) H
 have z:=hv.rules
 simp only[J3]at z
 refine Af rfl rfl rfl rfl rfl ?_
 have u:CE t p=if Bb t=true then if right p=true then if RS p<t.states then 0 else 10 else 2 else 11:=rfl
 cases hq:Bb t with
 | false =>
  rw[hq]at g1 u
  have u:CE t p=11:=u
  simp (maxSteps:=2000000) (disch:=omega) [cl (g1 _),u]
 | true =>
  rw[hq]at g1 u
  cases hr:right p with
  | false =>
   rw[hr]at Q u
   have u:CE t p=2:=u
   simp (maxSteps:=2000000) (disch:=omega) [cl (g1 _),cl (Q _),u]
  | true =>
   rw[hr]at Q u
   have u:CE t p=if RS p<t.states then 0 else 10:=u
   have hs2:=(DL hq).s2
   have N:=IK (k:=t.states) (by omega) _ p rfl
   simp (maxSteps:=2000000) (disch:=omega) [cl (g1 _),cl (Q _)]
   refine(?key:∀(i:Nat) (B:LE),i<=p.length->getB B 2=some [J0 t.states,.m h,.m n]->(∀(j:Nat) c,j<i->p[j]? = some c->c.s<t.states)->Run G c58_B0 (S58_0 (.m v) (.fa 2 0) (J0 (i:Int)) B []) _) 0 _ (Ahy _) rfl (fun j c h=>by omega)
   refine Bj (fun i:Nat=>p.length-i) fun i ih B hi Y E=>?_
   unfold c58_B0
   cases hx:p[i]? with
   | none =>
    have:i=p.length:=by have:=Ahx.1 hx;omega
    subst this
    have e0:CE t p=0:=by
     rw[u,Ahv (N.2 fun c U=>by
      obtain⟨j,W⟩:=List.mem_iff_getElem?.1 U
      exact E j c (Am W).1 W)]
    simp (maxSteps:=2000000) (disch:=omega) [z,e0]
   | some c =>
    have hlt:=(Am hx).1
    have J:(i:Int)<p.length:=by omega
    have hn:=Ap hx
    have wi:=J1 i (by omega)
    by_cases U:t.states<=c.s
    ·have e1:CE t p=10:=by rw[u,Aht (fun h=>by have:=N.1 h c (Ahw hx);omega)]
     simp (maxSteps:=2000000) (disch:=omega) [z,J,hn,Y,U,e1]
    ·have kk:=ih (i+1) (by omega) B (by omega) Y (fun j d W Z=>by
      by_cases e:j<i
      ·exact E j d e Z
      ·have:j=i:=by omega
       subst this
       rw[hx]at Z
       cases Z
       omega)
     simp (maxSteps:=2000000) (disch:=omega) [z,J,hn,Y,U,wi,-Int.natCast_add]
     exact kk
theorem Aaj {y:I}(h:IsSl y es):AA (.m y)=some [.m y]:=by
 rcases h with rfl|⟨rfl,_⟩ <;> rfl
theorem Ahf (W:right p=true):∃(bx by_:Int) (w h:Nat),No p=[bx,by_,(w:Int),(h:Int)]/\(w<=2097153/\h<=2097153)/\(-1048576<=bx/\bx<=1048576)/\(-1048576<=by_/\by_<=1048576)/\(∀c,c∈p->(bx<=c.x/\c.x<bx+w)/\(by_<=c.y/\c.y<by_+h))/\((1<=w/\1<=h)\/(w=0/\h=0)):=by
 cases p with
 | nil=>exact⟨0,0,0,0,rfl,by omega,by omega,by omega,fun c z=>(by cases z),.inr ⟨rfl,rfl⟩⟩
 | cons a r =>
  obtain⟨_,hg,_⟩:=CP W
  have E:∀c,c∈a::r->(-1048576<=c.x/\c.x<=1048576)/\(-1048576<=c.y/\c.y<=1048576):=fun c z=>by
   have:=hg c z
   unfold CC placed at this
   simp only[Ahs,AhC]at this
   omega
  obtain⟨l,N⟩:∃d,(a::r)[(a::r).length-1]? = some d:=⟨_,Ahr (by simp)⟩
  obtain⟨y1,y2⟩:=KL W N
  have J:∀h,(a::r).getLast h=l:=fun h=>by
   rw[List.getLast_eq_getElem,<-Aho,<-N,Ahr]
  have Y:=fun(e:Ce) (u:e∈a::r)=>(Qx ((a::r).map Ce.x) a.x).2 _ (AiN u)
  have Z:=fun(e:Ce) (u:e∈a::r)=>(Ja ((a::r).map Ce.x) a.x).2 _ (AiN u)
  have U:=fun(e:Ce) (u:e∈a::r)=>(Qx ((a::r).map Ce.y) a.y).2 _ (AiN u)
  have ny:=fun(e:Ce) (u:e∈a::r)=>(Ja ((a::r).map Ce.y) a.y).2 _ (AiN u)
  rw[y2]at U
  rw[y1]at ny
  have bX:mxF a.x ((a::r).map Ce.x)<=1048576:=Vv _ _ _ ⟨(E a (AhR ..)).1.2,fun y Q=>by
   obtain⟨e,u,rfl⟩:=AhP.1 Q
   exact(E e u).1.2⟩
  have bN:-1048576<=mnF a.x ((a::r).map Ce.x):=JX _ _ _ ⟨(E a (AhR ..)).1.1,fun y Q=>by
   obtain⟨e,u,rfl⟩:=AhP.1 Q
   exact(E e u).1.1⟩
  have hlb:=E l (Ahw N)
  have hab:=E a (AhR ..)
  have m5:=Z a (AhR ..)
  have m6:=Y a (AhR ..)
  have m7:=U a (AhR ..)
  have e:No (a::r)=[mnF a.x ((a::r).map Ce.x),a.y,wr .i64 (wr .i64 (mxF a.x ((a::r).map Ce.x)-mnF a.x ((a::r).map Ce.x))+1),wr .i64 (wr .i64 (l.y-a.y)+1)]:=by
   unfold No
   dsimp only
   rw[Ahv W,J]
  generalize mnF a.x ((a::r).map Ce.x)=n at *
  generalize mxF a.x ((a::r).map Ce.x)=m at *
  rw[Aa (x:=m-n) (by omega) (by omega),Aa (x:=m-n+1) (by omega) (by omega),Aa (x:=l.y-a.y) (by omega) (by omega),Aa (x:=l.y-a.y+1) (by omega) (by omega)]at e
  obtain⟨w,hw⟩:=AhK (show 0<=m-n+1 by omega)
  obtain⟨k,hk⟩:=AhK (show 0<=l.y-a.y+1 by omega)
  rw[hw,hk]at e
  refine⟨n,a.y,w,k,e,by omega,by omega,by omega,fun c z=>?_,.inl ⟨by omega,by omega⟩⟩
  have h1:=Y c z
  have h2:=Z c z
  have h3:=U c z
  have h4:=ny c z
  omega
variable {q:List Ce}
theorem VL {c:Ce}(h:∀d,d∈q -> ¬(d.x=c.x/\d.y=c.y))(x y:Int):DD (q++[c]) x y=if c.x=x/\c.y=y then c.s else DD q x y:=by
 induction q with
 | nil=>rfl
 | cons d r z =>
  have z:=z fun e J=>h e (Aij _ J)
  have Q:=h d (AhR ..)
  have N:DD (d::r++[c]) x y=if d.x=x/\d.y=y then d.s else DD (r++[c]) x y:=rfl
  have E:DD (d::r) x y=if d.x=x/\d.y=y then d.s else DD r x y:=rfl
  rw[N,E,z]
  by_cases u:d.x=x/\d.y=y
  ·rw[Ahv u,Ahv u,Aht]
   intro U
   exact Q ⟨by omega,by omega⟩
  ·rw[Aht u,Aht u]
theorem Lc {x y:Int}(h:∀c,c∈p -> ¬(c.x=x/\c.y=y)):DD p x y=0:=Aiv fun u=>by
 obtain⟨c,J,E,z,_⟩:=QP u
 exact h c J ⟨E,z⟩
def De (p:List Ce)(bx by_:Int)(w n:Nat):List Int:=(List.range n).map fun k=>DD p (bx+((k%w:Nat):Int)) (by_+((k / w:Nat):Int))
theorem Ee (p:List Ce)(bx by_:Int)(w n:Nat):(De p bx by_ w n).length=n:=by simp[De]
variable {a b:Nat}
theorem Aan {w:Nat}(h:a<w):(b*w+a) / w=b/\(b*w+a)%w=a:=by
 constructor
 ·rw[AiU,Nat.mul_add_div (by omega),Nat.div_eq_of_lt h];rfl
 ·rw[AiU,Nat.mul_add_mod,Nat.mod_eq_of_lt h]
theorem YP (p:List Ce)(bx by_:Int){w n:Nat}(E:a<w)(u:b*w+a<n):(De p bx by_ w n)[b*w+a]? = some (DD p (bx+a) (by_+b)):=by
 unfold De
 rw[AhN,List.getElem?_range u]
 obtain⟨J,z⟩:=Aan (b:=b) E
 show some (DD p (bx+(((b*w+a)%w:Nat):Int)) (by_+(((b*w+a) / w:Nat):Int)))=_
 rw[J,z]
theorem YN {c:Ce}(bx by_:Int){w n:Nat}(Y:a<w)(J:b*w+a<n)(Z:c.x=bx+a)(U:c.y=by_+b)(h:∀d,d∈q -> ¬(d.x=c.x/\d.y=c.y)):De (q++[c]) bx by_ w n=(De q bx by_ w n).set (b*w+a) c.s:=by
 refine List.ext_getElem? fun k=>?_
 rw[List.getElem?_set]
 by_cases W:k<n
 ·have e:∀p,(De p bx by_ w n)[k]? = some (DD p (bx+((k%w:Nat):Int)) (by_+((k / w:Nat):Int))):=fun p=>by
   unfold De
   rw[AhN,List.getElem?_range W]
   rfl
  rw[e,e,Ee,VL h]
  by_cases u:b*w+a=k
  ·subst u
   obtain⟨E,z⟩:=Aan (b:=b) Y
   rw[E,z,Ahv rfl,Ahv J,Ahv ⟨Z,U⟩]
  ·rw[Aht u,Aht]
   intro⟨E,z⟩
   have Q:k%w=a:=by omega
   have N:k / w=b:=by omega
   have:=Nat.div_add_mod k w
   rw[Q,N,AiU]at this
   exact u this
 ·have e:∀p,(De p bx by_ w n)[k]? = none:=fun p=>Ahx.2 (by rw[Ee];omega)
  rw[e,e,Aht (by omega)]
theorem YO (bx by_:Int)(w n:Nat):De [] bx by_ w n=List.replicate n 0:=by
 unfold De
 rw[show (fun k:Nat=>DD [] (bx+((k%w:Nat):Int)) (by_+((k / w:Nat):Int)))=fun _=>0 from rfl,List.map_const',List.length_range]
theorem w1_x {l:List Int}{j:Nat}(h:j<l.length)(x:Int):BQ 1 (Bz l) j 0 [J0 x]=some (Bz (l.set j x)):=by
 have z:l[j]? = some l[j]:=Ahr h
 have u:nth (Bz l) j=some [.m (J4 l[j])]:=by rw[AL];simp[Bz,h]
 show (nth (Bz l) j).bind _=_
 rw[u]
 show AN (Bz l) j [J0 x]=_
 rw[AB _ _ _ (by rw[FX];exact h)]
 simp[Bz,List.map_set]
def Nh (fl:Bool)(bx by_ w h:Int)(cs li:I):I:=.ag [.b fl,.i .i64 bx,.i .i64 by_,.i .i64 w,.i .i64 h,cs,li]
structure FldV (p:List Ce)(v x:I):Prop where
 ex:∃(bx by_:Int) (w h:Nat) (fl:Bool) (cs:I),x=Nh fl bx by_ w h cs v/\(w<=2097153/\h<=2097153)/\(-1048576<=bx/\bx<=1048576)/\(-1048576<=by_/\by_<=1048576)/\(∀c,c∈p->(bx<=c.x/\c.x<bx+w)/\(by_<=c.y/\c.y<by_+h))/\((1<=w/\1<=h)\/(w=0/\h=0))/\(fl=true->w*h<=40000/\IsSl cs (BR (De p bx by_ w (w*h))))/\BL (.m cs)=true
set_option maxHeartbeats 4000000 in
theorem Ya (hv:IsSl v (Ae p))(hr:right p=true)(H:Hp):∃x,FldV p v x/\Gives G 59 [.m v] H (.m x) H:=by
 obtain⟨pw,hg,hl⟩:=CP hr
 have U:=hv.rules
 simp only[J3]at U
 have a1:=Cx hv
 have hvc:=Aaj hv
 obtain⟨z,u,w,h,hbx,E,J,N,Y,hne⟩:=Ahf hr
 have g1:=fun H=>Ahe hv (by omega) H
 unfold QZ at g1
 rw[hbx]at g1
 simp only[AhV,List.map_nil]at g1
 obtain⟨P,hP⟩:∃P,P=w*h:=⟨_,rfl⟩
 have hPb:P<=2097153*2097153:=by rw[hP];exact Nat.mul_le_mul E.1 E.2
 have hPi:(w:Int)*(h:Int)=(P:Int):=by rw[hP];simp
 have wP:wr .i64 ((w:Int)*(h:Int))=(P:Int):=by rw[hPi];exact Aa (by omega) (by omega)
 have key:∃x H',Gives G 59 [.m v] H x H'/\(H'=H /\ ∃y,FldV p v y/\x=.m y):=by
  refine AJ ?_
  refine Cs rfl rfl rfl rfl rfl ?_
  generalize hQ:(fun(x:V) (H':Hp)=>H'=H /\ ∃y,FldV p v y/\x=.m y)=Q
  have qk:∀y,FldV p v y->Q (.m y) H:=fun y hy=>by rw[<-hQ];exact⟨rfl,y,hy,rfl⟩
  clear hQ
  by_cases hf:P<=40000
  ·have Z:(P:Int)<=40000:=by omega
   have hrow:(List.replicate P ([V.m (J4 0)]:List V))=Bz (De (p.take 0) z u w P):=by rw[List.take_zero,YO];unfold Bz;rw[List.map_replicate]
   have hb:(P:Int)<=17592186044416:=by omega
   simp (maxSteps:=2000000) (disch:=omega) [Ac,Ab,cl (g1 _),wP,Z,a1,hvc,hrow]
   refine(?key:∀(i W:Nat) (B:LE),i<=p.length->W<=P->getB B 2=some [.m (.b false),J0 0,J0 0,J0 0,J0 0,.m (.nl 4),.m (.nl 4)]->getB B 3=some [J0 z,J0 u,J0 w,J0 h]->getB B 5=some [.m (.b true),J0 z,J0 u,J0 w,J0 h,.sl 0 P 1 0 P true,.m v]->Run G c59_B0 (S59_0 (.m v) (.fa 2 0) (.fa 3 0) (.fa 5 0) (J0 (i:Int)) B [Row.cs 3 1 (Bz (De (p.take i) z u w P)) W false]) _) 0 0 _ (Ahy _) (Ahy _) rfl rfl rfl
   refine Bj (fun i:Nat=>p.length-i) fun i ih W B hi hb0 hB2 hB3 a0=>?_
   unfold c59_B0
   cases hx:p[i]? with
   | none =>
    have:i=p.length:=by have:=Ahx.1 hx;omega
    subst this
    rw[AhS]
    have hvw:view 19 [Row.cs 3 1 (Bz (De p z u w P)) W false] (.sl 0 P 1 0 P true)=some (.sl (BR (De p z u w P))):=by
     have:=XX (r:=0) (ver:=P) (st:=0) (len:=P) (lim:=true) (base:=W) (fz:=false) (l:=De p z u w P) (H:=[Row.cs 3 1 (Bz (De p z u w P)) W false]) rfl hb0 17
     rw[AiA,AhJ (by rw[Ee];exact Ahu _)]at this
     exact this
    have k:=qk (Nh true z u w h (.sl (BR (De p z u w P))) v) ⟨z,u,w,h,true,_,rfl,E,J,N,Y,hne,fun _=>⟨by omega,by rw[<-hP];exact AX _⟩,rfl⟩
    unfold Nh at k
    have hvw2:viewR [Row.cs 3 1 (Bz (De p z u w P)) W false] (.ag [.m (.b true),J0 z,J0 u,J0 w,J0 h,.sl 0 P 1 0 P true,.m v])=some (.m (.ag [.b true,J4 z,J4 u,J4 w,J4 h,.sl (BR (De p z u w P)),v])):=by
     show Option.bind (Option.bind (Ah (view 19 _) _) _) _=_
     simp only[Ah,hvw,Ahz]
     rfl
    simp (maxSteps:=2000000) (disch:=omega) [Ab,U,hB2,a0,a1,hvw2]
    exact k
   | some c =>
    have hlt:=(Am hx).1
    have hlt':(i:Int)<p.length:=by omega
    have hn:=Ap hx
    have wi:=J1 i (by omega)
    have hci:=Y c (Ahw hx)
    obtain⟨a,ha⟩:=AhK (show 0<=c.x-z by omega)
    obtain⟨b,hb⟩:=AhK (show 0<=c.y-u by omega)
    have haw:a<w:=by omega
    have hbh:b<h:=by omega
    have hk:b*w+a<P:=by
     rw[hP]
     have h1:(b+1)*w<=h*w:=Aip _ hbh
     rw[Aif,Nat.one_mul,AiU h w]at h1
     omega
    obtain⟨M,hM⟩:∃M,M=b*w:=⟨_,rfl⟩
    have hMi:(b:Int)*(w:Int)=(M:Int):=by rw[hM];simp
    rw[<-hM]at hk
    have w47:wr .i64 (c.y-u)=(b:Int):=by rw[hb];exact Aa (by omega) (by omega)
    have w50:wr .i64 ((b:Int)*(w:Int))=(M:Int):=by rw[hMi];exact Aa (by omega) (by omega)
    have w56:=J2 ((M:Int)+c.x) (by omega)
    obtain⟨k0,hk0⟩:∃k0,k0=M+a:=⟨_,rfl⟩
    have w59:wr .i64 ((M:Int)+c.x-z)=(k0:Int):=by rw[Aa (by omega) (by omega)];omega
    have hk1:k0<P:=by omega
    have hk2:(k0:Int)<P:=by omega
    have hdis:∀d,d∈p.take i -> ¬(d.x=c.x/\d.y=c.y):=fun d hd=>by
     have pw':=pw
     rw[<-List.take_append_drop i p,(Am hx).2]at pw'
     have:=(AiE.1 pw').2.2 d hd c (AhR ..)
     unfold Bd at this
     simp only[AhC]at this
     omega
    have hgs:=YN (q:=p.take i) (c:=c) z u (w:=w) (n:=P) (a:=a) (b:=b) haw (by omega) (by omega) (by omega) hdis
    rw[<-As hx,<-hM,<-hk0]at hgs
    have hw1:=w1_x (l:=De (p.take i) z u w P) (j:=k0) (by rw[Ee];exact hk1) c.s
    rw[<-hgs]at hw1
    have kk:=ih (i+1) (by omega) P B (by omega) (Ahu _) hB2 hB3 a0
    have hrl:(Bz (De (p.take i) z u w P)).length=P:=by rw[FX,Ee]
    simp (maxSteps:=2000000) (disch:=omega) [Ab,U,hlt',hn,hB3,a0,w47,w50,w56,w59,hw1,hrl,wi,-Int.natCast_add]
    exact kk
  ·have Z:¬(P:Int)<=40000:=by omega
   have k:=qk (Nh false z u w h (.nl 4) v) ⟨z,u,w,h,false,.nl 4,rfl,E,J,N,Y,hne,fun h=>(by cases h),rfl⟩
   unfold Nh at k
   simp (maxSteps:=2000000) (disch:=omega) [Ab,cl (g1 _),wP,Z,a1,hvc]
   exact k
 obtain⟨x,H',h1,rfl,y,h2,rfl⟩:=key
 exact⟨y,h2,h1⟩
end Go.Mx.Tryz
namespace Go.Mx.Tryz
open Go.Lib
instance:DecidableEq Ce:=fun a b=>if h:a.x=b.x/\a.y=b.y/\a.s=b.s then isTrue (by cases a;cases b;obtain⟨h1,h2,h3⟩:=h;dsimp only at h1 h2 h3;rw[h1,h2,h3]) else isFalse fun e=>h (by rw[e];exact⟨rfl,rfl,rfl⟩)
noncomputable def stp (t:TreeC)(p:List Ce):List Ce×Int:=@Classical.epsilon _ ⟨([],0)⟩ (DO t p)
variable {t:TreeC} {p:List Ce}
theorem JN {r:List Ce×Int}(h:DO t p r):stp t p=r:=JO (@Classical.epsilon_spec_aux _ ⟨([],0)⟩ (DO t p) ⟨r,h⟩) h
def Ew (t:TreeC):Prop:=∀p,CE t p=0->DO t p (stp t p)
variable {q:List Ce}
theorem AdB (u:Bb t=true)(N:q.Pairwise (fun a b=>Bd a b=true))(E:∀c,c∈q->CC c=true)(J:q.length<=5000)(z:Hx t q):CE t q=0:=by
  unfold CE
  rw[Ahv u,Ahv (Gi N E J),Ahv ((IK (by have:=(DL u).s2;omega) _ q rfl).2 fun c Q=>(z c Q).2)]
theorem IM (U:CE t p=0)(hs:DO t p (stp t p))(Q:(stp t p).2=0):CE t (stp t p).1=0:=by
  obtain⟨z,W,E⟩:=Ca U
  have u:DO t p ((stp t p).1,0):=by rw[<-Q];exact hs
  obtain⟨N,J,k3,k4⟩:=Qc (DL z) E u
  exact AdB z N J k3 k4
theorem Ux (hs:DO t p (stp t p))(u:¬(stp t p).2=0):(stp t p).1=[]:=by
  generalize stp t p=r at *
  rcases hs with ⟨rfl,_⟩|⟨_,q,_,_,rfl⟩
  · rfl
  · split
    · rfl
    · rename_i z
      rw[Aht z]at u
      exact absurd rfl u
noncomputable def BT (t:TreeC)(p:List Ce):List Ce×Int:=if CE t p=0 then stp t p else ([],CE t p)
theorem Acz (E:Ew t)(z:(BT t p).2=0):CE t p=0/\BT t p=stp t p/\CE t (BT t p).1=0:=by
  unfold BT at *
  by_cases u:CE t p=0
  · rw[Ahv u]at *
    exact⟨u,rfl,IM u (E p u) z⟩
  · rw[Aht u]at z
    exact absurd z u
noncomputable def BX (t:TreeC):Nat->List Ce->List Ce×Int
  | 0,p=>(p,0)
  | n+1,p=>if (stp t p).2=0 then BX t n (stp t p).1 else ([],(stp t p).2)
noncomputable def rnE (t:TreeC)(p:List Ce)(n:Int):List Ce×Int:=if CE t p=0 then if 0<=n/\n<=10000 then BX t n.toNat p else ([],2) else ([],CE t p)
theorem Uw (z:Bb t=true):stp t []=([],0):=by
  have u:∀x y,Bv t [] x y=0:=fun x y=>Aiv fun h=>by
    obtain⟨c,o,E,_⟩:=HI z h
    cases E
  refine JN (.inr ⟨fun x y h=>absurd (u x y) h,[],.nil,fun c=>⟨fun h=>(by cases h),fun h=>absurd (by rw[h.1];exact u _ _) h.2⟩,rfl⟩)
def mvd:List Ce->List Ce->Option (Int×Int)
  | c::r,d::s=>if d::s=(c::r).map (fun e=>⟨e.x+(d.x-c.x),e.y+(d.y-c.y),e.s⟩) then some (d.x-c.x,d.y-c.y) else none
  | _,_=>none
theorem Vw (p:List Ce):mvd p []=none:=by cases p <;> rfl
noncomputable def HM (t:TreeC)(p:List Ce):Nat->Int->List Ce->(Int×Int×Int)×Bool×Int
  | 0,_,_=>((0,0,0),false,0)
  | k+1,g,q=>if (stp t q).2=0 then match mvd p (stp t q).1 with
      | some d=>((g,d.1,d.2),true,0)
      | none=>HM t p k (g+1) (stp t q).1
    else ((0,0,0),false,(stp t q).2)
variable {k:Nat}
theorem Ng {g:Int}(u:(stp t q).2=0):HM t p (k+1) g q=match mvd p (stp t q).1 with
      | some d=>((g,d.1,d.2),true,0)
      | none=>HM t p k (g+1) (stp t q).1:=by
  rw[HM,Ahv u]
theorem QR {g:Int}(u:¬(stp t q).2=0):HM t p (k+1) g q=((0,0,0),false,(stp t q).2):=by
  rw[HM,Aht u]
theorem HL {t:TreeC}(u:Bb t=true)(p:List Ce):∀(k:Nat) (g:Int),HM t p k g []=((0,0,0),false,0)
  | 0,_=>rfl
  | k+1,g=>by
    rw[Ng (by rw[Uw u]),Uw u]
    show (match mvd p []with
      | some d=>((g,d.1,d.2),true,0)
      | none=>HM t p k (g+1) [])=_
    rw[Vw]
    exact HL u p k (g+1)
theorem Nf {t:TreeC}(E:Bb t=true)(p:List Ce):∀(k:Nat) (g:Int) (q:List Ce) (m:Int×Int×Int) (e:Int),HM t p k g q=(m,true,e) -> ∃j:Nat,j<k/\m.1=g+j/\e=0 /\ ∀i,i<=j->(BX t i q).2=0 /\ ¬(BX t i q).1=[]
  | 0,g,q,m,e,h=>by cases h
  | k+1,g,q,m,e,h=>by
    have u:¬q=[]:=fun e=>by rw[e,HL E]at h;cases h
    by_cases z:(stp t q).2=0
    · rw[Ng z]at h
      cases hm:mvd p (stp t q).1 with
      | some d =>
        rw[hm]at h
        cases h
        refine⟨0,by omega,by simp,rfl,fun i J=>?_⟩
        have:i=0:=by omega
        subst this
        exact⟨rfl,u⟩
      | none =>
        rw[hm]at h
        obtain⟨j,W,U,Q,N⟩:=Nf E p k (g+1) _ m e h
        refine⟨j+1,by omega,by omega,Q,fun i J=>?_⟩
        cases i with
        | zero=>exact⟨rfl,u⟩
        | succ i =>
          have e:BX t (i+1) q=BX t i (stp t q).1:=by rw[BX,Ahv z]
          rw[e]
          exact N i (by omega)
    · rw[QR z]at h
      cases h
theorem QQ {t:TreeC}(p:List Ce):∀(k:Nat) (g:Int) (q:List Ce),¬(HM t p k g q).2.2=0->(HM t p k g q).2.1=false
  | 0,g,q,h=>rfl
  | k+1,g,q,h=>by
    by_cases u:(stp t q).2=0
    · rw[Ng u]at *
      cases hm:mvd p (stp t q).1 with
      | some d=>rw[hm]at h;exact absurd rfl h
      | none=>rw[hm]at h;exact QQ p k _ _ h
    · rw[QR u]
noncomputable def OI (t:TreeC)(p:List Ce)(most:Int):(Int×Int×Int)×Bool×Int:=if CE t p=0 then if 1<=most/\most<=64 then HM t p most.toNat 1 p else ((0,0,0),false,2) else ((0,0,0),false,CE t p)
theorem YR {u:Int}(h:¬(OI t p u).2.2=0):(OI t p u).2.1=false:=by
  unfold OI at *
  split
  · rename_i E
    rw[Ahv E]at h
    split
    · rename_i z
      rw[Ahv z]at h
      exact QQ _ _ _ _ h
    · rfl
  · rfl
noncomputable def YM (t:TreeC)(p:List Ce)(m:Int×Int×Int):Bool×Int:=((OI t p m.1).2.1&&decide ((OI t p m.1).1=m),(OI t p m.1).2.2)
structure Sh where
  c:List Ce
  m:Int×Int×Int
def Uo (p:List Ce):Bool:=match No p with
  | [_,_,w,h]=>decide (10000<w)||decide (10000<h)
  | _=>false
noncomputable def Cw (t:TreeC)(s:Sh):Bool:=(!s.c.isEmpty&&right s.c)&&(!Uo s.c&&((YM t s.c s.m).1&&decide ((YM t s.c s.m).2=0)))
def Spr (w:Int)(p:List Ce):Prop:=∀c d,c∈p->d∈p->c.x-d.x<=w/\c.y-d.y<=w
variable {w:Int}
theorem Acy (Q:Bb t=true)(hs:DO t p (stp t p))(h:Spr w p):Spr (w+4) (stp t p).1:=by
  have u:∀c,c∈(stp t p).1 -> ∃d,d∈p/\(-2<=c.x-d.x/\c.x-d.x<=2)/\(-2<=c.y-d.y/\c.y-d.y<=2):=by
    generalize stp t p=r at *
    intro c z
    rcases hs with ⟨rfl,_⟩|⟨_,q,_,hm,rfl⟩
    · cases z
    · split at z
      · cases z
      · have U:=(hm c).1 z
        have Z:¬Bv t p c.x c.y=0:=by rw[<-U.1];exact U.2
        obtain⟨d,o,hd,ho,ex,ey⟩:=HI Q Z
        have N:=Ed (DL Q).hood o ho
        exact⟨d,hd,by omega,by omega⟩
  intro a b ha N
  obtain⟨Y,J,_,_⟩:=u a ha
  obtain⟨W,E,_,_⟩:=u b N
  have:=h Y W J E
  omega
theorem ZW {t:TreeC}(z:Ew t):∀(n:Nat) (p:List Ce),CE t p=0->(BX t n p).2=0->CE t (BX t n p).1=0
  | 0,p,hc,_=>hc
  | n+1,p,hc,h=>by
    unfold BX at *
    by_cases u:(stp t p).2=0
    · rw[Ahv u]at *
      exact ZW z n _ (IM hc (z p hc) u) h
    · rw[Aht u]at h
      exact absurd h u
theorem UL {t:TreeC}(z:Ew t)(E:Bb t=true):∀(n:Nat) (p:List Ce) (w:Int),CE t p=0->Spr w p->(BX t n p).2=0->Spr (w+4*n) (BX t n p).1
  | 0,p,w,hc,h,_=>by simpa[BX]using h
  | n+1,p,w,hc,h,h0=>by
    unfold BX at *
    by_cases u:(stp t p).2=0
    · rw[Ahv u]at *
      have:=UL z E n _ _ (IM hc (z p hc) u) (Acy E (z p hc) h) h0
      rw[show w+4*((n+1:Nat):Int)=w+4+4*(n:Int) from by omega]
      exact this
    · rw[Aht u]at h0
      exact absurd h0 u
structure ShipR (t:TreeC)(s:Sh):Prop where
  q:Bb t=true
  ck:CE t s.c=0
  p1:1<=s.m.1
  p2:s.m.1<=64
  ph:∀i:Nat,(i:Int)<s.m.1->(BX t i s.c).2=0 /\ ¬(BX t i s.c).1=[]/\CE t (BX t i s.c).1=0/\Spr 11000 (BX t i s.c).1
theorem XW (N:right p=true)(z:Uo p=false):Spr 9999 p:=by
  obtain⟨U,E,w,h,e,_,_,_,u,_⟩:=Ahf N
  unfold Uo at z
  rw[e]at z
  simp only[Bool.or_eq_false_iff,decide_eq_false_iff_not]at z
  intro c d Q J
  have Y:=u c Q
  have W:=u d J
  omega
theorem Fe (Y:Ew t){s:Sh}(h:Cw t s=true):ShipR t s:=by
  unfold Cw at h
  simp only[Ahs,Aia,AhC]at h
  obtain⟨⟨h1,Z⟩,h3,u,E⟩:=h
  unfold YM at u E
  simp only[Ahs,AhC]at u E
  obtain⟨u,N⟩:=u
  unfold OI at u E N
  have z:CE t s.c=0:=by
    refine Aiv fun U=>?_
    rw[Aht U]at u
    cases u
  rw[Ahv z]at u E N
  have W:1<=s.m.1/\s.m.1<=64:=by
    refine Aiv fun U=>?_
    rw[Aht U]at u
    cases u
  rw[Ahv W]at u E N
  have Q:=(Ca z).1
  obtain⟨j,k1,k2,_,k4⟩:=Nf Q s.c s.m.1.toNat 1 s.c s.m 0 (by
    generalize HM t s.c s.m.1.toNat 1 s.c=r at *
    obtain⟨a,b,c⟩:=r
    dsimp only at *
    rw[u,E,N])
  refine⟨Q,z,W.1,W.2,fun i hi=>?_⟩
  have J:=k4 i (by omega)
  refine⟨J.1,J.2,ZW Y i s.c z J.1,?_⟩
  have:=UL Y Q i s.c 9999 z (XW Z h3) J.1
  intro c d z hd
  have:=this c d z hd
  omega
def shF (p:List Ce)(dx dy:Int):List Ce×Int:=if (-2097152<=dx/\dx<=2097152)/\(-2097152<=dy/\dy<=2097152) then if (p.all fun c=>placed (c.x+dx) (c.y+dy))=true then (p.map (mvC (-dx) (-dy)),0) else ([],5) else ([],5)
def tnS (k:Nat)(p:List Ce):List Ce:=AT (p.map (tnC k))
theorem Ut (h:p.Pairwise fun a b=>Bd a b=true):Sn k p (tnS k p):=⟨Bq _,Dc (GR k (Fg h))⟩
theorem PW (h:p.Pairwise fun a b=>Bd a b=true)(u:Sn k p q):q=tnS k p:=KQ (Ut h).2 u.2 (u.1.trans (Ut h).1.symm)
theorem AfW (h:Spr w p)(J:q.Perm (p.map (tnC k))):Spr w q:=fun c d U Q=>by
  obtain⟨E,u,rfl⟩:=AhP.1 (J.mem_iff.1 U)
  obtain⟨N,z,rfl⟩:=AhP.1 (J.mem_iff.1 Q)
  have Y:=h E N u z
  have W:=h N E z u
  unfold tnC CF
  split <;> dsimp only <;> omega
theorem AfX {a b:Int}(h:Spr w p):Spr w (p.map (mvC a b)):=fun c d Q N=>by
  obtain⟨E,u,rfl⟩:=AhP.1 Q
  obtain⟨J,z,rfl⟩:=AhP.1 N
  have U:=h E J u z
  unfold mvC
  dsimp only
  omega
theorem JY (z:right p=true)(h:Spr 11000 p):right (BG p)=true:=by
  obtain⟨N,Q,E⟩:=Ay z
  refine Gi (Adt N) (fun c u=>?_) (by unfold BG;rw[AhD];exact E)
  refine UD (p:=p) (fun c d u J=>?_) (fun c u=>?_) c u
  · have:=h c d u J
    omega
  · exact(AW z u).2.2
theorem QM:BG p=[]↔p=[]:=by unfold BG;simp
noncomputable def Sx (t:TreeC)(s:Sh)(n k:Nat):List Ce:=BG (tnS k (BG (BX t n s.c).1))
theorem Qe {s:Sh}(h:ShipR t s){n:Nat}(Q:(n:Int)<s.m.1)(k:Nat):right (BG (BX t n s.c).1)=true/\right (tnS k (BG (BX t n s.c).1))=true/\right (Sx t s n k)=true /\ ¬Sx t s n k=[]:=by
  obtain⟨Z,U,W,E⟩:=h.ph n Q
  have N:=(Ca W).2.1
  have z:=JY N E
  have u:=Ut (k:=k) (Ay z).1
  have k3:=JM z u
  have k4:Spr 11000 (tnS k (BG (BX t n s.c).1)):=AfW (AfX E) u.1
  refine⟨z,k3,JY k3 k4,fun e=>U ?_⟩
  have Y:=QM.1 e
  have J:=u.1.length_eq
  rw[Y,AhD]at J
  exact QM.1 (AhT J.symm)
structure St5 where
  i:Int
  n:Int
  k:Int
  x:Int
  y:Int
noncomputable def phF (t:TreeC)(s:Sh)(n:Int):List Ce×Int:=if Bb t=true then if (0<=n/\n<=10000)/\Cw t s=true then (BG (BX t (n.toNat%s.m.1.toNat) s.c).1,0) else ([],2) else ([],11)
noncomputable def plF (t:TreeC)(l:List Sh)(x:St5):List Ce×Int:=if Bb t=true then match (if 0<=x.i then l[x.i.toNat]? else none) with
    | some s=>if (0<=x.k/\x.k<=7)/\((0<=x.n/\x.n<=10000)/\Cw t s=true) then shF (Sx t s (x.n.toNat%s.m.1.toNat) x.k.toNat) x.x x.y else ([],2)
    | none=>([],13)
  else ([],11)
variable {dx dy:Int}
theorem MH (E:right p=true):right (shF p dx dy).1=true/\((shF p dx dy).2=0->(shF p dx dy).1=p.map (mvC (-dx) (-dy))):=by
  obtain⟨Q,Z,J⟩:=Ay E
  unfold shF
  split
  · split
    · rename_i N
      refine⟨Gi ?_ (fun c U=>?_) (by rw[AhD];exact J),fun _=>rfl⟩
      · exact List.Pairwise.map _ (fun a b u=>by rw[VE];exact u) Q
      · obtain⟨d,z,rfl⟩:=AhP.1 U
        have W:=AhE.1 N d z
        have Y:=AW E z
        unfold CC mvC placed at *
        simp only[Ahs,AhC]at *
        omega
    · exact⟨rfl,fun h=>by cases h⟩
  · exact⟨rfl,fun h=>by cases h⟩
theorem pl_ok (J:Ew t){l:List Sh}{x:St5}:right (plF t l x).1=true/\((plF t l x).2=0 -> ¬(plF t l x).1=[]):=by
  unfold plF
  split
  · split
    · rename_i s _
      split
      · rename_i h
        have z:=Fe J h.2.2
        have u:((x.n.toNat%s.m.1.toNat:Nat):Int)<s.m.1:=by
          have:=z.p1
          have:=Nat.mod_lt x.n.toNat (show 0<s.m.1.toNat from by omega)
          omega
        obtain⟨_,_,k3,k4⟩:=Qe z u x.k.toNat
        refine⟨(MH k3).1,fun E=>?_⟩
        rw[(MH k3).2 E]
        simpa using k4
      · exact⟨rfl,fun h=>by cases h⟩
    · exact⟨rfl,fun h=>by cases h⟩
  · exact⟨rfl,fun h=>by cases h⟩
open Go.Proofs
theorem UW {f:List Ce}{o:V}{H:Hp}(h:SA f o H):view 20 H o=some (zP f):=by
 rcases h with ⟨rfl,rfl,rfl⟩|⟨u,rfl,rfl⟩
 ·rfl
 ·have:=Ol (r:=0) (b:=0) (X:=[]) (A:=[]) (q:=f) (n:=f.length) rfl (Ahy _) 18
  rw[this]
  unfold zP
  rw[Aht u]
theorem QJ (l:List Ce):Bn (Ae l)=AE l:=by
 unfold Bn Ae AE
 rw[Aiy]
 rfl
theorem AgZ (p:List Ce)(z:p≠[])(hl:p.length<=1000000):Gives G 89 [.m (.sl (Ae p))] [] (.sl 0 p.length 3 0 p.length false) [Row.cs 56 3 (AE p) 0 false]:=by
 refine .of_ret (Bh mono rfl rfl rfl rfl rfl ?_)
 have u:FF 4 (.m (.sl (Ae p)))=some false:=rfl
 have N:∀B,An (fun _ _ _=>none) ⟨B,[]⟩ (.app 56 3 24) [.ls [],.m (.sl (Ae p))]=some (.sl 0 p.length 3 0 p.length false,⟨B,[Row.cs 56 3 (AE p) 0 false]⟩):=fun B=>by
  obtain⟨c,r,rfl⟩:=AiV z
  show Bs ⟨B,[]⟩ 56 3 24 (Bn (Ae (c::r)))=_
  rw[QJ]
  have J:Nat.ble ((AE (c::r)).length*24) 140737488355328=true:=by rw[Bg];exact AhA (by rw[Dq];omega)
  have E:((AE (c::r)).all fun e=>Nat.beq e.length 3&&e.all BL)=true:=by
   unfold AE
   rw[List.all_map,AhE]
   exact fun _ _=>rfl
  unfold Bs
  rw[J,E,Dq]
  rfl
 simp[u,-DB,N]
theorem Ze:Gives G 89 [.m (.sl (Ae []))] [] (.ls []) []:=by
 refine .of_ret (Bh mono rfl rfl rfl rfl rfl ?_)
 have u:FF 4 (.m (.sl (Ae [])))=some false:=rfl
 have z:∀B,An (fun _ _ _=>none) ⟨B,[]⟩ (.app 56 3 24) [.ls [],.m (.sl (Ae []))]=some (.ls [],⟨B,[]⟩):=fun B=>rfl
 simp[u,-DB,z]
theorem Zd:Gives G 89 [.m (.nl 4)] [] (.m (.nl 4)) []:=by
 refine .of_ret (Bh mono rfl rfl rfl rfl rfl ?_)
 have u:FF 4 (.m (.nl 4))=some true:=rfl
 simp[u]
theorem Qf (u:-2097152<=dx/\dx<=2097152)(z:-2097152<=dy/\dy<=2097152):shF p dx dy=if (p.all fun c=>placed (c.x+dx) (c.y+dy))=true then (p.map (mvC (-dx) (-dy)),0) else ([],5):=by
 unfold shF
 rw[Ahv ⟨u,z⟩]
theorem MI (h:¬((-2097152<=dx/\dx<=2097152)/\(-2097152<=dy/\dy<=2097152))):shF p dx dy=([],5):=by
 unfold shF
 rw[Aht h]
variable {c:Ce}
theorem UI (E:-2097152<=dx/\dx<=2097152)(u:-2097152<=dy/\dy<=2097152)(J:c∈p)(h:placed (c.x+dx) (c.y+dy)=false):shF p dx dy=([],5):=by
 rw[Qf E u,Aht]
 rw[AhE]
 intro z
 rw[z c J]at h
 cases h
variable {v:I}
theorem Yh (hv:IsSl v (Ae p))(hp:right p=true)(dx dy:Int):∃x,IsSl x (Ae (shF p dx dy).1) /\ ∀H,Gives G 50 [.m v,J0 dx,J0 dy] H (.tu [.m x,J0 (shF p dx dy).2]) H:=by
 have hl:=(Ay hp).2.2
 have hr:=hv.rules
 simp only[J3]at hr
 have g1:=fun H=>En hv (by omega) H
 rw[hp]at g1
 by_cases hd:(-2097152<=dx/\dx<=2097152)/\(-2097152<=dy/\dy<=2097152)
 rotate_left
 ·rw[MI hd]
  refine⟨.nl 4,AS,fun H=>Af rfl rfl rfl rfl rfl ?_⟩
  by_cases E:2097152<max dx dy
  ·simp (maxSteps:=2000000) (disch:=omega) [cl (g1 _),E]
  ·have h2:min dx dy < -2097152:=by omega
   simp (maxSteps:=2000000) (disch:=omega) [cl (g1 _),E,h2]
 obtain⟨hx,hy⟩:=hd
 have E:¬2097152<max dx dy:=by omega
 have h2:¬min dx dy < -2097152:=by omega
 by_cases Y:p=[]
 ·subst Y
  rw[Qf hx hy]
  show ∃x,IsSl x (Ae []) /\ ∀H,Gives G 50 [.m v,J0 dx,J0 dy] H (.tu [.m x,J0 0]) H
  rcases hv with rfl|⟨rfl,_⟩
  ·refine⟨.sl [],AX _,fun H=>Af rfl rfl rfl rfl rfl ?_⟩
   simp (maxSteps:=2000000) (disch:=omega) [cl (g1 _),E,h2,cl Ze,c50_B0]
  ·refine⟨.nl 4,AS,fun H=>Af rfl rfl rfl rfl rfl ?_⟩
   simp (maxSteps:=2000000) (disch:=omega) [cl (g1 _),E,h2,cl Zd,c50_B0]
 have hve:v=.sl (Ae p):=by
  rcases hv with rfl|⟨rfl,h0⟩
  ·rfl
  ·exact absurd (by simpa[Ae]using h0) Y
 subst hve
 have gc:=AgZ p Y (by omega)
 have key:∃x H',Gives G 50 [.m (.sl (Ae p)),J0 dx,J0 dy] [] x H'/\(H'=[] /\ ∃z,IsSl z (Ae (shF p dx dy).1)/\x=.tu [.m z,J0 (shF p dx dy).2]):=by
  refine AJ ?_
  refine Cs rfl rfl rfl rfl rfl ?_
  generalize hQ:(fun(x:V) (H':Hp)=>H'=[] /\ ∃z,IsSl z (Ae (shF p dx dy).1)/\x=.tu [.m z,J0 (shF p dx dy).2])=Q
  have qk:shF p dx dy=(p.map (mvC (-dx) (-dy)),0)->Q (.tu [.m (.sl (Ae (p.map (mvC (-dx) (-dy))))),J0 0]) []:=fun h=>by rw[<-hQ];exact⟨rfl,_,by rw[h];exact AX _,by rw[h]⟩
  have qe:shF p dx dy=([],5)->Q (.tu [.m (.nl 4),J0 5]) []:=fun h=>by rw[<-hQ];exact⟨rfl,_,by rw[h];exact AS,by rw[h]⟩
  clear hQ
  simp (maxSteps:=2000000) (disch:=omega) [cl (g1 _),E,h2,cl gc]
  refine(?key:∀(j b:Nat) (g:List Ce) (B:LE),j<=p.length->b<=p.length->g=(p.take j).map (mvC (-dx) (-dy))++p.drop j->((p.take j).all fun c=>placed (c.x+dx) (c.y+dy))=true->Run G c50_B0 (S50_0 (J0 dx) (J0 dy) (.sl 0 p.length 3 0 p.length false) (J0 (p.length:Int)) (J0 (j:Int)) B [Row.cs 56 3 (AE g) b false]) _) 0 0 p _ (Ahy _) (Ahy _) (by simp) rfl
  refine Bj (fun j:Nat=>p.length-j) fun j ih b g B hj Z hg u=>?_
  have U:g.length=p.length:=by rw[hg,AhF,AhD,AhH,Aie];omega
  unfold c50_B0
  cases hpj:p[j]? with
  | some c =>
   have hlt:=(Am hpj).1
   have J:(j:Int)<p.length:=by omega
   have wj:=J1 j (by omega)
   have hbc:=AW hp (Ahw hpj)
   have w1:=J2 (c.x+dx) (by omega)
   have w2:=J2 (c.y+dy) (by omega)
   have htl:((p.take j).map (mvC (-dx) (-dy))).length=j:=by rw[AhD,AhH];omega
   have hgc:g[j]? = some c:=by
    rw[hg,AhZ (by omega),htl,Nat.sub_self,(Am hpj).2]
    rfl
   have N:(g.set j ⟨c.x+dx,c.y,c.s⟩)[j]? = some ⟨c.x+dx,c.y,c.s⟩:=by
    rw[AiW (by omega)]
   have hgc2:(g.set j ⟨c.x+dx,c.y+dy,c.s⟩)[j]? = some ⟨c.x+dx,c.y+dy,c.s⟩:=by
    rw[AiW (by omega)]
   have rx:=r3_x hgc
   have ry:=r3_y N
   have wx:=w3_x hgc (c.x+dx)
   have wy:=w3_y N (c.y+dy)
   rw[List.set_set]at wy
   have e:g.set j ⟨c.x+dx,c.y+dy,c.s⟩=(p.take (j+1)).map (mvC (-dx) (-dy))++p.drop (j+1):=by
    rw[hg,AiP _ _ (by omega),htl,Nat.sub_self,(Am hpj).2,As hpj]
    simp[mvC]
   have rr:nth (AE (g.set j ⟨c.x+dx,c.y+dy,c.s⟩)) j=some [J0 (c.x+dx),J0 (c.y+dy),J0 c.s]:=CO hgc2
   have rr3:CZ 3 (AE (g.set j ⟨c.x+dx,c.y+dy,c.s⟩)) j 0 3=some [J0 (c.x+dx),J0 (c.y+dy),J0 c.s]:=by
    rw[KN,rr]
    rfl
   have ga:=fun H=>AdE ⟨c.x+dx,c.y+dy,c.s⟩ H
   have gp:=fun H=>HF (c.x+dx) (c.y+dy) H
   dsimp only at ry wy ga
   have W:placed (c.x+dx) (c.y+dy)=true->((p.take (j+1)).all fun c=>placed (c.x+dx) (c.y+dy))=true:=fun h=>by
    rw[As hpj,List.all_append,u]
    simp[h]
   have k2:=fun h B'=>ih (j+1) (by omega) p.length _ B' (by omega) (Ahu _) e (W h)
   cases hpl:placed (c.x+dx) (c.y+dy) with
   | true =>
    have k3:=k2 hpl
    rw[hpl]at gp
    simp (maxSteps:=2000000) (disch:=omega) [Ab,J,wj,w1,w2,rx,ry,wx,wy,rr3,Z,U,cl (ga _),cl (gp _),-Int.natCast_add]
    exact k3 _
   | false =>
    have k3:=qe (UI hx hy (Ahw hpj) hpl)
    rw[hpl]at gp
    simp (maxSteps:=2000000) (disch:=omega) [Ab,J,w1,w2,rx,ry,wx,wy,rr3,Z,U,cl (ga _),cl (gp _)]
    exact k3
  | none =>
   have:j=p.length:=by have:=Ahx.1 hpj;omega
   subst this
   rw[AhS]at hg u
   rw[Aik,Ail]at hg
   have k2:=qk (by rw[Qf hx hy,Ahv u])
   rw[<-hg]at k2
   have hvw:=Ol (r:=0) (b:=b) (X:=[]) (A:=[]) (q:=g) (n:=p.length) U Z 18
   simp (maxSteps:=2000000) (disch:=omega) [hvw]
   exact k2
 obtain⟨x,H',g,rfl,z,E,rfl⟩:=key
 exact⟨z,E,fun H=>AQ (H:=H) (is:=[.sl (Ae p),J4 dx,J4 dy]) rfl rfl g rfl (.inl ⟨rfl,rfl⟩)⟩
theorem Yg (hv:IsSl v (Ae p))(hp:right p=true)(dx dy:Int)(H:Hp):Gives G 56 [.m v,J0 dx,J0 dy] H (.tu [.m (zP (shF p dx dy).1),J0 (shF p dx dy).2]) H:=by
 have hl:=(Ay hp).2.2
 have hr:=hv.rules
 simp only[J3]at hr
 have g1:=fun H=>IV hv (by omega) H
 rw[hp]at g1
 by_cases hd:(-2097152<=dx/\dx<=2097152)/\(-2097152<=dy/\dy<=2097152)
 rotate_left
 ·rw[MI hd]
  refine Af rfl rfl rfl rfl rfl ?_
  by_cases Z:dx < -2097152
  ·simp (maxSteps:=2000000) (disch:=omega) [cl (g1 _),Z,zP]
  ·by_cases h2:2097152<dx
   ·simp (maxSteps:=2000000) (disch:=omega) [cl (g1 _),Z,h2,zP]
   ·by_cases h3:dy < -2097152
    ·simp (maxSteps:=2000000) (disch:=omega) [cl (g1 _),Z,h2,h3,zP]
    ·have h4:2097152<dy:=by omega
     simp (maxSteps:=2000000) (disch:=omega) [cl (g1 _),Z,h2,h3,h4,zP]
 obtain⟨Q,J⟩:=hd
 refine Af rfl rfl rfl rfl rfl ?_
 simp (maxSteps:=2000000) (disch:=omega) [cl (g1 _),show ¬dx < -2097152 from by omega,show ¬2097152<dx from by omega,show ¬dy < -2097152 from by omega,show ¬2097152<dy from by omega]
 refine(?key:∀(i:Nat) (f:List Ce) (o:V) (B:LE) (H1:Hp),i<=p.length->f=(p.take i).map (mvC (-dx) (-dy))->((p.take i).all fun c=>placed (c.x+dx) (c.y+dy))=true->SA f o H1->Run G c56_B0 (S56_0 (.m v) (J0 dx) (J0 dy) o (J0 (i:Int)) B H1) _) 0 [] _ _ _ (Ahy _) rfl rfl (.inl ⟨rfl,rfl,rfl⟩)
 refine Bj (fun i:Nat=>p.length-i) fun i ih f o B H1 hi hf u ho=>?_
 unfold c56_B0
 have hfl:f.length=i:=by rw[hf,AhD,AhH];omega
 obtain⟨hvw,N⟩:=Eb ho
 cases hx:p[i]? with
 | some c =>
  have hlt:=(Am hx).1
  have z:(i:Int)<p.length:=by omega
  have hn:=Ap hx
  have wi:=J2 ((i:Int)+1) (by omega)
  have W:p.take (i+1)=p.take i++[c]:=As hx
  have hbd:=AW hp (Ahw hx)
  have wx:=J2 (c.x+dx) (by omega)
  have wy:=J2 (c.y+dy) (by omega)
  have Y:=fun H=>HG (c.x+dx) (c.y+dy) H
  obtain⟨o1,H2,ha,hn1,ho1⟩:=Cb ho (by omega) (mvC (-dx) (-dy) c)
  have e1:(mvC (-dx) (-dy) c).x=c.x+dx:=by unfold mvC;dsimp only;omega
  have e2:(mvC (-dx) (-dy) c).y=c.y+dy:=by unfold mvC;dsimp only;omega
  have e3:(mvC (-dx) (-dy) c).s=c.s:=rfl
  simp only[e1,e2,e3]at ha
  have he:f++[mvC (-dx) (-dy) c]=(p.take (i+1)).map (mvC (-dx) (-dy)):=by rw[W,hf];simp
  cases hpl:placed (c.x+dx) (c.y+dy) with
  | true =>
   rw[hpl]at Y
   have E:((p.take (i+1)).all fun c=>placed (c.x+dx) (c.y+dy))=true:=by
    rw[W,List.all_append,u]
    simp[hpl]
   have k2:=fun B'=>ih (i+1) (by omega) _ _ B' _ (by omega) he E ho1
   generalize shF p dx dy=res at *
   simp (maxSteps:=2000000) (disch:=omega) [hr,z,hn,wi,wx,wy,cl (Y _),ha,Al hn1]
   exact k2 _
  | false =>
   rw[hpl]at Y
   rw[UI Q J (Ahw hx) hpl]
   simp (maxSteps:=2000000) (disch:=omega) [hr,z,hn,wx,wy,cl (Y _),zP]
 | none =>
  have:i=p.length:=by have:=Ahx.1 hx;omega
  subst this
  rw[AhS]at hf u
  rw[Qf Q J,Ahv u,<-hf]
  have U:=UW ho
  generalize zP f=zz at *
  simp (maxSteps:=2000000) (disch:=omega) [hr,U,Al N]
  exact N
theorem VK (hv:IsSl v (Ae p))(hp:right p=true)(H:Hp):Gives G 98 [.m v] H (.m (if p=[] then v else zP (BG p))) H:=by
 have hl:=(Ay hp).2.2
 have N:=hv.rules
 simp only[J3]at N
 have g1:=fun H=>IV hv (by omega) H
 rw[hp]at g1
 refine Af rfl rfl rfl rfl rfl ?_
 cases hpe:p with
 | nil =>
  have hl0:p.length=0:=by rw[hpe];rfl
  rw[Ahv rfl]
  rw[<-hpe]at *
  simp (maxSteps:=2000000) (disch:=omega) [cl (g1 _),N,hl0]
 | cons c r =>
 have hne:¬p=[]:=by rw[hpe];simp
 rw[<-hpe,Aht hne]
 have h0:p[0]? = some c:=by rw[hpe];rfl
 have hn0:=Ap h0
 have hp0:0<p.length:=(Am h0).1
 have Q:¬p.length=0:=by omega
 have hp1':¬(p.length:Int)=0:=by omega
 have hlx:Hj p=mnF c.x (p.map Ce.x):=by rw[hpe];rfl
 have hly:GZ p=mnF c.y (p.map Ce.y):=by rw[hpe];rfl
 have hbx:=QC hp
 have hby:=QB hp
 simp (maxSteps:=2000000) (disch:=omega) [cl (g1 _),N,Q,hn0]
 refine(?key:∀(i:Nat) (x y:Int) (B:LE),i<=p.length->x=mnF c.x ((p.take i).map Ce.x)->y=mnF c.y ((p.take i).map Ce.y)->Run G c98_B0 (S98_0 (.m v) (J0 x) (J0 y) (J0 (i:Int)) B []) _) 0 c.x c.y _ (Ahy _) rfl rfl
 refine Bj (fun i:Nat=>p.length-i) fun i ih x y B hi E J=>?_
 unfold c98_B0
 cases hx:p[i]? with
 | some a =>
  have hlt:=(Am hx).1
  have u:(i:Int)<p.length:=by omega
  have hn:=Ap hx
  have wi:=J1 i (by omega)
  have Y:=HJ c.x ((p.take i).map Ce.x) a.x
  have U:=HJ c.y ((p.take i).map Ce.y) a.y
  rw[<-Dd Ce.x hx,<-E]at Y
  rw[<-Dd Ce.y hx,<-J]at U
  have k2:=fun B'=>ih (i+1) (by omega) (min x a.x) (min y a.y) B' (by omega) Y.symm U.symm
  simp (maxSteps:=2000000) (disch:=omega) [N,u,hn,wi,-Int.natCast_add]
  exact k2 _
 | none =>
  have:i=p.length:=by have:=Ahx.1 hx;omega
  subst this
  clear ih
  rw[AhS]at E J
  rw[<-hlx]at E
  rw[<-hly]at J
  subst E J
  simp (maxSteps:=2000000) (disch:=omega) [N]
  refine(?key2:∀(i:Nat) (f:List Ce) (o:V) (B:LE) (H1:Hp),i<=p.length->f=(p.take i).map (mvC (Hj p) (GZ p))->SA f o H1->Run G c98_B1 (S98_1 (.m v) (J0 (Hj p)) (J0 (GZ p)) o (J0 (i:Int)) B H1) _) 0 [] _ _ _ (Ahy _) rfl (.inl ⟨rfl,rfl,rfl⟩)
  clear hx hi B
  refine Bj (fun i:Nat=>p.length-i) fun i ih f o B H1 hi hf ho=>?_
  unfold c98_B1
  have hfl:f.length=i:=by rw[hf,AhD,AhH];omega
  obtain⟨Z,W⟩:=Eb ho
  cases hx:p[i]? with
  | some a =>
   have hlt:=(Am hx).1
   have u:(i:Int)<p.length:=by omega
   have hn:=Ap hx
   have wi:=J1 i (by omega)
   have hba:=AW hp (Ahw hx)
   have w1:=J2 (a.x-Hj p) (by omega)
   have w2:=J2 (a.y-GZ p) (by omega)
   obtain⟨o1,H2,ha,hn1,ho1⟩:=Cb ho (by omega) (mvC (Hj p) (GZ p) a)
   have e:f++[mvC (Hj p) (GZ p) a]=(p.take (i+1)).map (mvC (Hj p) (GZ p)):=by rw[As hx,hf];simp
   have k2:=fun B'=>ih (i+1) (by omega) _ o1 B' H2 (by omega) e ho1
   simp only[mvC]at ha
   generalize Hj p=lx at *
   generalize GZ p=ly at *
   simp (maxSteps:=2000000) (disch:=omega) [N,u,hn,wi,w1,w2,ha,Al hn1,-Int.natCast_add]
   exact k2 _
  | none =>
   have:i=p.length:=by have:=Ahx.1 hx;omega
   subst this
   rw[AhS]at hf
   have e:f=BG p:=hf
   rw[e]at Z
   generalize zP (BG p)=z at *
   simp (maxSteps:=2000000) (disch:=omega) [N,Z,Al W]
   exact W
theorem JR (u:IsSl v (Ae p))(hl:p.length<=5000)(J:∀c,c∈p->CC c=true)(Q:p.Pairwise apart)(H:Hp):Gives G 139 [.m v] H (.tu [.m (zP (AT p)),J0 0]) H:=by
 have E:=u.rules
 simp only[J3]at E
 have N:=fun H=>MK u hl J Q H
 generalize zP (AT p)=z at *
 refine Af rfl rfl rfl rfl rfl ?_
 simp (maxSteps:=2000000) (disch:=omega) [E,show ¬(5000:Int)<p.length from by omega,show ¬5000<p.length from by omega,cl (N _)]
theorem Acp (hv:IsSl v (Ae p))(J:right p=true)(k:Int)(hk:-9223372036854775808<=k/\k<=9223372036854775807)(H:Hp):Gives G 97 [J0 k,.m v] H (.tu [.m (zP (tnS (CS k) p)),J0 0]) H:=by
 have hl:p.length<=5000:=(Ay J).2.2
 have U:=hv.rules
 simp only[J3]at U
 have g1:=fun H=>IV hv (by omega) H
 rw[J]at g1
 have a1:∀c,c∈p.map (tnC (CS k))->CC c=true:=fun c hc=>by
  have hq:=JM J (Ut (k:=CS k) (Ay J).1)
  exact(Ay hq).2.1 c ((Ut (k:=CS k) (Ay J).1).1.mem_iff.2 hc)
 have Y:(p.map (tnC (CS k))).Pairwise apart:=GR _ (Fg (Ay J).1)
 refine Af rfl rfl rfl rfl rfl ?_
 simp (maxSteps:=2000000) (disch:=omega) [cl (g1 _)]
 refine(?key:∀(i:Nat) (f:List Ce) (o:V) (B:LE) (z:Hp),i<=p.length->f=(p.take i).map (tnC (CS k))->OutI f o z->Run G c97_B0 (S97_0 (J0 k) (.m v) o (J0 (i:Int)) B z) _) 0 [] _ _ _ (Ahy _) rfl (.inl ⟨rfl,rfl,rfl⟩)
 refine Bj (fun i:Nat=>p.length-i) fun i ih f o B z hi Q ho=>?_
 unfold c97_B0
 have hfl:f.length=i:=by rw[Q,AhD,AhH];omega
 cases hx:p[i]? with
 | some c =>
  have hlt:=(Am hx).1
  have N:(i:Int)<p.length:=by omega
  have hn:=Ap hx
  have wi:=J1 i (by omega)
  have htk:p.take (i+1)=p.take i++[c]:=As hx
  have hbd:=AW J (Ahw hx)
  have ga:=fun H=>AdG k c.x c.y hk (by omega) (by omega) H
  have he:f++[tnC (CS k) c]=(p.take (i+1)).map (tnC (CS k)):=by rw[htk,Q];simp
  have hnf:=Adc ho
  obtain⟨o1,H2,ha,u,a2⟩:=Va ho (by omega) (.cs 64 2 [[J0 (tnC (CS k) c).x,J0 (tnC (CS k) c).y]] 1 false) (tnC (CS k) c)
  have e1:(tnC (CS k) c).x=(CF (CS k) c.x c.y).1:=rfl
  have e2:(tnC (CS k) c).y=(CF (CS k) c.x c.y).2:=rfl
  have e3:(tnC (CS k) c).s=c.s:=rfl
  have k2:=fun B'=>ih (i+1) (by omega) _ o1 B' H2 (by omega) he a2
  simp only[e1,e2,e3]at ha
  generalize (CF (CS k) c.x c.y).1=tx at *
  generalize (CF (CS k) c.x c.y).2=ty at *
  have hse:=fun y=>UJ z (Row.cs 64 2 [[J0 0,J0 0]] 0 false) y
  have E:=fun(y:Row)=>CQ z [y] 0
  simp only[Nat.add_zero]at E
  have hn0:∀y:Row,nth [y] 0=some y:=fun _=>rfl
  have hw:BQ 2 [[V.m (J4 0),V.m (J4 0)]] 0 0 [V.m (J4 tx),V.m (J4 ty)]=some [[V.m (J4 tx),V.m (J4 ty)]]:=rfl
  have W:CZ 2 [[V.m (J4 tx),V.m (J4 ty)]] 0 0 1=some [V.m (J4 tx)]:=rfl
  have a0:CZ 2 [[V.m (J4 tx),V.m (J4 ty)]] 0 1 1=some [V.m (J4 ty)]:=rfl
  simp (maxSteps:=2000000) (disch:=omega) [Ab,U,N,hn,wi,cl (ga _),hse,E,hn0,hw,W,a0,ha,Al u,-Int.natCast_add]
  exact k2 _
 | none =>
  have:i=p.length:=by have:=Ahx.1 hx;omega
  subst this
  clear ih hx hi
  rw[AhS]at Q
  rcases ho with ⟨h1,rfl,rfl⟩|⟨E,rfl,u⟩
  ·have:p=[]:=by cases p with|nil=>rfl|cons a b=>simp[h1]at Q
   subst this
   have gf:=fun H=>JR (p:=[]) AS (by simp) (by simp) List.Pairwise.nil H
   simp (maxSteps:=2000000) (disch:=omega) [U,cl (gf _)]
   rfl
  ·subst Q
   have gf:=JR (AX (Ae (p.map (tnC (CS k))))) (by rw[AhD];exact hl) a1 Y []
   have Z:AT (p.map (tnC (CS k)))≠[]:=fun h=>by
    have:=BS (p.map (tnC (CS k)))
    rw[h]at this
    exact E (AhT this.symm)
   have hzg:FG (.tu [.m (zP (AT (p.map (tnC (CS k))))),J0 0])=false:=by
    unfold zP
    rw[Aht Z]
    rfl
   have hvv:=Up u (Ahy _) 18
   unfold tnS
   generalize p.map (tnC (CS k))=f at *
   have hvs:Ah (view 20 z) [V.sl 1 f.length 3 0 f.length false]=some [.sl (Ae f)]:=by
    simp only[Ah,hvv,Ahz]
   have hfz:AY ([V.sl 1 f.length 3 0 f.length false].flatMap Dv) z=some (z.set 1 (.cs 56 3 (AE f) 0 true)):=by
    show Option.bind (nth z 1) _=_
    rw[u]
    show Option.bind (gd ((AE f).all fun e=>e.all isM) (some (Row.cs 56 3 (AE f) 0 true))) _=_
    rw[IU]
    show Option.bind (AN z 1 _) _=_
    rw[AB _ _ _ (AO u)]
    rfl
   have gF:=BV (is:=[.sl (Ae f)]) rfl rfl gf hvs (by simp[Dv,Fs]) hzg rfl hfz
   generalize zP (AT f)=zz at *
   simp (maxSteps:=2000000) (disch:=omega) [U,cl gF]
def Wu (p:List Ce)(c:Ce):Bool:=p.any fun d=>decide (d.x=c.x)&&decide (d.y=c.y)
theorem MS (d:Ce)(s:List Ce)(c:Ce):Wu (d::s) c=((decide (d.x=c.x)&&decide (d.y=c.y))||Wu s c):=rfl
theorem Vm (h:∀d,d∈p->apart c d):Wu p c=false:=by
 unfold Wu
 rw[List.any_eq_false]
 intro d z
 have:=h d z
 unfold apart at this
 simp only[Ahs,AhC]
 exact fun u=>this ⟨u.1.symm,u.2.symm⟩
variable {s:List Ce} {d:Ce}
theorem Vl (h:apart c d):Wu (d::s) c=Wu s c:=by
 rw[MS]
 have:(decide (d.x=c.x)&&decide (d.y=c.y))=false:=by
  rw[Bool.eq_false_iff]
  simp only[ne_eq,Ahs,AhC]
  exact fun u=>h ⟨u.1.symm,u.2.symm⟩
 rw[this,Bool.false_or]
theorem FK {a b:Ce}(h:Bd a b=true):apart a b:=by
 unfold Bd at h
 unfold apart
 simp at h
 omega
def pkF (a b:List Ce)(has:Bool):List Ce:=a.filter fun c=>Wu b c==has
variable {r b:List Ce}
theorem pk_a (u:Bool)(h:∀d,d∈b->Bd c d=true):pkF (c::r) b u=(if u=true then [] else [c])++pkF r b u:=by
 have e:=Vm (p:=b) (c:=c) fun d z=>FK (h d z)
 unfold pkF
 rw[List.filter_cons,e]
 cases u <;> rfl
variable {a:List Ce}
theorem pk_b (u:Bool)(h:∀c,c∈a->Bd d c=true):pkF a (d::s) u=pkF a s u:=by
 unfold pkF
 refine List.filter_congr fun c z=>?_
 rw[Vl (Fk (FK (h c z)))]
theorem pk_ab (u:Bool)(E:c.x=d.x)(z:c.y=d.y)(h:∀e,e∈r->Bd c e=true):pkF (c::r) (d::s) u=(if u=true then [c] else [])++pkF r s u:=by
 have e:Wu (d::s) c=true:=by rw[MS,E,z];simp
 have J:pkF r (d::s) u=pkF r s u:=pk_b u fun e N=>by
  have:=h e N
  unfold Bd at *
  rw[<-E,<-z]
  exact this
 rw[<-J]
 unfold pkF
 rw[List.filter_cons,e]
 cases u <;> rfl
theorem AcX (b:List Ce)(u:Bool):pkF [] b u=[]:=rfl
theorem ZY:pkF a b true=[] ↔ ∀c,c∈a -> ∀d,d∈b->apart c d:=by
 unfold pkF
 rw[List.filter_eq_nil_iff]
 refine⟨fun h c z d u E=>?_,fun h c z=>?_⟩
 ·have J:=h c z
  have N:Wu b c=true:=by
   unfold Wu
   rw[List.any_eq_true]
   exact⟨d,u,by simp[E.1,E.2]⟩
  rw[N]at J
  exact J rfl
 ·rw[Vm fun d u=>h c z d u]
  simp
theorem Sl (p:List Ce):Ws 3 (Ae p)=true:=by
 cases p <;> rfl
theorem IL (h:IsSl v (Ae (c::r))):∃u,IsSl u (Ae r)/\Ar (.slc 3 true false false) [.m v,J0 1]=some (.m u):=by
 refine⟨subI v 1 (Ae (c::r)).length,?_,?_⟩
 ·have:=h.sub 1 (Ae (c::r)).length
  have e:((Ae (c::r)).drop 1).take ((Ae (c::r)).length-1)=Ae r:=by
   show (Ae r).take _=_
   rw[AhJ (by simp[Ae])]
  rw[e]at this
  exact this
 ·rw[h.slc (Sl _) rfl]
  have z:KH (Ae (c::r)).length true false false [J0 1]=some (1,(Ae (c::r)).length):=by
   rw[AbZ]
   have:bnd (Ae (c::r)).length (J0 1)=some 1:=by
    show gd (Nat.ble 1 (Ae (c::r)).length) (some 1)=_
    rw[Bg,AhA (by simp[Ae])]
    rfl
   rw[this]
   rfl
  rw[z]
  rfl
def Vis (f:Nat)(cap:List V)(x y:Ce)(a b:Bool):List V:=[.m (.ag x.i),.m (.ag y.i),.m (.b a),.m (.b b)]++cap
set_option maxHeartbeats 2000000 in
theorem Adp {f:Nat}{cap:List V}(hcap:Az (.fn f cap)=true){Inv:List Ce->List Ce->Hp->Prop} 
  (h1:∀c r b H (Q:V->Hp->Prop),Inv (c::r) b H->(∀d,d∈b->Bd c d=true)->(∀H',Inv r b H'->Q (.tu []) H')->Ret G f (Vis f cap c ⟨0,0,0⟩ true false) H Q)
  (h2:∀d s a H (Q:V->Hp->Prop),Inv a (d::s) H->(∀c,c∈a->Bd d c=true)->(∀H',Inv a s H'->Q (.tu []) H')->Ret G f (Vis f cap ⟨0,0,0⟩ d false true) H Q)
  (h3:∀c r d s H (Q:V->Hp->Prop),Inv (c::r) (d::s) H->c.x=d.x->c.y=d.y->(∀e,e∈r->Bd c e=true)->(∀e,e∈s->Bd d e=true)->(∀H',Inv r s H'->Q (.tu []) H')->Ret G f (Vis f cap c d true true) H Q)
  {v w:I} {a b:List Ce} (hv:IsSl v (Ae a)) (hw:IsSl w (Ae b)) (ha:a.Pairwise fun x y=>Bd x y=true) (hb:b.Pairwise fun x y=>Bd x y=true) (hla:a.length<=1000000) (hlb:b.length<=1000000) {H:Hp} (U:Inv a b H) {Q:V->Hp->Prop} (hQ:∀H',Inv [] [] H'->Q (.tu []) H'):Ret G 143 [.m v,.m w,.fn f cap] H Q:=by
 refine Bh mono rfl rfl rfl (by simp[hcap]) rfl ?_
 simp (maxSteps:=2000000) (disch:=omega) []
 refine(?key:∀(k:Nat) (a b:List Ce) (v w:I) (B:LE) (H:Hp),a.length+b.length=k->IsSl v (Ae a)->IsSl w (Ae b)->(a.Pairwise fun x y=>Bd x y=true)->(b.Pairwise fun x y=>Bd x y=true)->a.length<=1000000->b.length<=1000000->Inv a b H->Run G c143_B0 (S143_0 (.m v) (.m w) (.fn f cap) B H) _) _ a b v w _ H rfl hv hw ha hb hla hlb U
 clear U hlb hla hb ha hw hv a b v w H
 refine Bj (fun k:Nat=>k) fun k ih a b v w B H hk hv hw ha hb hla hlb U=>?_
 unfold c143_B0
 have N:=hv.rules
 have J:=hw.rules
 simp only[J3]at N
 simp only[J3]at J
 cases hae:a with
 | nil =>
  have la:a.length=0:=by rw[hae];rfl
  cases hbe:b with
  | nil =>
   have lb:b.length=0:=by rw[hbe];rfl
   have k2:=hQ H (by rw[hae,hbe]at U;exact U)
   simp (maxSteps:=2000000) (disch:=omega) [N,J,la,lb]
   exact k2
  | cons d s =>
   have hd:b[0]? = some d:=by rw[hbe];rfl
   have hn:=Ap hd
   have lb:b.length=s.length+1:=by rw[hbe];rfl
   rw[hbe]at hw hb U
   rw[hae]at U
   obtain⟨u,hu,ht⟩:=IL hw
   have Y:=(AhU.1 hb)
   have k2:=fun H' z B'=>ih s.length (by omega) [] s v u B' H' (by simp) (by rw[<-hae];exact hv) hu .nil Y.2 (by simp) (by omega) z
   simp (maxSteps:=2000000) (disch:=omega) [N,J,la,lb,hn,show ¬((s.length:Int)+1=0) from by omega,show (0:Int)<(s.length:Int)+1 from by omega]
   rw[Ao]
   refine h2 d s [] H _ U (fun c hc=>by cases hc) fun H' z=>?_
   simp (maxSteps:=2000000) (disch:=omega) [ht]
   exact k2 H' z _
 | cons c r =>
  have hc:a[0]? = some c:=by rw[hae];rfl
  have hn:=Ap hc
  have la:a.length=r.length+1:=by rw[hae];rfl
  rw[hae]at hv ha U
  obtain⟨u,hu,ht⟩:=IL hv
  have ha2:=(AhU.1 ha)
  cases hbe:b with
  | nil =>
   have lb:b.length=0:=by rw[hbe];rfl
   rw[hbe]at U
   have k2:=fun H' z B'=>ih r.length (by omega) r [] u w B' H' (by simp) hu (by rw[<-hbe];exact hw) ha2.2 .nil (by omega) (by simp) z
   simp (maxSteps:=2000000) (disch:=omega) [N,J,la,lb,hn,show ¬((r.length:Int)+1=0) from by omega,show (0:Int)<(r.length:Int)+1 from by omega]
   rw[Ao]
   refine h1 c r [] H _ U (fun c hc=>by cases hc) fun H' z=>?_
   simp (maxSteps:=2000000) (disch:=omega) [ht]
   exact k2 H' z _
  | cons d s =>
   have hd:b[0]? = some d:=by rw[hbe];rfl
   have hn2:=Ap hd
   have lb:b.length=s.length+1:=by rw[hbe];rfl
   rw[hbe]at hw hb U
   obtain⟨u2,hu2,ht2⟩:=IL hw
   have Y:=(AhU.1 hb)
   have go:=fun H=>Qr c d H
   by_cases Z:Bd c d=true
   ·have E:HQ c.x c.y d.x d.y=-1:=by
     unfold Bd at Z
     unfold HQ Ef
     simp only[AhC]at Z
     grind
    rw[E]at go
    have k2:=fun H' z B'=>ih (r.length+(s.length+1)) (by omega) r (d::s) u w B' H' rfl hu hw ha2.2 hb (by omega) (by simp;omega) z
    simp (maxSteps:=2000000) (disch:=omega) [N,J,la,lb,hn,hn2,show ¬((r.length:Int)+1=0) from by omega,show (0:Int)<(r.length:Int)+1 from by omega,show ¬((s.length:Int)+1=0) from by omega,cl (go _)]
    rw[Ao]
    refine h1 c r (d::s) H _ U (fun e he=>?_) fun H' z=>?_
    ·rcases AhO.1 he with rfl|he
     ·exact Z
     ·exact Dh Z (Y.1 e he)
    simp (maxSteps:=2000000) (disch:=omega) [ht]
    exact k2 H' z _
   ·by_cases W:Bd d c=true
    ·have E:HQ c.x c.y d.x d.y=1:=by
      unfold Bd at W
      unfold HQ Ef
      simp only[AhC]at W
      grind
     rw[E]at go
     have k2:=fun H' z B'=>ih (r.length+1+s.length) (by omega) (c::r) s v u2 B' H' rfl hv hu2 ha Y.2 (by simp;omega) (by omega) z
     simp (maxSteps:=2000000) (disch:=omega) [N,J,la,lb,hn,hn2,show ¬((r.length:Int)+1=0) from by omega,show (0:Int)<(r.length:Int)+1 from by omega,show ¬((s.length:Int)+1=0) from by omega,cl (go _)]
     rw[Ao]
     refine h2 d s (c::r) H _ U (fun e he=>?_) fun H' z=>?_
     ·rcases AhO.1 he with rfl|he
      ·exact W
      ·exact Dh W (ha2.1 e he)
     simp (maxSteps:=2000000) (disch:=omega) [ht2]
     exact k2 H' z _
    ·have hxy:c.x=d.x/\c.y=d.y:=by
      unfold Bd at Z W
      simp only[AhC]at Z W
      omega
     have E:HQ c.x c.y d.x d.y=0:=by
      unfold HQ Ef
      grind
     rw[E]at go
     have k2:=fun H' z B'=>ih (r.length+s.length) (by omega) r s u u2 B' H' rfl hu hu2 ha2.2 Y.2 (by omega) (by omega) z
     simp (maxSteps:=2000000) (disch:=omega) [N,J,la,lb,hn,hn2,show ¬((r.length:Int)+1=0) from by omega,show (0:Int)<(r.length:Int)+1 from by omega,show ¬((s.length:Int)+1=0) from by omega,cl (go _)]
     rw[Ao]
     refine h3 c r d s H _ U hxy.1 hxy.2 ha2.1 Y.1 fun H' z=>?_
     simp (maxSteps:=2000000) (disch:=omega) [ht,ht2]
     exact k2 H' z _
theorem at_r {f:I}(hv:IsSl v (Ae p))(hl:p.length<=5000)(hF:FldV p v f)(x y:Int)(hx:-10000000<=x/\x<=10000000)(hy:-10000000<=y/\y<=10000000)(H:Hp):Gives G 101 [.m f,J0 x,J0 y] H (J0 (DD p x y)) H:=by
 obtain⟨E,u,w,h,fl,cs,rfl,hwh,hbx,hby,z,hne,hfl,_⟩:=hF.ex
 have gg:=fun H=>get_r hv (by omega) x y H
 unfold Nh
 refine Af rfl rfl rfl rfl rfl ?_
 cases fl with
 | false=>simp (maxSteps:=2000000) (disch:=omega) [cl (gg _)]
 | true =>
  obtain⟨hP,hcs⟩:=hfl rfl
  have J:=hcs.rules
  simp only[Bp,Ee]at J
  have Z:wr .i64 (E+(w:Int))=E+w:=Aa (by omega) (by omega)
  have wy:wr .i64 (u+(h:Int))=u+h:=Aa (by omega) (by omega)
  by_cases Q:x<E
  ·have e:DD p x y=0:=Lc fun c N=>by have:=z c N;omega
   simp (maxSteps:=2000000) (disch:=omega) [Q,e]
  by_cases Y:E+(w:Int)<=x
  ·have e:DD p x y=0:=Lc fun c N=>by have:=z c N;omega
   simp (maxSteps:=2000000) (disch:=omega) [Q,Z,Y,e]
  by_cases y1:y<u
  ·have e:DD p x y=0:=Lc fun c N=>by have:=z c N;omega
   simp (maxSteps:=2000000) (disch:=omega) [Q,Z,Y,y1,e]
  by_cases y2:u+(h:Int)<=y
  ·have e:DD p x y=0:=Lc fun c N=>by have:=z c N;omega
   simp (maxSteps:=2000000) (disch:=omega) [Q,Z,Y,y1,wy,y2,e]
  obtain⟨a,ha⟩:=AhK (show 0<=x-E by omega)
  obtain⟨b,hb⟩:=AhK (show 0<=y-u by omega)
  have haw:a<w:=by omega
  have hbh:b<h:=by omega
  have hk:b*w+a<w*h:=by
   have h1:(b+1)*w<=h*w:=Aip _ hbh
   rw[Aif,Nat.one_mul,AiU h w]at h1
   omega
  have U:=YP p E u (w:=w) (n:=w*h) (a:=a) (b:=b) haw hk
  rw[show E+(a:Int)=x from by omega,show u+(b:Int)=y from by omega]at U
  obtain⟨M,hM⟩:∃M,M=b*w:=⟨_,rfl⟩
  have hMi:(b:Int)*(w:Int)=(M:Int):=by rw[hM];simp
  obtain⟨P,hPe⟩:∃P,P=w*h:=⟨_,rfl⟩
  rw[<-hM]at hk U
  rw[<-hPe]at hk U hP J
  obtain⟨W,hk0⟩:∃W,W=M+a:=⟨_,rfl⟩
  rw[<-hk0]at U hk
  have hn:nth (BR (De p E u w P)) W=some [J4 (DD p x y)]:=Cf U
  have w55:wr .i64 (y-u)=(b:Int):=by rw[hb];exact Aa (by omega) (by omega)
  have w59:wr .i64 ((b:Int)*(w:Int))=(M:Int):=by rw[hMi];exact Aa (by omega) (by omega)
  have w61:=J2 ((M:Int)+x) (by omega)
  have w65:wr .i64 ((M:Int)+x-E)=(W:Int):=by rw[Aa (by omega) (by omega)];omega
  have hk2:(W:Int)<P:=by omega
  generalize DD p x y=g at *
  simp (maxSteps:=2000000) (disch:=omega) [Q,Z,Y,y1,wy,y2,w55,w59,w61,w65,J,hn]
theorem Agz {h n f:I}{es:LT}(hT:TreeV t h n es)(W:TreeR t)(hv:IsSl v (Ae p))(hl:p.length<=5000)(hF:FldV p v f)(hp:Hx t p)(x y:Int)(hx:-9000000<=x/\x<=9000000)(hy:-9000000<=y/\y<=9000000)(H:Hp):Gives G 61 [.m (.ag [J4 t.states,h,n]),.m f,J0 x,J0 y] H (J0 (Bv t p x y)) H:=by
 have E:=hT.hd.rules
 simp only[Bo]at E
 have hh:=BY W.hood
 have ga:=fun x y hx hy H=>at_r hv hl hF x y hx hy H
 have N:=hF
 obtain⟨bx,by_,w,k,fl,cs,rfl,_⟩:=N.ex
 have gv:=fun w H hw=>Uq hT W (w:=w) (ins:=MU t p x y) hw (by rw[Gl];exact Ahu _) (KV W hp) H
 clear hF N
 unfold Nh at ga ⊢
 refine Af rfl rfl rfl rfl rfl ?_
 simp (maxSteps:=2000000) (disch:=omega) []
 refine(?key:∀(i:Nat) (o:V) (B:LE) (H1:Hp),i<=t.hood.length->getB B 4=some [J0 t.states,.m h,.m n]->getB B 5=some [.m (.b fl),J0 bx,J0 by_,J0 w,J0 k,.m cs,.m v]->Ahj ((MU t p x y).take i) o H1->Run G c61_B0 (S61_0 (J0 x) (J0 y) (.fa 4 0) (.fa 5 0) o (J0 (i:Int)) B H1) _) 0 _ _ _ (Ahy _) rfl rfl (.inl ⟨rfl,rfl,rfl⟩)
 refine Bj (fun i:Nat=>t.hood.length-i) fun i ih o B H1 hi z U Y=>?_
 unfold c61_B0
 have hnf:=Adh Y
 cases hy2:t.hood[i]? with
 | none =>
  have:i=t.hood.length:=by have:=Ahx.1 hy2;omega
  subst this
  rw[AhJ (by rw[Gl];exact Ahu _)]at Y
  have gc:=Vo (F:=92) (t0:=.ag [J4 t.states,h,n]) rfl rfl Y gv rfl
  have e:KJ t (MU t p x y)=Bv t p x y:=rfl
  rw[e]at gc
  simp (maxSteps:=2000000) (disch:=omega) [E,z,cl gc]
 | some u =>
  have hlt:=(Am hy2).1
  have J:(i:Int)<t.hood.length:=by omega
  have Z:=BZ hy2
  have hob:=Ed W.hood u (Ahw hy2)
  have wi:=J1 i (by omega)
  have wx:=J2 (x+u.1) (by omega)
  have wy:=J2 (y+u.2) (by omega)
  have g1:=fun H=>ga (x+u.1) (y+u.2) (by omega) (by omega) H
  have hs:(MU t p x y)[i]? = some (DD p (x+u.1) (y+u.2)):=by unfold MU;rw[AhN,hy2];rfl
  obtain⟨o1,H2,a0,hn1,Q⟩:=Vn Y (by rw[AhH];omega) (DD p (x+u.1) (y+u.2))
  rw[<-As hs]at Q
  have kk:=ih (i+1) (by omega) o1 B H2 (by omega) z U Q
  generalize DD p (x+u.1) (y+u.2)=g at *
  simp (maxSteps:=2000000) (disch:=omega) [E,J,Z,z,U,wx,wy,cl (g1 _),a0,wi,Al hn1,-Int.natCast_add]
  exact kk
end Go.Mx.Tryz
