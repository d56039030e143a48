/- Turn: what it computes (where nothing is out of range). -/
import Derived.Test.YtiehnedoinlfeaaGreatDoorNh
import Derived.Test.YtiehnedoinlfeaaGreatDoorNa
import Derived.Test.YtiehnedoinlfeaaGreatDoorRc
import Derived.Test.YtiehnedoinlfeaaGreatDoorSz
set_option linter.unusedSimpArgs false
set_option linter.unusedVariables false
set_option linter.unusedSectionVars false
set_option maxRecDepth 100000
namespace Go.Mx.Tryz
open Go.Lib Go.Proofs
variable {t:TreeC} {l:List Sh} {xs:List St5}
theorem Ou (h:ptE t l xs=0):l.length<=8/\xs.length<=16:=by
 unfold ptE at h
 by_cases u:Bb t=true
 ·rw[Ahv u]at h
  by_cases z:l.length<=8/\xs.length<=16
  ·exact z
  ·rw[Aht z]at h;cases h
 ·rw[Aht u]at h;cases h
variable {ps:List (List Ce)}
theorem QI (u:Ev ps)(h:¬5000<ps.flatten.length):MZ ps=(AT ps.flatten,0):=by
 unfold MZ
 rw[Ahv u,Aht h]
theorem MY (u:Ev ps)(h:5000<ps.flatten.length):MZ ps=([],6):=by
 unfold MZ
 rw[Ahv u,Ahv h]
variable {h n zs zx:I} {es fs:LT}
set_option maxHeartbeats 8000000 in
theorem AgF (hT:TreeV t h n es)(hs:IsSl zs fs)(sv:ET fs l)(hx:IsSl zx (DN xs))(ll:l.length<=1000000)(lx:xs.length<=1000000)(gens:Int)(H:Hp):Gives G 11 [.m (.ag [J4 t.states,h,n]),.m zs,.m zx,J0 gens] H (.tu [J0 (Cj t l xs gens).1,J0 (Cj t l xs gens).2]) H:=by
 have hS:=CB hT
 obtain⟨v,H1,gP,-,-,hcase⟩:=Yn hT hs sv hx ll lx []
 generalize z:Cj t l xs gens=R
 unfold Cj at z
 refine Af rfl rfl rfl rfl rfl ?_
 generalize hQ:(fun(v':V) (x:Hp)=>v'=.tu [J0 R.1,J0 R.2])=Q
 have q1:∀a b H',R=(a,b)->Q (.tu [J0 a,J0 b]) H':=fun a b H' e=>by rw[<-hQ,e]
 clear hQ
 rcases hcase with ⟨hE,rfl⟩|⟨hE,us,o,rfl,W,hP⟩
 ·rw[Aht hE]at z
  have N:=q1 _ _ H z.symm
  generalize ptE t l xs=E at *
  simp (maxSteps:=2000000) (disch:=omega) [cl gP,hE]
  exact N
 rw[Ahv hE]at z
 have hx16:=(Ou hE).2
 have hpr:=ML hS (l:=l) (xs:=xs)
 have hpl:(plP t l xs).length<=16:=by unfold plP;rw[AhD];exact hx16
 replace W:=W.toLG
 obtain⟨Y,-,-,-⟩:=W.toLW.nf
 by_cases hg:0<=gens/\gens<=10000
 rotate_left
 ·rw[Aht hg]at z
  have N:=q1 _ _ H z.symm
  by_cases h1:gens<0
  ·simp (maxSteps:=2000000) (disch:=omega) [cl gP,Al Y,h1]
   exact N
  ·simp (maxSteps:=2000000) (disch:=omega) [cl gP,Al Y,h1,show 10000<gens from by omega]
   exact N
 rw[Ahv hg]at z
 have g1:¬gens<0:=by omega
 have g2:¬10000<gens:=by omega
 generalize plP t l xs=ps at *
 have hul:us.length<=16:=by rw[hP.1];exact hpl
 obtain⟨b,hb,gD⟩:=VX W hP hpr (by omega)
 by_cases hd:Ev ps
 rotate_left
 ·rw[Aht hd]at z
  have N:=q1 _ _ H z.symm
  have:b=false:=by rw[<-Bool.not_eq_true];exact fun hh=>hd (hb.1 hh)
  subst this
  simp (maxSteps:=2000000) (disch:=omega) [cl gP,Al Y,g1,g2,cl gD]
  exact N
 rw[Ahv hd]at z
 have:=hb.2 hd
 subst this
 obtain⟨v,H2,gJ,hl2,hk2,rfl⟩:=QH W hP hpr hd hul
 by_cases J:5000<ps.flatten.length
 ·rw[Ahv J]at z
  rw[MY hd J]at gJ
  have N:=q1 _ _ H z.symm
  simp (maxSteps:=2000000) (disch:=omega) [cl gP,Al Y,g1,g2,cl gD,cl gJ]
  exact N
 rw[Aht J]at z
 rw[QI hd J]at gJ
 have hwl:(AT ps.flatten).length<=5000:=by rw[BS];omega
 have hL2:LG 40 us o H2:=W.keep fun r hr=>hk2 r (W.lt hr)
 simp (maxSteps:=2000000) (disch:=omega) [cl gP,Al Y,g1,g2,cl gD,cl gJ]
 refine(?key:∀(k:Nat) (g:Int) (us:List I) (ps:List (List Ce)) (w:List Ce) (B:LE) (H1:Hp),1<=g->g+k=gens+1->LG 40 us o H1->Gs us ps->(∀p,p∈ps->right p=true)->us.length<=16->w.length<=5000->EQ t k g ps w=R->getB B 4=some [J0 t.states,.m h,.m n]->Run G c11_B1 (S11_1 (J0 gens) (.fa 4 0) o (.m (zP w)) (J0 (-1)) (J0 g) B H1) _) gens.toNat 1 us ps _ _ H2 (by omega) (by omega) hL2 hP hpr hul hwl z rfl
 clear z hL2 hwl gJ hk2 hl2 J gD hb hd hul hpl hpr hP W H2 H1 gP us ps g1 g2 hx16 hE hx sv hs ll lx
 refine Bj (fun k:Nat=>k) fun k ih g us ps w B H1 hg1 hgk W hP hpr hul hwl z hB=>?_
 unfold c11_B1
 obtain⟨-,-,-,hlen⟩:=W.toLW.nf
 cases k with
 | zero =>
  have N:=q1 _ _ H z.symm
  simp (maxSteps:=2000000) (disch:=omega) [show ¬g<=gens from by omega]
  exact N
 | succ k =>
  have hle:g<=gens:=by omega
  have hpl:ps.length=us.length:=hP.1.symm
  simp (maxSteps:=2000000) (disch:=omega) [hle,hlen]
  refine(?key2:∀(i:Nat) (us:List I) (B:LE) (H1:Hp),i<=ps.length->us.length=ps.length->LG 40 us o H1->Gs us (Wv t ps i)->JQ t ps=JQ t (ps.drop i)->getB B 4=some [J0 t.states,.m h,.m n]->Run G c11_B0 (S11_0 (J0 gens) (.fa 4 0) o (.m (zP w)) (J0 (-1)) (J0 g) (J0 (us.length:Int)) (J0 (i:Int)) B H1) _) 0 us _ H1 (Ahy _) hpl.symm W (by rw[AgE];exact hP) rfl hB
  clear W hP hlen hB H1 B
  replace hul:ps.length<=16:=by omega
  clear hpl us
  refine Bj (fun i:Nat=>ps.length-i) fun i ihi us B H1 hi hus W hP hst hB=>?_
  unfold c11_B0
  obtain⟨-,-,-,hlen⟩:=W.toLW.nf
  by_cases hil:i<ps.length
  ·have hil':(i:Int)<us.length:=by omega
   have hil2:i<us.length:=by omega
   have wi:=J1 i (by omega)
   obtain⟨u,hu⟩:∃u,us[i]? = some u:=⟨_,Ahr hil2⟩
   obtain⟨q,hq⟩:∃q,ps[i]? = some q:=⟨_,Ahr hil⟩
   have hsq:=hP.2 i u q hu (Yx hq)
   have hql:=(Ay (hpr q (Ahw hq))).2.2
   have gS:=fun H=>Oo hT hsq (by omega) H
   obtain⟨pp,a1,a2,a3⟩:=W.toLW.rd hu
   obtain⟨pq,H2,b1,b2,b3,hL2,hl2,hk2⟩:=W.set hil2 (Aaj (Ch (BT t q).1)) (Cx (Ch (BT t q).1))
   have:pq=pp:=by rw[a1]at b1;cases b1;rfl
   subst this
   have hP2:=Yr hP i (Ch (BT t q).1)
   rw[Yw hq]at hP2
   have Z:=MG (t:=t) hq
   by_cases he:(BT t q).2=0
   ·rw[Ahv he]at Z
    have N:=fun B'=>ihi (i+1) (by omega) (us.set i (zP (BT t q).1)) B' H2 (by omega) (by rw[Aim];exact hus) hL2 hP2 (by rw[hst,Z])
    rw[Aim]at N
    rw[he]at gS
    generalize zP (BT t q).1=zz at *
    simp (maxSteps:=2000000) (disch:=omega) [hil',a1,a3,hB,cl (gS _),b3,wi,-Int.natCast_add]
    exact N _ (by simpa using hB)
   ·rw[Aht he]at Z
    rw[OE (by rw[hst,Z];exact he),hst,Z]at z
    have N:=q1 _ _ H z.symm
    generalize zP (BT t q).1=zz at *
    generalize (BT t q).2=e at *
    simp (maxSteps:=2000000) (disch:=omega) [hil',a1,a3,hB,cl (gS _),b3,he]
    exact N
  ·have:i=ps.length:=by omega
   subst this
   rw[AgD]at hP
   rw[Aik]at hst
   have U:JQ t ps=0:=hst
   have gW:=fun H=>Oo hT (Ch w) (by omega) H
   by_cases he:(BT t w).2=0
   rotate_left
   ·rw[OC U he]at z
    have N:=q1 _ _ H z.symm
    generalize zP (BT t w).1=zz at *
    generalize (BT t w).2=e at *
    simp (maxSteps:=2000000) (disch:=omega) [hus,hB,cl (gW _),he]
    exact N
   rw[he]at gW
   have hpr2:=JP hS U
   have hw2:=(Ay (GV hS he)).2.2
   obtain⟨b,hb,gD⟩:=VX W hP hpr2 (by omega)
   by_cases hd:Ev (Dz t ps)
   rotate_left
   ·have:b=false:=by rw[<-Bool.not_eq_true];exact fun hh=>hd (hb.1 hh)
    subst this
    rw[GY U he fun hh=>hd hh.1]at z
    have N:=q1 _ _ H z.symm
    generalize zP (BT t w).1=zz at *
    simp (maxSteps:=2000000) (disch:=omega) [hus,hB,cl (gW _),cl gD]
    exact N
   have:=hb.2 hd
   subst this
   obtain⟨v,H2,gJ,hl2,hk2,rfl⟩:=QH W hP hpr2 hd (by omega)
   have hL2:LG 40 us o H2:=W.keep fun r hr=>hk2 r (W.lt hr)
   by_cases J:5000<(Dz t ps).flatten.length
   ·rw[MY hd J]at gJ
    have hne:¬AT (Dz t ps).flatten=(BT t w).1:=fun hh=>by
     have:=AiO List.length hh
     rw[BS]at this
     omega
    rw[GY U he fun hh=>hne hh.2]at z
    have N:=q1 _ _ H z.symm
    generalize zP (BT t w).1=zz at *
    simp (maxSteps:=2000000) (disch:=omega) [hus,hB,cl (gW _),cl gD,cl gJ,Ad]
    exact N
   rw[QI hd J]at gJ
   have gE:=fun H=>AfZ (Ch (AT (Dz t ps).flatten)) (Ch (BT t w).1) (by rw[BS];omega) (by omega) H
   by_cases heq:AT (Dz t ps).flatten=(BT t w).1
   ·rw[AhA (Hl.2 heq)]at gE
    rw[OD U he hd heq]at z
    have wg:=J2 (g+1) (by omega)
    have N:=fun B'=>ih k (by omega) (g+1) us (Dz t ps) (BT t w).1 B' H2 (by omega) (by omega) hL2 hP hpr2 (by omega) (by omega) z
    generalize zP (AT (Dz t ps).flatten)=z1 at *
    generalize zP (BT t w).1=zz at *
    simp (maxSteps:=2000000) (disch:=omega) [hus,hB,cl (gW _),cl gD,cl gJ,Ad,cl (gE _),wg]
    exact N _ (by simpa using hB)
   ·rw[AhB (fun hh=>heq (Hl.1 hh))]at gE
    rw[GY U he fun hh=>heq hh.2]at z
    have N:=q1 _ _ H z.symm
    generalize zP (AT (Dz t ps).flatten)=z1 at *
    generalize zP (BT t w).1=zz at *
    simp (maxSteps:=2000000) (disch:=omega) [hus,hB,cl (gW _),cl gD,cl gJ,Ad,cl (gE _)]
    exact N
def NL (us:List I)(o:V)(H:Hp):Prop:=o=.m (zL us)\/(us=[]/\o=.m (.nl 4)) \/ ∃(r:Nat) (fz:Bool),o=.sl r us.length 1 0 us.length false/\nth H r=some (.cs 40 1 (onV us) 0 fz)
variable {us:List I} {o:V} {H:Hp}
theorem NL.keep {H':Hp}(h:NL us o H)(z:∀r,r<H.length->nth H' r=nth H r):NL us o H':=by
 rcases h with h|h|⟨r,E,rfl,u⟩
 ·exact .inl h
 ·exact .inr (.inl h)
 ·exact .inr (.inr ⟨r,E,rfl,by rw[z r (AO u)];exact u⟩)
theorem NL.nf (h:NL us o H):Az o=true/\Ar (.len false) [o]=some (J0 (us.length:Nat)):=by
 rcases h with rfl|⟨rfl,rfl⟩|⟨r,z,rfl,u⟩
 ·have:=(Oj us).rules
  rw[Oy]at this
  refine⟨rfl,?_⟩
  simp (maxSteps:=2000000) (disch:=omega) [this]
 ·exact⟨rfl,rfl⟩
 ·exact⟨rfl,rfl⟩
theorem NL.rd (h:NL us o H){i:Nat}{x:I}(z:us[i]? = some x):∃p,Ar (.ixa 1) [o,J0 (i:Int)]=some p/\Az p=true /\ ∀B,readX ⟨B,H⟩ (.ld false 1) [p]=some (.m x):=by
 have u:=(Ahq.1 z).1
 have E:(i:Int)<us.length:=by omega
 rcases h with rfl|⟨rfl,_⟩|⟨r,U,rfl,Q⟩
 ·have J:=(Oj us).rules
  rw[Oy]at J
  have N:=Vi z
  refine⟨.m (.pt [x]),?_,rfl,fun B=>rfl⟩
  simp (maxSteps:=2000000) (disch:=omega) [J,N]
 ·simp at u
 ·refine⟨.pt r us.length i 0,?_,rfl,fun B=>?_⟩
  ·simp (maxSteps:=2000000) (disch:=omega) []
  ·simp (maxSteps:=2000000) (disch:=omega) [Ab,Ci z,Q]
theorem LR.callF {ok:Nat->Prop}(h:LR 40 us o H ok){F:Nat}{x:V}(J:G.prim F=none)(hs:G.sh F=false)(u:∀H,Gives G F [.m (zL us)] H x H):∃N,Gives G F [o] H x N/\NL us o N:=by
 have E:Ah (Mx.view 20 H) [o]=some [zL us]:=by
  simp only[Ah,h.view 18,Ahz]
 rcases h with ⟨rfl,rfl⟩|⟨Q,r,U,rfl,z⟩
 ·exact⟨H,u H,.inr (.inl ⟨rfl,rfl⟩)⟩
 ·cases hf:FG x with
  | true=>exact⟨_,AQ (is:=[zL us]) J hs (u []) E (.inr ⟨by simp[Dv,Fs],hf⟩),.inr (.inr ⟨r,false,rfl,z⟩)⟩
  | false=>exact⟨_,BV (is:=[zL us]) J hs (u []) E (by simp[Dv,Fs]) hf rfl (OH z),.inr (.inr ⟨r,true,rfl,Bc (AO z)⟩)⟩
set_option maxHeartbeats 4000000 in
theorem Qo (hT:TreeV t h n es)(hs:IsSl zs fs)(sv:ET fs l)(hx:IsSl zx (DN xs))(ll:l.length<=1000000)(lx:xs.length<=1000000):∃z,(¬ptE t l xs=0->z=.nl 4)/\(ptE t l xs=0 -> ∃us,z=zL us/\Gs us (plP t l xs)) /\ ∀H,Gives G 16 [.m (.ag [J4 t.states,h,n]),.m zs,.m zx] H (.tu [.m z,J0 (ptE t l xs)]) H:=by
 have hS:=CB hT
 have gq:=fun H=>KP hT H
 have U:=hs.rules
 rw[sv.1]at U
 have J:=hx.rules
 rw[Gq]at J
 generalize Y:ptE t l xs=E
 unfold ptE at Y
 have key:∃x H',Gives G 16 [.m (.ag [J4 t.states,h,n]),.m zs,.m zx] [] x H'/\(H'=[] /\ ∃z,x=.tu [.m z,J0 E]/\(¬E=0->z=.nl 4)/\(E=0 -> ∃us,z=zL us/\Gs us (plP t l xs))):=by
  refine AJ ?_
  refine Cs rfl rfl rfl rfl rfl ?_
  generalize hQ:(fun(x:V) (H':Hp)=>H'=[] /\ ∃z,x=.tu [.m z,J0 E]/\(¬E=0->z=.nl 4)/\(E=0 -> ∃us,z=zL us/\Gs us (plP t l xs)))=Q
  have qe:∀e,E=e -> ¬e=0->Q (.tu [.m (.nl 4),J0 e]) []:=fun e h1 h2=>by rw[<-hQ];exact⟨rfl,_,by rw[h1],fun _=>rfl,fun h3=>absurd (h1 ▸ h3) h2⟩
  have qk:∀us,E=0->Gs us (plP t l xs)->Q (.tu [.m (zL us),J0 0]) []:=fun us h1 h2=>by rw[<-hQ];exact⟨rfl,_,by rw[h1],fun h=>absurd h1 h,fun _=>⟨us,rfl,h2⟩⟩
  clear hQ
  by_cases hq:Bb t=true
  rotate_left
  ·rw[Aht hq]at Y
   have N:=qe 11 Y.symm (by decide)
   rw[Bool.not_eq_true]at hq
   rw[hq]at gq
   simp (maxSteps:=2000000) (disch:=omega) [cl (gq _)]
   exact N
  rw[Ahv hq]at Y
  rw[hq]at gq
  by_cases hsz:l.length<=8/\xs.length<=16
  rotate_left
  ·rw[Aht hsz]at Y
   have N:=qe 6 Y.symm (by decide)
   by_cases h1:8<l.length
   ·simp (maxSteps:=2000000) (disch:=omega) [cl (gq _),U,show (8:Int)<l.length from by omega]
    exact N
   ·have h2:16<xs.length:=by omega
    simp (maxSteps:=2000000) (disch:=omega) [cl (gq _),U,J,show ¬(8:Int)<l.length from by omega,show (16:Int)<xs.length from by omega]
    exact N
  rw[Ahv hsz]at Y
  have s1:¬8<l.length:=by omega
  have s2:¬(8:Int)<l.length:=by omega
  have s3:¬16<xs.length:=by omega
  have s4:¬(16:Int)<xs.length:=by omega
  simp (maxSteps:=2000000) (disch:=omega) [cl (gq _),U,J,s2,s4]
  refine(?key2:∀(i:Nat) (us:List I) (o:V) (B:LE) (H1:Hp),i<=xs.length->plE t l xs=plE t l (xs.drop i)->Gs us (plP t l (xs.take i))->LR 40 us o H1 (0 <= ·)->getB B 3=some [J0 t.states,.m h,.m n]->Run G c16_B0 (S16_0 (.m zs) (.m zx) (.fa 3 0) o (J0 (i:Int)) B H1) _) 0 [] _ _ [] (Ahy _) rfl ⟨rfl,fun i u q hi=>by simp at hi⟩ (.inl ⟨rfl,rfl⟩) rfl
  refine Bj (fun i:Nat=>xs.length-i) fun i ih us o B H1 hi a0 hP hL a1=>?_
  unfold c16_B0
  obtain⟨hnf,hcel,hone,hlen⟩:=hL.nf
  cases hx2:xs[i]? with
  | some x =>
   have hlt:=(Ahq.1 hx2).1
   have Z:(i:Int)<xs.length:=by omega
   have hn:=Je hx2
   have gp:=fun H=>AcS hT hs sv x H
   have wi:=J1 i (by omega)
   have W:=Qn (t:=t) (l:=l) hx2
   have hu:=Ch (plF t l x).1
   simp only[CV]at gp
   by_cases he:(plF t l x).2=0
   ·rw[Ahv he]at W
    rw[he]at gp
    have hul:us.length=i:=by rw[hP.1];unfold plP;rw[AhD,AhH];omega
    generalize zP (plF t l x).1=u at *
    obtain⟨o1,H2,ha,hn1,hL2,_⟩:=hL.push (Ahy _) (b:=24) (by omega) (ys:=[u]) (by simp;omega) (fun y hy=>by rw[AhQ.1 hy];exact Cx hu)
    have ha:∀B,Et ⟨B,H1⟩ 40 1 24 o [[.m u]]=some (o1,⟨B,H2⟩):=ha
    have hb1:=fun c B H=>Wj hu c B H
    have hP2:Gs (us++[u]) (plP t l (xs.take (i+1))):=by rw[Qm hx2];exact Gj hP hu
    have N:=fun B'=>ih (i+1) (by omega) (us++[u]) o1 B' H2 (by omega) (by rw[a0,W]) hP2 hL2
    simp (maxSteps:=2000000) (disch:=omega) [J,Z,hn,a1,cl (gp _),hb1,ha,wi,Al hn1,-Int.natCast_add]
    exact N _ (by simpa using a1)
   ·rw[Aht he]at W
    have N:=qe (plF t l x).2 (by rw[<-Y,a0,W]) he
    generalize (plF t l x).2=e at *
    generalize zP (plF t l x).1=u at *
    simp (maxSteps:=2000000) (disch:=omega) [J,Z,hn,a1,cl (gp _),he]
    exact N
  | none =>
   have:i=xs.length:=by have:=Ahx.1 hx2;omega
   subst this
   clear ih hx2 hi
   rw[AhS]at hP
   have hpe0:plE t l xs=0:=by rw[a0,Aik];rfl
   have N:=qk us (by rw[<-Y,hpe0]) hP
   have hvw:=hL.view 18
   generalize zL us=z at *
   simp (maxSteps:=2000000) (disch:=omega) [J,hvw,Al hnf]
   exact⟨hnf,N⟩
 obtain⟨x,H',g,rfl,z,rfl,z1,z2⟩:=key
 exact⟨z,z1,z2,fun H=>AQ (H:=H) (is:=[.ag [J4 t.states,h,n],zs,zx]) rfl rfl g rfl (.inl ⟨rfl,rfl⟩)⟩
theorem ZP (h:Ev ps):unF ps=(AT ps.flatten,true):=by unfold unF;rw[Ahv h]
theorem ZQ (h:¬Ev ps):unF ps=([],false):=by unfold unF;rw[Aht h]
set_option maxHeartbeats 8000000 in
theorem AgG (hT:TreeV t h n es)(hs:IsSl zs fs)(sv:ET fs l)(hx:IsSl zx (DN xs))(ll:l.length<=1000000)(lx:xs.length<=1000000)(gens:Int)(H:Hp):Gives G 17 [.m (.ag [J4 t.states,h,n]),.m zs,.m zx,J0 gens] H (.tu [J0 (Cj t l xs gens).1,J0 (Cj t l xs gens).2]) H:=by
 have hS:=CB hT
 obtain⟨z,z1,z2,gP⟩:=Qo hT hs sv hx ll lx
 generalize J:Cj t l xs gens=R
 unfold Cj at J
 refine Af rfl rfl rfl rfl rfl ?_
 generalize hQ:(fun(v':V) (x:Hp)=>v'=.tu [J0 R.1,J0 R.2])=Q
 have q1:∀a b H',R=(a,b)->Q (.tu [J0 a,J0 b]) H':=fun a b H' e=>by rw[<-hQ,e]
 clear hQ
 by_cases hE:ptE t l xs=0
 rotate_left
 ·rw[Aht hE]at J
  have U:=q1 _ _ H J.symm
  have:=z1 hE
  subst this
  generalize ptE t l xs=E at *
  simp (maxSteps:=2000000) (disch:=omega) [cl (gP _),hE]
  exact U
 obtain⟨us,rfl,hP⟩:=z2 hE
 rw[Ahv hE]at J
 rw[hE]at gP
 have hx16:=(Ou hE).2
 have hpr:=ML hS (l:=l) (xs:=xs)
 have hpl:(plP t l xs).length<=16:=by unfold plP;rw[AhD];exact hx16
 by_cases hg:0<=gens/\gens<=10000
 rotate_left
 ·rw[Aht hg]at J
  have U:=q1 _ _ H J.symm
  generalize zL us=z at *
  by_cases h1:gens<0
  ·simp (maxSteps:=2000000) (disch:=omega) [cl (gP _),h1]
   exact U
  ·simp (maxSteps:=2000000) (disch:=omega) [cl (gP _),h1,show 10000<gens from by omega]
   exact U
 rw[Ahv hg]at J
 have g1:¬gens<0:=by omega
 have g2:¬10000<gens:=by omega
 generalize plP t l xs=ps at *
 have hul:us.length<=16:=by rw[hP.1];exact hpl
 have gU:=fun H=>Us (Oj us) hP hpr (by omega) H
 by_cases hd:Ev ps
 rotate_left
 ·rw[Aht hd]at J
  rw[ZQ hd]at gU
  have U:=q1 _ _ H J.symm
  generalize zL us=z at *
  simp (maxSteps:=2000000) (disch:=omega) [cl (gP _),g1,g2,cl (gU _)]
  exact U
 rw[Ahv hd]at J
 rw[ZP hd]at gU
 have hrw:=(Ch (AT ps.flatten)).rules
 simp only[show (Ae (AT ps.flatten)).length=ps.flatten.length from by simp[Ae,BS]]at hrw
 generalize hN:ps.flatten.length=N at hrw
 have hflb:=Gp (ps:=ps) fun p hp=>(Ay (hpr p hp)).2.2
 by_cases hbig:5000<ps.flatten.length
 ·rw[Ahv hbig]at J
  have U:=q1 _ _ H J.symm
  generalize zL us=z at *
  generalize zP (AT ps.flatten)=zw at *
  simp (maxSteps:=2000000) (disch:=omega) [cl (gP _),g1,g2,cl (gU _),hrw,show (5000:Int)<N from by omega]
  exact U
 rw[Aht hbig]at J
 have hwl:(AT ps.flatten).length<=5000:=by rw[BS];omega
 have hnl:NL us (.m (zL us)) []:=.inl rfl
 generalize AT ps.flatten=w at *
 generalize hzu:(V.m (zL us))=a0 at hnl
 simp only[hzu]at gP gU
 generalize hzw:zP w=zw at *
 simp (maxSteps:=2000000) (disch:=omega) [cl (gP _),g1,g2,cl (gU _),hrw,show ¬5000<N from by omega,show ¬(5000:Int)<N from by omega,Al hnl.nf.1]
 subst hzw
 refine(?key:∀(k:Nat) (g:Int) (us:List I) (a0:V) (ps:List (List Ce)) (w:List Ce) (B:LE) (H1:Hp),1<=g->g+k=gens+1->NL us a0 H1->Gs us ps->(∀p,p∈ps->right p=true)->us.length<=16->w.length<=5000->EQ t k g ps w=R->getB B 4=some [J0 t.states,.m h,.m n]->Run G c17_B1 (S17_1 (J0 gens) (.fa 4 0) a0 (.m (zP w)) (J0 g) B H1) _) gens.toNat 1 us a0 ps w [(4,[J0 t.states,.m h,.m n])] [] (by omega) (by omega) hnl hP hpr hul hwl J rfl
 clear hN J hnl hwl gU hbig hrw hflb hd hul hpl hpr hP gP hzu a0 z1 z2 us ps w g1 g2 hx16 hE hx sv hs ll lx
 refine Bj (fun k:Nat=>k) fun k ih g us a0 ps w B H1 hg1 hgk hN hP hpr hul hwl J hB=>?_
 unfold c17_B1
 obtain⟨hnf0,W⟩:=hN.nf
 cases k with
 | zero =>
  have U:=q1 _ _ H J.symm
  simp (maxSteps:=2000000) (disch:=omega) [show ¬g<=gens from by omega]
  exact U
 | succ k =>
  have hle:g<=gens:=by omega
  have hpl:ps.length=us.length:=hP.1.symm
  simp (maxSteps:=2000000) (disch:=omega) [hle]
  refine(?key2:∀(i:Nat) (vs:List I) (nx:V) (B:LE) (H2:Hp),i<=ps.length->LR 40 vs nx H2 (H1.length <= ·)->H1.length<=H2.length->(∀r,r<H1.length->nth H2 r=nth H1 r)->Gs vs ((Dz t ps).take i)->JQ t ps=JQ t (ps.drop i)->getB B 4=some [J0 t.states,.m h,.m n]->Run G c17_B0 (S17_0 (J0 gens) (.fa 4 0) a0 (.m (zP w)) (J0 g) nx (J0 (i:Int)) B H2) _) 0 [] _ _ H1 (Ahy _) (.inl ⟨rfl,rfl⟩) (Ahu _) (fun _ _=>rfl) ⟨rfl,fun i u q hi=>by simp at hi⟩ rfl hB
  clear hB B
  refine Bj (fun i:Nat=>ps.length-i) fun i ihi vs nx B H2 hi hL hl2 hk2 hPv hst hB=>?_
  unfold c17_B0
  obtain⟨hnf,_,_,_⟩:=hL.nf
  by_cases hil:i<ps.length
  ·have hil':(i:Int)<us.length:=by omega
   have hil2:i<us.length:=by omega
   have wi:=J1 i (by omega)
   obtain⟨u,hu⟩:∃u,us[i]? = some u:=⟨_,Ahr hil2⟩
   obtain⟨q,hq⟩:∃q,ps[i]? = some q:=⟨_,Ahr hil⟩
   have hsq:=hP.2 i u q hu hq
   have hql:=(Ay (hpr q (Ahw hq))).2.2
   have gS:=fun H=>Oq hT hsq (by omega) H
   obtain⟨pp,a1,a2,a3⟩:=(hN.keep hk2).rd hu
   have Z:=MG (t:=t) hq
   have hz:=Ch (BT t q).1
   by_cases he:(BT t q).2=0
   ·rw[Ahv he]at Z
    rw[he]at gS
    have hgq:(Dz t ps)[i]? = some (BT t q).1:=by unfold Dz;rw[AhN,hq];rfl
    have hvl:vs.length=i:=by rw[hPv.1,AhH];unfold Dz;rw[AhD];omega
    generalize zP (BT t q).1=zz at *
    obtain⟨o1,H3,ha,hn1,hL3,hq1,hl3,hk3⟩:=hL.push hl2 (b:=24) (by omega) (ys:=[zz]) (by simp;omega) (fun y hy=>by rw[AhQ.1 hy];exact Cx hz)
    have ha:∀B,Et ⟨B,H2⟩ 40 1 24 nx [[.m zz]]=some (o1,⟨B,H3⟩):=ha
    have hb1:=fun c B H=>Wj hz c B H
    have hP2:Gs (vs++[zz]) ((Dz t ps).take (i+1)):=by rw[As hgq];exact Gj hPv hz
    have U:=fun B'=>ihi (i+1) (by omega) (vs++[zz]) o1 B' H3 (by omega) hL3 (by omega) (fun r hr=>by rw[hk3 r hr];exact hk2 r hr) hP2 (by rw[hst,Z])
    simp (maxSteps:=2000000) (disch:=omega) [hil',W,a1,a3,hB,Al hn1,cl (gS _),hb1,ha,wi,-Int.natCast_add]
    exact U _ (by simpa using hB)
   ·rw[Aht he]at Z
    rw[OE (by rw[hst,Z];exact he),hst,Z]at J
    have U:=q1 _ _ H J.symm
    generalize zP (BT t q).1=zz at *
    generalize (BT t q).2=e at *
    simp (maxSteps:=2000000) (disch:=omega) [hil',W,a1,a3,hB,cl (gS _),he]
    exact U
  ·have:i=ps.length:=by omega
   subst this
   have Y:JQ t ps=0:=by rw[hst,Aik];rfl
   rw[AhJ (Nat.le_of_eq (by unfold Dz;rw[AhD]))]at hPv
   have gW:=fun H=>Oq hT (Ch w) (by omega) H
   have hn1:¬ps.length<us.length:=by omega
   have hn2:¬(ps.length:Int)<us.length:=by omega
   by_cases he:(BT t w).2=0
   rotate_left
   ·rw[OC Y he]at J
    have U:=q1 _ _ H J.symm
    generalize zP (BT t w).1=zz at *
    generalize (BT t w).2=e at *
    simp (maxSteps:=2000000) (disch:=omega) [W,hn2,hB,cl (gW _),he]
    exact U
   rw[he]at gW
   have hpr2:=JP hS Y
   have hw2:=(Ay (GV hS he)).2.2
   have hvl:vs.length=ps.length:=by rw[hPv.1];unfold Dz;rw[AhD]
   have gU:=fun H=>Us (Oj vs) hPv hpr2 (by omega) H
   have hflb:=Gp (ps:=Dz t ps) fun p hp=>(Ay (hpr2 p hp)).2.2
   obtain⟨H3,gV,hN3⟩:=hL.callF rfl rfl gU
   by_cases hd:Ev (Dz t ps)
   rotate_left
   ·rw[GY Y he fun hh=>hd hh.1]at J
    rw[ZQ hd]at gV
    have U:=q1 _ _ H J.symm
    generalize zP (BT t w).1=zz at *
    simp (maxSteps:=2000000) (disch:=omega) [W,hn2,hB,cl (gW _),cl gV,Ad]
    exact U
   rw[ZP hd]at gV
   have hflc:(Dz t ps).flatten.length<=1000000:=by rw[show (Dz t ps).length=ps.length from by unfold Dz;rw[AhD]]at hflb;omega
   have gE:=fun H=>MJ (Ch (AT (Dz t ps).flatten)) (Ch (BT t w).1) (by rw[BS];exact hflc) (by omega) H
   by_cases heq:AT (Dz t ps).flatten=(BT t w).1
   ·rw[AhA (Hl.2 heq)]at gE
    rw[OD Y he hd heq]at J
    have wg:=J2 (g+1) (by omega)
    have U:=fun B'=>ih k (by omega) (g+1) vs nx (Dz t ps) (BT t w).1 B' H3 (by omega) (by omega) hN3 hPv hpr2 (by omega) (by omega) J
    generalize zP (AT (Dz t ps).flatten)=z1 at *
    generalize zP (BT t w).1=zz at *
    simp (maxSteps:=2000000) (disch:=omega) [W,hn2,hB,Al hnf,cl (gW _),cl gV,Ad,cl (gE _),wg]
    exact U _ (by simpa using hB)
   ·rw[AhB (fun hh=>heq (Hl.1 hh))]at gE
    rw[GY Y he fun hh=>heq hh.2]at J
    have U:=q1 _ _ H J.symm
    generalize zP (AT (Dz t ps).flatten)=z1 at *
    generalize zP (BT t w).1=zz at *
    simp (maxSteps:=2000000) (disch:=omega) [W,hn2,hB,cl (gW _),cl gV,Ad,cl (gE _)]
    exact U
structure CaseW (zs zx:I)(fs:LT)(l:List Sh)(xs:List St5):Prop where
 s:IsSl zs fs
 fl:fs.length=l.length
 sv:∀(i:Nat) (s:Sh),l[i]? = some s->(s.c.length:Int)<=9223372036854775807 /\ ∃v,nth fs i=some (shI v s)/\IsSl v (Ae s.c)
 x:IsSl zx (DN xs)
 ll:(l.length:Int)<=9223372036854775807
 lx:(xs.length:Int)<=9223372036854775807
structure CaseA (zs zx:I)(fs:LT)(l:List Sh)(xs:List St5):Prop where
 s:IsSl zs fs
 sv:ET fs l
 x:IsSl zx (DN xs)
 ll:l.length<=1000000
 lx:xs.length<=1000000
def EO (s:Sh):Bool:=decide (s.c.length<=30) && !(decide (8<s.m.1)&&decide (s.m.1<=64))
def Fx (x:St5):Bool:=!(decide (20<x.n)&&decide (x.n<=10000))
def JU (f:Bool)(l:List Sh)(xs:List St5)(gens most:Int):Bool:=l.all EO&&(xs.all Fx&&(f&&(decide (l.length<=20)&&(decide (xs.length<=20)&&((decide (gens<=24)||decide (10000<gens))&&(decide (most<=8)||decide (64<most)))))))
theorem AcF {f:Bool}{gens u:Int}(z:CaseW zs zx fs l xs)(h:JU f l xs gens u=true):CaseA zs zx fs l xs:=by
 unfold JU at h
 simp only[Ahs,AhC]at h
 obtain⟨J,_,_,N,Q,_⟩:=h
 refine⟨z.s,⟨z.fl,fun i s E=>?_⟩,z.x,by omega,by omega⟩
 have:=AhE.1 J s (Ahw E)
 unfold EO at this
 simp only[Ahs,AhC]at this
 exact⟨by omega,(z.sv i s E).2⟩
set_option maxHeartbeats 4000000 in
theorem AcE (hT:TreeV t h n es)(hW:CaseW zs zx fs l xs)(gens u:Int)(H:Hp):Gives G 4 [.m (.ag [J4 t.states,h,n]),.m (.ag [zs,zx,J4 gens,J4 u])] H (.m (.b (JU (YY t) l xs gens u))) H:=by
 have gf:=fun H=>AgU hT H
 have J:=hW.s.rules
 rw[hW.fl]at J
 have U:=hW.x.rules
 rw[Gq]at U
 have hll:=hW.ll
 have hlx:=hW.lx
 refine Af rfl rfl rfl rfl rfl ?_
 generalize Q:JU (YY t) l xs gens u=E
 unfold JU at Q
 have f1:∀ {i:Nat} {s:Sh},l[i]? = some s->(l.drop i).all EO=(EO s&&(l.drop (i+1)).all EO):=fun {i s} hx=>by rw[(Am hx).2];rfl
 have f2:∀ {i:Nat} {x:St5},xs[i]? = some x->(xs.drop i).all Fx=(Fx x&&(xs.drop (i+1)).all Fx):=fun {i x} hx=>by rw[(Am hx).2];rfl
 simp (maxSteps:=2000000) (disch:=omega) [J]
 refine(?key:∀(i:Nat) (B:LE),i<=l.length->l.all EO=(l.drop i).all EO->getB B 2=some [J0 t.states,.m h,.m n]->getB B 3=some [.m zs,.m zx,J0 gens,J0 u]->Run G c4_B0 (S4_0 (.fa 2 0) (.fa 3 0) (J0 (l.length:Int)) (J0 (i:Int)) B []) _) 0 _ (Ahy _) rfl rfl rfl
 refine Bj (fun i:Nat=>l.length-i) fun i ih B hi N z Y=>?_
 unfold c4_B0
 cases hx:l[i]? with
 | some s =>
  have hlt:=(Ahq.1 hx).1
  have W:(i:Int)<l.length:=by omega
  obtain⟨hsl,v,hn,hv⟩:=hW.sv i s hx
  have hrv:=hv.rules
  simp only[show (Ae s.c).length=s.c.length from by simp[Ae]]at hrv
  have wi:=J1 i (by omega)
  have hst:=f1 hx
  simp only[shI]at hn
  have kf:EO s=false->E=false:=fun h=>by rw[<-Q,N,hst,h];rfl
  have kt:EO s=true -> ∀B',getB B' 2=some [J0 t.states,.m h,.m n]->getB B' 3=some [.m zs,.m zx,J0 gens,J0 u]->_:=fun h B'=>ih (i+1) (by omega) B' (by omega) (by rw[N,hst,h];rfl)
  unfold EO at kf kt
  by_cases c1:s.c.length<=30
  ·by_cases c2:8<s.m.1
   ·by_cases c3:s.m.1<=64
    ·have:=kf (by rw[AhA c2,AhA c3];simp)
     subst this
     simp (maxSteps:=2000000) (disch:=omega) [J,W,hn,Y,hrv,show ¬30<s.c.length from by omega,show ¬(30:Int)<s.c.length from by omega,c2,c3]
    ·have k2:=kt (by rw[AhA c1,AhB c3];simp)
     simp (maxSteps:=2000000) (disch:=omega) [J,W,hn,Y,hrv,show ¬30<s.c.length from by omega,show ¬(30:Int)<s.c.length from by omega,c2,c3,wi,-Int.natCast_add]
     exact k2 _ z Y
   ·have k2:=kt (by rw[AhA c1,AhB c2];simp)
    simp (maxSteps:=2000000) (disch:=omega) [J,W,hn,Y,hrv,show ¬30<s.c.length from by omega,show ¬(30:Int)<s.c.length from by omega,c2,wi,-Int.natCast_add]
    exact k2 _ z Y
  ·have:=kf (by rw[AhB c1];simp)
   subst this
   simp (maxSteps:=2000000) (disch:=omega) [J,W,hn,Y,hrv,show (30:Int)<s.c.length from by omega]
 | none =>
  have:i=l.length:=by have:=Ahx.1 hx;omega
  subst this
  clear ih hx hi
  have hall2:l.all EO=true:=by rw[N,Aik];rfl
  rw[hall2,AiJ]at Q
  simp (maxSteps:=2000000) (disch:=omega) [Y,U]
  refine(?key2:∀(i:Nat) (B:LE),i<=xs.length->xs.all Fx=(xs.drop i).all Fx->getB B 2=some [J0 t.states,.m h,.m n]->getB B 3=some [.m zs,.m zx,J0 gens,J0 u]->Run G c4_B1 (S4_1 (.fa 2 0) (.fa 3 0) (J0 (xs.length:Int)) (J0 (i:Int)) B []) _) 0 _ (Ahy _) rfl z Y
  clear N Y z B
  refine Bj (fun i:Nat=>xs.length-i) fun i ih B hi N z Y=>?_
  unfold c4_B1
  cases hx:xs[i]? with
  | some x =>
   have hlt:=(Ahq.1 hx).1
   have W:(i:Int)<xs.length:=by omega
   have hn:=Je hx
   have wi:=J1 i (by omega)
   have hst:=f2 hx
   have kf:Fx x=false->E=false:=fun h=>by rw[<-Q,N,hst,h];rfl
   have kt:Fx x=true -> ∀B',getB B' 2=some [J0 t.states,.m h,.m n]->getB B' 3=some [.m zs,.m zx,J0 gens,J0 u]->_:=fun h B'=>ih (i+1) (by omega) B' (by omega) (by rw[N,hst,h];rfl)
   unfold Fx at kf kt
   by_cases c2:20<x.n
   ·by_cases c3:x.n<=10000
    ·have:=kf (by rw[AhA c2,AhA c3];rfl)
     subst this
     simp (maxSteps:=2000000) (disch:=omega) [U,W,hn,Y,c2,c3]
    ·have k2:=kt (by rw[AhB c3];simp)
     simp (maxSteps:=2000000) (disch:=omega) [U,W,hn,Y,c2,c3,wi,-Int.natCast_add]
     exact k2 _ z Y
   ·have k2:=kt (by rw[AhB c2];simp)
    simp (maxSteps:=2000000) (disch:=omega) [U,W,hn,Y,c2,wi,-Int.natCast_add]
    exact k2 _ z Y
  | none =>
   have:i=xs.length:=by have:=Ahx.1 hx;omega
   subst this
   clear ih hx hi
   have hall2:xs.all Fx=true:=by rw[N,Aik];rfl
   rw[hall2,AiJ]at Q
   clear N
   cases hf:YY t with
   | false =>
    rw[hf]at gf Q
    have:E=false:=by rw[<-Q];rfl
    subst this
    simp (maxSteps:=2000000) (disch:=omega) [z,cl (gf _)]
   | true =>
   rw[hf]at gf Q
   by_cases c1:l.length<=20
   rotate_left
   ·rw[AhB c1]at Q
    have:E=false:=by rw[<-Q];rfl
    subst this
    simp (maxSteps:=2000000) (disch:=omega) [Y,z,cl (gf _),J,show ¬(l.length:Int)<=20 from by omega]
   have Z:(l.length:Int)<=20:=by omega
   by_cases c2:xs.length<=20
   rotate_left
   ·rw[AhB c2]at Q
    have:E=false:=by rw[<-Q];simp
    subst this
    simp (maxSteps:=2000000) (disch:=omega) [Y,z,cl (gf _),J,Z,U,show ¬(xs.length:Int)<=20 from by omega]
   have a0:(xs.length:Int)<=20:=by omega
   rw[AhA c1,AhA c2]at Q
   by_cases c3:gens<=24
   ·rw[AhA c3]at Q
    by_cases c4:u<=8
    ·rw[AhA c4]at Q
     subst Q
     simp (maxSteps:=2000000) (disch:=omega) [Y,z,cl (gf _),J,Z,U,a0,c3,c4]
    ·by_cases c5:64<u
     ·rw[AhA c5]at Q
      have:E=true:=by rw[<-Q];simp
      subst this
      simp (maxSteps:=2000000) (disch:=omega) [Y,z,cl (gf _),J,Z,U,a0,c3,c4,c5]
     ·rw[AhB c5,AhB c4]at Q
      subst Q
      simp (maxSteps:=2000000) (disch:=omega) [Y,z,cl (gf _),J,Z,U,a0,c3,c4,c5]
   ·by_cases c6:10000<gens
    ·rw[AhA c6]at Q
     by_cases c4:u<=8
     ·rw[AhA c4]at Q
      have:E=true:=by rw[<-Q];simp
      subst this
      simp (maxSteps:=2000000) (disch:=omega) [Y,z,cl (gf _),J,Z,U,a0,c3,c4,c6]
     ·by_cases c5:64<u
      ·rw[AhA c5]at Q
       have:E=true:=by rw[<-Q];simp
       subst this
       simp (maxSteps:=2000000) (disch:=omega) [Y,z,cl (gf _),J,Z,U,a0,c3,c4,c5,c6]
      ·rw[AhB c5,AhB c4]at Q
       have:E=false:=by rw[<-Q];simp
       subst this
       simp (maxSteps:=2000000) (disch:=omega) [Y,z,cl (gf _),J,Z,U,a0,c3,c4,c5,c6]
    ·rw[AhB c6,AhB c3]at Q
     have:E=false:=by rw[<-Q];rfl
     subst this
     simp (maxSteps:=2000000) (disch:=omega) [Y,z,cl (gf _),J,Z,U,a0,c3,c6]
theorem YX {B n:Nat}{l:List I}(hB:B<=9223372036854775807)(h:Fits Go.Proofs.Tryz.prog B (n+6) 29 l):∃(zs zx:I) (fs:LT) (sl:List Sh) (xs:List St5) (gens J:Int),l=[zs,zx,J4 gens,J4 J]/\CaseW zs zx fs sl xs:=by
 unfold Fits at h
 rw[Go.Proofs.Tryz.underlying29]at h
 simp only[Hb]at h
 obtain⟨x1,y1,rfl,W,Z,y2,rfl,Q,x3,y3,rfl,k3,x4,y4,rfl,k4,rfl⟩:=h
 obtain⟨g,rfl,_⟩:=BA k3
 obtain⟨m,rfl,_⟩:=BA k4
 unfold Fits at W Q
 rw[Go.Proofs.Tryz.underlying26]at W
 rw[Go.Proofs.Tryz.underlying27]at Q
 simp only at W Q
 have hs:∃(z:I) (fs:LT) (sl:List Sh),x1=[z]/\IsSl z fs/\fs.length<=B/\fs.length=sl.length /\ ∀(i:Nat) (s:Sh),sl[i]? = some s->s.c.length<=B /\ ∃v,nth fs i=some (shI v s)/\IsSl v (Ae s.c):=by
  rcases W with rfl|⟨es,rfl,E,u⟩
  ·exact⟨_,[],[],rfl,AS,by simp,rfl,fun i s U=>by simp at U⟩
  ·obtain⟨sl,h1,h2⟩:=VQ fun x N=>YT (u x N)
   exact⟨_,es,sl,rfl,AX _,E,h1,h2⟩
 have N:∃(z:I) (xs:List St5),Z=[z]/\IsSl z (DN xs)/\xs.length<=B:=by
  rcases Q with rfl|⟨es,rfl,E,u⟩
  ·exact⟨_,[],rfl,AS,by simp⟩
  ·obtain⟨p,rfl⟩:=VP fun x N=>YS (u x N)
   exact⟨_,p,rfl,AX _,by simpa using E⟩
 obtain⟨zs,fs,sl,rfl,b1,b2,b3,Y⟩:=hs
 obtain⟨zx,xs,rfl,c1,c2⟩:=N
 exact⟨zs,zx,fs,sl,xs,g,m,rfl,⟨b1,b3,fun i s U=>⟨by have:=(Y i s U).1;omega,(Y i s U).2⟩,c1,by omega,by omega⟩⟩
theorem AdI:Cl Go.Proofs.Tryz.prog 29=some true:=by unfold Cl;rw[Go.Proofs.Tryz.underlying29];rfl
theorem Zj {B n:Nat}{z:List TypeId}{us:List V}(E:B<=9223372036854775807)(h:DE Go.Proofs.Tryz.prog B (n+6) (29::z) us):
  ∃(zs zx:I) (fs:LT) (sl:List Sh) (xs:List St5) (gens u:Int) (r:List V),us=.m (.ag [zs,zx,J4 gens,J4 u])::r/\CaseW zs zx fs sl xs/\DE Go.Proofs.Tryz.prog B (n+6) z r:=by
 obtain⟨l,r,rfl,J,Q⟩:=FI h
 obtain⟨zs,zx,fs,sl,xs,g,m,rfl,N⟩:=YX E J
 rw[Um AdI]
 exact⟨zs,zx,fs,sl,xs,g,m,r,rfl,N,Q⟩
end Go.Mx.Tryz
set_option maxHeartbeats 8000000
namespace Go.Mx.Tryz
open Go.Lib Go.Proofs
theorem RZ {d:Nat}{p:V}(h:Az p=true):nf1 d p=true:=by
 cases p with
 | fa k o=>cases h
 | _=>rfl
def mvX (dx dy:Int)(x:St5):St5:=⟨x.i,x.n,x.k,x.x+dx,x.y+dy⟩
noncomputable def ofX (t:TreeC)(l:List Sh)(a b:St5)(gens y:Int):Nat->Int->List (Int×Int)->List (Int×Int)×Int
 | 0,_,acc=>(acc,0)
 | k+1,x,acc=>if (Cj t l [a,mvX x y b] gens).2=0 then ofX t l a b gens y k (x+1) (if 0<=(Cj t l [a,mvX x y b] gens).1 then acc++[(x,y)] else acc) else ([],(Cj t l [a,mvX x y b] gens).2)
noncomputable def ofY (t:TreeC)(l:List Sh)(a b:St5)(gens d:Int):Nat->Int->List (Int×Int)->List (Int×Int)×Int
 | 0,_,acc=>(acc,0)
 | k+1,y,acc=>if (ofX t l a b gens y (2*d+1).toNat (-d) acc).2=0 then ofY t l a b gens d k (y+1) (ofX t l a b gens y (2*d+1).toNat (-d) acc).1 else ([],(ofX t l a b gens y (2*d+1).toNat (-d) acc).2)
noncomputable def Wt (t:TreeC)(l:List Sh)(a b:St5)(gens d:Int)(ky:Nat)(y:Int)(k:Nat)(x:Int)(acc:List (Int×Int)):List (Int×Int)×Int:=if (ofX t l a b gens y k x acc).2=0 then ofY t l a b gens d ky (y+1) (ofX t l a b gens y k x acc).1 else ([],(ofX t l a b gens y k x acc).2)
theorem Agv (t:TreeC)(l:List Sh)(a b:St5)(gens d:Int)(k:Nat)(y:Int)(acc:List (Int×Int)):ofY t l a b gens d (k+1) y acc=Wt t l a b gens d k y (2*d+1).toNat (-d) acc:=rfl
theorem Aad (t:TreeC)(l:List Sh)(a b:St5)(gens d:Int)(ky:Nat)(y x:Int)(acc:List (Int×Int)):Wt t l a b gens d ky y 0 x acc=ofY t l a b gens d ky (y+1) acc:=by unfold Wt;rw[ofX,Ahv rfl]
variable {t:TreeC} {l:List Sh} {gens:Int} {ky:Nat} {acc:List (Int×Int)}
theorem Aac {a b:St5}{d:Int}{y:Int}{k:Nat}{x:Int}(h:¬(Cj t l [a,mvX x y b] gens).2=0):Wt t l a b gens d ky y (k+1) x acc=([],(Cj t l [a,mvX x y b] gens).2):=by
 unfold Wt
 rw[ofX,Aht h,Aht h]
theorem Aab {a b:St5}{d:Int}{y:Int}{k:Nat}{x:Int}(h:(Cj t l [a,mvX x y b] gens).2=0):Wt t l a b gens d ky y (k+1) x acc=Wt t l a b gens d ky y k (x+1) (if 0<=(Cj t l [a,mvX x y b] gens).1 then acc++[(x,y)] else acc):=by
 unfold Wt
 rw[ofX,Ahv h]
noncomputable def Sy (t:TreeC)(l:List Sh)(a b:St5)(d gens:Int):List (Int×Int)×Int:=if ptE t l [a,b]=0 then if (0<=d/\d<=20)/\(0<=gens/\gens<=10000) then ofY t l a b gens d (2*d+1).toNat (-d) [] else ([],2) else ([],ptE t l [a,b])
variable {xs:List St5}
theorem MW (h:(Cj t l xs gens).2=0):(Cj t l xs gens).1=-1\/0<=(Cj t l xs gens).1:=by
 obtain⟨J,E⟩:=YA h
 unfold Cj at h ⊢
 rw[Ahv J,Ahv E]at h ⊢
 by_cases z:Ev (plP t l xs)
 rotate_left
 ·rw[Aht z]
  exact .inr (Int.le_refl 0)
 rw[Ahv z]at h ⊢
 by_cases u:5000<(plP t l xs).flatten.length
 ·rw[Ahv u]at h;cases h
 rw[Aht u]at h ⊢
 rcases MV _ _ _ _ h with e|e
 ·exact .inl e
 ·exact .inr (by omega)
variable {es:LT}
theorem Wi {F:Nat}{p q r:I}{x:V}(z:G.prim F=none)(hs:G.sh F=false)(u:∀H,Gives G F [.m p,.m q,.m (.sl es),.m r] H x H)(H:Hp):Gives G F [.m p,.m q,.ls es,.m r] H x H:=AQ (is:=[p,q,.sl es,r]) z hs (u []) rfl (.inl ⟨rfl,rfl⟩)
theorem Zf {F:Nat}{p q:I}{x:V}(z:G.prim F=none)(hs:G.sh F=false)(u:∀H,Gives G F [.m p,.m q,.m (.sl es)] H x H)(H:Hp):Gives G F [.m p,.m q,.ls es] H x H:=AQ (is:=[p,q,.sl es]) z hs (u []) rfl (.inl ⟨rfl,rfl⟩)
theorem UQ (h:ptE t l xs=0):plE t l xs=0:=by
 have z:=Ou h
 unfold ptE at h
 by_cases u:Bb t=true
 ·rw[Ahv u,Ahv z]at h
  exact h
 ·rw[Aht u]at h;cases h
theorem off_s {h n zs:I}{fs:LT}(hT:TreeV t h n es)(hs:IsSl zs fs)(sv:ET fs l)(ll:l.length<=1000000)(a b:St5)(d gens:Int)(H:Hp):Gives G 6 [.m (.ag [J4 t.states,h,n]),.m zs,.m (.ag (CV a)),.m (.ag (CV b)),J0 d,J0 gens] H (.tu [.m (zK (Au (Sy t l a b d gens).1)),J0 (Sy t l a b d gens).2]) H:=by
 obtain⟨v,Y,gP,-,-,hcase⟩:=Ql (xs:=[a,b]) (zx:=.ls (DN [a,b])) hT hs sv rfl ⟨rfl,fun _ _=>rfl⟩ ll (by simp) []
 have gM:=fun(x y:Int) H=>Wi rfl rfl (fun H=>AgF hT hs sv (AX (DN [a,mvX x y b])) ll (by simp) gens H) H
 simp only[DN,List.map,CV,mvX]at gM gP
 generalize u:Sy t l a b d gens=R
 unfold Sy at u
 refine Af rfl rfl rfl rfl rfl ?_
 generalize hQ:(fun(v':V) (x:Hp)=>v'=.tu [.m (zK (Au R.1)),J0 R.2])=Q
 have q1:∀(p:List (Int×Int)) (e:Int),R=(p,e)->Q (.tu [.m (zK (Au p)),J0 e]) H:=fun p e h=>by rw[<-hQ,h]
 have qe:∀(e:Int),R=([],e)->Q (.tu [.m (.nl 4),J0 e]) H:=fun e h=>q1 [] e h
 clear hQ
 rcases hcase with ⟨hE,rfl⟩|⟨hE,us,o,rfl,-,-⟩
 ·rw[Aht hE]at u
  have W:=qe _ u.symm
  generalize ptE t l [a,b]=E at *
  simp (maxSteps:=2000000) (disch:=omega) [CV,cl gP,hE]
  exact W
 rw[Ahv hE]at u
 have hnb:=(US (AcU (l:=l) (UQ hE) b (by simp))).1
 by_cases hg:(0<=d/\d<=20)/\(0<=gens/\gens<=10000)
 rotate_left
 ·rw[Aht hg]at u
  have W:=qe _ u.symm
  by_cases h1:d<0
  ·simp (maxSteps:=2000000) (disch:=omega) [CV,cl gP,h1]
   exact W
  ·by_cases h2:20<d
   ·simp (maxSteps:=2000000) (disch:=omega) [CV,cl gP,h1,h2]
    exact W
   ·by_cases h3:gens<0
    ·simp (maxSteps:=2000000) (disch:=omega) [CV,cl gP,h1,h2,h3]
     exact W
    ·simp (maxSteps:=2000000) (disch:=omega) [CV,cl gP,h1,h2,h3,show 10000<gens from by omega]
     exact W
 rw[Ahv hg]at u
 have wd:=J2 (-d) (by omega)
 simp (maxSteps:=2000000) (disch:=omega) [CV,cl gP,show ¬d<0 from by omega,show ¬20<d from by omega,show ¬gens<0 from by omega,show ¬10000<gens from by omega,wd]
 refine(?key:∀(ky:Nat) (y:Int) (acc:List (Int×Int)) (o:V) (B:LE) (Y:Hp),y+ky=d+1 -> -d<=y->acc.length+ky*41<=5000->LK 64 2 (Au acc) o Y->ofY t l a b gens d ky y acc=R->getB B 6=some [J0 t.states,.m h,.m n]->getB B 8=some [J0 a.i,J0 a.n,J0 a.k,J0 a.x,J0 a.y]->getB B 9=some [J0 b.i,J0 b.n,J0 b.k,J0 b.x,J0 b.y]->Run G c6_B1 (S6_1 (.m zs) (J0 d) (J0 gens) (.fa 6 0) (.fa 8 0) (.fa 9 0) o (J0 y) B Y) _) (2*d+1).toNat (-d) [] _ _ _ (by omega) (by omega) (by simp;omega) LK.nil u rfl rfl rfl
 clear u
 refine Bj (fun k:Nat=>k) fun ky ihy y acc o B Y hy hy0 hal hL u J N U=>?_
 unfold c6_B1
 obtain⟨hnf,-,-,-⟩:=hL.nf
 cases ky with
 | zero =>
  have W:=q1 _ _ u.symm
  have hvw:=hL.view 18
  generalize zK (Au acc)=z at *
  simp (maxSteps:=2000000) (disch:=omega) [show ¬y<=d from by omega,Al hnf,hvw]
  exact⟨hnf,W⟩
 | succ ky =>
  have wy:=J2 (y+1) (by omega)
  simp (maxSteps:=2000000) (disch:=omega) [show y<=d from by omega,wd]
  rw[Agv]at u
  refine(?key2:∀(k:Nat) (x:Int) (acc:List (Int×Int)) (o:V) (B:LE) (Y:Hp),x+k=d+1 -> -d<=x->acc.length+k+ky*41<=5000->LK 64 2 (Au acc) o Y->Wt t l a b gens d ky y k x acc=R->getB B 6=some [J0 t.states,.m h,.m n]->getB B 8=some [J0 a.i,J0 a.n,J0 a.k,J0 a.x,J0 a.y]->getB B 9=some [J0 b.i,J0 b.n,J0 b.k,J0 b.x,J0 b.y]->Run G c6_B0 (S6_0 (.m zs) (J0 d) (J0 gens) (.fa 6 0) (.fa 8 0) (.fa 9 0) o (J0 y) (J0 x) B Y) _) (2*d+1).toNat (-d) acc o _ Y (by omega) (by omega) (by omega) hL u J N U
  clear hal u hL J N U hnf B Y acc o
  refine Bj (fun k:Nat=>k) fun k ih x acc o B Y hx hx0 hal hL u J N U=>?_
  unfold c6_B0
  obtain⟨hnf,-,-,-⟩:=hL.nf
  cases k with
  | zero =>
   rw[Aad]at u
   have W:=fun B'=>ihy ky (by omega) (y+1) acc o B' Y (by omega) (by omega) (by omega) hL u
   simp (maxSteps:=2000000) (disch:=omega) [show ¬x<=d from by omega,wy]
   exact W _ J N U
  | succ k =>
   have wx:=J2 (x+1) (by omega)
   have wb:=J2 (b.x+x) (by omega)
   have wc:=J2 (b.y+y) (by omega)
   have gMx:=gM x y
   by_cases Z:(Cj t l [a,mvX x y b] gens).2=0
   rotate_left
   ·rw[Aac Z]at u
    have W:=qe _ u.symm
    simp only[mvX]at Z W
    generalize Cj t l [a,⟨b.i,b.n,b.k,b.x+x,b.y+y⟩] gens=m at *
    simp (maxSteps:=2000000) (disch:=omega) [Ab,show x<=d from by omega,J,N,U,wb,wc,cl (gMx _),Z]
    exact W
   rw[Aab Z]at u
   have hv:=MW Z
   by_cases h0:0<=(Cj t l [a,mvX x y b] gens).1
   ·rw[Ahv h0]at u
    simp only[mvX]at Z hv h0
    generalize Cj t l [a,⟨b.i,b.n,b.k,b.x+x,b.y+y⟩] gens=m at *
    obtain⟨o1,H2,ha,hn1,hL1,-,-⟩:=hL.push (by omega) (b:=16) (by omega) (ys:=Au [(x,y)]) (by simp[Au];omega) (fun e Z=>by
     simp only[Au,List.map,AhQ]at Z
     subst Z
     exact⟨rfl,fun v hv=>by simp only[AhO,List.not_mem_nil,or_false]at hv;rcases hv with rfl|rfl <;> rfl⟩)
    have ha:∀B,Et ⟨B,Y⟩ 64 2 16 o [[J0 x,J0 y]]=some (o1,⟨B,H2⟩):=ha
    rw[show Au acc++Au [(x,y)]=Au (acc++[(x,y)]) from by simp[Au]]at hL1
    have W:=fun B'=>ih k (by omega) (x+1) (acc++[(x,y)]) o1 B' H2 (by omega) (by omega) (by simp;omega) hL1 u
    simp (maxSteps:=2000000) (disch:=omega) [Ab,show x<=d from by omega,Al hn1,J,N,U,wb,wc,wx,cl (gMx _),Z,show ¬m.1=-1 from by omega,ha]
    exact W _ (by simpa using J) (by simpa using N) (by simpa using U)
   ·rw[Aht h0]at u
    simp only[mvX]at Z hv h0
    generalize Cj t l [a,⟨b.i,b.n,b.k,b.x+x,b.y+y⟩] gens=m at *
    have hm:m.1=-1:=by omega
    have W:=fun B'=>ih k (by omega) (x+1) acc o B' Y (by omega) (by omega) (by omega) hL u
    simp (maxSteps:=2000000) (disch:=omega) [Ab,show x<=d from by omega,J,N,U,wb,wc,wx,cl (gMx _),Z,hm]
    exact W _ (by simpa using J) (by simpa using N) (by simpa using U)
theorem off_r {h n zs:I}{fs:LT}(hT:TreeV t h n es)(hs:IsSl zs fs)(sv:ET fs l)(ll:l.length<=1000000)(a b:St5)(d gens:Int)(H:Hp):Gives G 7 [.m (.ag [J4 t.states,h,n]),.m zs,.m (.ag (CV a)),.m (.ag (CV b)),J0 d,J0 gens] H (.tu [.m (zK (Au (Sy t l a b d gens).1)),J0 (Sy t l a b d gens).2]) H:=by
 obtain⟨z,-,-,gP0⟩:=Qo hT hs sv (AX (DN [a,b])) ll (by simp)
 have gP:=fun H=>Zf rfl rfl gP0 H
 have gM:=fun(x y:Int) H=>Wi rfl rfl (fun H=>AgG hT hs sv (AX (DN [a,mvX x y b])) ll (by simp) gens H) H
 simp only[DN,List.map,CV,mvX]at gM gP
 generalize u:Sy t l a b d gens=R
 unfold Sy at u
 refine Af rfl rfl rfl rfl rfl ?_
 generalize hQ:(fun(v':V) (x:Hp)=>v'=.tu [.m (zK (Au R.1)),J0 R.2])=Q
 have q1:∀(p:List (Int×Int)) (e:Int),R=(p,e)->Q (.tu [.m (zK (Au p)),J0 e]) H:=fun p e h=>by rw[<-hQ,h]
 have qe:∀(e:Int),R=([],e)->Q (.tu [.m (.nl 4),J0 e]) H:=fun e h=>q1 [] e h
 clear hQ
 by_cases hE:ptE t l [a,b]=0
 rotate_left
 ·rw[Aht hE]at u
  have W:=qe _ u.symm
  generalize ptE t l [a,b]=E at *
  simp (maxSteps:=2000000) (disch:=omega) [CV,cl (gP _),hE]
  exact W
 rw[Ahv hE]at u
 rw[hE]at gP
 have hnb:=(US (AcU (l:=l) (UQ hE) b (by simp))).1
 by_cases hg:(0<=d/\d<=20)/\(0<=gens/\gens<=10000)
 rotate_left
 ·rw[Aht hg]at u
  have W:=qe _ u.symm
  by_cases h1:d<0
  ·simp (maxSteps:=2000000) (disch:=omega) [CV,cl (gP _),h1]
   exact W
  ·by_cases h2:20<d
   ·simp (maxSteps:=2000000) (disch:=omega) [CV,cl (gP _),h1,h2]
    exact W
   ·by_cases h3:gens<0
    ·simp (maxSteps:=2000000) (disch:=omega) [CV,cl (gP _),h1,h2,h3]
     exact W
    ·simp (maxSteps:=2000000) (disch:=omega) [CV,cl (gP _),h1,h2,h3,show 10000<gens from by omega]
     exact W
 rw[Ahv hg]at u
 have wd:=J2 (-d) (by omega)
 simp (maxSteps:=2000000) (disch:=omega) [CV,cl (gP _),show ¬d<0 from by omega,show ¬20<d from by omega,show ¬gens<0 from by omega,show ¬10000<gens from by omega,wd]
 refine(?key:∀(ky:Nat) (y:Int) (acc:List (Int×Int)) (o:V) (B:LE) (Y:Hp),y+ky=d+1 -> -d<=y->acc.length+ky*41<=5000->LK 64 2 (Au acc) o Y->ofY t l a b gens d ky y acc=R->getB B 6=some [J0 t.states,.m h,.m n]->getB B 8=some [J0 a.i,J0 a.n,J0 a.k,J0 a.x,J0 a.y]->getB B 9=some [J0 b.i,J0 b.n,J0 b.k,J0 b.x,J0 b.y]->Run G c7_B1 (S7_1 (.m zs) (J0 d) (J0 gens) (.fa 6 0) (.fa 8 0) (.fa 9 0) o (J0 y) B Y) _) (2*d+1).toNat (-d) [] _ _ _ (by omega) (by omega) (by simp;omega) LK.nil u rfl rfl rfl
 clear u
 refine Bj (fun k:Nat=>k) fun ky ihy y acc o B Y hy hy0 hal hL u J N U=>?_
 unfold c7_B1
 obtain⟨hnf,-,-,-⟩:=hL.nf
 cases ky with
 | zero =>
  have W:=q1 _ _ u.symm
  have hvw:=hL.view 18
  generalize zK (Au acc)=z at *
  simp (maxSteps:=2000000) (disch:=omega) [show ¬y<=d from by omega,Al hnf,hvw]
  exact⟨hnf,W⟩
 | succ ky =>
  have wy:=J2 (y+1) (by omega)
  simp (maxSteps:=2000000) (disch:=omega) [show y<=d from by omega,wd]
  rw[Agv]at u
  refine(?key2:∀(k:Nat) (x:Int) (acc:List (Int×Int)) (o:V) (B:LE) (Y:Hp),x+k=d+1 -> -d<=x->acc.length+k+ky*41<=5000->LK 64 2 (Au acc) o Y->Wt t l a b gens d ky y k x acc=R->getB B 6=some [J0 t.states,.m h,.m n]->getB B 8=some [J0 a.i,J0 a.n,J0 a.k,J0 a.x,J0 a.y]->getB B 9=some [J0 b.i,J0 b.n,J0 b.k,J0 b.x,J0 b.y]->Run G c7_B0 (S7_0 (.m zs) (J0 d) (J0 gens) (.fa 6 0) (.fa 8 0) (.fa 9 0) o (J0 y) (J0 x) B Y) _) (2*d+1).toNat (-d) acc o _ Y (by omega) (by omega) (by omega) hL u J N U
  clear hal u hL J N U hnf B Y acc o
  refine Bj (fun k:Nat=>k) fun k ih x acc o B Y hx hx0 hal hL u J N U=>?_
  unfold c7_B0
  obtain⟨hnf,-,-,-⟩:=hL.nf
  cases k with
  | zero =>
   rw[Aad]at u
   have W:=fun B'=>ihy ky (by omega) (y+1) acc o B' Y (by omega) (by omega) (by omega) hL u
   simp (maxSteps:=2000000) (disch:=omega) [show ¬x<=d from by omega,wy]
   exact W _ J N U
  | succ k =>
   have wx:=J2 (x+1) (by omega)
   have wb:=J2 (b.x+x) (by omega)
   have wc:=J2 (b.y+y) (by omega)
   have gMx:=gM x y
   by_cases Z:(Cj t l [a,mvX x y b] gens).2=0
   rotate_left
   ·rw[Aac Z]at u
    have W:=qe _ u.symm
    simp only[mvX]at Z W
    generalize Cj t l [a,⟨b.i,b.n,b.k,b.x+x,b.y+y⟩] gens=m at *
    simp (maxSteps:=2000000) (disch:=omega) [Ab,show x<=d from by omega,J,N,U,wb,wc,cl (gMx _),Z]
    exact W
   rw[Aab Z]at u
   have hv:=MW Z
   by_cases h0:0<=(Cj t l [a,mvX x y b] gens).1
   ·rw[Ahv h0]at u
    simp only[mvX]at Z hv h0
    generalize Cj t l [a,⟨b.i,b.n,b.k,b.x+x,b.y+y⟩] gens=m at *
    obtain⟨o1,H2,ha,hn1,hL1,-,-⟩:=hL.push (by omega) (b:=16) (by omega) (ys:=Au [(x,y)]) (by simp[Au];omega) (fun e Z=>by
     simp only[Au,List.map,AhQ]at Z
     subst Z
     exact⟨rfl,fun v hv=>by simp only[AhO,List.not_mem_nil,or_false]at hv;rcases hv with rfl|rfl <;> rfl⟩)
    have ha:∀B,Et ⟨B,Y⟩ 64 2 16 o [[J0 x,J0 y]]=some (o1,⟨B,H2⟩):=ha
    rw[show Au acc++Au [(x,y)]=Au (acc++[(x,y)]) from by simp[Au]]at hL1
    have W:=fun B'=>ih k (by omega) (x+1) (acc++[(x,y)]) o1 B' H2 (by omega) (by omega) (by simp;omega) hL1 u
    simp (maxSteps:=2000000) (disch:=omega) [Ab,show x<=d from by omega,Al hn1,J,N,U,wb,wc,wx,cl (gMx _),Z,h0,show ¬m.1=-1 from by omega,ha]
    exact W _ (by simpa using J) (by simpa using N) (by simpa using U)
   ·rw[Aht h0]at u
    simp only[mvX]at Z hv h0
    generalize Cj t l [a,⟨b.i,b.n,b.k,b.x+x,b.y+y⟩] gens=m at *
    have hm:m.1=-1:=by omega
    have W:=fun B'=>ih k (by omega) (x+1) acc o B' Y (by omega) (by omega) (by omega) hL u
    simp (maxSteps:=2000000) (disch:=omega) [Ab,show x<=d from by omega,J,N,U,wb,wc,wx,cl (gMx _),Z,hm]
    exact W _ (by simpa using J) (by simpa using N) (by simpa using U)
end Go.Mx.Tryz
set_option maxHeartbeats 4000000
namespace Go.Mx.Tryz
open Go.Lib Go.Proofs
theorem Vk (t:TreeC)(l:List Sh)(a b:St5)(gens y:Int):∀(k:Nat) (x:Int) (acc:List (Int×Int)),(ofX t l a b gens y k x acc).1.length<=acc.length+k
 | 0,_,acc=>by rw[ofX];exact Ahu _
 | k+1,x,acc=>by
  rw[ofX]
  split
  ·refine AiF (Vk t l a b gens y k _ _) ?_
   split
   ·rw[AhF,Aiu];omega
   ·omega
  ·simp
theorem Vj (t:TreeC)(l:List Sh)(a b:St5)(gens d:Int):∀(k:Nat) (y:Int) (acc:List (Int×Int)),(ofY t l a b gens d k y acc).1.length<=acc.length+k*(2*d+1).toNat
 | 0,_,acc=>by rw[ofY];simp
 | k+1,y,acc=>by
  rw[ofY]
  split
  ·refine AiF (Vj t l a b gens d k _ _) ?_
   have:=Vk t l a b gens y (2*d+1).toNat (-d) acc
   rw[Nat.succ_mul]
   omega
  ·simp
theorem Yt (t:TreeC)(l:List Sh)(a b:St5)(d gens:Int):(Sy t l a b d gens).1.length<=10000:=by
 unfold Sy
 split
 ·split
  ·rename_i h
   have u:=Vj t l a b gens d (2*d+1).toNat (-d) []
   have z:(2*d+1).toNat*(2*d+1).toNat<=41*41:=Nat.mul_le_mul (by omega) (by omega)
   rw[Aic]at u
   omega
  ·simp
 ·simp
theorem UK {v:I}{p:List (Int×Int)}(Q:IsSl v (Au p))(hl:p.length<=1000000)(H:Hp):Gives G 8 [.m v,.m v] H (.m (.b true)) H:=by
 have z:=Q.rules
 rw[Bo]at z
 refine Af rfl rfl rfl rfl rfl ?_
 simp (maxSteps:=2000000) (disch:=omega) [z]
 refine(?key:∀(i:Nat) (B:LE),i<=p.length->Run G c8_B0 (S8_0 (.m v) (.m v) (J0 (i:Int)) B []) _) 0 _ (Ahy _)
 refine Bj (fun i:Nat=>p.length-i) fun i Y B Z=>?_
 unfold c8_B0
 cases hx:p[i]? with
 | some c =>
  have E:=(Ahq.1 hx).1
  have u:(i:Int)<p.length:=by omega
  have W:=BZ hx
  have N:=J1 i (by omega)
  have J:=fun U=>Y (i+1) (by omega) U (by omega)
  simp (maxSteps:=2000000) (disch:=omega) [z,u,W,N,-Int.natCast_add]
  exact J _
 | none =>
  have:i=p.length:=by have:=Ahx.1 hx;omega
  subst this
  simp (maxSteps:=2000000) (disch:=omega) [z]
theorem OG (Q:Gives G 5 [] [] (.m (.b true)) []){t:TreeC}{h n zs zx:I}{es fs:LT}{l:List Sh}{xs:List St5}{gens E:Int}(Y:TreeV t h n es)(N:CaseW zs zx fs l xs)(d:Int):Gives G 3 [.m (.ag [J4 t.states,h,n]),.m (.ag [zs,zx,J4 gens,J4 E]),J0 d] [] (.m (.b true)) []:=by
 have g1:=fun H=>AcE Y N gens E H
 have u:=N.x.rules
 rw[Gq]at u
 refine Af rfl rfl rfl rfl rfl ?_
 cases hf:JU (YY t) l xs gens E with
 | false =>
  rw[hf]at g1
  simp (maxSteps:=2000000) (disch:=omega) [cl (g1 _),cl Q]
 | true =>
 rw[hf]at g1
 have J:=AcF N hf
 match xs,u,J,g1,N with
 | [],u,J,g1,N=>simp (maxSteps:=2000000) (disch:=omega) [cl (g1 _),u,cl Q]
 | [a],u,J,g1,N=>simp (maxSteps:=2000000) (disch:=omega) [cl (g1 _),u,cl Q]
 | a::b::c::r,u,J,g1,N=>simp (maxSteps:=2000000) (disch:=omega) [cl (g1 _),u,cl Q,show ¬((r.length:Int)+1+1+1=2) from by omega]
 | [a,b],u,J,g1,N =>
  have ha:nth (DN [a,b]) 0=some (CV a):=rfl
  have U:nth (DN [a,b]) 1=some (CV b):=rfl
  have gm:=fun H=>off_s Y J.s J.sv J.ll a b d gens H
  have W:=fun H=>off_r Y J.s J.sv J.ll a b d gens H
  have ge:=fun H=>UK (Afy (Au (Sy t l a b d gens).1)) (by have:=Yt t l a b d gens;omega) H
  simp only[CV]at ha U gm W
  generalize Sy t l a b d gens=r at *
  generalize zK (Au r.1)=z at *
  by_cases Z:2<d
  ·by_cases h2:d<=20
   ·simp (maxSteps:=2000000) (disch:=omega) [cl (g1 _),u,cl Q,Z,h2]
   ·simp (maxSteps:=2000000) (disch:=omega) [cl (g1 _),u,Ad,Z,h2,ha,U,cl (gm _),cl (W _),cl (ge _),cl Q]
  ·simp (maxSteps:=2000000) (disch:=omega) [cl (g1 _),u,Ad,Z,ha,U,cl (gm _),cl (W _),cl (ge _),cl Q]
theorem Jc (u:Gives G 5 [] [] (.m (.b true)) [])(us:List V)(h:DE Go.Proofs.Tryz.prog maxLen 8 Go.Proofs.Tryz.f3.params.toList us):Gives G 3 us [] (.m (.b true)) []:=by
 have e:Go.Proofs.Tryz.f3.params.toList=[25,29,3]:=by rw[Go.Proofs.Tryz.params3]
 have h:=e ▸ h
 obtain⟨t,W,Y,es,r,rfl,z,N⟩:=Zi (n:=3) (by decide) h
 obtain⟨zs,zx,fs,sl,xs,g,m,U,rfl,Q,E⟩:=Zj (n:=2) (by decide) N
 obtain⟨d,Z,rfl,J⟩:=AdF (n:=7) E
 have:=RR J
 subst this
 exact OG u z Q d
end Go.Mx.Tryz
namespace Go.Mx.Tryz
open Go.Lib
theorem VI (n:Nat):List.replicate n [V.m (J4 0)]=onV (iI (List.replicate n 0)):=by simp[onV,iI]
theorem Ot {α:Type}(l m:List α)(j:Nat)(x:α):(l++m).set (l.length+j) x=l++m.set j x:=by
 rw[AiP _ _ (by omega)]
 congr 2
 omega
theorem AgL (l:List Nd):InvW l (List.replicate l.length 0,[]):=⟨by simp,Ahy _,fun v u=>by
 have:=(List.mem_replicate.1 u).2
 subst this
 exact⟨Int.le_refl _,Int.le_refl _⟩⟩
section
variable {α:Type} (H M:List α) (a b c d e x:α)
theorem nu1:nth (H++a::b::M) (H.length+1)=some b:=by rw[CQ];rfl
theorem nu2:nth (H++a::b::c::M) (H.length+2)=some c:=by rw[CQ];rfl
theorem nu3:nth (H++a::b::c::d::M) (H.length+3)=some d:=by rw[CQ];rfl
theorem nu4:nth (H++a::b::c::d::e::M) (H.length+4)=some e:=by rw[CQ];rfl
theorem su2:AN (H++a::b::c::M) (H.length+2) x=some (H++a::b::x::M):=by
 rw[AB _ _ _ (by simp),Ot]
 rfl
theorem su4:AN (H++a::b::c::d::e::M) (H.length+4) x=some (H++a::b::c::d::x::M):=by
 rw[AB _ _ _ (by simp),Ot]
 rfl
end
set_option maxHeartbeats 4000000 in
theorem MO {es:LT}{o:V}{H:Hp}(hv:Li es)(hk:OkN (es.map dNd))(W:es.length<=10000000)(hn:L2 es o H){n k:Nat}(a0:k<es.length)(hkn:(ndU (es.map dNd) k).1<=(n:Int))(Q:V->Hp->Prop) 
  (hQ:∀J E H',L2 J E H'->Li J->J.map dNd=(HO (es.map dNd) n k (List.replicate es.length 0,[])).1.2->H.length<=H'.length->(∀r,r<H.length->nth H' r=nth H r)->(∀r,AG E=some r->H.length<=r)->Q E H') :
  Ret G 221 [o,J0 (k:Int)] H Q:=by
 have u:=hn.nf
 refine Bh mono rfl rfl rfl (by simp[u.1]) rfl ?_
 have hL:∀m:Hp,L2 es o (H++m):=fun m=>hn.keep fun r e z=>BH _ _ _ z
 have Y:es.length*8<=281474976710656:=by omega
 have hb2:es.length<=9223372036854775807:=by omega
 have w1:∀x y:V,BQ 1 [[x]] 0 0 [y]=some [[y]]:=fun _ _=>rfl
 have hcf:∀f xs,AA (.fn f xs)=some [.fn f xs]:=fun _ _=>rfl
 have hof:∀f xs,BL (.fn f xs)=true:=fun _ _=>rfl
 simp (maxSteps:=2000000) (disch:=omega) [Ab,u.2.1,u.2.2.2,AC,nu2,nu4,su2,su4,Y,hb2,w1,hcf,hof]
 rw[Ao]
 have z:=VI es.length
 rw[z]
 let R:RwS:=⟨H.length,H.length+1,H.length+2,H.length+3,H.length+4⟩
 have hI:=AgL (es.map dNd)
 rw[AhD]at hI
 refine ZO (R:=R) hv hk W n k (List.replicate es.length 0) [] (.m (.nl 4)) _ ⟨⟨0,by omega,AC ..⟩,hL _,⟨1,by omega,nu2 ..⟩,⟨0,by omega,nu1 ..⟩,⟨0,by omega,nu3 ..⟩,.inl ⟨rfl,rfl⟩,⟨1,by omega,nu4 ..⟩,by simp,by show H.length≠H.length+3;omega,fun r _ h=>(by cases h),fun e h=>(by simp at h)⟩ hI a0 hkn _ fun dn J E H2 U Z hK=>?_
 obtain⟨b3,a1,h3⟩:=U.h3
 have h3:nth H2 (H.length+3)=some (.cs 23 1 [[E]] b3 false):=h3
 have N:=U.ho.nf
 have kk:=hQ J E H2 U.ho U.oe (by have:=AiO Prod.snd Z;exact this.symm) (by have:=hK.1;simp at this;omega) (fun r z=>by
   rw[hK.2.1 r (by simp;omega) (by show r≠H.length+1;omega) (by show r≠H.length+3;omega) (by simp[AG])]
   exact BH _ _ _ z) fun r z=>by
   rcases hK.2.2 r z with h|h
   ·cases h
   ·simp at h;omega
 simp (maxSteps:=2000000) (disch:=omega) [Ab,h3,a1,Al N.1]
 exact⟨N.1,kk⟩
end Go.Mx.Tryz
namespace Go.Mx.Tryz
theorem QL:∀ {l:List Nd} {x:Nd} {k:Nat},l.idxOf? x=some k->l[k]? = some x
 | [],x,k,h=>by simp at h
 | y::r,x,k,h=>by
  rw[List.idxOf?_cons]at h
  by_cases e:y=x
  ·subst e
   simp at h
   subst h
   rfl
  ·rw[Aht (by simpa using e)]at h
   cases hr:r.idxOf? x with
   | none=>rw[hr]at h;cases h
   | some j =>
    rw[hr]at h
    simp at h
    subst h
    simpa using QL hr
theorem Rf (l:List Nd)(x:Nd):(ES l x).1[(ES l x).2]? = some x:=by
 unfold ES
 split
 ·rename_i k h
  exact QL h
 ·simp
variable {l:List Nd} {x:Nd}
theorem Zm {y:Nd}{j:Nat}(h:l[j]? = some y):(ES l x).1[j]? = some y:=by
 unfold ES
 split
 ·exact h
 ·simp only
  rw[AhM (Ahq.1 h).1]
  exact h
def OkR (l:List Nd):Prop:=∀i,i<l.length->1<=(ndU l i).1/\(ndU l i).1<=1000/\(ndU l i).2≠[]/\(ndU l i).2.length<=100/\(∀k,k∈(ndU l i).2 -> -1000000000<=k/\k<=1000000000)/\(1<(ndU l i).1 -> ∀k,k∈(ndU l i).2->0<=k/\k.toNat<i/\(ndU l k.toNat).1<(ndU l i).1)
def OF (to:List Int)(x:Nd):List Int:=if 1<x.1 then x.2.map (fun k=>(to[k.toNat]?).getD 0) else x.2
theorem KW (to:List Int)(x:Nd):(OF to x).length=x.2.length:=by unfold OF;split <;> simp
def stepR (st:List Nd×List Int)(x:Nd):List Nd×List Int:=((ES st.1 (x.1,OF st.2 x)).1,st.2++[((ES st.1 (x.1,OF st.2 x)).2:Int)])
def CD (l:List Nd):Nat->List Nd×List Int
 | 0=>([],[])
 | i+1=>stepR (CD l i) (ndU l i)
structure BIv (l:List Nd)(i:Nat)(st:List Nd×List Int):Prop where
 tl:st.2.length=i
 tv:∀j,j<i -> ∃(m:Nat) (y:Nd),st.2[j]? = some (m:Int)/\st.1[m]? = some y/\y.1=(ndU l j).1
 ok:OkN st.1
 le:st.1.length<=i
variable {i:Nat}
theorem Vu (h:l[i]? = some x):ndU l i=x:=by unfold ndU;rw[h];rfl
theorem Adg (h:OkN l)(h1:1<=x.1/\x.1<=1000/\x.2≠[]/\x.2.length<=100/\(∀k,k∈x.2 -> -1000000000<=k/\k<=1000000000)/\(1<x.1 -> ∀k,k∈x.2->0<=k/\k.toNat<l.length/\(ndU l k.toNat).1<x.1)):OkN (ES l x).1:=by
 unfold ES
 split
 ·exact h
 ·simp only
  have u:∀j,j<l.length->ndU (l++[x]) j=ndU l j:=fun j hj=>by unfold ndU;rw[AhM hj]
  intro i hi
  rw[AhF,Aiu]at hi
  by_cases c:i<l.length
  ·obtain⟨Y,N,U,E,J,Z⟩:=h i c
   rw[u i c]
   refine⟨Y,N,U,E,J,fun Q k hk=>?_⟩
   obtain⟨z,b2,W⟩:=Z Q k hk
   rw[u _ b2]
   exact⟨z,by rw[AhF];omega,W⟩
  ·have:i=l.length:=by omega
   subst this
   have e:ndU (l++[x]) l.length=x:=by unfold ndU;simp
   rw[e]
   obtain⟨Y,N,U,E,J,Z⟩:=h1
   refine⟨Y,N,U,E,J,fun Q k hk=>?_⟩
   obtain⟨z,b2,W⟩:=Z Q k hk
   rw[u _ b2]
   exact⟨z,by rw[AhF];omega,W⟩
variable {st:List Nd×List Int}
theorem VB (hr:OkR l)(hi:i<l.length)(h:BIv l i st)(hl:l.length<=10000000):(∀k,k∈OF st.2 (ndU l i) -> -1000000000<=k/\k<=1000000000)/\(1<(ndU l i).1 -> ∀k,k∈OF st.2 (ndU l i)->0<=k/\k.toNat<st.1.length/\(ndU st.1 k.toNat).1<(ndU l i).1):=by
 obtain⟨a1,a2,a3,a4,W,Z⟩:=hr i hi
 have z:1<(ndU l i).1 -> ∀k,k∈OF st.2 (ndU l i)->0<=k/\k.toNat<st.1.length/\(ndU st.1 k.toNat).1<(ndU l i).1:=fun E k u=>by
  unfold OF at u
  rw[Ahv E]at u
  obtain⟨q,Q,rfl⟩:=AhP.1 u
  obtain⟨U,N,Y⟩:=Z E q Q
  obtain⟨m,y,c1,J,c3⟩:=h.tv q.toNat N
  rw[c1]
  simp only[AiT,Int.toNat_natCast]
  refine⟨by omega,(Ahq.1 J).1,?_⟩
  rw[Vu J,c3]
  exact Y
 refine⟨fun k u=>?_,z⟩
 by_cases E:1<(ndU l i).1
 ·obtain⟨U,N,_⟩:=z E k u
  have:=h.le
  omega
 ·unfold OF at u
  rw[Aht E]at u
  exact W k u
theorem Zh (u:OkR l)(hi:i<l.length)(h:BIv l i st)(hl:l.length<=10000000):BIv l (i+1) (stepR st (ndU l i)):=by
 obtain⟨U,J,N,z,a5,a6⟩:=u i hi
 obtain⟨Q,W⟩:=VB u hi h hl
 refine⟨by show (st.2++_).length=_;simp[h.tl],fun j Z=>?_,Adg h.ok ⟨U,J,fun e=>N ?_,by rw[KW];exact z,Q,W⟩,?_⟩
 ·by_cases c:j<i
  ·obtain⟨m,y,Y,E,c3⟩:=h.tv j c
   refine⟨m,y,?_,Zm E,c3⟩
   show (st.2++_)[j]? = _
   rw[AhM (by rw[h.tl];exact c)]
   exact Y
  ·have:j=i:=by omega
   subst this
   refine⟨_,_,?_,Rf _ _,rfl⟩
   show (st.2++_)[j]? = _
   rw[AhZ (by rw[h.tl];omega),h.tl]
   simp
 ·have:=KW st.2 (ndU l i)
  have e:OF st.2 (ndU l i)=[]:=e
  rw[e]at this
  exact List.length_eq_zero_iff.1 this.symm
 ·have:=(Re st.1 ((ndU l i).1,OF st.2 (ndU l i))).2
  have:=h.le
  show (ES st.1 _).1.length<=_
  omega
theorem Ra {l:List Nd}(u:OkR l)(hl:l.length<=10000000):∀i,i<=l.length->BIv l i (CD l i)
 | 0,_=>⟨rfl,fun j z=>by omega,fun i hi=>absurd hi (by simp[CD]),Ahu _⟩
 | i+1,h=>Zh u (by omega) (Ra u hl i (by omega)) hl
def Yk (l:List Nd):List Nd:=(HO (CD l l.length).1 1000 (((CD l l.length).2[l.length-1]?).getD 0).toNat (List.replicate (CD l l.length).1.length 0,[])).1.2
open Go.Lib
theorem su1 {α:Type}(H M:List α)(a b x:α):AN (H++a::b::M) (H.length+1) x=some (H++a::x::M):=by
 rw[AB _ _ _ (by simp),Ot]
 rfl
theorem OA:∀(M c:List Int) (s:Nat) (m:Int),M.length=c.length->M[s]? = some m->(M.take s++c.drop s).set s m=M.take (s+1)++c.drop (s+1)
 | [],_,_,_,_,h=>by simp at h
 | a::M,[],_,_,h,_=>by simp at h
 | a::M,b::c,0,m,_,h=>by simp at h;subst h;simp
 | a::M,b::c,s+1,m,hl,h=>by
  have:=OA M c s m (by simpa using hl) (by simpa using h)
  simp only[List.take_succ_cons,List.drop_succ_cons,Aiq,List.set_cons_succ,this]
theorem OB:∀(M c:List Int) (s:Nat),M.length=c.length->(M.take s++c.drop s)[s]? = c[s]?
 | [],[],_,_=>by simp
 | [],_::_,_,h=>by simp at h
 | a::M,[],_,h=>by simp at h
 | a::M,b::c,0,_=>by simp
 | a::M,b::c,s+1,hl=>by
  have:=OB M c s (by simpa using hl)
  simpa using this
theorem VA (M c:List Int)(s:Nat)(h:M.length=c.length):(M.take s++c.drop s).length=c.length:=by
 rw[AhF,AhH,Aie]
 omega
theorem Agg (l:V)(o:V)(hl:Az l=true)(u:Az o=true)(H:Hp):Gives G 219 [l,o] H o H:=by
 refine .of_ret (Bh mono rfl rfl rfl (by simp[hl,u]) rfl ?_)
 simp (maxSteps:=2000000) (disch:=omega) [Al u,u]
variable {c:List (Int×Int)}
theorem AdA {z:I}(U:IsSl z (Au c))(u:c≠[])(Z:c.length<=1000000)(H:Hp):Gives G 241 [.m z] H (.sl H.length c.length 2 0 c.length false) (H++[.cs 64 2 (Bn (Au c)) 0 false]):=by
 have Q:(Au c).length=c.length:=by simp[Au]
 rcases U with rfl|⟨rfl,W⟩
 ·have E:elems H (.m (.sl (Au c)))=some (Bn (Au c)):=rfl
  have J:FF 4 (.m (.sl (Au c)))=some false:=rfl
  refine .of_ret (Bh mono rfl rfl rfl rfl rfl ?_)
  have Y:∀B,An (fun _ _ _=>none) ⟨B,H⟩ (.app 64 2 16) [.ls [],.m (.sl (Au c))]=some (.sl H.length c.length 2 0 c.length false,⟨B,H++[.cs 64 2 (Bn (Au c)) 0 false]⟩):=fun B=>by
   rw[Cn E]
   obtain⟨x,t,rfl⟩:=AiV u
   show Bs ⟨B,H⟩ 64 2 16 (Bn (Au (x::t)))=_
   have N:((Bn (Au (x::t))).all fun e=>Nat.beq e.length 2&&e.all BL)=true:=by
    rw[AhE]
    intro e E
    unfold Bn Au at E
    rw[Aiy]at E
    obtain⟨q,_,rfl⟩:=AhP.1 E
    rfl
   rw[CI,N,immS_len,Q]
   have:Nat.ble ((x::t).length*16) 140737488355328=true:=by rw[Bg];exact AhA (by omega)
   rw[this]
   rfl
  simp[J,-DB,Y]
 ·exact absurd (by simpa[Au]using W) u
structure RebQ (H:Hp)(l:List Nd)(i:Nat)(eb:LT)(ob tv:V)(Hi:Hp):Prop where
 bld:BldQ (H.length+1) H.length eb ob Hi
 lr:LR 3 (iI (CD l i).2) tv Hi HT
 eq:eb.map dNd=(CD l i).1
 len:H.length+2<=Hi.length
 old:∀r,r<H.length->nth Hi r=nth H r
 ro:∀r,AG ob=some r->H.length<=r
 rt:∀r,AG tv=some r->H.length<=r
variable {es:LT} {H:Hp}
set_option maxHeartbeats 4000000 in
theorem UP {n:I}(hn:IsSl n es)(hv:Li es)(u:OkR (es.map dNd))(hl:es.length<=1000000)(h1:1<=es.length){S:Int}{hd:I}(hh:IsSl hd (Au c))(hcn:c≠[])(hcl:c.length<=1000)(Q:V->Hp->Prop) 
  (hQ:∀rh eo oo H',nth H' rh=some (.cs 64 2 (Bn (Au c)) 0 false)->L2 eo oo H'->Li eo->eo.map dNd=Yk (es.map dNd)->H.length<=H'.length->(∀r,r<H.length->nth H' r=nth H r)->H.length<=rh->(∀r,AG oo=some r->H.length<=r)->Q (.ag [J0 S,.sl rh c.length 2 0 c.length false,oo]) H') :
  Ret G 218 [.m (.ag [J4 S,hd,n]),.m (.fn 219 [])] H Q:=by
 have hlm:(es.map dNd).length=es.length:=AhD ..
 have rn:=hn.rules
 refine Bh mono rfl rfl rfl rfl rfl ?_
 have w1:∀x y z w:V,BQ 2 [[x,y]] 0 0 [z,w]=some [[z,w]]:=fun _ _ _ _=>rfl
 have am:∀r,BF [V.mp r]=none:=fun _=>rfl
 have cva:∀l,AA (.ag l)=some l:=fun _=>rfl
 have omp:∀r,BL (.mp r)=true:=fun _=>rfl
 have onl:BL (.m (.nl 4))=true:=rfl
 simp (maxSteps:=2000000) (disch:=omega) [Ab,rn,nu1,su1,w1,am,cva,omp,onl]
 refine(?key:∀(i:Nat) (eb:LT) (ob tv:V) (B:LE) (J:Hp),i<=es.length->getB B 2=some [J0 S,.m hd,.m n]->getB B 4=some [J0 0,.m (.nl 4),.m (.nl 4)]->RebQ H (es.map dNd) i eb ob tv J ->
  Run G c218_B1 (S218_1 (.m (.fn 219 [])) (.fa 2 0) (.fa 4 0) (.pt (H.length+1) 1 0 0) tv (.m n) (.m (.i .i64 (es.length:Int))) (.m (.i .i64 (i:Int))) B J) _) 0 [] (.m (.nl 4)) (.m (.nl 4)) _ _ (Ahy _) rfl rfl ⟨⟨⟨1,Ahu _,nu1 ..⟩,AC ..,.inl ⟨rfl,rfl⟩,fun e h=>by simp at h⟩,.inl ⟨rfl,rfl⟩,rfl,by simp,fun r u=>BH _ _ _ u,fun r h=>(by cases h),fun r h=>(by cases h)⟩
 refine Bj (fun i:Nat=>es.length-i) fun i ih eb ob tv B J hi a0 a1 hq=>?_
 have U:=Ra u (by omega) i (by omega)
 obtain⟨E,a2,a3,hlen,hold,hro,hrt⟩:=id hq
 have htn:=a2.nf
 unfold c218_B1
 by_cases hie:i<es.length
 ·have a5:(i:Int)<es.length:=by omega
  obtain⟨e,he⟩:∃e,es[i]? = some e:=⟨es[i],Ahr hie⟩
  obtain⟨x,z,rfl,hz⟩:=hv e (Ahw he)
  have hnd:ndU (es.map dNd) i=(x,dIn z):=by
   unfold ndU
   rw[AhN,he]
   rfl
  obtain⟨q1,q2,q3,q4,q5,q6⟩:=u i (by omega)
  have hmo:=VB u (by omega) U (by omega)
  have hfo:CD (es.map dNd) (i+1)=stepR (CD (es.map dNd) i) (ndU (es.map dNd) i):=rfl
  rw[hnd]at q1 q2 q3 q4 q5 q6 hmo hfo
  simp only at q1 q2 q3 q4 q5 q6 hmo
  generalize hc:dIn z=cc at *
  have gc:=We hz q3 (by omega) J
  have hne:nth es i=some [J4 x,z]:=by rw[AL];exact he
  have oz:=Cx hz
  simp (maxSteps:=2000000) (disch:=omega) [Ab,a5,rn,hne,cl gc,oz]
  have a4:(OF (CD (es.map dNd) i).2 (x,cc)).length=cc.length:=KW _ _
  generalize hM:OF (CD (es.map dNd) i).2 (x,cc)=M at a4 hmo
  refine(?key2:∀(s:Nat) (B:LE) (b:Nat),s<=cc.length->b<=cc.length->getB B 2=some [J0 S,.m hd,.m n]->getB B 4=some [J0 0,.m (.nl 4),.m (.nl 4)]->getB B 8=some [J0 x,.m z] ->
   Run G c218_B0 (S218_0 (.m (.fn 219 [])) (.fa 2 0) (.fa 4 0) (.pt (H.length+1) 1 0 0) tv (.fa 8 0) (.sl J.length cc.length 1 0 cc.length false) (.m n) (J0 (es.length:Int)) (J0 (i:Int)) (.sl J.length cc.length 1 0 cc.length false) (J0 (cc.length:Int)) (J0 (s:Int)) B (J++[.cs 3 1 (onV (iI (M.take s++cc.drop s))) b false])) _) 0 _ 0 (Ahy _) (Ahy _) (by rw[AM];simpa using a0) (by rw[AM];simpa using a1) (by rw[AM];simp)
  refine Bj (fun s:Nat=>cc.length-s) fun s ihs B b hs hb a0 a1 a6=>?_
  unfold c218_B0
  have hdl:=VA M cc s a4
  by_cases hsc:s<cc.length
  ·have Z:(s:Int)<cc.length:=by omega
   obtain⟨kd,hkd⟩:∃kd,cc[s]? = some kd:=⟨cc[s],Ahr hsc⟩
   have hgd:=OB M cc s a4
   rw[hkd]at hgd
   have hn2:=Ci (Dt hgd)
   have wi:=J1 s (by omega)
   obtain⟨m,hm⟩:∃m,M[s]? = some m:=⟨M[s]'(by omega),Ahr (by omega)⟩
   have hset:=OA M cc s m a4 hm
   by_cases a7:1<x
   ·obtain⟨s1,s2,s3⟩:=q6 a7 kd (Ahw hkd)
    obtain⟨kn,rfl⟩:=AhK s1
    have s2:kn<i:=s2
    obtain⟨m',y,c1,c2,c3⟩:=U.tv kn s2
    have N:m=(m':Int):=by
     have e:M[s]? = some (m':Int):=by
      rw[<-hM]
      unfold OF
      rw[Ahv a7,AhN,hkd]
      show some (((CD (es.map dNd) i).2[kn]?).getD 0)=_
      rw[c1]
      rfl
     rw[e]at hm
     exact(Aiw hm).symm
    subst N
    have hrd:=(a2.keepR (H':=J++[.cs 3 1 (onV (iI (M.take s++cc.drop s))) b false]) fun r _ u=>BH _ _ _ u).rd (Dt c1)
    obtain⟨p,p1,p2,p3⟩:=hrd
    have hst:AN (onV (iI (M.take s++cc.drop s))) s [J0 (m':Int)]=some (onV (iI (M.take (s+1)++cc.drop (s+1)))):=by rw[Eo (by rw[Dr,hdl];exact hsc),Hk,hset]
    have kk:=fun B=>ihs (s+1) (by omega) B cc.length (by omega) (Ahu _)
    simp (maxSteps:=2000000) (disch:=omega) [Ab,Z,AC,Av,hn2,hb,a7,a6,p1,p3,hst,hdl,wi]
    exact kk _ a0 a1 a6
   ·have N:m=kd:=by
     rw[<-hM]at hm
     unfold OF at hm
     rw[Aht a7,hkd]at hm
     exact(Aiw hm).symm
    subst N
    have hsame:M.take (s+1)++cc.drop (s+1)=M.take s++cc.drop s:=by
     rw[<-hset]
     apply List.ext_getElem?
     intro j
     by_cases e:s=j
     ·subst e
      rw[AiW (by rw[hdl];exact hsc),hgd]
     ·rw[Ait e]
    have kk:=fun B=>ihs (s+1) (by omega) B b (by omega) hb
    rw[hsame]at kk
    simp (maxSteps:=2000000) (disch:=omega) [Ab,Z,AC,hn2,hb,a7,a6,wi]
    exact kk _ a0 a1 a6
  ·have:s=cc.length:=by omega
   subst this
   have Z:¬(cc.length:Int)<cc.length:=by omega
   have hdM:M.take cc.length++cc.drop cc.length=M:=by rw[Aik,Ail,AhJ (by omega)]
   rw[hdM]
   generalize hHs:J++[.cs 3 1 (onV (iI M)) b false]=Hs
   have hrow:nth Hs J.length=some (.cs 3 1 (onV (iI M)) b false):=by rw[<-hHs];exact CQ J _ 0
   have Y:∀r,r<J.length->nth Hs r=nth J r:=fun r u=>by rw[<-hHs];exact BH _ _ _ u
   have hlenS:Hs.length=J.length+1:=by rw[<-hHs];simp
   have hIR:IR M (.sl J.length cc.length 1 0 cc.length false) Hs:=⟨J.length,b,false,by rw[a4],hrow,by omega⟩
   have gr:=Agg (J0 x) (.sl J.length cc.length 1 0 cc.length false) rfl rfl Hs
   have hbS:BldQ (H.length+1) H.length eb ob Hs:=E.keep Y
   simp (maxSteps:=2000000) (disch:=omega) [Z,a6,cl gr]
   rw[Ao]
   have hel:eb.length<=es.length:=by
    have h1:=AiO List.length a3
    have h2:=U.le
    rw[AhD]at h1
    omega
   refine Vq hbS hIR (by omega) hmo.1 (by omega) (by omega) _ fun eb2 ob2 H2 hb2 he2 hk2=>?_
   rw[a3]at he2 ⊢
   have hidl:(ES (CD (es.map dNd) i).1 (x,M)).2<=es.length:=by
    have h1:=Rf (CD (es.map dNd) i).1 (x,M)
    have h2:=(Ahq.1 h1).1
    have h3:=(Re (CD (es.map dNd) i).1 (x,M)).2
    have h4:=U.le
    omega
   have htr:LR 3 (iI (CD (es.map dNd) i).2) tv H2 HT:=a2.keepR fun r e u=>by
    have q:=a2.row e
    have W:=E.hb
    obtain⟨_,_,W⟩:=W
    have N:=E.hm
    rw[hk2.2.1 r (by omega) (fun e1=>by subst e1;rw[W]at q;simp at q) (fun e1=>by subst e1;rw[N]at q;simp[mpR]at q) (fun e1=>by have q2:=E.hn.row e1;rw[q2]at q;simp at q) (fun e1=>by cases e1;omega)]
    exact Y r u
   have htl:(iI (CD (es.map dNd) i).2).length<=10000000:=by rw[Dr,U.tl];omega
   obtain⟨tv2,H3,ga,gn,gl,gk⟩:=htr.pushN (b:=8) (by omega) (ys:=iI [((ES (CD (es.map dNd) i).1 (x,M)).2:Int)]) (by simp only[Dr,Aiu];rw[Dr]at htl;omega) (Vr _)
   have hys:onV (iI [((ES (CD (es.map dNd) i).1 (x,M)).2:Int)])=[[V.m (J4 ((ES (CD (es.map dNd) i).1 (x,M)).2:Int))]]:=rfl
   rw[hys]at ga
   rw[VJ]at gl
   have hfo2:CD (es.map dNd) (i+1)=((ES (CD (es.map dNd) i).1 (x,M)).1,(CD (es.map dNd) i).2++[((ES (CD (es.map dNd) i).1 (x,M)).2:Int)]):=by rw[hfo,<-hM];rfl
   have hl2:=hk2.1
   have a8:∀r,r<H2.length->(∀w,nth H2 r=some w -> ∀es b fz,w ≠ .cs 3 1 es b fz)->nth H3 r=nth H2 r:=fun r u hw=>gk.2.1 r u fun e=>by
    have q:=htr.row e
    exact hw _ q _ _ _ rfl
   have hb3:BldQ (H.length+1) H.length eb2 ob2 H3:=by
    obtain⟨⟨bb,hb0,W⟩,N,hnn,hok⟩:=id hb2
    exact⟨⟨bb,hb0,(a8 _ (AO W) fun w hw _ _ _ h=>by rw[W]at hw;cases hw;simp at h).trans W⟩,(a8 _ (AO N) fun w hw _ _ _ h=>by rw[N]at hw;cases hw;simp[mpR]at h).trans N,hnn.keep fun r e u=>a8 r u fun w hw _ _ _ h=>by
     have q:=hnn.row e
     rw[q]at hw;cases hw;simp at h,hok⟩
   have kk:=fun B=>ih (i+1) (by omega) eb2 ob2 tv2 B H3 (by omega)
   have wi:=J1 i (by omega)
   have kq:RebQ H (es.map dNd) (i+1) eb2 ob2 tv2 H3:=⟨hb3,by rw[hfo2];exact gl,by rw[hfo2];exact he2,by have:=gk.1;omega,fun r u=>by
     rw[gk.2.1 r (by omega) fun e=>by have:=hrt r e;omega]
     rw[hk2.2.1 r (by omega) (by omega) (by omega) (fun e=>by have:=hro r e;omega) (fun e=>by cases e;omega),Y r (by omega)]
     exact hold r u,fun r u=>by
     rcases hk2.2.2 r u with h|h
     ·exact hro r h
     ·omega,fun r u=>by
     rcases gk.2.2 r u with h|h
     ·exact hrt r h
     ·omega⟩
   simp (maxSteps:=2000000) (disch:=omega) [ga,Al gn,wi]
   exact kk _ a0 a1 kq
 ·have:i=es.length:=by omega
  subst this
  have a5:¬(es.length:Int)<es.length:=by omega
  obtain⟨bb,hb0,W⟩:=E.hb
  obtain⟨m,y,c1,c2,c3⟩:=U.tv (es.length-1) (by omega)
  obtain⟨p,p1,p2,p3⟩:=a2.rd (Dt c1)
  have hbl:eb.length=(CD (es.map dNd) es.length).1.length:=by rw[<-a3,AhD]
  have hml:m<eb.length:=by rw[hbl];exact(Ahq.1 c2).1
  have hel:eb.length<=es.length:=by rw[hbl];exact U.le
  have gp:=AdA hh hcn (by omega) J
  have wl:wr .i64 (((CD (es.map dNd) es.length).2.length:Int)-1)=((es.length-1:Nat):Int):=by rw[U.tl,Aa (by omega) (by omega)];omega
  have hno:=E.hn.nf
  rw[Dr]at htn
  simp (maxSteps:=2000000) (disch:=omega) [Ab,a5,a0,W,hb0,AcP,htn.2.2.2,wl,p1,p3,cl gp]
  rw[Ao]
  have hL:L2 eb ob (J++[.cs 64 2 (Bn (Au c)) 0 false]):=E.hn.keep fun r _ u=>BH _ _ _ u
  have hokN:OkN (eb.map dNd):=by rw[a3];exact U.ok
  have hlev:(ndU (eb.map dNd) m).1<=((1000:Nat):Int):=(hokN m (by rw[AhD];exact hml)).2.1
  refine MO (n:=1000) E.ok hokN (by omega) hL hml hlev _ fun eo oo H2 h2l h2n h2e h2len h2k h2r=>?_
  have hred:eo.map dNd=Yk (es.map dNd):=by
   rw[h2e]
   unfold Yk
   rw[hlm,c1,a3,hbl]
   rfl
  have hon:=h2l.nf
  have kk:=hQ J.length eo oo H2 (by rw[h2k _ (by simp)];exact CQ J _ 0) h2l h2n hred (by simp at h2len;omega) (fun r u=>by rw[h2k r (by simp;omega),BH _ _ _ (by omega)];exact hold r u) (by omega) fun r u=>by have:=h2r r u;simp at this;omega
  have ams:∀(a b c d e:Nat) (f:Bool) (l:List V),BF (.sl a b c d e f::l)=none:=fun _ _ _ _ _ _ _=>rfl
  have amm:∀(x:I) (l:List V),BF (.m x::l)=(BF l).bind fun r=>some (x::r):=fun _ _=>rfl
  have osl:∀(a b c d e:Nat) (f:Bool),BL (.sl a b c d e f)=true:=fun _ _ _ _ _ _=>rfl
  have oi:BL (J0 S)=true:=rfl
  simp (maxSteps:=2000000) (disch:=omega) [Ab,hon.2.1,hon.2.2.1,ams,amm,a1,cva,osl,oi]
  exact kk
variable {t:TreeC}
theorem Ea (h:AZ t=true):(2<=t.states/\t.states<=8)/\BP t.hood=true/\(1<=t.nodes.length/\t.nodes.length<=4096)/\levAt t.nodes (t.nodes.length-1)=t.hood.length /\ ∀(j:Nat) n,t.nodes[j]? = some n->Eu t j n=true:=by
 unfold AZ at h
 simp only[Ahs,AhC]at h
 exact⟨h.1,h.2.1,h.2.2.1,h.2.2.2.1,fun j n u=>by have:=GX t t.nodes 0 h.2.2.2.2 j n u;rwa[Air]at this⟩
theorem FL {l:List (Int×Int)}(h:BP l=true):1<=l.length/\l.length<=25:=by
 unfold BP at h
 simp only[Ahs,AhC]at h
 exact h.1
theorem VD (l:List Nd)(k:Int):levAt l k=(ndU l k.toNat).1:=by
 unfold levAt ndU
 cases l[k.toNat]? <;> rfl
theorem Agu (h:AZ t=true):OkR t.nodes:=fun i Z=>by
 obtain⟨⟨h1,h2⟩,h3,_,_,h5⟩:=Ea h
 have hh:=FL h3
 have Y:t.nodes[i]? = some (ndU t.nodes i):=by
  unfold ndU
  rw[Ahr Z]
  rfl
 have N:=h5 i _ Y
 unfold Eu at N
 simp only[Ahs,AhC,AhE]at N
 obtain⟨⟨a1,a2,U⟩,a4⟩:=N
 have u:∀k,k∈(ndU t.nodes i).2->0<=k /\ ¬((ndU t.nodes i).1=1/\t.states<=k) /\ ¬(1<(ndU t.nodes i).1/\((i:Int)<=k \/ ¬levAt t.nodes k=(ndU t.nodes i).1-1)):=fun k z=>by
  have:=a4 k z
  unfold Si at this
  simp only[AhC]at this
  exact⟨by omega,this.2.1,this.2.2⟩
 refine⟨a1,by omega,fun e=>by rw[e]at U;simp at U;omega,by omega,fun k z=>?_,fun E k z=>?_⟩
 ·obtain⟨Q,W,J⟩:=u k z
  refine⟨by omega,?_⟩
  by_cases E:(ndU t.nodes i).1=1
  ·have:¬t.states<=k:=fun e=>W ⟨E,e⟩
   omega
  ·have:¬(i:Int)<=k:=fun e=>J ⟨by omega,.inl e⟩
   omega
 ·obtain⟨Q,W,J⟩:=u k z
  have c1:¬(i:Int)<=k:=fun e=>J ⟨E,.inl e⟩
  have c2:levAt t.nodes k=(ndU t.nodes i).1-1:=Aiv fun e=>J ⟨E,.inr e⟩
  rw[VD]at c2
  exact⟨Q,by omega,by omega⟩
theorem Adl (h:Rg es):Li es:=fun e u=>by
 obtain⟨x,z,J,E,_⟩:=h e u
 exact⟨x,z,J,E⟩
theorem Add (k:Nat)(H:Hp):∀es:LT,Ah (fun e=>Ah (view (k+1) H) e) (Bn es)=some es
 | []=>rfl
 | e::r=>by
  show Option.bind (Ah (view (k+1) H) (e.map .m)) _=_
  have h:∀x:List I,Ah (view (k+1) H) (x.map .m)=some x:=fun x=>by
   induction x with
   | nil=>rfl
   | cons a t u =>
    show Option.bind (view (k+1) H (.m a)) _=_
    have:view (k+1) H (.m a)=some a:=rfl
    rw[this,Ahz,u]
    rfl
  rw[h,Ahz]
  show Option.bind (Ah _ (Bn r)) _=_
  rw[Add k H r]
  rfl
theorem L2.view {o:V}(h:L2 es o H)(u:es≠[])(k:Nat):Mx.view (k+2) H o=some (.sl es):=by
 have z:=h.elems
 rcases h with ⟨rfl,rfl⟩|⟨_,r,rfl,E⟩
 ·exact absurd rfl u
 ·show Option.bind (Mx.elems H (.sl r es.length 2 0 es.length false)) _=_
  rw[z]
  show Option.bind (Ah (fun e=>Ah (Mx.view (k+1) H) e) (Bn es)) _=_
  rw[Add]
  rfl
set_option maxHeartbeats 4000000 in
theorem KM {h n:I}(u:TreeV t h n es)(N:∀H,Gives G 46 [.m (.ag [J4 t.states,h,n])] H (.m (.b (AZ t))) H)(Q:V->Hp->Prop) 
  (hQ:AZ t=true -> ∀J z E H',nth H' J=some (.cs 64 2 (Bn (Au t.hood)) 0 false)->L2 z E H'->Li z->z.map dNd=Yk t.nodes->H.length<=H'.length->(∀r,r<H.length->nth H' r=nth H r)->H.length<=J->(∀r,AG E=some r->H.length<=r)->Q (.ag [J0 t.states,.sl J t.hood.length 2 0 t.hood.length false,E]) H')
  (h0:AZ t=false->Q (.m (.ag [J4 0,.nl 4,.nl 4])) H):Ret G 183 [.m (.ag [J4 t.states,h,n])] H Q:=by
 refine Bh mono rfl rfl rfl rfl rfl ?_
 have oi:∀x:Int,BL (J0 x)=true:=fun _=>rfl
 have W:BL (.m (.nl 4))=true:=rfl
 cases hok:AZ t with
 | false =>
  rw[hok]at N
  have U:=h0 hok
  simp (maxSteps:=2000000) (disch:=omega) [Ab,cl (N _),BF,oi,W]
  exact U
 | true =>
  rw[hok]at N
  obtain⟨_,h3,⟨h4,h4'⟩,_,_⟩:=Ea hok
  have hh:=FL h3
  have hl:=CN u
  simp (maxSteps:=2000000) (disch:=omega) [cl (N _),BF]
  rw[Ao]
  have a2:t.hood≠[]:=fun e=>by rw[e]at hh;simp at hh
  have hr:=Agu hok
  rw[u.eq]at hr
  refine UP u.nd (Adl u.ok) hr (by omega) (by omega) u.hd a2 (by omega) _ fun J z E H' k1 k2 k3 k4 k5 k6 k7 k8=>?_
  have U:=hQ hok J z E H' k1 k2 k3 (by rw[k4,u.eq]) k5 k6 k7 k8
  have a0:=k2.nf
  have Y:∀l,AA (.ag l)=some l:=fun _=>rfl
  have a3:∀(a b c d e:Nat) (f:Bool),BL (.sl a b c d e f)=true:=fun _ _ _ _ _ _=>rfl
  have a1:∀(a b c d e:Nat) (f:Bool) (l:List V),BF (.sl a b c d e f::l)=none:=fun _ _ _ _ _ _ _=>rfl
  have Z:∀(x:I) (l:List V),BF (.m x::l)=(BF l).bind fun r=>some (x::r):=fun _ _=>rfl
  simp (maxSteps:=2000000) (disch:=omega) [Ab,Y,a3,oi,a0.2.2.1,a1,Z]
  exact U
def atZ (l:List Int)(k:Int):Option Int:=match k with
 | .ofNat n=>nth l n
 | .negSucc _=>none
def ndZ (l:List Nd)(k:Int):Option Nd:=match k with
 | .ofNat n=>nth l n
 | .negSucc _=>none
def AdC (k:Int):Bool:=leI (-1000000000) k&&leI k 1000000000
def innZ (ns:List Nd)(to:List Int)(up:Int)(s:Nat)(o:Int):Option Int:=(ndZ ns o).bind fun y=>(nth y.2 s).bind fun w=>match ltI 2 up with
 | true=>atZ to w
 | false=>some w
def swEl (ns:List Nd)(to:List Int)(up:Int)(x:Nd)(bl:List Nd)(s:Nat)(kid:Int):Option (List Nd×Int):=match eqI x.1 up with
 | true=>(Ah (innZ ns to up s) x.2).bind fun inn=>gd (inn.all AdC&&Nat.ble bl.length 100000) (some ((ES bl (up-1,inn)).1,(((ES bl (up-1,inn)).2:Nat):Int)))
 | false=>match ltI 1 x.1 with
  | true=>(atZ to kid).bind fun w=>some (bl,w)
  | false=>some (bl,kid)
def Qb (ns:List Nd)(to:List Int)(up:Int)(x:Nd):List Nd->Nat->List Int->List Int->Option (List Nd×List Int)
 | bl,_,[],acc=>some (bl,acc)
 | bl,s,kid::r,acc=>(swEl ns to up x bl s kid).bind fun p=>Qb ns to up x p.1 (s+1) r (acc++[p.2])
def MF (ns:List Nd)(up:Int)(k:Nat)(x:Nd)(bl:List Nd)(to:List Int):Option (List Nd×List Int):=match eqI x.1 (up-1) with
 | true=>some (bl,to)
 | false=>(Qb ns to up x bl 0 x.2 []).bind fun p=>gd (p.2.all AdC&&Nat.ble p.1.length 100000) (some ((ES p.1 (x.1,p.2)).1,to.set k (((ES p.1 (x.1,p.2)).2:Nat):Int)))
def RU (ns:List Nd)(up:Int):Nat->List Nd->List Nd->List Int->Option (List Nd×List Int)
 | _,[],bl,to=>some (bl,to)
 | k,x::r,bl,to=>(MF ns up k x bl to).bind fun p=>RU ns up (k+1) r p.1 p.2
def shpZ (S:Nat)(ns:List Nd):Bool:=ns.all fun x=>Nat.beq x.2.length S&&(leI 0 x.1&&leI x.1 1000&&x.2.all AdC)
variable {k:Int}
theorem Rd {l:List Int}{v:Int}(h:atZ l k=some v):∃n:Nat,k=(n:Int)/\l[n]? = some v:=by
 cases k with
 | ofNat n=>exact⟨n,rfl,by rw[<-AL];exact h⟩
 | negSucc n=>cases h
theorem Qv {v:Nd}(h:ndZ l k=some v):∃n:Nat,k=(n:Int)/\l[n]? = some v:=by
 cases k with
 | ofNat n=>exact⟨n,rfl,by rw[<-AL];exact h⟩
 | negSucc n=>cases h
theorem Aag {d:Nat}{p:V}(h:Az p=true):nf1 d p=true:=by
 cases p with
 | fa k o=>cases h
 | _=>rfl
theorem HR:AdC k=true ↔ -1000000000<=k/\k<=1000000000:=by
 unfold AdC
 rw[Ahs,Hf,Hf]
 simp
theorem optMap_get {α β:Type}{f:α->Option β}:∀ {l:List α} {m:List β},Ah f l=some m->m.length=l.length /\ ∀(i:Nat) a,l[i]? = some a -> ∃b,m[i]? = some b/\f a=some b
 | [],m,h=>by
  cases h
  exact⟨rfl,fun i a h=>by simp at h⟩
 | x::r,m,h=>by
  simp only[Ah,Ahn,Aho]at h
  obtain⟨y,E,t,z,rfl⟩:=h
  obtain⟨N,J⟩:=optMap_get z
  refine⟨by simp[N],fun i a u=>?_⟩
  cases i with
  | zero=>simp at u;subst u;exact⟨y,by simp,E⟩
  | succ i=>simpa using J i a (by simpa using u)
structure SwQ (H:Hp)(es:LT)(nv:V)(to:List Int)(eb:LT)(ob:V)(Hi:Hp):Prop where
 bld:BldQ (H.length+1) H.length eb ob Hi
 tor:∃b,b<=es.length/\nth Hi (H.length+2)=some (.cs 3 1 (onV (iI to)) b false)
 tl:to.length=es.length
 nd:L2 es nv Hi
 nr:∀r,AG nv=some r->r<H.length
 len:H.length+3<=Hi.length
 old:∀r,r<H.length->nth Hi r=nth H r
 ro:∀r,AG ob=some r->H.length+3<=r
variable {nv:V} {to:List Int}
theorem SwQ.keep {eb:LT}{U:V}{E H':Hp}(h:SwQ H es nv to eb U E)(hl:E.length<=H'.length)(u:∀r,r<E.length->(r<H.length+3\/AG U=some r)->nth H' r=nth E r):SwQ H es nv to eb U H':=by
 obtain⟨⟨⟨b,J,W⟩,Z,hn,ok⟩,⟨bt,N,Y⟩,tl,nd,nr,len,Q,ro⟩:=h
 exact⟨⟨⟨b,J,by rw[u _ (AO W) (.inl (by omega))];exact W⟩,by rw[u _ (AO Z) (.inl (by omega))];exact Z,hn.keep fun r e z=>u r z (.inr e),ok⟩,⟨bt,N,by rw[u _ (AO Y) (.inl (by omega))];exact Y⟩,tl,nd.keep fun r e z=>u r z (.inl (by have:=nr r e;omega)),nr,by omega,fun r z=>by rw[u r (by omega) (.inl (by omega))];exact Q r z,ro⟩
theorem SwQ.node {eb:LT}{W:V}{Q E:Hp}(h:SwQ H es nv to eb W Q){z:LT}{u Z:V}(hb:BldQ (H.length+1) H.length z u E)(hk:KpB (H.length+1) H.length W Q u E Z)(hx:∀r,AG Z=some r->H.length+3<=r):SwQ H es nv to z u E:=by
 obtain⟨_,⟨bt,J,ht⟩,tl,nd,nr,len,N,Y⟩:=h
 obtain⟨k1,k2,k3⟩:=hk
 have U:∀r,r<H.length+3->r≠H.length+1->r≠H.length->nth E r=nth Q r:=fun r h1 h2 h3=>k2 r (by omega) h2 h3 (fun e=>by have:=Y r e;omega) fun e=>by have:=hx r e;omega
 exact⟨hb,⟨bt,J,(U _ (by omega) (by omega) (by omega)).trans ht⟩,tl,nd.keep fun r e _=>by have:=nr r e;exact U r (by omega) (by omega) (by omega),nr,by omega,fun r h=>(U r (by omega) (by omega) (by omega)).trans (N r h),fun r e=>by
  rcases k3 r e with h|h
  ·exact Y r h
  ·omega⟩
set_option maxHeartbeats 8000000 in
theorem Uv {S:Nat}(hv:Li es)(hnv:L2 es nv H)(hS:1<=S/\S<=20)(hsh:shpZ S (es.map dNd)=true)(hl:1<=es.length/\es.length<=100000){rh n:Nat}(hi:i<n/\n<=1000){bl:List Nd}(hsw:RU (es.map dNd) ((n:Int)-i) 0 (es.map dNd) [] (List.replicate es.length 0)=some (bl,to)) 
  (hbl:OkN bl) (hbn:bl.length<=1000000) {m:Nat} (hm:to[es.length-1]? = some (m:Int)) (hmb:m<bl.length) (Q:V->Hp->Prop)
  (hQ:∀eo oo H',L2 eo oo H'->Li eo->eo.map dNd=(HO bl 1000 m (List.replicate bl.length 0,[])).1.2->H.length<=H'.length->(∀r,r<H.length->nth H' r=nth H r)->(∀r,AG oo=some r->H.length<=r)->Q (.ag [J0 S,.sl rh n 2 0 n false,oo]) H') :
  Ret G 184 [.ag [J0 S,.sl rh n 2 0 n false,nv],J0 i] H Q:=by
 have hon:=hnv.nf
 have am:∀r,BF [V.mp r]=none:=fun _=>rfl
 have cva:∀l,AA (.ag l)=some l:=fun _=>rfl
 have omp:∀r,BL (.mp r)=true:=fun _=>rfl
 have onl:BL (.m (.nl 4))=true:=rfl
 have w1:∀x y z w:V,BQ 2 [[x,y]] 0 0 [z,w]=some [[z,w]]:=fun _ _ _ _=>rfl
 have nfa:Az (.ag [J0 S,.sl rh n 2 0 n false,nv])=true:=rfl
 have wu:=J2 ((n:Int)-i) (by omega)
 have hb1:es.length*8<=281474976710656:=by omega
 refine Bh mono rfl rfl rfl rfl rfl ?_
 simp (maxSteps:=2000000) (disch:=omega) [Ac,Ab,cva,nu1,su1,w1,am,omp,onl,wu,hon.2.2.2,Al hon.1,hb1]
 have hrep:=VI es.length
 rw[hrep]
 refine(?key:∀(k:Nat) (E:List Int) (eb:LT) (ob:V) (B:LE) (Hi:Hp),k<=es.length->getB B 2=some [J0 S,.sl rh n 2 0 n false,nv]->getB B 4=some [J0 0,.m (.nl 4),.m (.nl 4)]->SwQ H es nv E eb ob Hi ->
  RU (es.map dNd) ((n:Int)-i) k ((es.map dNd).drop k) (eb.map dNd) E=some (bl,to) ->
  Run G c184_B2 (S184_2 (.fa 2 0) (.fa 4 0) (.m (.i .i64 ((n:Int)-i))) (.pt (H.length+1) 1 0 0) (.sl (H.length+2) es.length 1 0 es.length true) nv (.m (.i .i64 (es.length:Int))) (.m (.i .i64 (k:Int))) B Hi) _) 0 _ [] (.m (.nl 4)) _ _ (Ahy _) rfl rfl ⟨⟨⟨1,Ahu _,nu1 ..⟩,AC ..,.inl ⟨rfl,rfl⟩,fun e h=>(by simp at h)⟩,⟨0,Ahy _,nu2 ..⟩,by simp,hnv.keep fun r _ hr=>BH _ _ _ hr,fun r e=>hnv.row_lt e,by simp,fun r hr=>BH _ _ _ hr,fun r h=>(by cases h)⟩ hsw
 have hup:((n:Int)-i)<=1000/\1<=(n:Int)-i:=by omega
 generalize (n:Int)-i=up at hsw hup ⊢
 refine Bj (fun k:Nat=>es.length-k) fun k ih E eb ob B Hi hk J W hq hR=>?_
 unfold c184_B2
 by_cases hke:k<es.length
 ·have hke':(k:Int)<es.length:=by omega
  obtain⟨e,he⟩:∃e,es[k]? = some e:=⟨es[k],Ahr hke⟩
  obtain⟨x,z,rfl,hz⟩:=hv e (Ahw he)
  have hdr:(es.map dNd).drop k=(x,dIn z)::(es.map dNd).drop (k+1):=by
   have e1:(es.map dNd)[k]? = some (x,dIn z):=by rw[AhN,he];rfl
   obtain⟨hlt,e2⟩:=Ahq.1 e1
   rw[AiM hlt,e2]
  have hx:=AhE.1 hsh (x,dIn z) (by
   rw[AhP]
   exact⟨_,Ahw he,rfl⟩)
  simp only[Ahs,Hf,AhC]at hx
  obtain⟨x1,⟨x2,x3⟩,x4⟩:=hx
  have x1:(dIn z).length=S:=AhI x1
  generalize hc:dIn z=cc at *
  rw[hdr]at hR
  have hR:(MF (es.map dNd) up k (x,cc) (eb.map dNd) E).bind (fun p=>RU (es.map dNd) up (k+1) ((es.map dNd).drop (k+1)) p.1 p.2)=some (bl,to):=hR
  obtain⟨p,pq,p1,p2,p3,⟨p0,p4,p5,p6⟩,p7,p8,p9⟩:=hq.nd.rd he
  have oz:=Cx hz
  have wu1:=J2 (up-1) (by omega)
  have wk:=J1 k (by omega)
  by_cases hx1:x=up-1
  ·have hs:MF (es.map dNd) up k (x,cc) (eb.map dNd) E=some (eb.map dNd,E):=by
    unfold MF
    rw[DY,hx1]
    simp
   rw[hs]at hR
   have kk:=fun B=>ih (k+1) (by omega) E eb ob B Hi (by omega)
   simp (maxSteps:=2000000) (disch:=omega) [Ab,hke',p1,Aag p2,p3,oz,wu1,hx1,wk]
   exact kk _ (by rw[AM];simpa using J) (by rw[AM];simpa using W) hq hR
  ·have hxe:eqI x (up-1)=false:=by rw[DY];simpa using hx1
   unfold MF at hR
   simp only[hxe]at hR
   have hSb:S*8<=281474976710656:=by omega
   have rz:=hz.rules
   simp (maxSteps:=2000000) (disch:=omega) [Ac,Ab,hke',p1,Aag p2,p3,oz,J,wu1,hx1,hSb,rz,x1,Bp]
   have hrS:=VI S
   rw[hrS]
   obtain⟨pr,hpr,hR⟩:=Ahn.1 hR
   simp only[Ahn,Ag,Ahs,Aho]at hpr
   obtain⟨qr,hkd,⟨hqb,hql⟩,hpr⟩:=hpr
   have hqb:∀k,k∈qr.2 -> -1000000000<=k/\k<=1000000000:=fun k hk=>HR.1 (AhE.1 hqb k hk)
   have hql:qr.1.length<=100000:=AiK hql
   refine(?key1:∀(s:Nat) (acc:List Int) (N:LT) (ob1:V) (B:LE) (b:Nat) (Z:Hp),s<=S->acc.length=s->b<=S->getB B 2=some [J0 S,.sl rh n 2 0 n false,nv]->getB B 4=some [J0 0,.m (.nl 4),.m (.nl 4)]->getB B 9=some [J0 x,.m z]->SwQ H es nv E N ob1 Z ->
    nth Z Hi.length=some (.cs 3 1 (onV (iI (acc++List.replicate (S-s) 0))) b false)->Qb (es.map dNd) E up (x,cc) (N.map dNd) s (cc.drop s) acc=some qr ->
    Run G c184_B1 (S184_1 (.fa 2 0) (.fa 4 0) (J0 up) (.pt (H.length+1) 1 0 0) (.sl (H.length+2) es.length 1 0 es.length true) (J0 (k:Int)) (.fa 9 0) (.sl Hi.length S 1 0 S true) nv (J0 (es.length:Int)) (J0 (k:Int)) (.m z) (J0 (S:Int)) (J0 (s:Int)) B Z) _) 0 [] eb ob _ 0 _ (Ahy _) rfl (Ahy _) (by rw[AM];simpa using J) (by rw[AM];simpa using W) (by rw[AM];simp) (hq.keep (by simp) fun r hr _=>BH _ _ _ hr) (CQ Hi _ 0) hkd
   clear J W p3 p5 p6 p9 p8 p2 p1 p4 p7 pq p0 p B
   refine Bj (fun s:Nat=>S-s) fun s ihs acc N ob1 B b Z hs hac hb J W a0 hq1 Y hR1=>?_
   unfold c184_B1
   have hHi:=hq.len
   have hgt:Hi.length<Z.length:=AO Y
   have hob1:∀r,AG ob1=some r->r≠Hi.length:=fun r e1 e2=>by
    subst e2
    have q:=hq1.bld.hn.row e1
    rw[Y]at q
    simp at q
   by_cases hsS:s<S
   ·have hsS':(s:Int)<S:=by omega
    obtain⟨kd,hkd2⟩:∃kd,cc[s]? = some kd:=⟨cc[s]'(by omega),Ahr (by omega)⟩
    have hcd:cc.drop s=kd::cc.drop (s+1):=by
     rw[AiM (by omega)]
     have:=(Ahq.1 hkd2).2
     rw[this]
    rw[hcd]at hR1
    have hR1:(swEl (es.map dNd) E up (x,cc) (N.map dNd) s kd).bind (fun p=>Qb (es.map dNd) E up (x,cc) p.1 (s+1) (cc.drop (s+1)) (acc++[p.2]))=some qr:=hR1
    obtain⟨pe,U,hR1⟩:=Ahn.1 hR1
    have hkn:nth (BR cc) s=some [J4 kd]:=by rw[AL];simp[BR,hkd2]
    have ws:=J1 s (by omega)
    have hal:(acc++List.replicate (S-s) 0).length=S:=by rw[AhF,List.length_replicate];omega
    have hset:∀v:Int,AN (onV (iI (acc++List.replicate (S-s) 0))) s [J0 v]=some (onV (iI (acc++v::List.replicate (S-(s+1)) 0))):=fun v=>by
     rw[Eo (by rw[Dr,hal];exact hsS),Hk]
     congr 3
     rw[AiP _ _ (by omega),hac,Nat.sub_self,show S-s=(S-(s+1))+1 by omega,List.replicate_succ]
     simp
    have hn0:nth (onV (iI (acc++List.replicate (S-s) 0))) s=some [J0 0]:=Ci (Dt (by
     rw[AhZ (by omega),hac,Nat.sub_self,List.getElem?_replicate,Ahv (by omega)]))
    have hkk:∀(v:Int) (eb2:LT) (ob2:V) (B:LE) (H2:Hp),getB B 2=some [J0 S,.sl rh n 2 0 n false,nv]->getB B 4=some [J0 0,.m (.nl 4),.m (.nl 4)]->getB B 9=some [J0 x,.m z]->SwQ H es nv E eb2 ob2 H2->pe=(eb2.map dNd,v)->(∃b,nth H2 Hi.length=some (.cs 3 1 (onV (iI (acc++List.replicate (S-s) 0))) b false))->(∀r,AG ob2=some r->r≠Hi.length)->_:=fun v eb2 ob2 B H2 h2 h4 h9 hq2 U ⟨b2,hrow2⟩ hob2=>ihs (s+1) (by omega) (acc++[v]) eb2 ob2 B S (H2.set Hi.length (.cs 3 1 (onV (iI (acc++v::List.replicate (S-(s+1)) 0))) S false)) (by omega) (by simp[hac]) (Ahu _) h2 h4 h9 (hq2.keep (by simp) fun r hr h=>AF fun e=>by
      subst e
      rcases h with h|h
      ·omega
      ·exact hob2 _ h rfl) (by rw[AiB];exact Bc (AO hrow2)) (by rw[U]at hR1;exact hR1)
    by_cases hxu:x=up
    ·have hxf:eqI x up=true:=by rw[DY];simpa using hxu
     unfold swEl at U
     simp only[hxf,Ahn,Ag,Ahs,Aho]at U
     obtain⟨u,hinn,⟨hib,hie⟩,U⟩:=U
     have hib:∀k,k∈u -> -1000000000<=k/\k<=1000000000:=fun k hk=>HR.1 (AhE.1 hib k hk)
     have hie:(N.map dNd).length<=100000:=AiK hie
     rw[AhD]at hie
     obtain⟨hil,hig⟩:=optMap_get hinn
     have hzl:(List.replicate S (0:Int)).length=S:=by simp
     have hSb2:S*8<=281474976710656:=by omega
     simp (maxSteps:=2000000) (disch:=omega) [Ac,Ab,hsS',rz,x1,hkn,a0,hxu,J,Bp,hSb2]
     rw[hrS]
     refine(?key0:∀(r:Nat) (B:LE) (b0:Nat),r<=S->b0<=S->getB B 2=some [J0 S,.sl rh n 2 0 n false,nv]->getB B 4=some [J0 0,.m (.nl 4),.m (.nl 4)]->getB B 9=some [J0 x,.m z] ->
      Run G c184_B0 (S184_0 (.fa 2 0) (.fa 4 0) (J0 up) (.pt (H.length+1) 1 0 0) (.sl (H.length+2) es.length 1 0 es.length true) (J0 (k:Int)) (.fa 9 0) (.sl Hi.length S 1 0 S true) (J0 (s:Int)) (.sl Z.length S 1 0 S true) nv (J0 (es.length:Int)) (J0 (k:Int)) (.m z) (J0 (S:Int)) (J0 (s:Int)) (.m z) (J0 (S:Int)) (J0 (r:Int)) B (Z++[.cs 3 1 (onV (iI (u.take r++List.replicate (S-r) 0))) b0 false])) _) 0 B 0 (Ahy _) (Ahy _) J W a0
     clear J W a0 B
     refine Bj (fun r:Nat=>S-r) fun r ihr B b0 hr hb0 J W a0=>?_
     unfold c184_B0
     have hml:=VA u (List.replicate S 0) r (by rw[hil,hzl,x1])
     rw[hzl,List.drop_replicate]at hml
     have hqr:SwQ H es nv E N ob1 (Z++[.cs 3 1 (onV (iI (u.take r++List.replicate (S-r) 0))) b0 false]):=hq1.keep (by simp) fun q hq _=>BH _ _ _ hq
     have hq1l:=hq1.len
     by_cases hrS2:r<S
     ·have hrS2':(r:Int)<S:=by omega
      obtain⟨oth,hoth⟩:∃oth,cc[r]? = some oth:=⟨cc[r]'(by omega),Ahr (by omega)⟩
      obtain⟨iv,hiv,hin⟩:=hig r oth hoth
      unfold innZ at hin
      simp only[Ahn]at hin
      obtain⟨y,hy,w,hw,hin⟩:=hin
      obtain⟨on,rfl,hy1⟩:=Qv hy
      rw[AhN]at hy1
      obtain⟨ey,hey,hy2⟩:=AhW.1 hy1
      clear hy hy1
      obtain⟨yl,zy,rfl,hzy⟩:=hv ey (Ahw hey)
      have hyy:y=(yl,dIn zy):=hy2.symm
      subst hyy
      have hyl:(dIn zy).length=S:=by
       have:=AhE.1 hsh (yl,dIn zy) (by rw[AhP];exact⟨_,Ahw hey,rfl⟩)
       simp only[Ahs]at this
       exact AhI this.1
      have hwn:nth (BR (dIn zy)) s=some [J4 w]:=by
       rw[AL]at hw ⊢
       simp only at hw
       simp[BR,hw]
      have rzy:=hzy.rules
      have hon2:nth (BR cc) r=some [J4 (on:Int)]:=by rw[AL];simp[BR,hoth]
      obtain⟨p,q,p1,p2,p3,_,p7,p8,p9⟩:=hqr.nd.rd hey
      have wr1:=J1 r (by omega)
      have hmg:=OB u (List.replicate S 0) r (by rw[hil,hzl,x1])
      rw[List.getElem?_replicate,Ahv hrS2,List.drop_replicate]at hmg
      have hn1:=Ci (Dt hmg)
      have hms:=OA u (List.replicate S 0) r iv (by rw[hil,hzl,x1]) hiv
      rw[List.drop_replicate,List.drop_replicate]at hms
      have kk:=fun B b1 h=>ihr (r+1) (by omega) B b1 (by omega) h
      by_cases hu2:2<up
      ·have hlt:ltI 2 up=true:=by rw[CX];simpa using hu2
       simp only[hlt]at hin
       obtain⟨wn,rfl,hin2⟩:=Rd hin
       obtain⟨bt,ht0,ht⟩:=hqr.tor
       have hwl:wn<es.length:=by rw[<-hq1.tl];exact(Ahq.1 hin2).1
       have hwl':(wn:Int)<es.length:=by omega
       have hnt:=Ci (Dt hin2)
       have ht2:∀row:Row,nth (Z++[row]) (H.length+2)=some (.cs 3 1 (onV (iI E)) bt false):=fun row=>by
        rw[BH _ _ _ (by omega)]
        rwa[BH _ _ _ (by omega)]at ht
       have hs1:AN (onV (iI (u.take r++List.replicate (S-r) 0))) r [J0 (wn:Int)]=some (onV (iI ((u.take r++List.replicate (S-r) 0).set r (wn:Int)))):=by rw[Eo (by rw[Dr,hml];exact hrS2),Hk]
       have hs2:AN (onV (iI ((u.take r++List.replicate (S-r) 0).set r (wn:Int)))) r [J0 iv]=some (onV (iI (u.take (r+1)++List.replicate (S-(r+1)) 0))):=by rw[Eo (by rw[Dr,Aim,hml];exact hrS2),Hk,List.set_set,hms]
       have hn2:nth (onV (iI ((u.take r++List.replicate (S-r) 0).set r (wn:Int)))) r=some [J0 (wn:Int)]:=Ci (Dt (AiW (by rw[hml];exact hrS2)))
       have hl3:((u.take r++List.replicate (S-r) 0).set r (wn:Int)).length=S:=by rw[Aim,hml]
       generalize u.take r++List.replicate (S-r) 0=D at hml hn1 hs1 hs2 hn2 hl3 p3 p9 ⊢
       generalize D.set r (wn:Int)=D1 at hs1 hs2 hn2 hl3
       simp (maxSteps:=2000000) (disch:=omega) [Ab,hrS2',rz,x1,hon2,J,p1,p7,p9,rzy,hyl,hwn,AC,Av,hn1,hs1,hml,hu2,hn2,hl3,ht2,ht0,hnt,hs2,wr1,Bp]
       exact kk _ S (Ahu _) J W a0
      ·have hlt:ltI 2 up=false:=by rw[CX];simpa using hu2
       simp only[hlt,Aho]at hin
       subst hin
       have hs1:AN (onV (iI (u.take r++List.replicate (S-r) 0))) r [J0 w]=some (onV (iI (u.take (r+1)++List.replicate (S-(r+1)) 0))):=by rw[Eo (by rw[Dr,hml];exact hrS2),Hk,hms]
       generalize u.take r++List.replicate (S-r) 0=D at hml hn1 hs1 p3 p9 ⊢
       simp (maxSteps:=2000000) (disch:=omega) [Ab,hrS2',rz,x1,hon2,J,p1,p7,p9,rzy,hyl,hwn,AC,Av,hn1,hs1,hml,hu2,wr1,Bp]
       exact kk _ S (Ahu _) J W a0
     ·have:r=S:=by omega
      subst this
      have hrS2':¬(r:Int)<r:=by omega
      have hdM:u.take r++List.replicate (r-r) 0=u:=by rw[Nat.sub_self,List.replicate_zero,Ail,AhJ (by omega)]
      rw[hdM]at hqr ⊢
      generalize hHs:Z++[.cs 3 1 (onV (iI u)) b0 false]=Hs at hqr
      have hrow3:nth Hs Z.length=some (.cs 3 1 (onV (iI u)) b0 false):=by rw[<-hHs];exact CQ Z _ 0
      have hold3:∀q,q<Z.length->nth Hs q=nth Z q:=fun q hq=>by rw[<-hHs];exact BH _ _ _ hq
      have hIR:IR u (.sl Z.length r 1 0 r true) Hs:=⟨Z.length,b0,true,by rw[hil,x1],hrow3,by omega⟩
      simp (maxSteps:=2000000) (disch:=omega) [hrS2',wu1]
      rw[Ao]
      refine Vq hqr.bld hIR (by omega) hib (by omega) (by omega) _ fun eb2 ob2 H2 hb2 he2 hk2=>?_
      have hq2:=hqr.node hb2 hk2 (fun q e=>by have e:_=q:=Aiw e;omega)
      have hlenS:Hs.length=Z.length+1:=by rw[<-hHs];simp
      have hrow4:nth H2 Hi.length=some (.cs 3 1 (onV (iI (acc++List.replicate (r-s) 0))) b false):=by
       rw[hk2.2.1 _ (by omega) (by omega) (by omega) (fun e=>hob1 _ e rfl) (fun e=>by have e:Z.length=Hi.length:=Aiw e;omega),hold3 _ hgt]
       exact Y
      have hob2:∀q,AG ob2=some q->q≠Hi.length:=fun q e1 e2=>by
       rcases hk2.2.2 q e1 with h|h
       ·exact hob1 q h e2
       ·omega
      have hse:AN H2 Hi.length (.cs 3 1 (onV (iI (acc++(((ES (N.map dNd) (up-1,u)).2:Nat):Int)::List.replicate (r-(s+1)) 0))) r false)=some (H2.set Hi.length (.cs 3 1 (onV (iI (acc++(((ES (N.map dNd) (up-1,u)).2:Nat):Int)::List.replicate (r-(s+1)) 0))) r false)):=AB _ _ _ (AO hrow4)
      have kk:=fun B h2 h4 h9=>hkk (((ES (N.map dNd) (up-1,u)).2:Nat):Int) eb2 ob2 B H2 h2 h4 h9 hq2 (by rw[he2];exact U.symm) ⟨b,hrow4⟩ hob2
      simp (maxSteps:=2000000) (disch:=omega) [Ab,hrow4,hn0,hset,hal,hse,ws]
      exact kk _ J W a0
    ·have hxf:eqI x up=false:=by rw[DY];simpa using hxu
     unfold swEl at U
     simp only[hxf]at U
     by_cases hx2:1<x
     ·have hlt:ltI 1 x=true:=by rw[CX];simpa using hx2
      simp only[hlt,Ahn,Aho]at U
      obtain⟨w,hw,U⟩:=U
      obtain⟨kn,rfl,hw2⟩:=Rd hw
      obtain⟨bt,ht0,ht⟩:=hq1.tor
      have hkl:kn<es.length:=by rw[<-hq1.tl];exact(Ahq.1 hw2).1
      have hkl':(kn:Int)<es.length:=by omega
      have hnt:=Ci (Dt hw2)
      have hse:AN Z Hi.length (.cs 3 1 (onV (iI (acc++w::List.replicate (S-(s+1)) 0))) S false)=some (Z.set Hi.length (.cs 3 1 (onV (iI (acc++w::List.replicate (S-(s+1)) 0))) S false)):=AB _ _ _ hgt
      have kk:=fun B h2 h4 h9=>hkk w N ob1 B Z h2 h4 h9 hq1 U.symm ⟨b,Y⟩ hob1
      simp (maxSteps:=2000000) (disch:=omega) [Ab,hsS',rz,x1,hkn,a0,hxu,hx2,ht,ht0,hnt,Y,hn0,hset,hal,hse,ws,Bp]
      exact kk _ J W a0
     ·have hlt:ltI 1 x=false:=by rw[CX];simpa using hx2
      simp only[hlt,Aho]at U
      have hse:AN Z Hi.length (.cs 3 1 (onV (iI (acc++kd::List.replicate (S-(s+1)) 0))) S false)=some (Z.set Hi.length (.cs 3 1 (onV (iI (acc++kd::List.replicate (S-(s+1)) 0))) S false)):=AB _ _ _ hgt
      have kk:=fun B h2 h4 h9=>hkk kd N ob1 B Z h2 h4 h9 hq1 U.symm ⟨b,Y⟩ hob1
      simp (maxSteps:=2000000) (disch:=omega) [Ab,hsS',rz,x1,hkn,a0,hxu,hx2,Y,hn0,hset,hal,hse,ws,Bp]
      exact kk _ J W a0
   ·have:s=S:=by omega
    subst this
    have hsS':¬(s:Int)<s:=by omega
    have hcd:cc.drop s=[]:=by rw[<-x1];exact Aik
    rw[hcd]at hR1
    have hR1:some (N.map dNd,acc)=some qr:=hR1
    cases hR1
    rw[Nat.sub_self,List.replicate_zero,Ail]at Y
    rw[AhD]at hql
    have hIR:IR acc (.sl Hi.length s 1 0 s true) Z:=⟨Hi.length,b,true,by rw[hac],Y,by omega⟩
    simp (maxSteps:=2000000) (disch:=omega) [hsS',a0]
    rw[Ao]
    refine Vq hq1.bld hIR (by omega) hqb (by omega) (by omega) _ fun eb2 ob2 H2 hb2 he2 hk2=>?_
    have hq2:=hq1.node hb2 hk2 (fun q e=>by have e:_=q:=Aiw e;omega)
    obtain⟨bt,ht0,ht⟩:=hq2.tor
    have htl:=hq2.tl
    obtain⟨v0,hv0⟩:∃v0,E[k]? = some v0:=⟨E[k]'(by omega),Ahr (by omega)⟩
    have hn3:=Ci (Dt hv0)
    have hs3:AN (onV (iI E)) k [J0 (((ES (N.map dNd) (x,acc)).2:Nat):Int)]=some (onV (iI (E.set k (((ES (N.map dNd) (x,acc)).2:Nat):Int)))):=by rw[Eo (by rw[Dr];omega),Hk]
    generalize hto2:E.set k (((ES (N.map dNd) (x,acc)).2:Nat):Int)=to2 at hs3
    have htl2:to2.length=es.length:=by rw[<-hto2,Aim];exact htl
    have hse:AN H2 (H.length+2) (.cs 3 1 (onV (iI to2)) es.length false)=some (H2.set (H.length+2) (.cs 3 1 (onV (iI to2)) es.length false)):=AB _ _ _ (AO ht)
    have hq3:SwQ H es nv to2 eb2 ob2 (H2.set (H.length+2) (.cs 3 1 (onV (iI to2)) es.length false)):=by
     obtain⟨⟨⟨b5,hb50,hb5⟩,hm5,hn5,ok5⟩,_,_,nd5,nr5,len5,old5,ro5⟩:=hq2
     exact⟨⟨⟨b5,hb50,by rw[AF (by omega)];exact hb5⟩,by rw[AF (by omega)];exact hm5,hn5.keep fun q e _=>AF (by have:=ro5 q e;omega),ok5⟩,⟨es.length,Ahu _,Bc (AO ht)⟩,htl2,nd5.keep fun q e _=>AF (by have:=nr5 q e;omega),nr5,by simpa using len5,fun q hq=>by rw[AF (by omega)];exact old5 q hq,ro5⟩
    have hpr2:pr=(eb2.map dNd,to2):=by rw[<-hpr,he2,<-hto2]
    rw[hpr2]at hR
    have kk:=fun B h2 h4=>ih (k+1) (by omega) to2 eb2 ob2 B _ (by omega) h2 h4 hq3 hR
    simp (maxSteps:=2000000) (disch:=omega) [Ab,ht,hn3,hs3,htl,hse,wk]
    exact kk _ J W
 ·have:k=es.length:=by omega
  subst this
  have hke':¬(es.length:Int)<es.length:=by omega
  have hdr:(es.map dNd).drop es.length=[]:=List.drop_eq_nil_of_le (by simp)
  rw[hdr]at hR
  have hR:some (eb.map dNd,E)=some (bl,to):=hR
  cases hR
  obtain⟨bb,hb0,hbb⟩:=hq.bld.hb
  obtain⟨bt,ht0,ht⟩:=hq.tor
  have htl:=hq.tl
  have hnm:=Ci (Dt hm)
  have hno:=hq.bld.hn.nf
  rw[AhD]at hmb hbn
  have wl:wr .i64 ((es.length:Int)-1)=((es.length-1:Nat):Int):=by rw[Aa (by omega) (by omega)];omega
  have hlt:es.length-1<es.length:=by omega
  have hlt':((es.length-1:Nat):Int)<es.length:=by omega
  simp (maxSteps:=2000000) (disch:=omega) [Ab,hke',J,hbb,hb0,AcP,wl,ht,ht0,hnm]
  rw[Ao]
  have hlev:(ndU (eb.map dNd) m).1<=((1000:Nat):Int):=(hbl m (by rw[AhD];exact hmb)).2.1
  refine MO (n:=1000) hq.bld.ok hbl (by omega) hq.bld.hn hmb hlev _ fun eo oo H2 h2l h2n h2e h2len h2k h2r=>?_
  have hon2:=h2l.nf
  have hql:=hq.len
  have kk:=hQ eo oo H2 h2l h2n (by rw[h2e,AhD]) (by omega) (fun r hr=>by rw[h2k r (by omega)];exact hq.old r hr) fun r hr=>by have:=h2r r hr;omega
  have ams:∀(a b c d e:Nat) (f:Bool) (l:List V),BF (.sl a b c d e f::l)=none:=fun _ _ _ _ _ _ _=>rfl
  have amm:∀(x:I) (l:List V),BF (.m x::l)=(BF l).bind fun r=>some (x::r):=fun _ _=>rfl
  have osl:∀(a b c d e:Nat) (f:Bool),BL (.sl a b c d e f)=true:=fun _ _ _ _ _ _=>rfl
  have oi:BL (J0 (S:Int))=true:=rfl
  simp (maxSteps:=2000000) (disch:=omega) [Ab,hon2.2.1,hon2.2.2.1,ams,amm,W,cva,osl,oi]
  exact kk
def okX (l:List Nd)(x:Nd):Bool:=leI 1 x.1&&(leI x.1 1000&&(!x.2.isEmpty&&(Nat.ble x.2.length 100&&(x.2.all AdC&&(!ltI 1 x.1||x.2.all fun k=>match ndZ l k with
 | some y=>ltI y.1 x.1
 | none=>false)))))
def okNb (l:List Nd):Bool:=l.all (okX l)
theorem okN_b (h:okNb l=true):OkN l:=fun i Q=>by
 have N:l[i]? = some (ndU l i):=by
  unfold ndU
  rw[Ahr Q]
  rfl
 have z:=AhE.1 h _ (Ahw N)
 unfold okX at z
 simp only[Ahs,Hf,AhC,AiI,Aia,AhE,CX,decide_eq_false_iff_not]at z
 obtain⟨a1,Y,J,U,W,a6⟩:=z
 refine⟨a1,Y,fun e=>by rw[e]at J;simp at J,AiK U,fun k u=>HR.1 (W k u),fun Z k u=>?_⟩
 rcases a6 with h|h
 ·exact absurd Z h
 ·have:=h k u
  cases hy:ndZ l k with
  | none=>rw[hy]at this;cases this
  | some y =>
   rw[hy]at this
   simp only[AhC]at this
   obtain⟨n,rfl,E⟩:=Qv hy
   refine⟨by omega,?_,?_⟩
   ·show n<l.length
    exact(Ahq.1 E).1
   ·show (ndU l n).1<_
    rw[Vu E]
    exact this
def swZ (S:Nat)(ns:List Nd)(up:Int):Option (List Nd):=gd (shpZ S ns&&(Nat.ble 1 ns.length&&Nat.ble ns.length 100000)) ((RU ns up 0 ns [] (List.replicate ns.length 0)).bind fun p=>(nth p.2 (ns.length-1)).bind fun v=>(Aby v).bind fun m =>
 gd (okNb p.1&&(Nat.ble p.1.length 1000000&&Nat.blt m p.1.length)) (some (HO p.1 1000 m (List.replicate p.1.length 0,[])).1.2))
abbrev Hd:=List (Int×Int)
def inT (S:Nat):Nat->Nat->Hd->List Nd->Bool->Option (Hd×List Nd×Bool)
 | 0,_,hd,ns,srt=>some (hd,ns,srt)
 | r+1,j,hd,ns,srt=>(nth hd j).bind fun a=>(nth hd (j+1)).bind fun b=>match ltI 0 (HQ a.1 a.2 b.1 b.2) with
  | true=>(swZ S ns ((hd.length:Int)-j)).bind fun ns2=>inT S r (j+1) ((hd.set j b).set (j+1) a) ns2 false
  | false=>inT S r (j+1) hd ns srt
def Aei (S:Nat):Nat->Hd->List Nd->Option (Hd×List Nd)
 | 0,_,_=>none
 | f+1,hd,ns=>(inT S (hd.length-1) 0 hd ns true).bind fun q=>match q.2.2 with
  | true=>some (q.1,q.2.1)
  | false=>Aei S f q.1 q.2.1
def Jh (k:Int)(hd:Hd):Hd:=hd.map fun p=>CF (CS k) p.1 p.2
def IJ (k:Int)(S:Nat)(hd:Hd)(ns:List Nd):Option (Hd×List Nd):=Aei S 64 (Jh k hd) (Yk ns)
theorem XZ {S:Nat}{z r:List Nd}{J:Int}(h:swZ S z J=some r):shpZ S z=true/\(1<=z.length/\z.length<=100000) /\ ∃(u:List Nd) (to:List Int) (m:Nat),RU z J 0 z [] (List.replicate z.length 0)=some (u,to)/\OkN u/\u.length<=1000000/\to[z.length-1]? = some (m:Int)/\m<u.length/\r=(HO u 1000 m (List.replicate u.length 0,[])).1.2:=by
 unfold swZ at h
 simp only[Ag,Ahs,Ahn,Aho]at h
 obtain⟨⟨h1,W,Y⟩,⟨u,to⟩,Q,v,Z,m,N,⟨U,h8,h9⟩,E⟩:=h
 refine⟨h1,⟨AiK W,AiK Y⟩,u,to,m,Q,okN_b U,AiK h8,?_,AiK h9,E.symm⟩
 rw[<-AL]
 cases v with
 | ofNat n=>cases N;exact Z
 | negSucc n=>cases N
end Go.Mx.Tryz
