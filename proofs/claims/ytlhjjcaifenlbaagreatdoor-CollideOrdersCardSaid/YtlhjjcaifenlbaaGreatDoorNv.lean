/- The laws of chapter 51 at every argument. -/
import Derived.Test.YtlhjjcaifenlbaaGreatDoorNo
import Derived.Test.YtlhjjcaifenlbaaGreatDoorEg
import Derived.Test.YtlhjjcaifenlbaaGreatDoorSeav
import Derived.Test.YtlhjjcaifenlbaaGreatDoorUn
set_option linter.unusedSimpArgs false
set_option linter.unusedVariables false
set_option linter.unusedSectionVars false
set_option maxRecDepth 100000
namespace Go.Mx.Tryz
open Go.Lib Go.Proofs
def Hh (cl:List Int)(x:Nd):List Int:=if 1<x.1 then x.2.map (fun k=>(cl[k.toNat]?).getD 0) else x.2
def UH (l:List Nd)(nx:List (List Int))(a:Int)(c:List Int)(i k:Nat):Nat:=((List.range' k (i-k)).find? fun j=>decide (((l[j]?).getD (0,[])).1=a/\(nx[j]?).getD []=c)).getD i
def IP (l:List Nd):Nat->List Int×List (List Int)
 | 0=>([],[])
 | i+1=>((IP l i).1++[(UH l (IP l i).2 ((l[i]?).getD (0,[])).1 (Hh (IP l i).1 ((l[i]?).getD (0,[]))) i 0:Int)],(IP l i).2++[Hh (IP l i).1 ((l[i]?).getD (0,[]))])
theorem KO (l:List Nd):∀i,(IP l i).1.length=i/\(IP l i).2.length=i
 | 0=>⟨rfl,rfl⟩
 | i+1=>by
  obtain⟨h1,h2⟩:=KO l i
  simp[IP,h1,h2]
theorem XJ (l:List Nd)(nx:List (List Int))(a:Int)(c:List Int)(i:Nat):UH l nx a c i i=i:=by simp[UH]
theorem UG (l:List Nd)(nx:List (List Int))(a:Int)(c:List Int){i k:Nat}(h:k<i):UH l nx a c i k=if ((l[k]?).getD (0,[])).1=a/\(nx[k]?).getD []=c then k else UH l nx a c i (k+1):=by
 unfold UH
 obtain⟨m,hm⟩:∃m,i-k=m+1:=⟨i-k-1,by omega⟩
 rw[hm,List.range'_succ,List.find?_cons,show i-(k+1)=m from by omega]
 by_cases e:((l[k]?).getD (0,[])).1=a/\(nx[k]?).getD []=c
 ·rw[Air e,Aiv e]
  rfl
 ·rw[Aiq e,AiE e]
theorem LR.call2 {ty:Nat}{xs:List I}{o:V}{H:Hp}{ok:Nat->Prop}(h:LR ty xs o H ok){F:Nat}{w:I}{v:V}{H0:Hp}(hp:G.prim F=none)(hs:G.sh F=false)(hg:Gives G F [.m w,.m (zL xs)] H0 v H0)(hf:FY v=true):Gives G F [.m w,o] H v H:=by
 have hv:Af (Mx.view 20 H) [.m w,o]=some [w,zL xs]:=by
  show (Mx.view 20 H (.m w)).bind _=_
  rw[show Mx.view 20 H (.m w)=some w from rfl,Ait]
  show ((Mx.view 20 H o).bind _).bind _=_
  rw[h.view 18]
  rfl
 refine Ba (is:=[w,zL xs]) hp hs hg hv ?_
 rcases h with ⟨rfl,rfl⟩|⟨hne,r,hr,rfl,h3⟩
 ·exact .inl ⟨by simp[DA,FR],by simp[BJ,CN]⟩
 ·exact .inr ⟨by simp[DA,FR],hf⟩
theorem LR.keepO {ty:Nat}{xs:List I}{o:V}{H H':Hp}{ok:Nat->Prop}(h:LR ty xs o H ok)(hk:∀r,AH o=some r->r<H.length->nth H' r=nth H r):LR ty xs o H' ok:=by
 rcases h with h|⟨hne,r,hr,e,h3⟩
 ·exact .inl h
 ·subst e
  exact .inr ⟨hne,r,hr,rfl,by rw[hk r rfl (AS h3)];exact h3⟩
theorem LR.okr {ty:Nat}{xs:List I}{o:V}{H:Hp}{ok:Nat->Prop}(h:LR ty xs o H ok){r:Nat}(e:AH o=some r):ok r:=by
 rcases h with ⟨_,rfl⟩|⟨hne,q,hr,rfl,h3⟩
 ·cases e
 ·cases e
  exact hr
theorem LR.bsf1 {ty:Nat}{xs:List I}{o:V}{H:Hp}{ok:Nat->Prop}(h:LR ty xs o H ok):∃z H2,(∀B,An (fun _ _ _=>none) ⟨B,H⟩ (.bsf 1 [.m (.nl 4)] 1 [0]) [o]=some (.ls [[z]],⟨B,H2⟩))/\IsSl z (on1 xs)/\BM (.m z)=true/\H2.length=H.length /\ ∀r,AH o≠some r->nth H2 r=nth H r:=by
 have hv:=h.view 18
 rcases h with ⟨rfl,rfl⟩|⟨hne,r,hr,rfl,h3⟩
 ·exact⟨.nl 4,H,fun B=>rfl,.inr ⟨rfl,rfl⟩,rfl,rfl,fun _ _=>rfl⟩
 ·refine⟨zL xs,H.set r (.cs ty 1 (onV xs) 0 true),fun B=>?_,WN xs,Afi xs,by simp,fun q hq=>AG fun e=>hq (by rw[<-e];rfl)⟩
  have e:An (fun _ _ _=>none) ⟨B,H⟩ (.bsf 1 [.m (.nl 4)] 1 [0]) [.sl r xs.length 1 0 xs.length false]=((Af (fun e=>Af (Mx.view 20 H) e) [[V.sl r xs.length 1 0 xs.length false]]).bind fun l=>(AW [r] H).bind fun H'=>some (.ls l,⟨B,H'⟩)):=rfl
  rw[e,NQ h3]
  simp only[Af,hv,Ait]
theorem Xq (cl:List Int)(x:Nd):(Hh cl x).length=x.2.length:=by unfold Hh;split <;> simp
theorem Qb {l:List Nd}:∀(i j:Nat) (c:List Int),(IP l i).2[j]? = some c -> ∃cl,c=Hh cl ((l[j]?).getD (0,[]))
 | 0,j,c,h=>by simp[IP]at h
 | i+1,j,c,h=>by
  obtain⟨_,h2⟩:=KO l i
  by_cases e:j<i
  ·refine Qb i j c ?_
   simp only[IP]at h
   rwa[AiI (by omega)]at h
  ·simp only[IP]at h
   rw[AiX (by omega),h2]at h
   cases hk:j-i with
   | zero =>
    rw[hk]at h
    have:j=i:=by omega
    subst this
    simp at h
    exact⟨_,h.symm⟩
   | succ k =>
    rw[hk]at h
    simp at h
def WsOk (ws:List I)(nx:List (List Int)):Prop:=ws.length=nx.length /\ ∀(j:Nat) (c:List Int),nx[j]? = some c -> ∃w,ws[j]? = some w/\IsSl w (Cr c)
theorem WsOk.snoc {ws:List I}{nx:List (List Int)}{c:List Int}{w:I}(h:WsOk ws nx)(hw:IsSl w (Cr c)):WsOk (ws++[w]) (nx++[c]):=by
 refine⟨by simp[h.1],fun j d hj=>?_⟩
 by_cases e:j<nx.length
 ·rw[AiI e]at hj
  rw[AiI (by rw[h.1];exact e)]
  exact h.2 j d hj
 ·rw[AiX (by omega)]at hj
  rw[AiX (by rw[h.1];omega),h.1]
  cases hk:j-nx.length with
  | zero =>
   rw[hk]at hj
   simp at hj
   subst hj
   exact⟨w,by simp,hw⟩
  | succ k =>
   rw[hk]at hj
   simp at hj
set_option maxHeartbeats 8000000 in
theorem cls_r {t:TreeC}{h n:I}{es:List (List I)}(hT:TreeV t h n es)(hle:es.length<=4096)(h20:∀x,x∈t.nodes->x.2.length<=100)(hv:∀(i:Nat) (x:Nd),t.nodes[i]? = some x->1<x.1 -> ∀k,k∈x.2->0<=k/\k<(i:Int))(HH:Hp):Gives G 182 [.m n] HH (.m (zI (IP t.nodes es.length).1)) HH:=by
 have rn:=hT.nd.rules
 have hln:=DN hT
 refine Al rfl rfl rfl rfl rfl ?_
 simp (maxSteps:=2000000) (disch:=omega) []
 refine(?key2:∀(i:Nat) (o3 o4:V) (ws:List I) (B:List (Nat×List V)) (H:Hp),i<=es.length->LR 3 (iI (IP t.nodes i).1) o3 H HF->LR 63 ws o4 H HF->WsOk ws (IP t.nodes i).2 ->
  Run G c182_B2 (S182_2 (.m n) o3 o4 (.m (.i .i64 (i:Int))) B H) _) 0 _ _ [] _ _ (AiD _) (.inl ⟨rfl,rfl⟩) (.inl ⟨rfl,rfl⟩) ⟨rfl,fun j c h=>by simp[IP]at h⟩
 refine BN (fun i:Nat=>es.length-i) fun i ih o3 o4 ws B H hi h3 h4 hw=>?_
 unfold c182_B2
 obtain⟨a1,a2,a3,a4⟩:=h3.nf
 obtain⟨b1,b2,b3,b4⟩:=h4.nf
 obtain⟨l1,l2⟩:=KO t.nodes i
 cases hx:t.nodes[i]? with
 | none =>
  have:i=es.length:=by have:=AiC.1 hx;omega
  subst this
  have v1:=h3.viewR
  rcases h3 with ⟨e,rfl⟩|⟨hne,r,hr9,rfl,h5⟩
  ·have e':(IP t.nodes es.length).1=[]:=by simpa[iI]using e
   simp (maxSteps:=2000000) (disch:=omega) [rn,e']
   rfl
  ·simp only[Df]at v1
   simp (maxSteps:=2000000) (disch:=omega) [rn,v1]
   rfl
 | some x =>
  have hlt:i<es.length:=by rw[<-hln];exact(Ain.1 hx).1
  have hlt':(i:Int)<es.length:=by omega
  obtain⟨zx,x1,x2,x3,_⟩:=Dn hT hx
  have rx:=x2.rules
  simp only[BT]at rx
  have wi:wr .i64 ((i:Int)+1)=((i+1:Nat):Int):=Aa (by omega) (by omega)
  simp (maxSteps:=2000000) (disch:=omega) [rn,hlt']
  have h3':LR 3 (iI (IP t.nodes i).1) o3 H (· < H.length):=h3.keep (fun _ _=>rfl) (fun r _ h=>h)
  have h4':LR 63 ws o4 H (· < H.length):=h4.keep (fun _ _=>rfl) (fun r _ h=>h)
  generalize hn0:H.length=n0 at h3' h4'
  have hx20:=h20 x (Aiu hx)
  generalize hcl:(IP t.nodes i).1=ks at *
  generalize hnx:(IP t.nodes i).2=nx at *
  have hnl:(Hh ks x).length=x.2.length:=by unfold Hh;split <;> simp
  have ih:=fun o3 o4 ws B H=>ih (i+1) (by omega) o3 o4 ws B H (by omega)
  have hxi:(t.nodes[i]?).getD (0,[])=x:=by rw[hx];rfl
  simp only[IP,hcl,hnx,hxi]at ih
  refine(?key0:∀(s:Nat) (o6:V) (B:List (Nat×List V)) (H:Hp),s<=x.2.length->n0<=H.length->LR 3 (iI ks) o3 H (· < n0)->LR 63 ws o4 H (· < n0)->LR 3 (iI ((Hh ks x).take s)) o6 H (n0 <= ·) ->
   Run G c182_B0 (S182_0 (.m n) o3 o4 (.m (.i .i64 (i:Int))) o6 (.m (.i .i64 (s:Int))) B H) _) 0 _ _ _ (AiD _) (by omega) h3' h4' (.inl ⟨rfl,rfl⟩)
  clear h3 h4 h3' h4' hn0 H B
  refine BN (fun s:Nat=>x.2.length-s) fun s ihs o6 B H hs hn h3 h4 h6=>?_
  unfold c182_B0
  obtain⟨c1,c2,c3,c4⟩:=h6.nf
  cases hk:x.2[s]? with
  | some k =>
   have hlts:=(Ain.1 hk).1
   have hlts':(s:Int)<x.2.length:=by omega
   have m1:=Ed hk
   have ws1:wr .i64 ((s:Int)+1)=((s+1:Nat):Int):=Aa (by omega) (by omega)
   have push:∀w:Int,(Hh ks x)[s]? = some w -> ∃o6' H2,(∀B,An (fun _ _ _=>none) ⟨B,H⟩ (.app 3 1 8) [o6,.ls [[.i .i64 w]]]=some (o6',⟨B,H2⟩))/\AA o6'=true/\n0<=H2.length/\LR 3 (iI ks) o3 H2 (· < n0)/\LR 63 ws o4 H2 (· < n0)/\LR 3 (iI ((Hh ks x).take (s+1))) o6' H2 (n0 <= ·):=fun w hw=>by
    obtain⟨o6',H2,p1,p2,p3,p4,p5,p6⟩:=h6.push (b:=8) (ys:=[.i .i64 w]) hn (by omega) (by simp;omega) (fun u hu=>by rw[AiQ]at hu;subst hu;rfl)
    refine⟨o6',H2,fun B=>(Cf rfl).trans (p1 B),p2,p4,h3.keep (fun r hr=>p6 r hr) (fun r hr _=>hr),h4.keep (fun r hr=>p6 r hr) (fun r hr _=>hr),?_⟩
    rw[Az hw,show iI ((Hh ks x).take s++[w])=iI ((Hh ks x).take s)++[.i .i64 w] from (UE _ [w]).symm]
    exact p3
   by_cases hl1:1<x.1
   ·obtain⟨k0,k1⟩:=hv i x hx hl1 k (Aiu hk)
    obtain⟨m,rfl⟩:∃m:Nat,k=(m:Int):=⟨k.toNat,by omega⟩
    have hml:m<ks.length:=by omega
    have hml':(m:Int)<ks.length:=by omega
    obtain⟨cw,hcw⟩:∃cw,ks[m]? = some cw:=⟨ks[m],Aip hml⟩
    obtain⟨q,e1,e2,e3⟩:=h3.rd (Dg hcw)
    have hw:(Hh ks x)[s]? = some cw:=by
     unfold Hh
     rw[Air hl1,AiL,hk]
     simp[hcw]
    obtain⟨o6',H2,p1,p2,p3,p4,p5,p6⟩:=push cw hw
    have k:=fun B=>ihs (s+1) (by omega) o6' B H2 (by omega) p3 p4 p5 p6
    simp (maxSteps:=2000000) (disch:=omega) [rn,x1,rx,hlts',m1,hl1,e1,e3,-Dl,p1,Am p2,ws1,-Int.natCast_add]
    exact k _
   ·have hw:(Hh ks x)[s]? = some k:=by
     unfold Hh
     rw[Aiq hl1]
     exact hk
    obtain⟨o6',H2,p1,p2,p3,p4,p5,p6⟩:=push k hw
    have kk:=fun B=>ihs (s+1) (by omega) o6' B H2 (by omega) p3 p4 p5 p6
    simp (maxSteps:=2000000) (disch:=omega) [rn,x1,rx,hlts',m1,hl1,-Dl,p1,Am p2,ws1,-Int.natCast_add]
    exact kk _
  | none =>
  have:s=x.2.length:=by have:=AiC.1 hk;omega
  subst this
  rw[<-hnl,Ajc]at h6
  have w1:wr .i64 ((i:Int)-1)=(i:Int)-1:=Aa (by omega) (by omega)
  simp (maxSteps:=2000000) (disch:=omega) [rn,x1,rx,w1]
  have e0:(i:Int)=(UH t.nodes nx x.1 (Hh ks x) i i:Int):=by rw[XJ]
  refine(?key1:∀(k:Nat) (f:Int) (B:List (Nat×List V)),k<=i->f=(UH t.nodes nx x.1 (Hh ks x) i k:Int) ->
   Run G c182_B1 (S182_1 (.m n) o3 o4 (.m (.i .i64 (i:Int))) o6 (.m (.i .i64 f)) (.m (.i .i64 ((k:Int)-1))) B H) _) i i _ (Ais _) e0
  clear ihs e0 B
  refine BN (fun k:Nat=>k) fun k ihk f B hk hf=>?_
  unfold c182_B1
  cases k with
  | zero =>
   subst hf
   have hl3:AH o3=none \/ ∃r,AH o3=some r:=by cases AH o3 <;> simp
   obtain⟨o3',H2,p1,p2,p3,p4,p5,p6⟩:=(h3.keep (H':=H) (ok':=HF) (fun _ _=>rfl) (fun _ _ _=>Aje)).push1 (b:=8) (by omega) (y:=.i .i64 (UH t.nodes nx x.1 (Hh ks x) i 0:Int)) (by simp;omega) rfl
   have d34:∀r,AH o4=some r->AH o3≠some r:=fun r hr e=>by
    have:=(h4.row hr).symm.trans (h3.row e)
    cases this
   have d36:∀r,AH o6=some r->AH o3≠some r:=fun r hr e=>by
    have a:n0<=r:=h6.okr hr
    have b:r<n0:=h3.okr e
    omega
   have h4b:=h4.keepO (H':=H2) fun r hr hl=>p5 r hl (d34 r hr)
   have h6b:=h6.keepO (H':=H2) fun r hr hl=>p5 r hl (d36 r hr)
   obtain⟨zz,H3,q1,q2,q3,q4,q5⟩:=h6b.bsf1
   rw[Mu]at q2
   have d46:∀r,AH o4=some r->AH o6≠some r:=fun r hr e=>by
    have:=(h4.row hr).symm.trans (h6.row e)
    cases this
   have d3'6:∀r,AH o3'=some r->AH o6≠some r:=fun r hr e=>by
    rcases p6 r hr with h|⟨h,_⟩
    ·exact d36 r e h
    ·have:=h6.row_lt e
     omega
   have h4c:=h4b.keepO (H':=H3) fun r hr _=>q5 r (d46 r hr)
   have h3c:=p3.keepO (H':=H3) fun r hr _=>q5 r (d3'6 r hr)
   obtain⟨o4',H5,s1,s2,s3,s4,s5,s6⟩:=(h4c.keep (H':=H3) (ok':=HF) (fun _ _=>rfl) (fun _ _ _=>Aje)).push1 (b:=24) (by omega) (y:=zz) (by have:=hw.1;omega) q3
   have h3d:=h3c.keepO (H':=H5) fun r hr hl=>s5 r hl fun e=>by
    have:=(h3c.row hr).symm.trans (h4c.row e)
    cases this
   have kk:=fun B=>ih o3' o4' (ws++[zz]) B H5 (by rw[show iI (ks++[(UH t.nodes nx x.1 (Hh ks x) i 0:Int)])=iI ks++[.i .i64 (UH t.nodes nx x.1 (Hh ks x) i 0:Int)] from (UE _ _).symm];exact h3d) s3 (hw.snoc q2)
   have hm:¬(0:Int)<=((0:Nat):Int)-1:=by omega
   simp (maxSteps:=2000000) (disch:=omega) [-Dl,p1,q1,s1,Am p2,Am s2,wi,-Int.natCast_add]
   exact kk _
  | succ k =>
   have hki:k<i:=by omega
   have hkl:k<es.length:=by omega
   have hkl':(k:Int)<es.length:=by omega
   have wk:((k+1:Nat):Int)-1=(k:Int):=by omega
   have wk2:wr .i64 ((k:Int)-1)=(k:Int)-1:=Aa (by omega) (by omega)
   obtain⟨y,hy⟩:∃y,t.nodes[k]? = some y:=⟨t.nodes[k],Aip (by omega)⟩
   obtain⟨zy,y1,y2,y3,_⟩:=Dn hT hy
   obtain⟨d,hd⟩:∃d,nx[k]? = some d:=⟨nx[k],Aip (by omega)⟩
   obtain⟨w,hw1,hw2⟩:=hw.2 k d hd
   obtain⟨q,e1,e2,e3⟩:=h4.rd hw1
   have hst:=UG t.nodes nx x.1 (Hh ks x) hki
   rw[hy,hd]at hst
   have hdl:d.length<=9223372036854775807:=by
    obtain⟨cl',e⟩:=Qb (l:=t.nodes) i k d (by rw[hnx];exact hd)
    rw[e,Xq,hy]
    have:=h20 y (Aiu hy)
    simp only[Option.getD_some]
    omega
   simp only[Option.getD_some]at hst
   rw[wk]
   by_cases u1:y.1=x.1
   ·have gs:=h6.call2 (F:=210) (w:=w) (v:=.m (.b (decide (d=Hh ks x)))) (H0:=[]) rfl rfl (Xb hw2 (zI_sl (Hh ks x)) hdl []) rfl
    by_cases u2:d=Hh ks x
    ·rw[Aiv u2]at gs
     rw[Air ⟨u1,u2⟩]at hst
     have kk:=fun B=>ihk k (by omega) k B (by omega) (by rw[hst])
     simp (maxSteps:=2000000) (disch:=omega) [Ac,rn,x1,y1,u1,e1,e3,cl gs,wk2,-Int.natCast_add]
     exact kk _
    ·rw[AiE u2]at gs
     rw[Aiq fun e=>u2 e.2]at hst
     have kk:=fun B=>ihk k (by omega) f B (by omega) (by rw[hf,hst])
     simp (maxSteps:=2000000) (disch:=omega) [Ac,rn,x1,y1,u1,e1,e3,cl gs,wk2,-Int.natCast_add]
     exact kk _
   ·rw[Aiq fun e=>u1 e.1]at hst
    have kk:=fun B=>ihk k (by omega) f B (by omega) (by rw[hf,hst])
    simp (maxSteps:=2000000) (disch:=omega) [Ac,rn,x1,y1,u1,wk2,-Int.natCast_add]
    exact kk _
end Go.Mx.Tryz
set_option maxRecDepth 1000000
namespace Go.Mx.Tryz
open Go.Proofs
def iE (n:Int):I:=.i .i64 n
def allE:I:=.sl [[iE 0],[iE 1],[iE 2],[iE 3],[iE 4],[iE 5],[iE 6],[iE 7]]
def lifeE:I:=.ag [iE 2,.sl [[iE (-1),iE (-1)],[iE 0,iE (-1)],[iE 1,iE (-1)],[iE (-1),iE 0],[iE 0,iE 0],[iE 1,iE 0],[iE (-1),iE 1],[iE 0,iE 1],[iE 1,iE 1]],.sl [[iE 1,.sl [[iE 0],[iE 0]]],[iE 2,.sl [[iE 0],[iE 0]]],[iE 1,.sl [[iE 0],[iE 1]]],[iE 2,.sl [[iE 0],[iE 2]]],[iE 3,.sl [[iE 1],[iE 3]]],[iE 1,.sl [[iE 1],[iE 0]]],[iE 2,.sl [[iE 2],[iE 5]]],[iE 3,.sl [[iE 3],[iE 6]]],[iE 4,.sl [[iE 4],[iE 7]]],[iE 1,.sl [[iE 1],[iE 1]]],[iE 2,.sl [[iE 2],[iE 9]]],[iE 3,.sl [[iE 3],[iE 10]]],[iE 2,.sl [[iE 9],[iE 5]]],[iE 3,.sl [[iE 10],[iE 12]]],[iE 4,.sl [[iE 11],[iE 13]]],[iE 5,.sl [[iE 8],[iE 14]]],[iE 2,.sl [[iE 5],[iE 0]]],[iE 3,.sl [[iE 6],[iE 16]]],[iE 4,.sl [[iE 7],[iE 17]]],[iE 3,.sl [[iE 12],[iE 16]]],[iE 4,.sl [[iE 13],[iE 19]]],[iE 5,.sl [[iE 18],[iE 20]]],[iE 6,.sl [[iE 15],[iE 21]]],[iE 3,.sl [[iE 16],[iE 1]]],[iE 4,.sl [[iE 17],[iE 23]]],[iE 4,.sl [[iE 19],[iE 23]]],[iE 5,.sl [[iE 24],[iE 25]]],[iE 6,.sl [[iE 21],[iE 26]]],[iE 7,.sl [[iE 22],[iE 27]]],[iE 3,.sl [[iE 1],[iE 1]]],[iE 4,.sl [[iE 23],[iE 29]]],[iE 5,.sl [[iE 30],[iE 30]]],[iE 6,.sl [[iE 26],[iE 31]]],[iE 7,.sl [[iE 27],[iE 32]]],[iE 8,.sl [[iE 28],[iE 33]]],[iE 4,.sl [[iE 29],[iE 29]]],[iE 5,.sl [[iE 35],[iE 35]]],[iE 6,.sl [[iE 31],[iE 36]]],[iE 7,.sl [[iE 32],[iE 37]]],[iE 8,.sl [[iE 33],[iE 38]]],[iE 9,.sl [[iE 34],[iE 39]]]]]
def ndI (x:Nd):List I:=[.i .i64 x.1,.sl (Cr x.2)]
theorem UQ (x:Nd):dNd (ndI x)=x:=by
 obtain⟨a,l⟩:=x
 show (a,(Cr l).map dEn)=(a,l)
 rw[show (Cr l).map dEn=l from by unfold Cr;rw[Ajy];exact List.map_id'' (fun _=>rfl) l]
theorem dNds (l:List Nd):(l.map ndI).map dNd=l:=by rw[Ajy];exact List.map_id'' (fun x=>UQ x) l
theorem Pl {S:Int}{hd:Hd}{ns:List Nd}(hb:bdN ns=true)(h1:hd.length<=1000)(h2:ns.length<=1000000):TreeV ⟨S,hd,ns⟩ (.sl (AB hd)) (.sl (ns.map ndI)) (ns.map ndI):=by
 refine⟨Bp _,Bp _,Um (fun e he=>?_) (by rw[dNds];exact hb),(dNds ns).symm,AjF h1 (by omega),AjF (by rw[AiB];exact h2) (by omega:1000000<=9223372036854775807)⟩
 obtain⟨x,_,rfl⟩:=AiH.1 he
 refine⟨x.1,_,rfl,?_⟩
 rw[show dIn (.sl (Cr x.2))=x.2 from congrArg Prod.snd (UQ x)]
 exact Bp _
theorem AhG {eo:List (List I)}{ns:List Nd}(hv:KQ eo)(he:eo.map dNd=ns)(hn:∀x,x∈ns->x.2≠[]):eo=ns.map ndI:=by
 subst he
 rw[Ajy]
 refine((List.map_congr_left fun e hm=>?_).trans (List.map_id'' (fun _=>rfl) eo)).symm
 obtain⟨x,z,rfl,hz⟩:=hv e hm
 have h0:dIn z≠[]:=hn (x,dIn z) (AiH.2 ⟨_,hm,rfl⟩)
 rcases hz with h|⟨_,h⟩
 ·show [I.i .i64 x,.sl (Cr (dIn z))]=[.i .i64 x,z]
  rw[<-h]
 ·exact absurd (List.map_eq_nil_iff.1 h) h0
def hdL:Hd:=[(-1,-1),(0,-1),(1,-1),(-1,0),(0,0),(1,0),(-1,1),(0,1),(1,1)]
def nsL:List Nd:=[(1,[0,0]),(2,[0,0]),(1,[0,1]),(2,[0,2]),(3,[1,3]),(1,[1,0]),(2,[2,5]),(3,[3,6]),(4,[4,7]),(1,[1,1]),(2,[2,9]),(3,[3,10]),(2,[9,5]),(3,[10,12]),(4,[11,13]),(5,[8,14]),(2,[5,0]),(3,[6,16]),(4,[7,17]),(3,[12,16]),(4,[13,19]),(5,[18,20]),(6,[15,21]),(3,[16,1]),(4,[17,23]),(4,[19,23]),(5,[24,25]),(6,[21,26]),(7,[22,27]),(3,[1,1]),(4,[23,29]),(5,[30,30]),(6,[26,31]),(7,[27,32]),(8,[28,33]),(4,[29,29]),(5,[35,35]),(6,[31,36]),(7,[32,37]),(8,[33,38]),(9,[34,39])]
def nsP:List Nd:=[(1,[0,0]),(1,[0,0]),(1,[0,0]),(1,[0,1]),(1,[0,1]),(1,[1,1]),(1,[1,0]),(1,[1,0]),(1,[0,0]),(1,[0,0]),(1,[0,0]),(1,[0,0]),(1,[0,0]),(1,[0,0]),(1,[0,0]),(1,[0,0]),(1,[0,0]),(1,[0,0]),(2,[0,2]),(2,[1,3]),(2,[2,4]),(2,[3,5]),(2,[4,6]),(2,[5,7]),(2,[6,8]),(2,[7,9]),(2,[8,10]),(2,[9,11]),(2,[10,12]),(2,[11,13]),(2,[12,14]),(2,[13,15]),(2,[14,16]),(2,[15,17]),(3,[18,20]),(3,[19,21]),(3,[20,22]),(3,[21,23]),(3,[22,24]),(3,[23,25]),(3,[24,26]),(3,[25,27]),(3,[26,28]),(3,[27,29]),(3,[28,30]),(3,[29,31]),(3,[30,32]),(3,[31,33]),(4,[34,36]),(4,[35,37]),(4,[36,38]),(4,[37,39]),(4,[38,40]),(4,[39,41]),(4,[40,42]),(4,[41,43]),(4,[42,44]),(4,[43,45]),(4,[44,46]),(4,[45,47]),(5,[48,49]),(5,[48,49]),(5,[50,51]),(5,[50,51]),(5,[52,53]),(5,[52,53]),(5,[54,55]),(5,[54,55]),(5,[56,57]),(5,[56,57]),(6,[60,62]),(6,[61,63]),(6,[62,64]),(6,[63,65]),(6,[64,66]),(6,[65,67]),(6,[66,68]),(6,[67,69]),(7,[70,72]),(7,[71,73]),(7,[72,74]),(7,[73,75]),(7,[74,76]),(7,[75,77]),(8,[78,80]),(8,[79,81]),(8,[80,82]),(8,[81,83]),(9,[84,86])]
theorem KF:lifeE=.ag [.i .i64 2,.sl (AB hdL),.sl (nsL.map ndI)]:=by kernel_rfl
theorem YI:Bs ⟨2,hdL,nsL⟩=true:=by kernel_rfl
theorem Acr:Xf nsL=nsL:=by kernel_rfl
def preE:I:=.ag [iE 2,.sl (AB hdL),.sl (nsP.map ndI)]
theorem preV:TreeV ⟨2,hdL,nsP⟩ (.sl (AB hdL)) (.sl (nsP.map ndI)) (nsP.map ndI):=Pl (by kernel_rfl) (by decide) (by decide)
def T13:List Ent:=⟨70,[preE],.m (.b true)⟩   :: []
theorem AgV:Ar G T13:=Ak mono (RT G) (n:=100000) (by kernel_rfl)
def clP:List Int:=(IP nsP 89).1
def T14:List Ent:=⟨182,[.sl (nsP.map ndI)],.m (.sl (Cr clP))⟩::T13
theorem AgU:Ar G T14:=Gp mono AgV (by
 have h1:nsP.all (fun x=>Nat.ble x.2.length 100)=true:=by kernel_rfl
 have h2:(nsP.zipIdx).all (fun p=>decide (p.1.1<=1)||p.1.2.all fun k=>decide (0<=k/\k<(p.2:Int)))=true:=by kernel_rfl
 have g:=cls_r preV (by decide) (fun x hx=>AjD (Aiw.1 h1 x hx)) (fun i x hx h k hk=>by
  have h3:=Aiw.1 h2 (x,i) (List.mk_mem_zipIdx_iff_getElem?.2 hx)
  simp only[AjC,Aix,Aiw]at h3
  rcases h3 with h3|h3
  ·omega
  ·exact h3 k hk) []
 have e:zI (IP nsP (nsP.map ndI).length).1=.sl (Cr clP):=by kernel_rfl
 rw[<-e]
 exact g)
def T15:List Ent:=⟨158,[.sl (nsP.map ndI)],.m (.sl (nsL.map ndI))⟩::T14
theorem AgT:Ar G T15:=Ak mono AgU (n:=100000) (by kernel_rfl)
def T16:List Ent:=⟨126,[preE],.m lifeE⟩::T15
theorem AgS:Ar G T16:=Ak mono AgT (n:=100000) (by kernel_rfl)
def T17:List Ent:=⟨104,[lifeE],.m (.b true)⟩::T16
theorem AgR:Ar G T17:=Ak mono AgS (n:=100000) (by kernel_rfl)
def T18:List Ent:=⟨167,[.sl (AB hdL),.sl (AB hdL)],.m (.b true)⟩::T17
theorem AgQ:Ar G T18:=Ak mono AgR (n:=100000) (by kernel_rfl)
def T19:List Ent:=⟨168,[lifeE,lifeE],.m (.b true)⟩::T18
theorem Po:Ar G T19:=Ak mono AgQ (n:=100000) (by kernel_rfl)
theorem trn0:Iu 0 2 hdL nsL=some (hdL,nsL):=by kernel_rfl
theorem trn1:Iu 1 2 hdL nsL=some (hdL,nsL):=by kernel_rfl
theorem trn2:Iu 2 2 hdL nsL=some (hdL,nsL):=by kernel_rfl
theorem trn3:Iu 3 2 hdL nsL=some (hdL,nsL):=by kernel_rfl
theorem trn4:Iu 4 2 hdL nsL=some (hdL,nsL):=by kernel_rfl
theorem trn5:Iu 5 2 hdL nsL=some (hdL,nsL):=by kernel_rfl
theorem trn6:Iu 6 2 hdL nsL=some (hdL,nsL):=by kernel_rfl
theorem trn7:Iu 7 2 hdL nsL=some (hdL,nsL):=by kernel_rfl
theorem AaX (k:Nat)(hk:k<8):Iu (k:Int) 2 hdL nsL=some (hdL,nsL):=by
 match k,hk with
 | 0,_=>exact trn0
 | 1,_=>exact trn1
 | 2,_=>exact trn2
 | 3,_=>exact trn3
 | 4,_=>exact trn4
 | 5,_=>exact trn5
 | 6,_=>exact trn6
 | 7,_=>exact trn7
def T20:List Ent:=⟨190,[lifeE],.m allE⟩::T19
theorem AgP:Ar G T20:=Gp mono Po (by
 have hT:TreeV ⟨2,hdL,nsL⟩ (.sl (AB hdL)) (.sl (nsL.map ndI)) (nsL.map ndI):=Pl (by kernel_rfl) (by decide) (by decide)
 have gt:∀H,Gives G 104 [.m (.ag [.i .i64 2,.sl (AB hdL),.sl (nsL.map ndI)])] H (.m (.b (Bs ⟨2,hdL,nsL⟩))) H:=fun H=>by
  rw[YI,<-KF]
  exact JZ mono Po (n:=10) (by kernel_rfl)
 have gs:Gives G 168 [.m (.ag [.i .i64 2,.sl (AB hdL),.sl (nsL.map ndI)]),.m (.ag [.i .i64 2,.sl (AB hdL),.sl (nsL.map ndI)])] [] (.m (.b true)) []:=by
  rw[<-KF]
  exact JZ mono Po (n:=10) (by kernel_rfl)
 show Gives G 190 [.m lifeE] [] (.m (.sl (Cr (RF 8)))) []
 rw[KF]
 exact AgW hT gt (fun H=>JZ mono Po (n:=10) (by kernel_rfl)) gs (fun eo h1 h2=>AhG h1 h2 (by decide)) YI Acr AaX [])
def vE32:I:=.sl [[iE 0],[iE 1],[iE 2],[iE 3],[iE 4],[iE 5],[iE 6],[iE 7]]
def vE33:I:=.sl [[iE 0,iE 0,iE 0,iE 0,iE 0],[iE 1,iE 0,iE 0,iE 20,iE 0]]
def vE2:I:=.sl [[iE 0,iE 0,iE 1],[iE 1,iE 0,iE 1],[iE 0,iE 1,iE 1],[iE 1,iE 1,iE 1]]
def vE19:I:=.sl [[iE 1,iE 1,iE 1],[iE 2,iE 1,iE 1],[iE 1,iE 2,iE 1],[iE 2,iE 2,iE 1]]
def vE30:I:=.sl [[iE 1,iE 0,iE 1],[iE 2,iE 0,iE 1],[iE 1,iE 1,iE 1],[iE 2,iE 1,iE 1]]
def vE31:I:=.sl [[iE 0,iE 1,iE 1],[iE 1,iE 1,iE 1],[iE 0,iE 2,iE 1],[iE 1,iE 2,iE 1]]
def vE3:I:=.sl [[iE 20,iE 0,iE 1],[iE 21,iE 0,iE 1],[iE 20,iE 1,iE 1],[iE 21,iE 1,iE 1]]
def vE26:I:=.sl [[iE 1,iE (-1),iE 1],[iE 2,iE (-1),iE 1],[iE 1,iE 0,iE 1],[iE 2,iE 0,iE 1]]
def vE27:I:=.sl [[iE 0,iE (-1),iE 1],[iE 1,iE (-1),iE 1],[iE 0,iE 0,iE 1],[iE 1,iE 0,iE 1]]
def vE28:I:=.sl [[iE (-1),iE 1,iE 1],[iE 0,iE 1,iE 1],[iE (-1),iE 2,iE 1],[iE 0,iE 2,iE 1]]
def vE29:I:=.sl [[iE (-1),iE 0,iE 1],[iE 0,iE 0,iE 1],[iE (-1),iE 1,iE 1],[iE 0,iE 1,iE 1]]
def vE25:I:=.sl [[iE (-1),iE (-1),iE 1],[iE 0,iE (-1),iE 1],[iE (-1),iE 0,iE 1],[iE 0,iE 0,iE 1]]
def vE6:I:=.sl [[iE 1,iE 0,iE 1],[iE 2,iE 1,iE 1],[iE 0,iE 2,iE 1],[iE 1,iE 2,iE 1],[iE 2,iE 2,iE 1]]
def vE14:I:=.sl [[iE 2,iE 2,iE 1],[iE 3,iE 3,iE 1],[iE 4,iE 3,iE 1],[iE 2,iE 4,iE 1],[iE 3,iE 4,iE 1]]
def vE15:I:=.sl [[iE 2,iE 1,iE 1],[iE 3,iE 2,iE 1],[iE 1,iE 3,iE 1],[iE 2,iE 3,iE 1],[iE 3,iE 3,iE 1]]
def vE16:I:=.sl [[iE 2,iE 1,iE 1],[iE 0,iE 2,iE 1],[iE 2,iE 2,iE 1],[iE 1,iE 3,iE 1],[iE 2,iE 3,iE 1]]
def vE17:I:=.sl [[iE 1,iE 1,iE 1],[iE 2,iE 2,iE 1],[iE 3,iE 2,iE 1],[iE 1,iE 3,iE 1],[iE 2,iE 3,iE 1]]
def vE18:I:=.sl [[iE 0,iE 1,iE 1],[iE 2,iE 1,iE 1],[iE 1,iE 2,iE 1],[iE 2,iE 2,iE 1],[iE 1,iE 3,iE 1]]
def vE20:I:=.sl [[iE 3,iE 2,iE 1],[iE 4,iE 3,iE 1],[iE 2,iE 4,iE 1],[iE 3,iE 4,iE 1],[iE 4,iE 4,iE 1]]
def vE21:I:=.sl [[iE 3,iE 2,iE 1],[iE 1,iE 3,iE 1],[iE 3,iE 3,iE 1],[iE 2,iE 4,iE 1],[iE 3,iE 4,iE 1]]
def vE22:I:=.sl [[iE 1,iE 2,iE 1],[iE 3,iE 2,iE 1],[iE 2,iE 3,iE 1],[iE 3,iE 3,iE 1],[iE 2,iE 4,iE 1]]
def vE4:I:=.sl [[iE 20,iE 0,iE 1],[iE 21,iE 0,iE 1],[iE 2,iE 1,iE 1],[iE 20,iE 1,iE 1],[iE 21,iE 1,iE 1],[iE 3,iE 2,iE 1],[iE 1,iE 3,iE 1],[iE 2,iE 3,iE 1],[iE 3,iE 3,iE 1]]
def vE5:I:=.sl [[iE 20,iE 0,iE 1],[iE 21,iE 0,iE 1],[iE 1,iE 1,iE 1],[iE 20,iE 1,iE 1],[iE 21,iE 1,iE 1],[iE 2,iE 2,iE 1],[iE 3,iE 2,iE 1],[iE 1,iE 3,iE 1],[iE 2,iE 3,iE 1]]
def vE7:I:=.sl [[iE 20,iE 0,iE 1],[iE 21,iE 0,iE 1],[iE 20,iE 1,iE 1],[iE 21,iE 1,iE 1],[iE 3,iE 2,iE 1],[iE 1,iE 3,iE 1],[iE 3,iE 3,iE 1],[iE 2,iE 4,iE 1],[iE 3,iE 4,iE 1]]
def vE8:I:=.sl [[iE 20,iE 0,iE 1],[iE 21,iE 0,iE 1],[iE 20,iE 1,iE 1],[iE 21,iE 1,iE 1],[iE 2,iE 2,iE 1],[iE 3,iE 3,iE 1],[iE 4,iE 3,iE 1],[iE 2,iE 4,iE 1],[iE 3,iE 4,iE 1]]
def vE9:I:=.sl [[iE 20,iE 0,iE 1],[iE 21,iE 0,iE 1],[iE 20,iE 1,iE 1],[iE 21,iE 1,iE 1],[iE 1,iE 2,iE 1],[iE 3,iE 2,iE 1],[iE 2,iE 3,iE 1],[iE 3,iE 3,iE 1],[iE 2,iE 4,iE 1]]
def vE10:I:=.sl [[iE 20,iE 0,iE 1],[iE 21,iE 0,iE 1],[iE 20,iE 1,iE 1],[iE 21,iE 1,iE 1],[iE 3,iE 2,iE 1],[iE 4,iE 3,iE 1],[iE 2,iE 4,iE 1],[iE 3,iE 4,iE 1],[iE 4,iE 4,iE 1]]
def vE11:I:=.sl [[iE 20,iE 0,iE 1],[iE 21,iE 0,iE 1],[iE 2,iE 1,iE 1],[iE 20,iE 1,iE 1],[iE 21,iE 1,iE 1],[iE 0,iE 2,iE 1],[iE 2,iE 2,iE 1],[iE 1,iE 3,iE 1],[iE 2,iE 3,iE 1]]
def vE12:I:=.sl [[iE 20,iE 0,iE 1],[iE 21,iE 0,iE 1],[iE 0,iE 1,iE 1],[iE 2,iE 1,iE 1],[iE 20,iE 1,iE 1],[iE 21,iE 1,iE 1],[iE 1,iE 2,iE 1],[iE 2,iE 2,iE 1],[iE 1,iE 3,iE 1]]
def vE13:I:=.sl [[iE 1,iE 0,iE 1],[iE 20,iE 0,iE 1],[iE 21,iE 0,iE 1],[iE 2,iE 1,iE 1],[iE 20,iE 1,iE 1],[iE 21,iE 1,iE 1],[iE 0,iE 2,iE 1],[iE 1,iE 2,iE 1],[iE 2,iE 2,iE 1]]
def vE23:I:=.sl [[iE 20,iE 0,iE 1],[iE 21,iE 0,iE 1],[iE 20,iE 1,iE 1],[iE 21,iE 1,iE 1],[iE 4,iE 3,iE 1],[iE 2,iE 4,iE 1],[iE 4,iE 4,iE 1],[iE 3,iE 5,iE 1],[iE 4,iE 5,iE 1]]
def vE24:I:=.sl [[iE 20,iE 0,iE 1],[iE 21,iE 0,iE 1],[iE 20,iE 1,iE 1],[iE 21,iE 1,iE 1],[iE 2,iE 3,iE 1],[iE 4,iE 3,iE 1],[iE 3,iE 4,iE 1],[iE 4,iE 4,iE 1],[iE 3,iE 5,iE 1]]
def vE1:I:=.sl [[vE6,iE 4,iE 1,iE 1],[vE2,iE 1,iE 0,iE 0]]
def T21:List Ent:=⟨50,[],.tu [.m (lifeE),.m vE1]⟩::T20
theorem AgO:Ar G T21:=Ak mono AgP (n:=100000) (by kernel_rfl)
def T22:List Ent:=⟨104,[lifeE],.m (.b true)⟩::T21
theorem AgN:Ar G T22:=Ak mono AgO (n:=100000) (by kernel_rfl)
def T23:List Ent:=⟨62,[vE6],.m (.b true)⟩::T22
theorem AgM:Ar G T23:=Ak mono AgN (n:=100000) (by kernel_rfl)
def T24:List Ent:=⟨35,[.sl [[iE 2,iE 1,iE 1],[iE 0,iE 1,iE 1],[iE 2,iE 2,iE 1],[iE 1,iE 2,iE 1],[iE 1,iE 3,iE 1]]],.tu [.m vE18,.m (iE 0)]⟩::T23
theorem AgL:Ar G T24:=Ak mono AgM (n:=100000) (by kernel_rfl)
def T25:List Ent:=⟨82,[lifeE,vE6],.tu [.m vE18,.m (iE 0)]⟩::T24
theorem AgK:Ar G T25:=Ak mono AgL (n:=100000) (by kernel_rfl)
def T26:List Ent:=⟨62,[vE18],.m (.b true)⟩::T25
theorem AgJ:Ar G T26:=Ak mono AgK (n:=100000) (by kernel_rfl)
def T27:List Ent:=⟨35,[.sl [[iE 0,iE 2,iE 1],[iE 2,iE 2,iE 1],[iE 2,iE 1,iE 1],[iE 2,iE 3,iE 1],[iE 1,iE 3,iE 1]]],.tu [.m vE16,.m (iE 0)]⟩::T26
theorem AgI:Ar G T27:=Ak mono AgJ (n:=100000) (by kernel_rfl)
def T28:List Ent:=⟨82,[lifeE,vE18],.tu [.m vE16,.m (iE 0)]⟩::T27
theorem AgH:Ar G T28:=Ak mono AgI (n:=100000) (by kernel_rfl)
def T29:List Ent:=⟨62,[vE16],.m (.b true)⟩::T28
theorem AgG:Ar G T29:=Ak mono AgH (n:=100000) (by kernel_rfl)
def T30:List Ent:=⟨35,[.sl [[iE 3,iE 2,iE 1],[iE 2,iE 2,iE 1],[iE 1,iE 1,iE 1],[iE 1,iE 3,iE 1],[iE 2,iE 3,iE 1]]],.tu [.m vE17,.m (iE 0)]⟩::T29
theorem AgF:Ar G T30:=Ak mono AgG (n:=100000) (by kernel_rfl)
def T31:List Ent:=⟨82,[lifeE,vE16],.tu [.m vE17,.m (iE 0)]⟩::T30
theorem AgE:Ar G T31:=Ak mono AgF (n:=100000) (by kernel_rfl)
def T32:List Ent:=⟨62,[vE17],.m (.b true)⟩::T31
theorem AgD:Ar G T32:=Ak mono AgE (n:=100000) (by kernel_rfl)
def T33:List Ent:=⟨35,[.sl [[iE 2,iE 1,iE 1],[iE 3,iE 3,iE 1],[iE 2,iE 3,iE 1],[iE 1,iE 3,iE 1],[iE 3,iE 2,iE 1]]],.tu [.m vE15,.m (iE 0)]⟩::T32
theorem AgC:Ar G T33:=Ak mono AgD (n:=100000) (by kernel_rfl)
def T34:List Ent:=⟨82,[lifeE,vE17],.tu [.m vE15,.m (iE 0)]⟩::T33
theorem AgB:Ar G T34:=Ak mono AgC (n:=100000) (by kernel_rfl)
def T35:List Ent:=⟨136,[lifeE,vE6,iE 4],.tu [.m (.ag [iE 4,iE 1,iE 1]),.m (.b true),.m (iE 0)]⟩::T34
theorem AgA:Ar G T35:=Ak mono AgB (n:=100000) (by kernel_rfl)
def T36:List Ent:=⟨86,[lifeE,.ag [vE6,iE 4,iE 1,iE 1],iE 0],.tu [.m vE6,.m (iE 0)]⟩::T35
theorem Agz:Ar G T36:=Ak mono AgA (n:=100000) (by kernel_rfl)
def T37:List Ent:=⟨87,[iE 0,vE6],.tu [.m vE6,.m (iE 0)]⟩::T36
theorem Agy:Ar G T37:=Ak mono Agz (n:=100000) (by kernel_rfl)
def T38:List Ent:=⟨45,[lifeE,vE1,.ag [iE 0,iE 0,iE 0,iE 0,iE 0]],.tu [.m vE6,.m (iE 0)]⟩::T37
theorem Agx:Ar G T38:=Ak mono Agy (n:=100000) (by kernel_rfl)
def T39:List Ent:=⟨62,[vE2],.m (.b true)⟩::T38
theorem Agw:Ar G T39:=Ak mono Agx (n:=100000) (by kernel_rfl)
def T40:List Ent:=⟨35,[.sl [[iE 1,iE 1,iE 1],[iE 0,iE 1,iE 1],[iE 1,iE 0,iE 1],[iE 0,iE 0,iE 1]]],.tu [.m vE2,.m (iE 0)]⟩::T39
theorem Agv:Ar G T40:=Ak mono Agw (n:=100000) (by kernel_rfl)
def T41:List Ent:=⟨82,[lifeE,vE2],.tu [.m vE2,.m (iE 0)]⟩::T40
theorem Agu:Ar G T41:=Ak mono Agv (n:=100000) (by kernel_rfl)
def T42:List Ent:=⟨136,[lifeE,vE2,iE 1],.tu [.m (.ag [iE 1,iE 0,iE 0]),.m (.b true),.m (iE 0)]⟩::T41
theorem Agt:Ar G T42:=Ak mono Agu (n:=100000) (by kernel_rfl)
def T43:List Ent:=⟨86,[lifeE,.ag [vE2,iE 1,iE 0,iE 0],iE 0],.tu [.m vE2,.m (iE 0)]⟩::T42
theorem Ags:Ar G T43:=Ak mono Agt (n:=100000) (by kernel_rfl)
def T44:List Ent:=⟨87,[iE 0,vE2],.tu [.m vE2,.m (iE 0)]⟩::T43
theorem Agr:Ar G T44:=Ak mono Ags (n:=100000) (by kernel_rfl)
def T45:List Ent:=⟨45,[lifeE,vE1,.ag [iE 1,iE 0,iE 0,iE 20,iE 0]],.tu [.m vE3,.m (iE 0)]⟩::T44
theorem Agq:Ar G T45:=Ak mono Agr (n:=100000) (by kernel_rfl)
def T46:List Ent:=⟨62,[vE3],.m (.b true)⟩::T45
theorem Agp:Ar G T46:=Ak mono Agq (n:=100000) (by kernel_rfl)
def T47:List Ent:=⟨65,[vE3,vE6],.m (.b true)⟩::T46
theorem Ago:Ar G T47:=Ak mono Agp (n:=100000) (by kernel_rfl)
def T48:List Ent:=⟨35,[.sl [[iE 1,iE 0,iE 1],[iE 2,iE 1,iE 1],[iE 0,iE 2,iE 1],[iE 1,iE 2,iE 1],[iE 2,iE 2,iE 1],[iE 20,iE 0,iE 1],[iE 21,iE 0,iE 1],[iE 20,iE 1,iE 1],[iE 21,iE 1,iE 1]]],.tu [.m vE13,.m (iE 0)]⟩::T47
theorem Agn:Ar G T48:=Ak mono Ago (n:=100000) (by kernel_rfl)
def T49:List Ent:=⟨35,[.sl [[iE 21,iE 1,iE 1],[iE 20,iE 1,iE 1],[iE 21,iE 0,iE 1],[iE 20,iE 0,iE 1]]],.tu [.m vE3,.m (iE 0)]⟩::T48
theorem Agm:Ar G T49:=Ak mono Agn (n:=100000) (by kernel_rfl)
def T50:List Ent:=⟨82,[lifeE,vE3],.tu [.m vE3,.m (iE 0)]⟩::T49
theorem Agl:Ar G T50:=Ak mono Agm (n:=100000) (by kernel_rfl)
def T51:List Ent:=⟨62,[vE13],.m (.b true)⟩::T50
theorem Agk:Ar G T51:=Ak mono Agl (n:=100000) (by kernel_rfl)
def T52:List Ent:=⟨35,[.sl [[iE 2,iE 1,iE 1],[iE 0,iE 1,iE 1],[iE 21,iE 1,iE 1],[iE 20,iE 1,iE 1],[iE 21,iE 0,iE 1],[iE 20,iE 0,iE 1],[iE 2,iE 2,iE 1],[iE 1,iE 2,iE 1],[iE 1,iE 3,iE 1]]],.tu [.m vE12,.m (iE 0)]⟩::T51
theorem Agj:Ar G T52:=Ak mono Agk (n:=100000) (by kernel_rfl)
def T53:List Ent:=⟨82,[lifeE,vE13],.tu [.m vE12,.m (iE 0)]⟩::T52
theorem Agi:Ar G T53:=Ak mono Agj (n:=100000) (by kernel_rfl)
def T54:List Ent:=⟨35,[.sl [[iE 21,iE 1,iE 1],[iE 20,iE 1,iE 1],[iE 21,iE 0,iE 1],[iE 20,iE 0,iE 1],[iE 0,iE 2,iE 1],[iE 2,iE 2,iE 1],[iE 2,iE 1,iE 1],[iE 2,iE 3,iE 1],[iE 1,iE 3,iE 1]]],.tu [.m vE11,.m (iE 0)]⟩::T53
theorem Agh:Ar G T54:=Ak mono Agi (n:=100000) (by kernel_rfl)
def T55:List Ent:=⟨82,[lifeE,vE12],.tu [.m vE11,.m (iE 0)]⟩::T54
theorem Agg:Ar G T55:=Ak mono Agh (n:=100000) (by kernel_rfl)
def T56:List Ent:=⟨35,[.sl [[iE 21,iE 1,iE 1],[iE 20,iE 1,iE 1],[iE 21,iE 0,iE 1],[iE 20,iE 0,iE 1],[iE 3,iE 2,iE 1],[iE 2,iE 2,iE 1],[iE 1,iE 1,iE 1],[iE 1,iE 3,iE 1],[iE 2,iE 3,iE 1]]],.tu [.m vE5,.m (iE 0)]⟩::T55
theorem Agf:Ar G T56:=Ak mono Agg (n:=100000) (by kernel_rfl)
def T57:List Ent:=⟨82,[lifeE,vE11],.tu [.m vE5,.m (iE 0)]⟩::T56
theorem Age:Ar G T57:=Ak mono Agf (n:=100000) (by kernel_rfl)
def T58:List Ent:=⟨62,[vE5],.m (.b true)⟩::T57
theorem Agd:Ar G T58:=Ak mono Age (n:=100000) (by kernel_rfl)
def T59:List Ent:=⟨35,[.sl [[iE 21,iE 1,iE 1],[iE 20,iE 1,iE 1],[iE 21,iE 0,iE 1],[iE 20,iE 0,iE 1],[iE 2,iE 1,iE 1],[iE 3,iE 3,iE 1],[iE 2,iE 3,iE 1],[iE 1,iE 3,iE 1],[iE 3,iE 2,iE 1]]],.tu [.m vE4,.m (iE 0)]⟩::T58
theorem Agc:Ar G T59:=Ak mono Agd (n:=100000) (by kernel_rfl)
def T60:List Ent:=⟨82,[lifeE,vE5],.tu [.m vE4,.m (iE 0)]⟩::T59
theorem Agb:Ar G T60:=Ak mono Agc (n:=100000) (by kernel_rfl)
def T61:List Ent:=⟨62,[vE15],.m (.b true)⟩::T60
theorem Aga:Ar G T61:=Ak mono Agb (n:=100000) (by kernel_rfl)
def T62:List Ent:=⟨35,[.sl [[iE 2,iE 1,iE 1],[iE 3,iE 2,iE 1],[iE 1,iE 3,iE 1],[iE 2,iE 3,iE 1],[iE 3,iE 3,iE 1],[iE 20,iE 0,iE 1],[iE 21,iE 0,iE 1],[iE 20,iE 1,iE 1],[iE 21,iE 1,iE 1]]],.tu [.m vE4,.m (iE 0)]⟩::T61
theorem AfZ:Ar G T62:=Ak mono Aga (n:=100000) (by kernel_rfl)
def T63:List Ent:=⟨56,[lifeE,vE15],.tu [.m vE22,.m (iE 0)]⟩::T62
theorem AfY:Ar G T63:=Ak mono AfZ (n:=100000) (by kernel_rfl)
def T64:List Ent:=⟨62,[vE4],.m (.b true)⟩::T63
theorem AfX:Ar G T64:=Ak mono AfY (n:=100000) (by kernel_rfl)
def T65:List Ent:=⟨35,[.sl [[iE 21,iE 1,iE 1],[iE 20,iE 1,iE 1],[iE 21,iE 0,iE 1],[iE 20,iE 0,iE 1],[iE 3,iE 2,iE 1],[iE 1,iE 2,iE 1],[iE 3,iE 3,iE 1],[iE 2,iE 3,iE 1],[iE 2,iE 4,iE 1]]],.tu [.m vE9,.m (iE 0)]⟩::T64
theorem AfW:Ar G T65:=Ak mono AfX (n:=100000) (by kernel_rfl)
def T66:List Ent:=⟨82,[lifeE,vE4],.tu [.m vE9,.m (iE 0)]⟩::T65
theorem AfV:Ar G T66:=Ak mono AfW (n:=100000) (by kernel_rfl)
def T67:List Ent:=⟨62,[vE22],.m (.b true)⟩::T66
theorem AfU:Ar G T67:=Ak mono AfV (n:=100000) (by kernel_rfl)
def T68:List Ent:=⟨35,[.sl [[iE 1,iE 2,iE 1],[iE 3,iE 2,iE 1],[iE 2,iE 3,iE 1],[iE 3,iE 3,iE 1],[iE 2,iE 4,iE 1],[iE 20,iE 0,iE 1],[iE 21,iE 0,iE 1],[iE 20,iE 1,iE 1],[iE 21,iE 1,iE 1]]],.tu [.m vE9,.m (iE 0)]⟩::T67
theorem AfT:Ar G T68:=Ak mono AfU (n:=100000) (by kernel_rfl)
def T69:List Ent:=⟨56,[lifeE,vE22],.tu [.m vE21,.m (iE 0)]⟩::T68
theorem AfS:Ar G T69:=Ak mono AfT (n:=100000) (by kernel_rfl)
def T70:List Ent:=⟨62,[vE9],.m (.b true)⟩::T69
theorem AfR:Ar G T70:=Ak mono AfS (n:=100000) (by kernel_rfl)
def T71:List Ent:=⟨35,[.sl [[iE 21,iE 1,iE 1],[iE 20,iE 1,iE 1],[iE 21,iE 0,iE 1],[iE 20,iE 0,iE 1],[iE 1,iE 3,iE 1],[iE 3,iE 3,iE 1],[iE 3,iE 2,iE 1],[iE 3,iE 4,iE 1],[iE 2,iE 4,iE 1]]],.tu [.m vE7,.m (iE 0)]⟩::T70
theorem AfQ:Ar G T71:=Ak mono AfR (n:=100000) (by kernel_rfl)
def T72:List Ent:=⟨82,[lifeE,vE9],.tu [.m vE7,.m (iE 0)]⟩::T71
theorem AfP:Ar G T72:=Ak mono AfQ (n:=100000) (by kernel_rfl)
def T73:List Ent:=⟨62,[vE21],.m (.b true)⟩::T72
theorem AfO:Ar G T73:=Ak mono AfP (n:=100000) (by kernel_rfl)
def T74:List Ent:=⟨35,[.sl [[iE 3,iE 2,iE 1],[iE 1,iE 3,iE 1],[iE 3,iE 3,iE 1],[iE 2,iE 4,iE 1],[iE 3,iE 4,iE 1],[iE 20,iE 0,iE 1],[iE 21,iE 0,iE 1],[iE 20,iE 1,iE 1],[iE 21,iE 1,iE 1]]],.tu [.m vE7,.m (iE 0)]⟩::T73
theorem AfN:Ar G T74:=Ak mono AfO (n:=100000) (by kernel_rfl)
def T75:List Ent:=⟨56,[lifeE,vE21],.tu [.m vE14,.m (iE 0)]⟩::T74
theorem AfM:Ar G T75:=Ak mono AfN (n:=100000) (by kernel_rfl)
def T76:List Ent:=⟨62,[vE7],.m (.b true)⟩::T75
theorem AfL:Ar G T76:=Ak mono AfM (n:=100000) (by kernel_rfl)
def T77:List Ent:=⟨35,[.sl [[iE 21,iE 1,iE 1],[iE 20,iE 1,iE 1],[iE 21,iE 0,iE 1],[iE 20,iE 0,iE 1],[iE 4,iE 3,iE 1],[iE 3,iE 3,iE 1],[iE 2,iE 2,iE 1],[iE 2,iE 4,iE 1],[iE 3,iE 4,iE 1]]],.tu [.m vE8,.m (iE 0)]⟩::T76
theorem AfK:Ar G T77:=Ak mono AfL (n:=100000) (by kernel_rfl)
def T78:List Ent:=⟨82,[lifeE,vE7],.tu [.m vE8,.m (iE 0)]⟩::T77
theorem AfJ:Ar G T78:=Ak mono AfK (n:=100000) (by kernel_rfl)
def T79:List Ent:=⟨62,[vE14],.m (.b true)⟩::T78
theorem AfI:Ar G T79:=Ak mono AfJ (n:=100000) (by kernel_rfl)
def T80:List Ent:=⟨54,[.sl [[vE14],[vE3]]],.m (.b true)⟩::T79
theorem AfH:Ar G T80:=Ak mono AfI (n:=100000) (by kernel_rfl)
def T81:List Ent:=⟨35,[.sl [[iE 2,iE 2,iE 1],[iE 3,iE 3,iE 1],[iE 4,iE 3,iE 1],[iE 2,iE 4,iE 1],[iE 3,iE 4,iE 1],[iE 20,iE 0,iE 1],[iE 21,iE 0,iE 1],[iE 20,iE 1,iE 1],[iE 21,iE 1,iE 1]]],.tu [.m vE8,.m (iE 0)]⟩::T80
theorem AfG:Ar G T81:=Ak mono AfH (n:=100000) (by kernel_rfl)
def T82:List Ent:=⟨56,[lifeE,vE14],.tu [.m vE20,.m (iE 0)]⟩::T81
theorem AfF:Ar G T82:=Ak mono AfG (n:=100000) (by kernel_rfl)
def T83:List Ent:=⟨62,[vE8],.m (.b true)⟩::T82
theorem AfE:Ar G T83:=Ak mono AfF (n:=100000) (by kernel_rfl)
def T84:List Ent:=⟨35,[.sl [[iE 21,iE 1,iE 1],[iE 20,iE 1,iE 1],[iE 21,iE 0,iE 1],[iE 20,iE 0,iE 1],[iE 3,iE 2,iE 1],[iE 4,iE 4,iE 1],[iE 3,iE 4,iE 1],[iE 2,iE 4,iE 1],[iE 4,iE 3,iE 1]]],.tu [.m vE10,.m (iE 0)]⟩::T83
theorem AfD:Ar G T84:=Ak mono AfE (n:=100000) (by kernel_rfl)
def T85:List Ent:=⟨82,[lifeE,vE8],.tu [.m vE10,.m (iE 0)]⟩::T84
theorem AfC:Ar G T85:=Ak mono AfD (n:=100000) (by kernel_rfl)
def T86:List Ent:=⟨62,[vE20],.m (.b true)⟩::T85
theorem AfB:Ar G T86:=Ak mono AfC (n:=100000) (by kernel_rfl)
def T87:List Ent:=⟨54,[.sl [[vE20],[vE3]]],.m (.b true)⟩::T86
theorem AfA:Ar G T87:=Ak mono AfB (n:=100000) (by kernel_rfl)
def T88:List Ent:=⟨35,[.sl [[iE 3,iE 2,iE 1],[iE 4,iE 3,iE 1],[iE 2,iE 4,iE 1],[iE 3,iE 4,iE 1],[iE 4,iE 4,iE 1],[iE 20,iE 0,iE 1],[iE 21,iE 0,iE 1],[iE 20,iE 1,iE 1],[iE 21,iE 1,iE 1]]],.tu [.m vE10,.m (iE 0)]⟩::T87
theorem Afz:Ar G T88:=Ak mono AfA (n:=100000) (by kernel_rfl)
def T89:List Ent:=⟨45,[lifeE,vE1,.ag [iE 1,iE 0,iE 0,iE 1,iE 1]],.tu [.m vE19,.m (iE 0)]⟩::T88
theorem Afy:Ar G T89:=Ak mono Afz (n:=100000) (by kernel_rfl)
def T90:List Ent:=⟨62,[vE19],.m (.b true)⟩::T89
theorem Afx:Ar G T90:=Ak mono Afy (n:=100000) (by kernel_rfl)
def T91:List Ent:=⟨65,[vE19,vE6],.m (.b false)⟩::T90
theorem Afw:Ar G T91:=Ak mono Afx (n:=100000) (by kernel_rfl)
def T92:List Ent:=⟨25,[lifeE,vE1,vE33,iE 4],.tu [.m vE4,.m (iE 0)]⟩::T91
theorem Afv:Ar G T92:=Ak mono Afw (n:=100000) (by kernel_rfl)
def T93:List Ent:=⟨25,[lifeE,vE1,.sl [[iE 1,iE 0,iE 0,iE 20,iE 0]],iE 3],.tu [.m vE3,.m (iE 0)]⟩::T92
theorem Afu:Ar G T93:=Ak mono Afv (n:=100000) (by kernel_rfl)
def T94:List Ent:=⟨136,[lifeE,vE3,iE 1],.tu [.m (.ag [iE 1,iE 0,iE 0]),.m (.b true),.m (iE 0)]⟩::T93
theorem Aft:Ar G T94:=Ak mono Afu (n:=100000) (by kernel_rfl)
def T95:List Ent:=⟨184,[vE3,iE 2],.tu [.m (.sl [[vE3]]),.m (iE 0)]⟩::T94
theorem Afs:Ar G T95:=Ak mono Aft (n:=100000) (by kernel_rfl)
def T96:List Ent:=⟨221,[vE32],.m vE32⟩::T95
theorem Afr:Ar G T96:=Ak mono Afs (n:=100000) (by kernel_rfl)
def T97:List Ent:=⟨62,[.sl [[iE (-1),iE 20,iE 1],[iE 0,iE 20,iE 1],[iE (-1),iE 21,iE 1],[iE 0,iE 21,iE 1]]],.m (.b true)⟩::T96
theorem Afq:Ar G T97:=Ak mono Afr (n:=100000) (by kernel_rfl)
def T98:List Ent:=⟨62,[.sl [[iE (-21),iE (-1),iE 1],[iE (-20),iE (-1),iE 1],[iE (-21),iE 0,iE 1],[iE (-20),iE 0,iE 1]]],.m (.b true)⟩::T97
theorem Afp:Ar G T98:=Ak mono Afq (n:=100000) (by kernel_rfl)
def T99:List Ent:=⟨62,[.sl [[iE 0,iE (-21),iE 1],[iE 1,iE (-21),iE 1],[iE 0,iE (-20),iE 1],[iE 1,iE (-20),iE 1]]],.m (.b true)⟩::T98
theorem Afo:Ar G T99:=Ak mono Afp (n:=100000) (by kernel_rfl)
def T100:List Ent:=⟨62,[.sl [[iE (-21),iE 0,iE 1],[iE (-20),iE 0,iE 1],[iE (-21),iE 1,iE 1],[iE (-20),iE 1,iE 1]]],.m (.b true)⟩::T99
theorem AbI:Ar G T100:=Ak mono Afo (n:=100000) (by kernel_rfl)
def T101:List Ent:=⟨62,[.sl [[iE (-1),iE (-21),iE 1],[iE 0,iE (-21),iE 1],[iE (-1),iE (-20),iE 1],[iE 0,iE (-20),iE 1]]],.m (.b true)⟩::T100
theorem AbH:Ar G T101:=Ak mono AbI (n:=100000) (by kernel_rfl)
def T102:List Ent:=⟨62,[.sl [[iE 20,iE (-1),iE 1],[iE 21,iE (-1),iE 1],[iE 20,iE 0,iE 1],[iE 21,iE 0,iE 1]]],.m (.b true)⟩::T101
theorem AbG:Ar G T102:=Ak mono AbH (n:=100000) (by kernel_rfl)
def T103:List Ent:=⟨62,[.sl [[iE 0,iE 20,iE 1],[iE 1,iE 20,iE 1],[iE 0,iE 21,iE 1],[iE 1,iE 21,iE 1]]],.m (.b true)⟩::T102
theorem AbF:Ar G T103:=Ak mono AbG (n:=100000) (by kernel_rfl)
def T104:List Ent:=⟨193,[vE3,vE32],.tu [.m vE2,.m (iE 0)]⟩::T103
theorem AbE:Ar G T104:=Ak mono AbF (n:=100000) (by kernel_rfl)
def T105:List Ent:=⟨128,[lifeE,vE3,iE 1],.m (.s [115,32,50,65,36,50,65])⟩::T104
theorem AbD:Ar G T105:=Ak mono AbE (n:=100000) (by kernel_rfl)
def T106:List Ent:=⟨25,[lifeE,vE1,vE33,iE 3],.tu [.m vE5,.m (iE 0)]⟩::T105
theorem AbC:Ar G T106:=Ak mono AbD (n:=100000) (by kernel_rfl)
def T107:List Ent:=⟨82,[lifeE,vE10],.tu [.m vE24,.m (iE 0)]⟩::T106
theorem AbB:Ar G T107:=Ak mono AbC (n:=100000) (by kernel_rfl)
def T108:List Ent:=⟨82,[lifeE,vE24],.tu [.m vE23,.m (iE 0)]⟩::T107
theorem AbA:Ar G T108:=Ak mono AbB (n:=100000) (by kernel_rfl)
def T109:List Ent:=⟨82,[lifeE,vE23],.tu [.m (.sl [[iE 20,iE 0,iE 1],[iE 21,iE 0,iE 1],[iE 20,iE 1,iE 1],[iE 21,iE 1,iE 1],[iE 3,iE 3,iE 1],[iE 4,iE 4,iE 1],[iE 5,iE 4,iE 1],[iE 3,iE 5,iE 1],[iE 4,iE 5,iE 1]]),.m (iE 0)]⟩::T108
theorem Abz:Ar G T109:=Ak mono AbA (n:=100000) (by kernel_rfl)
def T110:List Ent:=⟨136,[lifeE,vE5,iE 8],.tu [.m (.ag [iE 0,iE 0,iE 0]),.m (.b false),.m (iE 0)]⟩::T109
theorem Aby:Ar G T110:=Ak mono Abz (n:=100000) (by kernel_rfl)
def T111:List Ent:=⟨45,[lifeE,vE1,.ag [iE 1,iE 0,iE 0,iE 0,iE 0]],.tu [.m vE2,.m (iE 0)]⟩::T110
theorem Abx:Ar G T111:=Ak mono Aby (n:=100000) (by kernel_rfl)
def T112:List Ent:=⟨45,[lifeE,vE1,.ag [iE 1,iE 0,iE 0,iE (-1),iE (-1)]],.tu [.m vE25,.m (iE 0)]⟩::T111
theorem Abw:Ar G T112:=Ak mono Abx (n:=100000) (by kernel_rfl)
def T113:List Ent:=⟨62,[vE25],.m (.b true)⟩::T112
theorem Abv:Ar G T113:=Ak mono Abw (n:=100000) (by kernel_rfl)
def T114:List Ent:=⟨54,[.sl [[vE2],[vE25]]],.m (.b false)⟩::T113
theorem Abu:Ar G T114:=Ak mono Abv (n:=100000) (by kernel_rfl)
def T115:List Ent:=⟨45,[lifeE,vE1,.ag [iE 1,iE 0,iE 0,iE 0,iE (-1)]],.tu [.m vE27,.m (iE 0)]⟩::T114
theorem Abt:Ar G T115:=Ak mono Abu (n:=100000) (by kernel_rfl)
def T116:List Ent:=⟨62,[vE27],.m (.b true)⟩::T115
theorem Abr:Ar G T116:=Ak mono Abt (n:=100000) (by kernel_rfl)
def T117:List Ent:=⟨54,[.sl [[vE2],[vE27]]],.m (.b false)⟩::T116
theorem Abq:Ar G T117:=Ak mono Abr (n:=100000) (by kernel_rfl)
def T118:List Ent:=⟨45,[lifeE,vE1,.ag [iE 1,iE 0,iE 0,iE 1,iE (-1)]],.tu [.m vE26,.m (iE 0)]⟩::T117
theorem Abp:Ar G T118:=Ak mono Abq (n:=100000) (by kernel_rfl)
def T119:List Ent:=⟨62,[vE26],.m (.b true)⟩::T118
theorem Abo:Ar G T119:=Ak mono Abp (n:=100000) (by kernel_rfl)
def T120:List Ent:=⟨54,[.sl [[vE2],[vE26]]],.m (.b false)⟩::T119
theorem Abn:Ar G T120:=Ak mono Abo (n:=100000) (by kernel_rfl)
def T121:List Ent:=⟨45,[lifeE,vE1,.ag [iE 1,iE 0,iE 0,iE (-1),iE 0]],.tu [.m vE29,.m (iE 0)]⟩::T120
theorem Abm:Ar G T121:=Ak mono Abn (n:=100000) (by kernel_rfl)
def T122:List Ent:=⟨62,[vE29],.m (.b true)⟩::T121
theorem Abl:Ar G T122:=Ak mono Abm (n:=100000) (by kernel_rfl)
def T123:List Ent:=⟨54,[.sl [[vE2],[vE29]]],.m (.b false)⟩::T122
theorem Abk:Ar G T123:=Ak mono Abl (n:=100000) (by kernel_rfl)
def T124:List Ent:=⟨54,[.sl [[vE2],[vE2]]],.m (.b false)⟩::T123
theorem Abj:Ar G T124:=Ak mono Abk (n:=100000) (by kernel_rfl)
def T125:List Ent:=⟨45,[lifeE,vE1,.ag [iE 1,iE 0,iE 0,iE 1,iE 0]],.tu [.m vE30,.m (iE 0)]⟩::T124
theorem Abi:Ar G T125:=Ak mono Abj (n:=100000) (by kernel_rfl)
def T126:List Ent:=⟨62,[vE30],.m (.b true)⟩::T125
theorem Abh:Ar G T126:=Ak mono Abi (n:=100000) (by kernel_rfl)
def T127:List Ent:=⟨54,[.sl [[vE2],[vE30]]],.m (.b false)⟩::T126
theorem Abg:Ar G T127:=Ak mono Abh (n:=100000) (by kernel_rfl)
def T128:List Ent:=⟨45,[lifeE,vE1,.ag [iE 1,iE 0,iE 0,iE (-1),iE 1]],.tu [.m vE28,.m (iE 0)]⟩::T127
theorem Abf:Ar G T128:=Ak mono Abg (n:=100000) (by kernel_rfl)
def T129:List Ent:=⟨62,[vE28],.m (.b true)⟩::T128
theorem Abe:Ar G T129:=Ak mono Abf (n:=100000) (by kernel_rfl)
def T130:List Ent:=⟨54,[.sl [[vE2],[vE28]]],.m (.b false)⟩::T129
theorem Abd:Ar G T130:=Ak mono Abe (n:=100000) (by kernel_rfl)
def T131:List Ent:=⟨45,[lifeE,vE1,.ag [iE 1,iE 0,iE 0,iE 0,iE 1]],.tu [.m vE31,.m (iE 0)]⟩::T130
theorem Abc:Ar G T131:=Ak mono Abd (n:=100000) (by kernel_rfl)
def T132:List Ent:=⟨62,[vE31],.m (.b true)⟩::T131
theorem Abb:Ar G T132:=Ak mono Abc (n:=100000) (by kernel_rfl)
def T133:List Ent:=⟨54,[.sl [[vE2],[vE31]]],.m (.b false)⟩::T132
theorem Aba:Ar G T133:=Ak mono Abb (n:=100000) (by kernel_rfl)
def T134:List Ent:=⟨54,[.sl [[vE2],[vE19]]],.m (.b false)⟩::T133
theorem AaZ:Ar G T134:=Ak mono Aba (n:=100000) (by kernel_rfl)
theorem UF:Gives G 22 [] [] (.m (.b true)) []:=JZ mono AaZ (n:=100000) (by kernel_rfl)
open Go.Lib
theorem UT (us:List V)(h:Do Go.Proofs.Tryz.prog maxLen 8 Go.Proofs.Tryz.f8.params.toList us):Gives G 8 us [] (.m (.b true)) []:=KN UF us h
theorem Rs (us:List V)(h:Do Go.Proofs.Tryz.prog maxLen 8 Go.Proofs.Tryz.f9.params.toList us):Gives G 9 us [] (.m (.b true)) []:=IZ UF us h
end Go.Mx.Tryz
