/- Lists of immutable values of one cell in rows of their own: what appending, reading, cutting and viewing do. -/
import Derived.Test.YtlhjjcaifenlbaaGreatDoorTc
set_option linter.unusedSimpArgs false
set_option linter.unusedVariables false
set_option linter.unusedSectionVars false
set_option maxRecDepth 100000
namespace Go.Mx.Tryz
open Go.Lib Go.Proofs
def TD (p:List Ce):Int:=p.foldl (fun m c=>max m c.s) 0
theorem Mi (p:List Ce)(c:Ce):TD (p++[c])=max (TD p) c.s:=by simp[TD]
theorem Ks {k:Int}(hk:0<k):∀n (p:List Ce),p.length=n->(TD p<k ↔ ∀c,c∈p->c.s<k)
 | 0,p,h=>by
  rw[AiP h]
  simp[TD,hk]
 | n+1,p,h=>by
  obtain⟨q,c,rfl⟩:∃q c,p=q++[c]:=⟨p.dropLast,p.getLast (by intro e;rw[e]at h;simp at h),(List.dropLast_concat_getLast _).symm⟩
  have ih:=Ks hk n q (by simpa using h)
  rw[Mi]
  constructor
  ·intro h1 d hd
   rcases Ajn.1 hd with hd|hd
   ·exact ih.1 (by omega) d hd
   ·rw[AiQ.1 hd];omega
  ·intro h1
   have:=ih.2 fun d hd=>h1 d (by simp[hd])
   have:=h1 c (by simp)
   omega
theorem top_s {v:I}{p:List Ce}(hv:IsSl v (Aj p))(hl:(p.length:Int)<=9223372036854775806)(H:Hp):Gives G 63 [.m v] H (.m (.i .i64 (TD p))) H:=by
 have hr:=hv.rules
 simp only[show (Aj p).length=p.length from by simp[Aj]]at hr
 refine Al rfl rfl rfl rfl rfl ?_
 simp (maxSteps:=2000000) (disch:=omega) [hr]
 refine(?key:∀(i:Nat) (m:Int) (B:List (Nat×List V)),i<=p.length->m=TD (p.take i)->Run G c63_B0 (S63_0 (.m v) (.m (.i .i64 m)) (.m (.i .i64 p.length)) (.m (.i .i64 (i:Int))) B []) _) 0 0 _ (AiD _) rfl
 refine BN (fun i:Nat=>p.length-i) fun i ih m B hi hm=>?_
 unfold c63_B0
 cases hx:p[i]? with
 | none =>
  have:i=p.length:=by have:=AiC.1 hx;omega
  subst this
  rw[Ajc]at hm
  simp (maxSteps:=2000000) (disch:=omega) [hm]
 | some c =>
  have hlt:=(Aq hx).1
  have hlt':(i:Int)<p.length:=by omega
  have hn:=AJ hx
  have wi:wr .i64 ((i:Int)+1)=((i+1:Nat):Int):=Aa (by omega) (by omega)
  have k:=ih (i+1) (by omega) (max m c.s) B (by omega) (by rw[Az hx,Mi,<-hm])
  simp (maxSteps:=2000000) (disch:=omega) [hr,hlt',hn,wi,-Int.natCast_add]
  exact k
def Dy (t:TreeC)(p:List Ce):Int:=if Bl t=true then if right p=true then if TD p<t.states then 0 else 10 else 2 else 11
theorem UY {t:TreeC}{h n v:I}{es:List (List I)}{p:List Ce}(hT:TreeV t h n es)(hv:IsSl v (Aj p))(hl:(p.length:Int)<=9223372036854775806)(H:Hp):Gives G 81 [.m (.ag [.i .i64 t.states,h,n]),.m v] H (.m (.i .i64 (Dy t p))) H:=by
 have g1:=fun H=>Kx hT H
 have g2:=fun H=>Ef hv (by omega) H
 have g3:=fun H=>top_s hv hl H
 refine Al rfl rfl rfl rfl rfl ?_
 unfold Dy
 cases hq:Bl t with
 | false =>
  rw[hq]at g1
  simp (maxSteps:=2000000) (disch:=omega) [cl (g1 _)]
 | true =>
  rw[hq]at g1
  cases hr:right p with
  | false =>
   rw[hr]at g2
   simp (maxSteps:=2000000) (disch:=omega) [cl (g1 _),cl (g2 _)]
  | true =>
   rw[hr]at g2
   by_cases ht:TD p<t.states
   ·have ht2:¬t.states<=TD p:=by omega
    simp (maxSteps:=2000000) (disch:=omega) [cl (g1 _),cl (g2 _),cl (g3 _),ht,ht2]
   ·have ht2:t.states<=TD p:=by omega
    simp (maxSteps:=2000000) (disch:=omega) [cl (g1 _),cl (g2 _),cl (g3 _),ht,ht2]
theorem BZ {t:TreeC}{p:List Ce}(h:Dy t p=0):Bl t=true/\right p=true/\FC t p:=by
 unfold Dy at h
 split at h
 ·rename_i hq
  split at h
  ·rename_i hr
   split at h
   ·rename_i ht
    have:=(Ks (by have:=(GL hq).s2;omega) _ p rfl).1 ht
    refine⟨hq,hr,fun c hc=>⟨?_,this c hc⟩⟩
    have:=(EG hr).2.1 c hc
    unfold DB at this
    simp only[Aio,Aix]at this
    omega
   ·cases h
  ·cases h
 ·cases h
theorem Ace (x y:Int)(H:Hp):Gives G 119 [.m (.ag [.i .i64 x,.i .i64 y])] H (.m (.b (placed x y))) H:=by
 refine Al rfl rfl rfl rfl rfl ?_
 have e:placed x y=(decide (max x y<=1048576)&&decide (-1048576<=min x y)):=by
  unfold placed
  rw[Ajg]
  simp only[Aio,Aix]
  omega
 rw[e]
 by_cases h1:max x y<=1048576
 ·simp (maxSteps:=2000000) (disch:=omega) [h1]
 ·simp (maxSteps:=2000000) (disch:=omega) [h1]
def fzm (m:List ((Int×Int)×Int)):I:=.mp (m.map fun e=>[ekP e.1,.i .i64 e.2])
theorem AaR {H:Hp}{r:Nat}{m:List ((Int×Int)×Int)}(h:nth H r=some (mPI m))(k:Nat):view (k+2) H (.mp r)=some (fzm m):=by
 show Option.bind (nth H r) _=_
 rw[h]
 show Option.bind (Af (fun(p:I×V)=>(view (k+1) H p.2).bind fun x=>some [p.1,x]) (m.map fun p=>(ekP p.1,evI p.2))) _=_
 have e:Af (fun(p:I×V)=>(view (k+1) H p.2).bind fun x=>some [p.1,x]) (m.map fun p=>(ekP p.1,evI p.2))=some (m.map fun e=>[ekP e.1,.i .i64 e.2]):=by
  clear h
  induction m with
  | nil=>rfl
  | cons a r ih =>
   show Option.bind (some [ekP a.1,I.i .i64 a.2]) _=_
   simp only[Ait,AiT]
   show Option.bind (Af _ (r.map fun p=>(ekP p.1,evI p.2))) _=_
   rw[ih]
   rfl
 rw[e]
 rfl
theorem PF:∀m:List ((Int×Int)×Int),pairs (m.map fun e=>[ekP e.1,I.i .i64 e.2])=some (m.map fun p=>(ekP p.1,evI p.2))
 | []=>rfl
 | a::r=>by
  show Option.bind (pairs (r.map fun e=>[ekP e.1,I.i .i64 e.2])) _=_
  rw[PF r]
  rfl
theorem AhS (M:Mem)(m:List ((Int×Int)×Int))(x y:Int):readX M (.lkp ⟨true,[1,1]⟩ [.m (.i .i64 0)] false false) [.m (fzm m),.m (.ag [.i .i64 x,.i .i64 y])]=some (.m (.i .i64 ((Cp m (x,y)).getD 0))):=by
 have h1:=Aah m x y false
 have h2:readX M (.lkp ⟨true,[1,1]⟩ [.m (.i .i64 0)] false false) [.m (fzm m),.m (.ag [.i .i64 x,.i .i64 y])]=(pairs (m.map fun e=>[ekP e.1,I.i .i64 e.2])).bind fun es=>FV ⟨true,[1,1]⟩ [.m (.i .i64 0)] false false (.mp es false) (.ag [.i .i64 x,.i .i64 y]):=rfl
 rw[h2,PF]
 exact h1
theorem of_m {v:I}{p:List Ce}(hv:IsSl v (Aj p))(hr:right p=true)(H:Hp):Gives G 117 [.m v] H (.m (fzm (Ky p))) H:=by
 obtain⟨pw,hg,hl⟩:=EG hr
 have hrv:=hv.rules
 simp only[show (Aj p).length=p.length from by simp[Aj]]at hrv
 refine Al rfl rfl rfl rfl rfl ?_
 simp (maxSteps:=2000000) (disch:=omega) [hrv]
 refine(?key:∀(i:Nat) (B:List (Nat×List V)),i<=p.length->Run G c117_B0 (S117_0 (.mp 0) (.m v) (.m (.i .i64 p.length)) (.m (.i .i64 (i:Int))) B [mPI (Ky (p.take i))]) _) 0 _ (AiD _)
 refine BN (fun i:Nat=>p.length-i) fun i ih B hi=>?_
 unfold c117_B0
 cases hx:p[i]? with
 | none =>
  have:i=p.length:=by have:=AiC.1 hx;omega
  subst this
  rw[Ajc]
  have hvw:viewR [mPI (Ky p)] (.mp 0)=some (.m (fzm (Ky p))):=by
   show (view 20 _ _).bind _=_
   rw[AaR (H:=[mPI (Ky p)]) (r:=0) (m:=Ky p) rfl 18]
   rfl
  simp (maxSteps:=2000000) (disch:=omega) [hvw]
 | some c =>
  have hlt:=(Aq hx).1
  have hlt':(i:Int)<p.length:=by omega
  have hn:=AJ hx
  have wi:wr .i64 ((i:Int)+1)=((i+1:Nat):Int):=Aa (by omega) (by omega)
  have pw':=pw
  rw[<-List.take_append_drop i p,(Aq hx).2]at pw'
  have hm:=Us pw'
  rw[<-Az hx]at hm
  have k:=ih (i+1) (by omega)
  simp (maxSteps:=2000000) (disch:=omega) [Ab,hrv,hlt',hn,wi,hm,-Int.natCast_add]
  exact k _ (by omega)
set_option maxHeartbeats 2000000 in
theorem AhF {t:TreeC}{h n:I}{es:List (List I)}(hT:TreeV t h n es)(hR:TreeR t){p:List Ce}(hp:FC t p)(x y:Int)(hx:-10000000<=x/\x<=10000000)(hy:-10000000<=y/\y<=10000000)(H:Hp):Gives G 118 [.m (fzm (Ky p)),.m (.ag [.i .i64 t.states,h,n]),.m (.ag [.i .i64 x,.i .i64 y])] H (.m (.i .i64 (CF t p x y))) H:=by
 have hrn:=hT.nd.rules
 have hln:=DN hT
 have hl2:=hT.nl
 have hrh:=hT.hd.rules
 simp only[CT]at hrh
 have hh:=DQ hR.hood
 have n1:=hR.n1
 have n2:=hR.n2
 have w1:wr .i64 ((es.length:Int)-1)=(t.nodes.length:Int)-1:=by rw[Aa (by omega) (by omega)];omega
 refine Al rfl rfl rfl rfl rfl ?_
 simp (maxSteps:=2000000) (disch:=omega) [hrn,hrh,w1]
 refine(?key:∀(i:Nat) (k:Int) (B:List (Nat×List V)),i<=t.hood.length->getB B 4=some [.m (.i .i64 t.states),.m h,.m n]->getB B 5=some [.m (.i .i64 x),.m (.i .i64 y)]->k=QY t ((RH t p x y).take i)->Run G c118_B0 (S118_0 (.m (fzm (Ky p))) (.fa 4 0) (.fa 5 0) (.m (.i .i64 k)) (.m h) (.m (.i .i64 t.hood.length)) (.m (.i .i64 (i:Int))) B []) _) 0 _ _ (AiD _) rfl rfl rfl
 refine BN (fun i:Nat=>t.hood.length-i) fun i ih k B hi hB h5 hk=>?_
 unfold c118_B0
 cases ho:t.hood[i]? with
 | none =>
  have:i=t.hood.length:=by have:=AiC.1 ho;omega
  subst this
  rw[AiJ (by rw[KB];exact Ais _)]at hk
  have hk:k=CF t p x y:=hk
  simp (maxSteps:=2000000) (disch:=omega) [hk]
 | some o =>
  have hlt:=(Aq ho).1
  have hlt2:(i:Int)<t.hood.length:=by omega
  have hox:=Fc ho
  have hob:=GP hR.hood o (Aiu ho)
  have hs:(RH t p x y)[i]? = some (MP p (x+o.1) (y+o.2)):=by unfold RH;rw[AiL,ho];rfl
  have hsv:=KJ hR hp (x+o.1) (y+o.2)
  have htl:((RH t p x y).take i).length=i:=by rw[AiG,KB];omega
  obtain⟨j,nd,hkj,hnd,hlev,hlen⟩:=Pj hR i ((RH t p x y).take i) htl (by omega) fun z hz=>PJ hR hp z (Ajx hz)
  rw[<-hk]at hkj
  obtain⟨z,hz,hzs,hzl,_⟩:=Dn hT hnd
  have hrz:=hzs.rules
  simp only[BT]at hrz
  have hjl:=(Aq hnd).1
  have hjl1:j<es.length:=by omega
  have hjl2:(j:Int)<es.length:=by omega
  have hmf:=Rg p (x+o.1) (y+o.2)
  have hfz:=fun M=>AhS M (Ky p) (x+o.1) (y+o.2)
  rw[hmf]at hfz
  obtain⟨sn,hsn0⟩:=AiN hsv.1
  rw[hsn0]at hs hsv hfz
  have hsn:sn<nd.2.length:=by omega
  have hsn2:(sn:Int)<nd.2.length:=by omega
  obtain⟨k2,hk2⟩:∃k2,nd.2[sn]? = some k2:=⟨_,Aip hsn⟩
  have hk3:nth (Cr nd.2) sn=some [.i .i64 k2]:=Ed hk2
  have wi:wr .i64 ((i:Int)+1)=((i+1:Nat):Int):=Aa (by omega) (by omega)
  have wx:wr .i64 (x+o.1)=x+o.1:=Aa (by omega) (by omega)
  have wy:wr .i64 (y+o.2)=y+o.2:=Aa (by omega) (by omega)
  have e1:QY t ((RH t p x y).take (i+1))=k2:=by
   rw[Az hs,Gf,<-hk,hkj]
   exact PH hnd hk2
  have kk:=fun B'=>ih (i+1) (by omega) k2 B' (by omega)
  rw[hkj]
  simp (maxSteps:=2000000) (disch:=omega) [Ab,hrh,hrn,hlt2,hox,hB,h5,hz,hrz,wx,wy,hfz,hk3,wi,-Int.natCast_add]
  exact kk _ (by simpa using hB) (by simpa using h5) e1.symm
theorem AhO {y:I}{es:List (List I)}(h:IsSl y es):Au (.m y)=some [.m y]:=by
 rcases h with rfl|⟨rfl,_⟩ <;> rfl
theorem box_f {p:List Ce}(hr:right p=true):∃(bx by_:Int) (w h:Nat),Qg p=[bx,by_,(w:Int),(h:Int)]/\(w<=2097153/\h<=2097153)/\(-1048576<=bx/\bx<=1048576)/\(-1048576<=by_/\by_<=1048576)/\(∀c,c∈p->(bx<=c.x/\c.x<bx+w)/\(by_<=c.y/\c.y<by_+h))/\((1<=w/\1<=h)\/(w=0/\h=0)):=by
 cases p with
 | nil=>exact⟨0,0,0,0,rfl,by omega,by omega,by omega,fun c hc=>(by cases hc),.inr ⟨rfl,rfl⟩⟩
 | cons a r =>
  obtain⟨_,hg,_⟩:=EG hr
  have hb:∀c,c∈a::r->(-1048576<=c.x/\c.x<=1048576)/\(-1048576<=c.y/\c.y<=1048576):=fun c hc=>by
   have:=hg c hc
   unfold DB placed at this
   simp only[Aio,Aix]at this
   omega
  obtain⟨l,hl⟩:∃d,(a::r)[(a::r).length-1]? = some d:=⟨_,Aip (by simp)⟩
  obtain⟨y1,y2⟩:=Pv hr hl
  have hla:∀h,(a::r).getLast h=l:=fun h=>by
   rw[List.getLast_eq_getElem,<-Ail,<-hl,Aip]
  have mx:=fun(e:Ce) (he:e∈a::r)=>(PK ((a::r).map Ce.x) a.x).2 _ (AjA he)
  have mn:=fun(e:Ce) (he:e∈a::r)=>(II ((a::r).map Ce.x) a.x).2 _ (AjA he)
  have my:=fun(e:Ce) (he:e∈a::r)=>(PK ((a::r).map Ce.y) a.y).2 _ (AjA he)
  have ny:=fun(e:Ce) (he:e∈a::r)=>(II ((a::r).map Ce.y) a.y).2 _ (AjA he)
  rw[y2]at my
  rw[y1]at ny
  have bX:mxF a.x ((a::r).map Ce.x)<=1048576:=Ur _ _ _ ⟨(hb a (AiM ..)).1.2,fun y hy=>by
   obtain⟨e,he,rfl⟩:=AiH.1 hy
   exact(hb e he).1.2⟩
  have bN:-1048576<=mnF a.x ((a::r).map Ce.x):=JH _ _ _ ⟨(hb a (AiM ..)).1.1,fun y hy=>by
   obtain⟨e,he,rfl⟩:=AiH.1 hy
   exact(hb e he).1.1⟩
  have hlb:=hb l (Aiu hl)
  have hab:=hb a (AiM ..)
  have m5:=mn a (AiM ..)
  have m6:=mx a (AiM ..)
  have m7:=my a (AiM ..)
  have e:Qg (a::r)=[mnF a.x ((a::r).map Ce.x),a.y,wr .i64 (wr .i64 (mxF a.x ((a::r).map Ce.x)-mnF a.x ((a::r).map Ce.x))+1),wr .i64 (wr .i64 (l.y-a.y)+1)]:=by
   unfold Qg
   dsimp only
   rw[Air hr,hla]
  generalize mnF a.x ((a::r).map Ce.x)=n at *
  generalize mxF a.x ((a::r).map Ce.x)=m at *
  rw[Aa (x:=m-n) (by omega) (by omega),Aa (x:=m-n+1) (by omega) (by omega),Aa (x:=l.y-a.y) (by omega) (by omega),Aa (x:=l.y-a.y+1) (by omega) (by omega)]at e
  obtain⟨w,hw⟩:=AiN (show 0<=m-n+1 by omega)
  obtain⟨k,hk⟩:=AiN (show 0<=l.y-a.y+1 by omega)
  rw[hw,hk]at e
  refine⟨n,a.y,w,k,e,by omega,by omega,by omega,fun c hc=>?_,.inl ⟨by omega,by omega⟩⟩
  have h1:=mx c hc
  have h2:=mn c hc
  have h3:=my c hc
  have h4:=ny c hc
  omega
end Go.Mx.Tryz
namespace Go.Mx.Tryz
open Go.Lib
instance:DecidableEq Ce:=fun a b=>if h:a.x=b.x/\a.y=b.y/\a.s=b.s then isTrue (by cases a;cases b;obtain⟨h1,h2,h3⟩:=h;dsimp only at h1 h2 h3;rw[h1,h2,h3]) else isFalse fun e=>h (by rw[e];exact⟨rfl,rfl,rfl⟩)
noncomputable def stp (t:TreeC)(p:List Ce):List Ce×Int:=@Classical.epsilon _ ⟨([],0)⟩ (Fj t p)
theorem TH {t:TreeC}{p:List Ce}{r:List Ce×Int}(h:Fj t p r):stp t p=r:=Rc (@Classical.epsilon_spec_aux _ ⟨([],0)⟩ (Fj t p) ⟨r,h⟩) h
def BU (t:TreeC):Prop:=∀p,Dy t p=0->Fj t p (stp t p)
theorem AcL {t:TreeC}{q:List Ce}(hq:Bl t=true)(h1:q.Pairwise (fun a b=>AZ a b=true))(h2:∀c,c∈q->DB c=true)(h3:q.length<=5000)(ht:FC t q):Dy t q=0:=by
  unfold Dy
  rw[Air hq,Air (Gh h1 h2 h3),Air ((Ks (by have:=(GL hq).s2;omega) _ q rfl).2 fun c hc=>(ht c hc).2)]
theorem JD {t:TreeC}{p:List Ce}(hc:Dy t p=0)(hs:Fj t p (stp t p))(he:(stp t p).2=0):Dy t (stp t p).1=0:=by
  obtain⟨hq,hr,ht⟩:=BZ hc
  have hs':Fj t p ((stp t p).1,0):=by rw[<-he];exact hs
  obtain⟨k1,k2,k3,k4⟩:=WT (GL hq) ht hs'
  exact AcL hq k1 k2 k3 k4
theorem TG {t:TreeC}{p:List Ce}(hs:Fj t p (stp t p))(he:¬(stp t p).2=0):(stp t p).1=[]:=by
  generalize stp t p=r at *
  rcases hs with ⟨rfl,_⟩|⟨_,q,_,_,rfl⟩
  · rfl
  · split
    · rfl
    · rename_i h5
      rw[Aiq h5]at he
      exact absurd rfl he
noncomputable def BP (t:TreeC)(p:List Ce):List Ce×Int:=if Dy t p=0 then stp t p else ([],Dy t p)
theorem NF {t:TreeC}(hS:BU t){p:List Ce}(he:(BP t p).2=0):Dy t p=0/\BP t p=stp t p/\Dy t (BP t p).1=0:=by
  unfold BP at *
  by_cases hc:Dy t p=0
  · rw[Air hc]at *
    exact⟨hc,rfl,JD hc (hS p hc) he⟩
  · rw[Aiq hc]at he
    exact absurd he hc
noncomputable def BC (t:TreeC):Nat->List Ce->List Ce×Int
  | 0,p=>(p,0)
  | n+1,p=>if (stp t p).2=0 then BC t n (stp t p).1 else ([],(stp t p).2)
theorem YD {t:TreeC}:∀(n:Nat) (p:List Ce),¬(BC t n p).2=0->(BC t n p).1=[]
  | 0,p,h=>absurd rfl h
  | n+1,p,h=>by
    unfold BC at *
    by_cases he:(stp t p).2=0
    · rw[Air he]at *
      exact YD n _ h
    · rw[Aiq he]
noncomputable def rnE (t:TreeC)(p:List Ce)(n:Int):List Ce×Int:=if Dy t p=0 then if 0<=n/\n<=10000 then BC t n.toNat p else ([],2) else ([],Dy t p)
theorem NE {t:TreeC}(hq:Bl t=true):stp t []=([],0):=by
  have h0:∀x y,CF t [] x y=0:=fun x y=>Ajp fun h=>by
    obtain⟨c,o,hc,_⟩:=KA hq h
    cases hc
  refine TH (.inr ⟨fun x y h=>absurd (h0 x y) h,[],.nil,fun c=>⟨fun h=>(by cases h),fun h=>absurd (by rw[h.1];exact h0 _ _) h.2⟩,rfl⟩)
def mvd:List Ce->List Ce->Option (Int×Int)
  | c::r,d::s=>if d::s=(c::r).map (fun e=>⟨e.x+(d.x-c.x),e.y+(d.y-c.y),e.s⟩) then some (d.x-c.x,d.y-c.y) else none
  | _,_=>none
theorem Acu (p:List Ce):mvd p []=none:=by cases p <;> rfl
noncomputable def MQ (t:TreeC)(p:List Ce):Nat->Int->List Ce->(Int×Int×Int)×Bool×Int
  | 0,_,_=>((0,0,0),false,0)
  | k+1,g,q=>if (stp t q).2=0 then match mvd p (stp t q).1 with
      | some d=>((g,d.1,d.2),true,0)
      | none=>MQ t p k (g+1) (stp t q).1
    else ((0,0,0),false,(stp t q).2)
theorem UI {t:TreeC}{p q:List Ce}{k:Nat}{g:Int}(he:(stp t q).2=0):MQ t p (k+1) g q=match mvd p (stp t q).1 with
      | some d=>((g,d.1,d.2),true,0)
      | none=>MQ t p k (g+1) (stp t q).1:=by
  rw[MQ,Air he]
theorem YQ {t:TreeC}{p q:List Ce}{k:Nat}{g:Int}(he:¬(stp t q).2=0):MQ t p (k+1) g q=((0,0,0),false,(stp t q).2):=by
  rw[MQ,Aiq he]
theorem KK {t:TreeC}(hq:Bl t=true)(p:List Ce):∀(k:Nat) (g:Int),MQ t p k g []=((0,0,0),false,0)
  | 0,_=>rfl
  | k+1,g=>by
    rw[UI (by rw[NE hq]),NE hq]
    show (match mvd p []with
      | some d=>((g,d.1,d.2),true,0)
      | none=>MQ t p k (g+1) [])=_
    rw[Acu]
    exact KK hq p k (g+1)
theorem MF {t:TreeC}(hq:Bl t=true)(p:List Ce):∀(k:Nat) (g:Int) (q:List Ce) (m:Int×Int×Int) (e:Int),MQ t p k g q=(m,true,e) -> ∃j:Nat,j<k/\m.1=g+j/\e=0 /\ ∀i,i<=j->(BC t i q).2=0 /\ ¬(BC t i q).1=[]
  | 0,g,q,m,e,h=>by cases h
  | k+1,g,q,m,e,h=>by
    have hne:¬q=[]:=fun e=>by rw[e,KK hq]at h;cases h
    by_cases he:(stp t q).2=0
    · rw[UI he]at h
      cases hm:mvd p (stp t q).1 with
      | some d =>
        rw[hm]at h
        cases h
        refine⟨0,by omega,by simp,rfl,fun i hi=>?_⟩
        have:i=0:=by omega
        subst this
        exact⟨rfl,hne⟩
      | none =>
        rw[hm]at h
        obtain⟨j,h1,h2,h3,h4⟩:=MF hq p k (g+1) _ m e h
        refine⟨j+1,by omega,by omega,h3,fun i hi=>?_⟩
        cases i with
        | zero=>exact⟨rfl,hne⟩
        | succ i =>
          have e:BC t (i+1) q=BC t i (stp t q).1:=by rw[BC,Air he]
          rw[e]
          exact h4 i (by omega)
    · rw[YQ he]at h
      cases h
noncomputable def AcF (t:TreeC)(p:List Ce)(most:Int):(Int×Int×Int)×Bool×Int:=if Dy t p=0 then if 1<=most/\most<=64 then MQ t p most.toNat 1 p else ((0,0,0),false,2) else ((0,0,0),false,Dy t p)
noncomputable def AdA (t:TreeC)(p:List Ce)(m:Int×Int×Int):Bool×Int:=((AcF t p m.1).2.1&&decide ((AcF t p m.1).1=m),(AcF t p m.1).2.2)
structure Sh where
  c:List Ce
  m:Int×Int×Int
def TA (p:List Ce):Bool:=match Qg p with
  | [_,_,w,h]=>decide (10000<w)||decide (10000<h)
  | _=>false
noncomputable def Gg (t:TreeC)(s:Sh):Bool:=(!s.c.isEmpty&&right s.c)&&(!TA s.c&&((AdA t s.c s.m).1&&decide ((AdA t s.c s.m).2=0)))
def Spr (w:Int)(p:List Ce):Prop:=∀c d,c∈p->d∈p->c.x-d.x<=w/\c.y-d.y<=w
theorem AbJ {t:TreeC}(hq:Bl t=true){p:List Ce}(hs:Fj t p (stp t p)){w:Int}(h:Spr w p):Spr (w+4) (stp t p).1:=by
  have near:∀c,c∈(stp t p).1 -> ∃d,d∈p/\(-2<=c.x-d.x/\c.x-d.x<=2)/\(-2<=c.y-d.y/\c.y-d.y<=2):=by
    generalize stp t p=r at *
    intro c hc
    rcases hs with ⟨rfl,_⟩|⟨_,q,_,hm,rfl⟩
    · cases hc
    · split at hc
      · cases hc
      · have h1:=(hm c).1 hc
        have h2:¬CF t p c.x c.y=0:=by rw[<-h1.1];exact h1.2
        obtain⟨d,o,hd,ho,ex,ey⟩:=KA hq h2
        have hb:=GP (GL hq).hood o ho
        exact⟨d,hd,by omega,by omega⟩
  intro a b ha hb
  obtain⟨a',ha',_,_⟩:=near a ha
  obtain⟨b',hb',_,_⟩:=near b hb
  have:=h a' b' ha' hb'
  omega
theorem Pu {t:TreeC}(hS:BU t):∀(n:Nat) (p:List Ce),Dy t p=0->(BC t n p).2=0->Dy t (BC t n p).1=0
  | 0,p,hc,_=>hc
  | n+1,p,hc,h=>by
    unfold BC at *
    by_cases he:(stp t p).2=0
    · rw[Air he]at *
      exact Pu hS n _ (JD hc (hS p hc) he) h
    · rw[Aiq he]at h
      exact absurd h he
theorem TT {t:TreeC}(hS:BU t)(hq:Bl t=true):∀(n:Nat) (p:List Ce) (w:Int),Dy t p=0->Spr w p->(BC t n p).2=0->Spr (w+4*n) (BC t n p).1
  | 0,p,w,hc,h,_=>by simpa[BC]using h
  | n+1,p,w,hc,h,h0=>by
    unfold BC at *
    by_cases he:(stp t p).2=0
    · rw[Air he]at *
      have:=TT hS hq n _ _ (JD hc (hS p hc) he) (AbJ hq (hS p hc) h) h0
      rw[show w+4*((n+1:Nat):Int)=w+4+4*(n:Int) from by omega]
      exact this
    · rw[Aiq he]at h0
      exact absurd h0 he
structure ShipR (t:TreeC)(s:Sh):Prop where
  q:Bl t=true
  ck:Dy t s.c=0
  p1:1<=s.m.1
  p2:s.m.1<=64
  ph:∀i:Nat,(i:Int)<s.m.1->(BC t i s.c).2=0 /\ ¬(BC t i s.c).1=[]/\Dy t (BC t i s.c).1=0/\Spr 11000 (BC t i s.c).1
theorem WO {p:List Ce}(hr:right p=true)(hw:TA p=false):Spr 9999 p:=by
  obtain⟨bx,by_,w,h,e,_,_,_,hall,_⟩:=box_f hr
  unfold TA at hw
  rw[e]at hw
  simp only[Bool.or_eq_false_iff,decide_eq_false_iff_not]at hw
  intro c d hc hd
  have h1:=hall c hc
  have h2:=hall d hd
  omega
theorem Hr {t:TreeC}(hS:BU t){s:Sh}(h:Gg t s=true):ShipR t s:=by
  unfold Gg at h
  simp only[Aio,AiU,Aix]at h
  obtain⟨⟨h1,h2⟩,h3,h4,h5⟩:=h
  unfold AdA at h4 h5
  simp only[Aio,Aix]at h4 h5
  obtain⟨h4,h6⟩:=h4
  unfold AcF at h4 h5 h6
  have hc:Dy t s.c=0:=by
    refine Ajp fun hn=>?_
    rw[Aiq hn]at h4
    cases h4
  rw[Air hc]at h4 h5 h6
  have hm:1<=s.m.1/\s.m.1<=64:=by
    refine Ajp fun hn=>?_
    rw[Aiq hn]at h4
    cases h4
  rw[Air hm]at h4 h5 h6
  have hq:=(BZ hc).1
  obtain⟨j,k1,k2,_,k4⟩:=MF hq s.c s.m.1.toNat 1 s.c s.m 0 (by
    generalize MQ t s.c s.m.1.toNat 1 s.c=r at *
    obtain⟨a,b,c⟩:=r
    dsimp only at *
    rw[h4,h5,h6])
  refine⟨hq,hc,hm.1,hm.2,fun i hi=>?_⟩
  have ki:=k4 i (by omega)
  refine⟨ki.1,ki.2,Pu hS i s.c hc ki.1,?_⟩
  have:=TT hS hq i s.c 9999 hc (WO h2 h3) ki.1
  intro c d hc hd
  have:=this c d hc hd
  omega
def shF (p:List Ce)(dx dy:Int):List Ce×Int:=if (-2097152<=dx/\dx<=2097152)/\(-2097152<=dy/\dy<=2097152) then if (p.all fun c=>placed (c.x+dx) (c.y+dy))=true then (p.map (mvC (-dx) (-dy)),0) else ([],5) else ([],5)
def tnS (k:Nat)(p:List Ce):List Ce:=AR (p.map (tnC k))
theorem AaY {k:Nat}{p:List Ce}(h:p.Pairwise fun a b=>AZ a b=true):Ry k p (tnS k p):=⟨Bf _,CQ (JC k (EZ h))⟩
theorem Pk {k:Nat}{p q:List Ce}(h:p.Pairwise fun a b=>AZ a b=true)(hq:Ry k p q):q=tnS k p:=IB (AaY h).2 hq.2 (hq.1.trans (AaY h).1.symm)
theorem AgX {w:Int}{k:Nat}{p q:List Ce}(h:Spr w p)(hq:q.Perm (p.map (tnC k))):Spr w q:=fun c d hc hd=>by
  obtain⟨c',hc',rfl⟩:=AiH.1 (hq.mem_iff.1 hc)
  obtain⟨d',hd',rfl⟩:=AiH.1 (hq.mem_iff.1 hd)
  have h1:=h c' d' hc' hd'
  have h2:=h d' c' hd' hc'
  unfold tnC Gl
  split <;> dsimp only <;> omega
theorem AgY {w a b:Int}{p:List Ce}(h:Spr w p):Spr w (p.map (mvC a b)):=fun c d hc hd=>by
  obtain⟨c',hc',rfl⟩:=AiH.1 hc
  obtain⟨d',hd',rfl⟩:=AiH.1 hd
  have h1:=h c' d' hc' hd'
  unfold mvC
  dsimp only
  omega
theorem JJ {p:List Ce}(hr:right p=true)(h:Spr 11000 p):right (Cq p)=true:=by
  obtain⟨h1,h2,h3⟩:=AI hr
  refine Gh (AcD h1) (fun c hc=>?_) (by unfold Cq;rw[AiB];exact h3)
  refine TL (p:=p) (fun c d hc hd=>?_) (fun c hc=>?_) c hc
  · have:=h c d hc hd
    omega
  · exact(Bt hr hc).2.2
theorem PY {p:List Ce}:Cq p=[]↔p=[]:=by unfold Cq;simp
noncomputable def Adv (t:TreeC)(s:Sh)(n k:Nat):List Ce:=Cq (tnS k (Cq (BC t n s.c).1))
theorem TR {t:TreeC}{s:Sh}(h:ShipR t s){n:Nat}(hn:(n:Int)<s.m.1)(k:Nat):right (Cq (BC t n s.c).1)=true/\right (tnS k (Cq (BC t n s.c).1))=true/\right (Adv t s n k)=true /\ ¬Adv t s n k=[]:=by
  obtain⟨h1,h2,h3,h4⟩:=h.ph n hn
  have hr:=(BZ h3).2.1
  have k1:=JJ hr h4
  have k2:=AaY (k:=k) (AI k1).1
  have k3:=QZ k1 k2
  have k4:Spr 11000 (tnS k (Cq (BC t n s.c).1)):=AgX (AgY h4) k2.1
  refine⟨k1,k3,JJ k3 k4,fun e=>h2 ?_⟩
  have e1:=PY.1 e
  have e2:=k2.1.length_eq
  rw[e1,AiB]at e2
  exact PY.1 (AiP e2.symm)
structure St5 where
  i:Int
  n:Int
  k:Int
  x:Int
  y:Int
noncomputable def phF (t:TreeC)(s:Sh)(n:Int):List Ce×Int:=if Bl t=true then if (0<=n/\n<=10000)/\Gg t s=true then (Cq (BC t (n.toNat%s.m.1.toNat) s.c).1,0) else ([],2) else ([],11)
noncomputable def plF (t:TreeC)(l:List Sh)(x:St5):List Ce×Int:=if Bl t=true then match (if 0<=x.i then l[x.i.toNat]? else none) with
    | some s=>if (0<=x.k/\x.k<=7)/\((0<=x.n/\x.n<=10000)/\Gg t s=true) then shF (Adv t s (x.n.toNat%s.m.1.toNat) x.k.toNat) x.x x.y else ([],2)
    | none=>([],13)
  else ([],11)
theorem Iy {p:List Ce}(hr:right p=true){dx dy:Int}:right (shF p dx dy).1=true/\((shF p dx dy).2=0->(shF p dx dy).1=p.map (mvC (-dx) (-dy))):=by
  obtain⟨h1,h2,h3⟩:=AI hr
  unfold shF
  split
  · split
    · rename_i ha
      refine⟨Gh ?_ (fun c hc=>?_) (by rw[AiB];exact h3),fun _=>rfl⟩
      · exact List.Pairwise.map _ (fun a b hab=>by rw[Uz];exact hab) h1
      · obtain⟨d,hd,rfl⟩:=AiH.1 hc
        have k1:=Aiw.1 ha d hd
        have k2:=Bt hr hd
        unfold DB mvC placed at *
        simp only[Aio,Aix]at *
        omega
    · exact⟨rfl,fun h=>by cases h⟩
  · exact⟨rfl,fun h=>by cases h⟩
theorem Acf {t:TreeC}(hS:BU t){l:List Sh}{x:St5}:right (plF t l x).1=true/\((plF t l x).2=0 -> ¬(plF t l x).1=[]):=by
  unfold plF
  split
  · split
    · rename_i s _
      split
      · rename_i h
        have hR:=Hr hS h.2.2
        have hlt:((x.n.toNat%s.m.1.toNat:Nat):Int)<s.m.1:=by
          have:=hR.p1
          have:=Nat.mod_lt x.n.toNat (show 0<s.m.1.toNat from by omega)
          omega
        obtain⟨_,_,k3,k4⟩:=TR hR hlt x.k.toNat
        refine⟨(Iy k3).1,fun h0=>?_⟩
        rw[(Iy k3).2 h0]
        simpa using k4
      · exact⟨rfl,fun h=>by cases h⟩
    · exact⟨rfl,fun h=>by cases h⟩
  · exact⟨rfl,fun h=>by cases h⟩
open Go.Proofs
theorem PU (l:List Ce):Bj (Aj l)=AK l:=by
 unfold Bj Aj AK
 rw[Ajy]
 rfl
theorem AhZ (p:List Ce)(hne:p≠[])(hl:p.length<=1000000):Gives G 89 [.m (.sl (Aj p))] [] (.sl 0 p.length 3 0 p.length false) [Row.cs 73 3 (AK p) 0 false]:=by
 refine .of_ret (Bd mono rfl rfl rfl rfl rfl ?_)
 have hnil:DZ 4 (.m (.sl (Aj p)))=some false:=rfl
 have ha:∀B,An (fun _ _ _=>none) ⟨B,[]⟩ (.app 73 3 24) [.ls [],.m (.sl (Aj p))]=some (.sl 0 p.length 3 0 p.length false,⟨B,[Row.cs 73 3 (AK p) 0 false]⟩):=fun B=>by
  obtain⟨c,r,rfl⟩:=AjO hne
  show Bu ⟨B,[]⟩ 73 3 24 (Bj (Aj (c::r)))=_
  rw[PU]
  have h1:Nat.ble ((AK (c::r)).length*24) 140737488355328=true:=by rw[Bb];exact Aiv (by rw[DP];omega)
  have h2:((AK (c::r)).all fun e=>Nat.beq e.length 3&&e.all BM)=true:=by
   unfold AK
   rw[List.all_map,Aiw]
   exact fun _ _=>rfl
  unfold Bu
  rw[h1,h2,DP]
  rfl
 simp[hnil,-Dl,ha]
theorem XV:Gives G 89 [.m (.sl (Aj []))] [] (.ls []) []:=by
 refine .of_ret (Bd mono rfl rfl rfl rfl rfl ?_)
 have hnil:DZ 4 (.m (.sl (Aj [])))=some false:=rfl
 have ha:∀B,An (fun _ _ _=>none) ⟨B,[]⟩ (.app 73 3 24) [.ls [],.m (.sl (Aj []))]=some (.ls [],⟨B,[]⟩):=fun B=>rfl
 simp[hnil,-Dl,ha]
theorem XU:Gives G 89 [.m (.nl 4)] [] (.m (.nl 4)) []:=by
 refine .of_ret (Bd mono rfl rfl rfl rfl rfl ?_)
 have hnil:DZ 4 (.m (.nl 4))=some true:=rfl
 simp[hnil]
theorem TS {p:List Ce}{dx dy:Int}(h1:-2097152<=dx/\dx<=2097152)(h2:-2097152<=dy/\dy<=2097152):shF p dx dy=if (p.all fun c=>placed (c.x+dx) (c.y+dy))=true then (p.map (mvC (-dx) (-dy)),0) else ([],5):=by
 unfold shF
 rw[Air ⟨h1,h2⟩]
theorem Aha {p:List Ce}{dx dy:Int}(h:¬((-2097152<=dx/\dx<=2097152)/\(-2097152<=dy/\dy<=2097152))):shF p dx dy=([],5):=by
 unfold shF
 rw[Aiq h]
theorem AbR {p:List Ce}{dx dy:Int}{c:Ce}(h1:-2097152<=dx/\dx<=2097152)(h2:-2097152<=dy/\dy<=2097152)(hc:c∈p)(h:placed (c.x+dx) (c.y+dy)=false):shF p dx dy=([],5):=by
 rw[TS h1 h2,Aiq]
 rw[Aiw]
 intro hh
 rw[hh c hc]at h
 cases h
set_option maxHeartbeats 2000000 in
theorem Xa {v:I}{p:List Ce}(hv:IsSl v (Aj p))(hp:right p=true)(dx dy:Int):∃x,IsSl x (Aj (shF p dx dy).1) /\ ∀H,Gives G 46 [.m v,.m (.i .i64 dx),.m (.i .i64 dy)] H (.tu [.m x,.m (.i .i64 (shF p dx dy).2)]) H:=by
 have hl:=(AI hp).2.2
 have hr:=hv.rules
 simp only[show (Aj p).length=p.length from by simp[Aj]]at hr
 have g1:=fun H=>Ef hv (by omega) H
 rw[hp]at g1
 by_cases hd:(-2097152<=dx/\dx<=2097152)/\(-2097152<=dy/\dy<=2097152)
 rotate_left
 ·rw[Aha hd]
  refine⟨.nl 4,Bc,fun H=>Al rfl rfl rfl rfl rfl ?_⟩
  by_cases h1:2097152<max dx dy
  ·simp (maxSteps:=2000000) (disch:=omega) [cl (g1 _),h1]
  ·have h2:min dx dy < -2097152:=by omega
   simp (maxSteps:=2000000) (disch:=omega) [cl (g1 _),h1,h2]
 obtain⟨hx,hy⟩:=hd
 have h1:¬2097152<max dx dy:=by omega
 have h2:¬min dx dy < -2097152:=by omega
 by_cases hne:p=[]
 ·subst hne
  rw[TS hx hy]
  show ∃x,IsSl x (Aj []) /\ ∀H,Gives G 46 [.m v,.m (.i .i64 dx),.m (.i .i64 dy)] H (.tu [.m x,.m (.i .i64 0)]) H
  rcases hv with rfl|⟨rfl,_⟩
  ·refine⟨.sl [],Bp _,fun H=>Al rfl rfl rfl rfl rfl ?_⟩
   simp (maxSteps:=2000000) (disch:=omega) [cl (g1 _),h1,h2,cl XV,c46_B0]
  ·refine⟨.nl 4,Bc,fun H=>Al rfl rfl rfl rfl rfl ?_⟩
   simp (maxSteps:=2000000) (disch:=omega) [cl (g1 _),h1,h2,cl XU,c46_B0]
 have hve:v=.sl (Aj p):=by
  rcases hv with rfl|⟨rfl,h0⟩
  ·rfl
  ·exact absurd (by simpa[Aj]using h0) hne
 subst hve
 have gc:=AhZ p hne (by omega)
 have key:∃x H',Gives G 46 [.m (.sl (Aj p)),.m (.i .i64 dx),.m (.i .i64 dy)] [] x H'/\(H'=[] /\ ∃z,IsSl z (Aj (shF p dx dy).1)/\x=.tu [.m z,.m (.i .i64 (shF p dx dy).2)]):=by
  refine Bn ?_
  refine Fv rfl rfl rfl rfl rfl ?_
  generalize hQ:(fun(x:V) (H':Hp)=>H'=[] /\ ∃z,IsSl z (Aj (shF p dx dy).1)/\x=.tu [.m z,.m (.i .i64 (shF p dx dy).2)])=Q
  have qk:shF p dx dy=(p.map (mvC (-dx) (-dy)),0)->Q (.tu [.m (.sl (Aj (p.map (mvC (-dx) (-dy))))),.m (.i .i64 0)]) []:=fun h=>by rw[<-hQ];exact⟨rfl,_,by rw[h];exact Bp _,by rw[h]⟩
  have qe:shF p dx dy=([],5)->Q (.tu [.m (.nl 4),.m (.i .i64 5)]) []:=fun h=>by rw[<-hQ];exact⟨rfl,_,by rw[h];exact Bc,by rw[h]⟩
  clear hQ
  simp (maxSteps:=2000000) (disch:=omega) [cl (g1 _),h1,h2,cl gc]
  refine(?key:∀(j b:Nat) (g:List Ce) (B:List (Nat×List V)),j<=p.length->b<=p.length->g=(p.take j).map (mvC (-dx) (-dy))++p.drop j->((p.take j).all fun c=>placed (c.x+dx) (c.y+dy))=true->Run G c46_B0 (S46_0 (.m (.i .i64 dx)) (.m (.i .i64 dy)) (.sl 0 p.length 3 0 p.length false) (.m (.i .i64 (p.length:Int))) (.m (.i .i64 (j:Int))) B [Row.cs 73 3 (AK g) b false]) _) 0 0 p _ (AiD _) (AiD _) (by simp) rfl
  refine BN (fun j:Nat=>p.length-j) fun j ih b g B hj hbl hg hall=>?_
  have hgl:g.length=p.length:=by rw[hg,AiA,AiB,AiG,AiY];omega
  unfold c46_B0
  cases hpj:p[j]? with
  | some c =>
   have hlt:=(Aq hpj).1
   have hlt':(j:Int)<p.length:=by omega
   have wj:wr .i64 ((j:Int)+1)=((j+1:Nat):Int):=Aa (by omega) (by omega)
   have hbc:=Bt hp (Aiu hpj)
   have w1:wr .i64 (c.x+dx)=c.x+dx:=Aa (by omega) (by omega)
   have w2:wr .i64 (c.y+dy)=c.y+dy:=Aa (by omega) (by omega)
   have htl:((p.take j).map (mvC (-dx) (-dy))).length=j:=by rw[AiB,AiG];omega
   have hgc:g[j]? = some c:=by
    rw[hg,AiX (by omega),htl,Nat.sub_self,(Aq hpj).2]
    rfl
   have hgc1:(g.set j ⟨c.x+dx,c.y,c.s⟩)[j]? = some ⟨c.x+dx,c.y,c.s⟩:=by
    rw[AjQ (by omega)]
   have hgc2:(g.set j ⟨c.x+dx,c.y+dy,c.s⟩)[j]? = some ⟨c.x+dx,c.y+dy,c.s⟩:=by
    rw[AjQ (by omega)]
   have rx:=r3_x hgc
   have ry:=r3_y hgc1
   have wx:=w3_x hgc (c.x+dx)
   have wy:=w3_y hgc1 (c.y+dy)
   rw[List.set_set]at wy
   have e:g.set j ⟨c.x+dx,c.y+dy,c.s⟩=(p.take (j+1)).map (mvC (-dx) (-dy))++p.drop (j+1):=by
    rw[hg,AjJ _ _ (by omega),htl,Nat.sub_self,(Aq hpj).2,Az hpj]
    simp[mvC]
   have rr:nth (AK (g.set j ⟨c.x+dx,c.y+dy,c.s⟩)) j=some [.m (.i .i64 (c.x+dx)),.m (.i .i64 (c.y+dy)),.m (.i .i64 c.s)]:=CE hgc2
   have rr3:Dq 3 (AK (g.set j ⟨c.x+dx,c.y+dy,c.s⟩)) j 0 3=some [.m (.i .i64 (c.x+dx)),.m (.i .i64 (c.y+dy)),.m (.i .i64 c.s)]:=by
    rw[Kw,rr]
    rfl
   have ga:=fun H=>AcO ⟨c.x+dx,c.y+dy,c.s⟩ H
   have gp:=fun H=>Ht (c.x+dx) (c.y+dy) H
   dsimp only at ry wy ga
   have hall2:placed (c.x+dx) (c.y+dy)=true->((p.take (j+1)).all fun c=>placed (c.x+dx) (c.y+dy))=true:=fun h=>by
    rw[Az hpj,List.all_append,hall]
    simp[h]
   have k2:=fun h B'=>ih (j+1) (by omega) p.length _ B' (by omega) (Ais _) e (hall2 h)
   cases hpl:placed (c.x+dx) (c.y+dy) with
   | true =>
    have k3:=k2 hpl
    rw[hpl]at gp
    simp (maxSteps:=2000000) (disch:=omega) [Ab,hlt',wj,w1,w2,rx,ry,wx,wy,rr3,hbl,hgl,cl (ga _),cl (gp _),-Int.natCast_add]
    exact k3 _
   | false =>
    have k3:=qe (AbR hx hy (Aiu hpj) hpl)
    rw[hpl]at gp
    simp (maxSteps:=2000000) (disch:=omega) [Ab,hlt',w1,w2,rx,ry,wx,wy,rr3,hbl,hgl,cl (ga _),cl (gp _)]
    exact k3
  | none =>
   have:j=p.length:=by have:=AiC.1 hpj;omega
   subst this
   rw[Ajc]at hg hall
   rw[Ajs,AiV]at hg
   have k2:=qk (by rw[TS hx hy,Air hall])
   rw[<-hg]at k2
   have hvw:=WP (r:=0) (b:=b) (X:=[]) (A:=[]) (q:=g) (n:=p.length) hgl hbl 18
   simp (maxSteps:=2000000) (disch:=omega) [hvw]
   exact k2
 obtain⟨x,H',g,rfl,z,h1,rfl⟩:=key
 exact⟨z,h1,fun H=>Ba (H:=H) (is:=[.sl (Aj p),.i .i64 dx,.i .i64 dy]) rfl rfl g rfl (.inl ⟨rfl,rfl⟩)⟩
def Vi (p:List Ce)(c:Ce):Bool:=p.any fun d=>decide (d.x=c.x)&&decide (d.y=c.y)
theorem Mv (d:Ce)(s:List Ce)(c:Ce):Vi (d::s) c=((decide (d.x=c.x)&&decide (d.y=c.y))||Vi s c):=rfl
theorem Ul {p:List Ce}{c:Ce}(h:∀d,d∈p->apart c d):Vi p c=false:=by
 unfold Vi
 rw[List.any_eq_false]
 intro d hd
 have:=h d hd
 unfold apart at this
 simp only[Aio,Aix]
 exact fun hh=>this ⟨hh.1.symm,hh.2.symm⟩
theorem Uk {d:Ce}{s:List Ce}{c:Ce}(h:apart c d):Vi (d::s) c=Vi s c:=by
 rw[Mv]
 have:(decide (d.x=c.x)&&decide (d.y=c.y))=false:=by
  rw[Bool.eq_false_iff]
  simp only[ne_eq,Aio,Aix]
  exact fun hh=>h ⟨hh.1.symm,hh.2.symm⟩
 rw[this,Bool.false_or]
theorem FE {a b:Ce}(h:AZ a b=true):apart a b:=by
 unfold AZ at h
 unfold apart
 simp at h
 omega
def pkF (a b:List Ce)(has:Bool):List Ce:=a.filter fun c=>Vi b c==has
theorem pk_a {c:Ce}{r b:List Ce}(has:Bool)(h:∀d,d∈b->AZ c d=true):pkF (c::r) b has=(if has=true then [] else [c])++pkF r b has:=by
 have e:=Ul (p:=b) (c:=c) fun d hd=>FE (h d hd)
 unfold pkF
 rw[List.filter_cons,e]
 cases has <;> rfl
theorem pk_b {d:Ce}{a s:List Ce}(has:Bool)(h:∀c,c∈a->AZ d c=true):pkF a (d::s) has=pkF a s has:=by
 unfold pkF
 refine List.filter_congr fun c hc=>?_
 rw[Uk (Fd (FE (h c hc)))]
theorem pk_ab {c d:Ce}{r s:List Ce}(has:Bool)(hx:c.x=d.x)(hy:c.y=d.y)(h:∀e,e∈r->AZ c e=true):pkF (c::r) (d::s) has=(if has=true then [c] else [])++pkF r s has:=by
 have e:Vi (d::s) c=true:=by rw[Mv,hx,hy];simp
 have e2:pkF r (d::s) has=pkF r s has:=pk_b has fun e he=>by
  have:=h e he
  unfold AZ at *
  rw[<-hx,<-hy]
  exact this
 rw[<-e2]
 unfold pkF
 rw[List.filter_cons,e]
 cases has <;> rfl
theorem Acj (b:List Ce)(has:Bool):pkF [] b has=[]:=rfl
theorem YF {a b:List Ce}:pkF a b true=[] ↔ ∀c,c∈a -> ∀d,d∈b->apart c d:=by
 unfold pkF
 rw[List.filter_eq_nil_iff]
 refine⟨fun h c hc d hd hh=>?_,fun h c hc=>?_⟩
 ·have h1:=h c hc
  have h2:Vi b c=true:=by
   unfold Vi
   rw[List.any_eq_true]
   exact⟨d,hd,by simp[hh.1,hh.2]⟩
  rw[h2]at h1
  exact h1 rfl
 ·rw[Ul fun d hd=>h c hc d hd]
  simp
theorem Rv (p:List Ce):Vh 3 (Aj p)=true:=by
 cases p <;> rfl
theorem Iv {v:I}{c:Ce}{r:List Ce}(h:IsSl v (Aj (c::r))):∃u,IsSl u (Aj r)/\Ap (.slc 3 true false false) [.m v,.m (.i .i64 1)]=some (.m u):=by
 refine⟨subI v 1 (Aj (c::r)).length,?_,?_⟩
 ·have:=h.sub 1 (Aj (c::r)).length
  have e:((Aj (c::r)).drop 1).take ((Aj (c::r)).length-1)=Aj r:=by
   show (Aj r).take _=_
   rw[AiJ (by simp[Aj])]
  rw[e]at this
  exact this
 ·rw[h.slc (Rv _) rfl]
  have hb:IW (Aj (c::r)).length true false false [.m (.i .i64 1)]=some (1,(Aj (c::r)).length):=by
   rw[AaG]
   have:bnd (Aj (c::r)).length (.m (.i .i64 1))=some 1:=by
    show gd (Nat.ble 1 (Aj (c::r)).length) (some 1)=_
    rw[Bb,Aiv (by simp[Aj])]
    rfl
   rw[this]
   rfl
  rw[hb]
  rfl
def Vis (f:Nat)(cap:List V)(x y:Ce)(a b:Bool):List V:=[.m (.ag x.i),.m (.ag y.i),.m (.b a),.m (.b b)]++cap
set_option maxHeartbeats 2000000 in
theorem Acz {f:Nat}{cap:List V}(hcap:AA (.fn f cap)=true){Inv:List Ce->List Ce->Hp->Prop} 
  (h1:∀c r b H (Q:V->Hp->Prop),Inv (c::r) b H->(∀d,d∈b->AZ c d=true)->(∀H',Inv r b H'->Q (.tu []) H')->Ret G f (Vis f cap c ⟨0,0,0⟩ true false) H Q)
  (h2:∀d s a H (Q:V->Hp->Prop),Inv a (d::s) H->(∀c,c∈a->AZ d c=true)->(∀H',Inv a s H'->Q (.tu []) H')->Ret G f (Vis f cap ⟨0,0,0⟩ d false true) H Q)
  (h3:∀c r d s H (Q:V->Hp->Prop),Inv (c::r) (d::s) H->c.x=d.x->c.y=d.y->(∀e,e∈r->AZ c e=true)->(∀e,e∈s->AZ d e=true)->(∀H',Inv r s H'->Q (.tu []) H')->Ret G f (Vis f cap c d true true) H Q)
  {v w:I} {a b:List Ce} (hv:IsSl v (Aj a)) (hw:IsSl w (Aj b)) (ha:a.Pairwise fun x y=>AZ x y=true) (hb:b.Pairwise fun x y=>AZ x y=true) (hla:a.length<=1000000) (hlb:b.length<=1000000) {H:Hp} (hI:Inv a b H) {Q:V->Hp->Prop} (hQ:∀H',Inv [] [] H'->Q (.tu []) H'):Ret G 90 [.m v,.m w,.fn f cap] H Q:=by
 refine Bd mono rfl rfl rfl (by simp[hcap]) rfl ?_
 simp (maxSteps:=2000000) (disch:=omega) []
 refine(?key:∀(k:Nat) (a b:List Ce) (v w:I) (B:List (Nat×List V)) (H:Hp),a.length+b.length=k->IsSl v (Aj a)->IsSl w (Aj b)->(a.Pairwise fun x y=>AZ x y=true)->(b.Pairwise fun x y=>AZ x y=true)->a.length<=1000000->b.length<=1000000->Inv a b H->Run G c90_B0 (S90_0 (.m v) (.m w) (.fn f cap) B H) _) _ a b v w _ H rfl hv hw ha hb hla hlb hI
 clear hI hlb hla hb ha hw hv a b v w H
 refine BN (fun k:Nat=>k) fun k ih a b v w B H hk hv hw ha hb hla hlb hI=>?_
 unfold c90_B0
 have hra:=hv.rules
 have hrb:=hw.rules
 simp only[show (Aj a).length=a.length from by simp[Aj]]at hra
 simp only[show (Aj b).length=b.length from by simp[Aj]]at hrb
 cases hae:a with
 | nil =>
  have la:a.length=0:=by rw[hae];rfl
  cases hbe:b with
  | nil =>
   have lb:b.length=0:=by rw[hbe];rfl
   have k2:=hQ H (by rw[hae,hbe]at hI;exact hI)
   simp (maxSteps:=2000000) (disch:=omega) [hra,hrb,la,lb]
   exact k2
  | cons d s =>
   have hd:b[0]? = some d:=by rw[hbe];rfl
   have hn:=AJ hd
   have lb:b.length=s.length+1:=by rw[hbe];rfl
   rw[hbe]at hw hb hI
   rw[hae]at hI
   obtain⟨u,hu,ht⟩:=Iv hw
   have hb2:=(AiO.1 hb)
   have k2:=fun H' hI' B'=>ih s.length (by omega) [] s v u B' H' (by simp) (by rw[<-hae];exact hv) hu .nil hb2.2 (by simp) (by omega) hI'
   simp (maxSteps:=2000000) (disch:=omega) [hra,hrb,la,lb,hn,show ¬((s.length:Int)+1=0) from by omega,show (0:Int)<(s.length:Int)+1 from by omega]
   rw[Ao]
   refine h2 d s [] H _ hI (fun c hc=>by cases hc) fun H' hI'=>?_
   simp (maxSteps:=2000000) (disch:=omega) [ht]
   exact k2 H' hI' _
 | cons c r =>
  have hc:a[0]? = some c:=by rw[hae];rfl
  have hn:=AJ hc
  have la:a.length=r.length+1:=by rw[hae];rfl
  rw[hae]at hv ha hI
  obtain⟨u,hu,ht⟩:=Iv hv
  have ha2:=(AiO.1 ha)
  cases hbe:b with
  | nil =>
   have lb:b.length=0:=by rw[hbe];rfl
   rw[hbe]at hI
   have k2:=fun H' hI' B'=>ih r.length (by omega) r [] u w B' H' (by simp) hu (by rw[<-hbe];exact hw) ha2.2 .nil (by omega) (by simp) hI'
   simp (maxSteps:=2000000) (disch:=omega) [hra,hrb,la,lb,hn,show ¬((r.length:Int)+1=0) from by omega,show (0:Int)<(r.length:Int)+1 from by omega]
   rw[Ao]
   refine h1 c r [] H _ hI (fun c hc=>by cases hc) fun H' hI'=>?_
   simp (maxSteps:=2000000) (disch:=omega) [ht]
   exact k2 H' hI' _
  | cons d s =>
   have hd:b[0]? = some d:=by rw[hbe];rfl
   have hn2:=AJ hd
   have lb:b.length=s.length+1:=by rw[hbe];rfl
   rw[hbe]at hw hb hI
   obtain⟨u2,hu2,ht2⟩:=Iv hw
   have hb2:=(AiO.1 hb)
   have go:=fun H=>PG c d H
   by_cases hlt:AZ c d=true
   ·have hneg:HC c.x c.y d.x d.y=-1:=by
     unfold AZ at hlt
     unfold HC DT
     simp only[Aix]at hlt
     grind
    rw[hneg]at go
    have k2:=fun H' hI' B'=>ih (r.length+(s.length+1)) (by omega) r (d::s) u w B' H' rfl hu hw ha2.2 hb (by omega) (by simp;omega) hI'
    simp (maxSteps:=2000000) (disch:=omega) [hra,hrb,la,lb,hn,hn2,show ¬((r.length:Int)+1=0) from by omega,show (0:Int)<(r.length:Int)+1 from by omega,show ¬((s.length:Int)+1=0) from by omega,cl (go _)]
    rw[Ao]
    refine h1 c r (d::s) H _ hI (fun e he=>?_) fun H' hI'=>?_
    ·rcases AiK.1 he with rfl|he
     ·exact hlt
     ·exact CS hlt (hb2.1 e he)
    simp (maxSteps:=2000000) (disch:=omega) [ht]
    exact k2 H' hI' _
   ·by_cases hgt:AZ d c=true
    ·have hneg:HC c.x c.y d.x d.y=1:=by
      unfold AZ at hgt
      unfold HC DT
      simp only[Aix]at hgt
      grind
     rw[hneg]at go
     have k2:=fun H' hI' B'=>ih (r.length+1+s.length) (by omega) (c::r) s v u2 B' H' rfl hv hu2 ha hb2.2 (by simp;omega) (by omega) hI'
     simp (maxSteps:=2000000) (disch:=omega) [hra,hrb,la,lb,hn,hn2,show ¬((r.length:Int)+1=0) from by omega,show (0:Int)<(r.length:Int)+1 from by omega,show ¬((s.length:Int)+1=0) from by omega,cl (go _)]
     rw[Ao]
     refine h2 d s (c::r) H _ hI (fun e he=>?_) fun H' hI'=>?_
     ·rcases AiK.1 he with rfl|he
      ·exact hgt
      ·exact CS hgt (ha2.1 e he)
     simp (maxSteps:=2000000) (disch:=omega) [ht2]
     exact k2 H' hI' _
    ·have hxy:c.x=d.x/\c.y=d.y:=by
      unfold AZ at hlt hgt
      simp only[Aix]at hlt hgt
      omega
     have hneg:HC c.x c.y d.x d.y=0:=by
      unfold HC DT
      grind
     rw[hneg]at go
     have k2:=fun H' hI' B'=>ih (r.length+s.length) (by omega) r s u u2 B' H' rfl hu hu2 ha2.2 hb2.2 (by omega) (by omega) hI'
     simp (maxSteps:=2000000) (disch:=omega) [hra,hrb,la,lb,hn,hn2,show ¬((r.length:Int)+1=0) from by omega,show (0:Int)<(r.length:Int)+1 from by omega,show ¬((s.length:Int)+1=0) from by omega,cl (go _)]
     rw[Ao]
     refine h3 c r d s H _ hI hxy.1 hxy.2 ha2.1 hb2.1 fun H' hI'=>?_
     simp (maxSteps:=2000000) (disch:=omega) [ht,ht2]
     exact k2 H' hI' _
def Ahi (l:List (Int×Int)):List (List V):=l.map fun p=>[.m (.i .i64 p.1),.m (.i .i64 p.2)]
@[simp] theorem Ahh (l:List (Int×Int)):(Ahi l).length=l.length:=by simp[Ahi]
def nr (c:Ce)(k:Int×Int):Prop:=(-2<=k.1-c.x/\k.1-c.x<=2)/\(-2<=k.2-c.y/\k.2-c.y<=2)
instance (c:Ce) (k:Int×Int):Decidable (nr c k):=by unfold nr;infer_instance
def dmp (D:List (Int×Int)):Row:=mPB (D.map fun k=>(k,true))
theorem Xw (D:List (Int×Int))(k:Int×Int):(Cp (D.map fun k=>(k,true)) k).getD false=decide (k∈D):=by
 induction D with
 | nil=>rfl
 | cons a r ih =>
  by_cases h:a=k
  ·subst h;simp[Cp]
  ·have h2:¬k=a:=fun e=>h e.symm
   simp only[AiT,Cp,Aiq h,ih,AiK,h2,false_or]
theorem AcJ (D:List (Int×Int))(x y:Int):FV ⟨true,[1,1]⟩ [.m (.b false)] false false (dmp D) (.ag [.i .i64 x,.i .i64 y])=some (.m (.b (decide ((x,y)∈D)))):=by
 have:=Aai (D.map fun k=>(k,true)) x y false
 rw[Xw]at this
 exact this
theorem AhX {D:List (Int×Int)}{x y:Int}(h:(x,y) ∉ D):Wc ⟨true,[1,1]⟩ (dmp D) (.ag [.i .i64 x,.i .i64 y]) (.m (.b true))=some (dmp (D++[(x,y)])):=by
 have:=Aek (D.map fun k=>(k,true)) x y true
 rw[JV]at this
 ·rw[show dmp (D++[(x,y)])=mPB (D.map (fun k=>(k,true))++[((x,y),true)]) from by unfold dmp;rw[List.map_append];rfl]
  exact this
 ·rw[Ajy]
  intro hm
  obtain⟨k,hk,e⟩:=AiH.1 hm
  have e:k=(x,y):=e
  exact h (e ▸ hk)
def AcU (D:List (Int×Int))(f:List Ce)(o:V)(H:Hp):Prop:=(f=[]/\o=.m (.nl 4)/\H=[dmp D])\/(f≠[]/\o=.sl 1 f.length 3 0 f.length false/\H=[dmp D,.cs 73 3 (AK f) 0 false])
theorem YH {D:List (Int×Int)}{f:List Ce}{o:V}{H:Hp}(h:AcU D f o H):nth H 0=some (dmp D)/\AA o=true /\ ∀D',AN H 0 (dmp D')=some (H.set 0 (dmp D'))/\AcU D' f o (H.set 0 (dmp D')):=by
 rcases h with ⟨rfl,rfl,rfl⟩|⟨hne,rfl,rfl⟩
 ·exact⟨rfl,rfl,fun D'=>⟨rfl,.inl ⟨rfl,rfl,rfl⟩⟩⟩
 ·exact⟨rfl,rfl,fun D'=>⟨rfl,.inr ⟨hne,rfl,rfl⟩⟩⟩
theorem Ue {D:List (Int×Int)}{f:List Ce}{o:V}{H:Hp}(h:AcU D f o H)(hl:f.length<=1000000)(c:Ce):∃o1 H1,(∀B,Fi ⟨B,H⟩ 73 3 24 o [[.m (.i .i64 c.x),.m (.i .i64 c.y),.m (.i .i64 c.s)]]=some (o1,⟨B,H1⟩))/\AA o1=true/\AcU D (f++[c]) o1 H1:=by
 rcases h with ⟨rfl,rfl,rfl⟩|⟨hne,rfl,rfl⟩
 ·exact⟨_,_,fun B=>rfl,rfl,.inr ⟨by simp,rfl,rfl⟩⟩
 ·have ha:=fun B=>Dz (M:=⟨B,[dmp D,.cs 73 3 (AK f) 0 false]⟩) (r:=1) (bytes:=24) (xs:=[[.m (.i .i64 c.x),.m (.i .i64 c.y),.m (.i .i64 c.s)]]) rfl (by simp) (by simp;omega) rfl
  simp only[DP,Ajf,Ajj,Ajw,List.set_cons_succ,List.set_cons_zero]at ha
  have e:AK f++[[.m (.i .i64 c.x),.m (.i .i64 c.y),.m (.i .i64 c.s)]]=AK (f++[c]):=by simp[AK,Qe,Ce.i]
  rw[e]at ha
  exact⟨_,_,ha,rfl,.inr ⟨by simp,by simp,rfl⟩⟩
theorem Uf {F:Nat}{D:List (Int×Int)}{f:List Ce}{o x:V}{H:Hp}(hp:G.prim F=none)(hs:G.sh F=false)(ho:AcU D f o H)(h:∀H,Gives G F [.m (zP f)] H x H):∃H2,Gives G F [o] H x H2:=by
 rcases ho with ⟨rfl,rfl,rfl⟩|⟨hne,rfl,rfl⟩
 ·exact⟨_,h _⟩
 ·have hz:zP f=.sl (Aj f):=by unfold zP;rw[Aiq hne]
  rw[hz]at h
  have hv:Af (view 20 [dmp D,Row.cs 73 3 (AK f) 0 false]) [V.sl 1 f.length 3 0 f.length false]=some [.sl (Aj f)]:=by
   have:=Yy (H:=[dmp D,Row.cs 73 3 (AK f) 0 false]) (r:=1) (b:=0) (q:=f) rfl (AiD _) 18
   show (view 20 _ _).bind _=_
   rw[this]
   rfl
  cases hf:FY x with
  | true=>exact⟨_,Ba (is:=[.sl (Aj f)]) hp hs (h []) hv (.inr ⟨by simp[DA,FR],hf⟩)⟩
  | false =>
   have hfz:AW ([V.sl 1 f.length 3 0 f.length false].flatMap DA) [dmp D,Row.cs 73 3 (AK f) 0 false]=some [dmp D,Row.cs 73 3 (AK f) 0 true]:=by
    show Option.bind (gd ((AK f).all fun e=>e.all isM) (some (Row.cs 73 3 (AK f) 0 true))) _=_
    rw[TV]
    rfl
   exact⟨_,Cm (is:=[.sl (Aj f)]) hp hs (h []) hv (by simp[DA,FR]) hf rfl hfz⟩
def AcS (t:TreeC)(p:List Ce)(x:V):Prop:=∃q e,Fj t p (q,e)/\x=.tu [.m (zP q),.m (.i .i64 e)]
set_option maxHeartbeats 4000000 in
theorem YA {t:TreeC}{h n v:I}{es:List (List I)}{p:List Ce}(hT:TreeV t h n es)(hv:IsSl v (Aj p))(hc:Dy t p=0)(H:Hp):∃x,AcS t p x/\Gives G 82 [.m (.ag [.i .i64 t.states,h,n]),.m v] H x H:=by
 obtain⟨hq,hr,ht⟩:=BZ hc
 have hR:=GL hq
 obtain⟨pw,hg,hl⟩:=EG hr
 have hrv:=hv.rules
 simp only[show (Aj p).length=p.length from by simp[Aj]]at hrv
 have hrh:=hT.hd.rules
 simp only[CT]at hrh
 have hh:=DQ hR.hood
 have key:∃x H',Gives G 82 [.m (.ag [.i .i64 t.states,h,n]),.m v] H x H'/\(H'=H/\AcS t p x):=by
  refine Bn ?_
  refine Fv rfl rfl rfl rfl rfl ?_
  generalize hQ:(fun(x:V) (H':Hp)=>H'=H/\AcS t p x)=Q
  have q5:Fj t p ([],5)->Q (.tu [.m (.nl 4),.m (.i .i64 5)]) H:=fun hs=>by rw[<-hQ];exact⟨rfl,[],5,hs,rfl⟩
  have qa:∀q e,Fj t p (q,e)->Q (.tu [.m (zP q),.m (.i .i64 e)]) H:=fun q e hs=>by rw[<-hQ];exact⟨rfl,q,e,hs,rfl⟩
  clear hQ
  have g1:=fun H=>of_m hv hr H
  simp (maxSteps:=2000000) (disch:=omega) [cl (g1 _),hrv]
  refine(?key:∀(i:Nat) (D:List (Int×Int)) (l:List Ce) (o:V) (B:List (Nat×List V)) (H1:Hp),i<=p.length->getB B 2=some [.m (.i .i64 t.states),.m h,.m n]->StI t p D l->(∀(a:Nat) c o,a<i->p[a]? = some c->o∈t.hood->(c.x-o.1,c.y-o.2)∈D)->l.length<=25*i->AcU D l o H1->Run G c82_B1 (S82_1 (.fa 2 0) (.m (fzm (Ky p))) (.mp 0) o (.m v) (.m (.i .i64 p.length)) (.m (.i .i64 (i:Int))) B H1) _) 0 [] [] _ _ _ (AiD _) rfl (AbL t p) (fun a c o h=>by omega) (by simp) (.inl ⟨rfl,rfl,rfl⟩)
  refine BN (fun i:Nat=>p.length-i) fun i ih D l o B H1 hi hB hI hall hll ho=>?_
  unfold c82_B1
  obtain⟨n0,hnf,hset0⟩:=YH ho
  cases hx:p[i]? with
  | none =>
   have:i=p.length:=by have:=AiC.1 hx;omega
   subst this
   have hall2:∀c o,c∈p->o∈t.hood->(c.x-o.1,c.y-o.2)∈D:=fun c o hc ho2=>by
    obtain⟨a,ha⟩:=List.mem_iff_getElem?.1 hc
    exact hall a c o (Aq ha).1 ha ho2
   have hgl:=WW hR ht hI
   rcases YO (Ge l) (by omega) []with ⟨e,he,_⟩|⟨he,q,hqp,hasc,g0⟩
   ·rw[HE hgl]at he
    cases he
   ·obtain⟨_,k1,k2,k3⟩:=WX hR ht hI hqp hasc
    have hst:=AbM hq hI hall2 k1 k2
    have gA:=fun H=>Ba (H:=H) (vs:=[.m (zP l)]) (is:=[zP l]) rfl rfl g0 rfl (.inl ⟨rfl,rfl⟩)
    obtain⟨H2,gF⟩:=Uf rfl rfl ho gA
    rw[k3]at gF
    by_cases h5:5000<q.length
    ·rw[Air h5]at gF hst
     have k:=qa [] 6 hst
     simp (maxSteps:=2000000) (disch:=omega) [cl gF]
     exact k
    ·rw[Aiq h5]at gF hst
     have k:=qa q 0 hst
     generalize zP q=zz at *
     simp (maxSteps:=2000000) (disch:=omega) [cl gF]
     exact k
  | some c =>
   have hlt:=(Aq hx).1
   have hlt':(i:Int)<p.length:=by omega
   have hn:=AJ hx
   have wi:wr .i64 ((i:Int)+1)=((i+1:Nat):Int):=Aa (by omega) (by omega)
   have hcg:=hg c (Aiu hx)
   have hcb:(-1048576<=c.x/\c.x<=1048576)/\(-1048576<=c.y/\c.y<=1048576):=by
    unfold DB placed at hcg
    simp only[Aio,Aix]at hcg
    omega
   simp (maxSteps:=2000000) (disch:=omega) [Ab,hrv,hlt',hn,hB,hrh]
   refine(?key2:∀(j:Nat) (D:List (Int×Int)) (l:List Ce) (o:V) (B:List (Nat×List V)) (H1:Hp),j<=t.hood.length->getB B 2=some [.m (.i .i64 t.states),.m h,.m n]->getB B 10=some [.m (.i .i64 c.x),.m (.i .i64 c.y),.m (.i .i64 c.s)]->StI t p D l->(∀(a:Nat) c o,a<i->p[a]? = some c->o∈t.hood->(c.x-o.1,c.y-o.2)∈D)->(∀(b:Nat) o,b<j->t.hood[b]? = some o->(c.x-o.1,c.y-o.2)∈D)->l.length<=25*i+j->AcU D l o H1->Run G c82_B0 (S82_0 (.fa 2 0) (.m (fzm (Ky p))) (.mp 0) o (.fa 10 0) (.m v) (.m (.i .i64 p.length)) (.m (.i .i64 (i:Int))) (.m h) (.m (.i .i64 t.hood.length)) (.m (.i .i64 (j:Int))) B H1) _) 0 D l o _ H1 (AiD _) (by simpa using hB) (by simp) hI hall (fun b o h=>by omega) (by omega) ho
   clear hset0 hI hall hll ho n0 hnf hB B H1 o l D
   refine BN (fun j:Nat=>t.hood.length-j) fun j ihj D l o B H1 hj hB hA hI hall hbj hll ho=>?_
   unfold c82_B0
   obtain⟨n0,hnf,hset⟩:=YH ho
   cases hy:t.hood[j]? with
   | none =>
    have:j=t.hood.length:=by have:=AiC.1 hy;omega
    subst this
    have k:=ih (i+1) (by omega) D l o B H1 (by omega) hB hI (fun a c' o' ha hc' ho'=>by
     by_cases e:a<i
     ·exact hall a c' o' e hc' ho'
     ·have:a=i:=by omega
      subst this
      rw[hx]at hc'
      cases hc'
      obtain⟨b,hb⟩:=List.mem_iff_getElem?.1 ho'
      exact hbj b o' (Aq hb).1 hb) (by omega) ho
    simp (maxSteps:=2000000) (disch:=omega) [wi,-Int.natCast_add]
    exact k
   | some o2 =>
    have hjl:=(Aq hy).1
    have hjl2:(j:Int)<t.hood.length:=by omega
    have hox:=Fc hy
    have hob:=GP hR.hood o2 (Aiu hy)
    have wj:wr .i64 ((j:Int)+1)=((j+1:Nat):Int):=Aa (by omega) (by omega)
    obtain⟨qx,hqx⟩:∃qx,qx=c.x-o2.1:=⟨_,rfl⟩
    obtain⟨qy,hqy⟩:∃qy,qy=c.y-o2.2:=⟨_,rfl⟩
    have wx:wr .i64 (c.x-o2.1)=qx:=by rw[hqx];exact Aa (by omega) (by omega)
    have wy:wr .i64 (c.y-o2.2)=qy:=by rw[hqy];exact Aa (by omega) (by omega)
    have hdg:=AcJ D qx qy
    have hbj2:∀D':List (Int×Int),(∀k,k∈D->k∈D')->(qx,qy)∈D' -> ∀(b:Nat) o,b<j+1->t.hood[b]? = some o->(c.x-o.1,c.y-o.2)∈D':=fun D' h1 h2 b o' hb ho'=>by
     by_cases e:b<j
     ·exact h1 _ (hbj b o' e ho')
     ·have:b=j:=by omega
      subst this
      rw[hy]at ho'
      cases ho'
      rw[<-hqx,<-hqy]
      exact h2
    by_cases hD:(qx,qy)∈D
    ·rw[Aiv hD]at hdg
     have k:=fun B'=>ihj (j+1) (by omega) D l o B' H1 (by omega)
     simp (maxSteps:=2000000) (disch:=omega) [Ab,hrh,hjl2,hox,hA,wx,wy,n0,hdg,wj,-Int.natCast_add]
     exact k _ (by simpa using hB) (by simpa using hA) hI hall (hbj2 D (fun _ h=>h) hD) (by omega) ho
    ·rw[AiE hD]at hdg
     have hup:=AhX hD
     obtain⟨hs1,ho1⟩:=hset (D++[(qx,qy)])
     have gn:=fun H=>AhF hT hR ht qx qy (by omega) (by omega) H
     have hrg:=Hu hR ht qx qy
     have hsub:∀k,k∈D->k∈D++[(qx,qy)]:=fun k hk=>by simp[hk]
     have hall3:∀(a:Nat) c o,a<i->p[a]? = some c->o∈t.hood->(c.x-o.1,c.y-o.2)∈D++[(qx,qy)]:=fun a c o h1 h2 h3=>hsub _ (hall a c o h1 h2 h3)
     by_cases hz:CF t p qx qy=0
     ·rw[hz]at gn
      have k:=fun B'=>ihj (j+1) (by omega) (D++[(qx,qy)]) l o B' (H1.set 0 (dmp (D++[(qx,qy)]))) (by omega)
      simp (maxSteps:=2000000) (disch:=omega) [Ab,hrh,hjl2,hox,hA,hB,wx,wy,n0,hdg,hup,hs1,cl (gn _),wj,-Int.natCast_add]
      exact k _ (by simpa using hB) (by simpa using hA) (WV hI hz) hall3 (hbj2 _ hsub (by simp)) (by omega) ho1
     ·have hpos:0<CF t p qx qy:=by omega
      have gp:=fun H=>Ace qx qy H
      cases hpl:placed qx qy with
      | false =>
       rw[hpl]at gp
       have k:=q5 (AbK hz hpl)
       generalize CF t p qx qy=nx at *
       simp (maxSteps:=2000000) (disch:=omega) [Ab,hrh,hjl2,hox,hA,hB,wx,wy,n0,hdg,hup,hs1,cl (gn _),hpos,cl (gp _),-Int.natCast_add]
       exact k
      | true =>
       rw[hpl]at gp
       obtain⟨o3,H3,ha,hn3,ho3⟩:=Ue ho1 (by omega) ⟨qx,qy,CF t p qx qy⟩
       dsimp only at ha
       have hI3:=AbN hI hD hz hpl
       have k:=fun B'=>ihj (j+1) (by omega) (D++[(qx,qy)]) (l++[⟨qx,qy,CF t p qx qy⟩]) o3 B' H3 (by omega)
       generalize CF t p qx qy=nx at *
       simp (maxSteps:=2000000) (disch:=omega) [Ab,hrh,hjl2,hox,hA,hB,wx,wy,n0,hdg,hup,hs1,cl (gn _),hpos,cl (gp _),ha,wj,Am hn3,-Int.natCast_add]
       exact k _ (by simpa using hB) (by simpa using hA) hI3 hall3 (hbj2 _ hsub (by simp)) (by simp;omega) ho3
 obtain⟨x,H',h1,rfl,h2⟩:=key
 exact⟨x,h2,h1⟩
def Ahz (vs:List I):List (List I):=vs.map fun v=>[v]
def Ahg (vs:List I):List (List V):=vs.map fun v=>[.m v]
@[simp] theorem Ahy (vs:List I):(Ahz vs).length=vs.length:=by simp[Ahz]
@[simp] theorem Ahf (vs:List I):(Ahg vs).length=vs.length:=by simp[Ahg]
def KV (vs:List I)(ps:List (List Ce)):Prop:=vs.length=ps.length /\ ∀(i:Nat) u q,vs[i]? = some u->ps[i]? = some q->IsSl u (Aj q)
theorem Mr {vs:List I}{ps:List (List Ce)}(h:KV vs ps){u:I}{q:List Ce}(hu:IsSl u (Aj q)):KV (vs++[u]) (ps++[q]):=by
 obtain⟨h1,h2⟩:=h
 refine⟨by simp[h1],fun i u' q' hi hq=>?_⟩
 by_cases hl:i<vs.length
 ·rw[AiI hl]at hi
  rw[AiI (by omega)]at hq
  exact h2 i u' q' hi hq
 ·have hi2:=(Ain.1 hi).1
  have:i=vs.length:=by simp at hi2;omega
  subst this
  simp at hi
  rw[h1]at hq
  simp at hq
  subst hi hq
  exact hu
theorem Aic {u:I}{es:List (List I)}(h:IsSl u es)(c:Bq)(B:List (Nat×List V))(H:Hp):An c ⟨B,H⟩ (.bsf 1 [.m (.nl 4)] 1 [0]) [.m u]=some (.ls [[u]],⟨B,H⟩):=by
 rcases h with rfl|⟨rfl,_⟩ <;> rfl
theorem Ee {t:TreeC}{h n:I}{es:List (List I)}(hT:TreeV t h n es):BU t:=fun p hc=>by
 obtain⟨x,⟨q,e,hs,rfl⟩,g⟩:=YA hT (Ge p) hc []
 rw[TH hs]
 exact hs
theorem TI {t:TreeC}{h n v:I}{es:List (List I)}{p:List Ce}(hT:TreeV t h n es)(hv:IsSl v (Aj p))(hc:Dy t p=0)(H:Hp):Gives G 82 [.m (.ag [.i .i64 t.states,h,n]),.m v] H (.tu [.m (zP (stp t p).1),.m (.i .i64 (stp t p).2)]) H:=by
 obtain⟨x,⟨q,e,hs,rfl⟩,g⟩:=YA hT hv hc H
 rw[TH hs]
 exact g
theorem NG {t:TreeC}{h n v:I}{es:List (List I)}{p:List Ce}(hT:TreeV t h n es)(hv:IsSl v (Aj p))(hl:(p.length:Int)<=9223372036854775806)(H:Hp):Gives G 56 [.m (.ag [.i .i64 t.states,h,n]),.m v] H (.tu [.m (zP (BP t p).1),.m (.i .i64 (BP t p).2)]) H:=by
 have g1:=fun H=>UY hT hv hl H
 unfold BP
 by_cases hc:Dy t p=0
 ·rw[Air hc]
  have g2:=fun H=>TI hT hv hc H
  rw[hc]at g1
  generalize stp t p=r at *
  obtain⟨q,e⟩:=r
  dsimp only at *
  generalize zP q=z at *
  refine Al rfl rfl rfl rfl rfl ?_
  simp (maxSteps:=2000000) (disch:=omega) [cl (g1 _),cl (g2 _)]
 ·rw[Aiq hc]
  refine Al rfl rfl rfl rfl rfl ?_
  simp (maxSteps:=2000000) (disch:=omega) [cl (g1 _),hc]
  rfl
theorem Mo {t:TreeC}(hS:BU t):∀(n:Nat) (p:List Ce),Dy t p=0->(BC t n p).2=0->BC t (n+1) p=stp t (BC t n p).1
 | 0,p,hc,_=>by
  show (if (stp t p).2=0 then ((stp t p).1,0) else ([],(stp t p).2))=stp t p
  by_cases he:(stp t p).2=0
  ·rw[Air he];exact Prod.ext rfl he.symm
  ·rw[Aiq he];exact Prod.ext (TG (hS p hc) he).symm rfl
 | n+1,p,hc,h=>by
  have e1:∀k,BC t (k+1) p=if (stp t p).2=0 then BC t k (stp t p).1 else ([],(stp t p).2):=fun k=>by rw[BC]
  by_cases he:(stp t p).2=0
  ·rw[e1,Air he]at h ⊢
   rw[e1,Air he]
   exact Mo hS n _ (JD hc (hS p hc) he) h
  ·rw[e1,Aiq he]at h
   exact absurd h he
theorem Mn {t:TreeC}:∀(k n:Nat) (p:List Ce),k<=n -> ¬(BC t k p).2=0->BC t n p=BC t k p
 | 0,_,p,_,h=>absurd rfl h
 | k+1,0,p,hl,_=>absurd hl (by omega)
 | k+1,n+1,p,hl,h=>by
  rw[BC]at h
  rw[BC,BC]
  by_cases he:(stp t p).2=0
  ·rw[Air he]at h
   rw[Air he,Air he]
   exact Mn k n _ (by omega) h
  ·rw[Aiq he,Aiq he]
set_option maxHeartbeats 2000000 in
theorem AbY {t:TreeC}{h n v:I}{es:List (List I)}{p:List Ce}(hT:TreeV t h n es)(hv:IsSl v (Aj p))(hl:(p.length:Int)<=9223372036854775806)(m:Int):∃x,IsSl x (Aj (rnE t p m).1) /\ ∀H,Gives G 41 [.m (.ag [.i .i64 t.states,h,n]),.m v,.m (.i .i64 m)] H (.tu [.m x,.m (.i .i64 (rnE t p m).2)]) H:=by
 have g1:=fun H=>UY hT hv hl H
 unfold rnE
 by_cases hc:Dy t p=0
 rotate_left
 ·rw[Aiq hc]
  refine⟨.nl 4,Bc,fun H=>?_⟩
  refine Al rfl rfl rfl rfl rfl ?_
  simp (maxSteps:=2000000) (disch:=omega) [cl (g1 _),hc]
 rw[Air hc]
 rw[hc]at g1
 by_cases hm:0<=m/\m<=10000
 rotate_left
 ·rw[Aiq hm]
  refine⟨.nl 4,Bc,fun H=>?_⟩
  refine Al rfl rfl rfl rfl rfl ?_
  by_cases h0:m<0
  ·simp (maxSteps:=2000000) (disch:=omega) [cl (g1 _),h0]
  ·have h1:(10000:Int)<m:=by omega
   simp (maxSteps:=2000000) (disch:=omega) [cl (g1 _),h0,h1]
 rw[Air hm]
 have hS:=Ee hT
 obtain⟨k,rfl⟩:=AiN hm.1
 have hk:k<=10000:=by omega
 rw[show ((k:Int)).toNat=k from rfl]
 have key:∃x H',Gives G 41 [.m (.ag [.i .i64 t.states,h,n]),.m v,.m (.i .i64 (k:Int))] [] x H'/\(H'=[] /\ ∃z,IsSl z (Aj (BC t k p).1)/\x=.tu [.m z,.m (.i .i64 (BC t k p).2)]):=by
  refine Bn ?_
  refine Fv rfl rfl rfl rfl rfl ?_
  generalize hQ:(fun(x:V) (H':Hp)=>H'=[] /\ ∃z,IsSl z (Aj (BC t k p).1)/\x=.tu [.m z,.m (.i .i64 (BC t k p).2)])=Q
  have qk:∀q z,BC t k p=(q,0)->IsSl z (Aj q)->Q (.tu [.m z,.m (.i .i64 0)]) []:=fun q z h1 h2=>by rw[<-hQ];exact⟨rfl,z,by rw[h1];exact h2,by rw[h1]⟩
  have qe:∀e,BC t k p=([],e)->Q (.tu [.m (.nl 4),.m (.i .i64 e)]) []:=fun e h1=>by rw[<-hQ];exact⟨rfl,.nl 4,by rw[h1];exact Bc,by rw[h1]⟩
  clear hQ
  have m0:¬(k:Int)<0:=by omega
  have m1:¬(10000:Int)<k:=by omega
  have m2:¬10000<k:=by omega
  simp (maxSteps:=2000000) (disch:=omega) [cl (g1 _),m0,m1]
  refine(?key:∀(i:Nat) (q:List Ce) (u:I) (B:List (Nat×List V)),i<=k->BC t i p=(q,0)->Dy t q=0->IsSl u (Aj q)->getB B 3=some [.m (.i .i64 t.states),.m h,.m n]->Run G c41_B0 (S41_0 (.m u) (.fa 3 0) (.m (.i .i64 (k:Int))) (.m (.i .i64 (i:Int))) B []) _) 0 p v _ (AiD _) rfl hc hv rfl
  refine BN (fun i:Nat=>k-i) fun i ih q u B hi hr hcq hu hB=>?_
  unfold c41_B0
  by_cases hik:i<k
  ·have hik2:(i:Int)<k:=by omega
   have wi:wr .i64 ((i:Int)+1)=((i+1:Nat):Int):=Aa (by omega) (by omega)
   have gs:=fun H=>TI hT hu hcq H
   have e1:=Mo hS i p hc (by rw[hr])
   rw[hr]at e1
   dsimp only at e1
   by_cases he:(stp t q).2=0
   ·have k2:=fun B'=>ih (i+1) (by omega) (stp t q).1 (zP (stp t q).1) B' (by omega) (by rw[e1];exact Prod.ext rfl he) (JD hcq (hS q hcq) he) (Ge _)
    rw[he]at gs
    generalize zP (stp t q).1=z at *
    simp (maxSteps:=2000000) (disch:=omega) [hik2,hB,cl (gs _),wi,-Int.natCast_add]
    exact k2 _ hB
   ·have k2:=qe (stp t q).2 (by rw[Mn (i+1) k p (by omega) (by rw[e1];exact he),e1];exact Prod.ext (TG (hS q hcq) he) rfl)
    generalize (stp t q).2=e at *
    generalize zP (stp t q).1=z at *
    simp (maxSteps:=2000000) (disch:=omega) [hik2,hB,cl (gs _),he]
    exact k2
  ·have:i=k:=by omega
   subst this
   have k2:=qk q u hr hu
   simp (maxSteps:=2000000) (disch:=omega) []
   exact k2
 obtain⟨x,H',g,rfl,z,h1,rfl⟩:=key
 exact⟨z,h1,fun H=>Ba (H:=H) (is:=[.ag [.i .i64 t.states,h,n],v,.i .i64 (k:Int)]) rfl rfl g rfl (.inl ⟨rfl,rfl⟩)⟩
end Go.Mx.Tryz
set_option maxHeartbeats 4000000
namespace Go.Mx.Tryz
open Go.Lib Go.Proofs
def mvF (a b:Int)(e:Ce):Ce:=⟨e.x+a,e.y+b,e.s⟩
theorem AhH (c d:Ce)(r s:List Ce):mvd (c::r) (d::s)=if d::s=(c::r).map (mvF (d.x-c.x) (d.y-c.y)) then some (d.x-c.x,d.y-c.y) else none:=rfl
theorem PL (p:List Ce):mvd [] p=none:=by cases p <;> rfl
theorem Acv {p q:List Ce}(h:¬p.length=q.length):mvd p q=none:=by
 cases p with
 | nil=>exact PL q
 | cons c r =>
  cases q with
  | nil=>rfl
  | cons d s =>
   rw[AhH]
   refine Aiq fun e=>h ?_
   have:=congrArg List.length e
   rw[AiB]at this
   exact this.symm
def Vj (m:Int×Int×Int):I:=.ag [.i .i64 m.1,.i .i64 m.2.1,.i .i64 m.2.2]
def mvV:Option (Int×Int)->V
 | some d=>.tu [.m (.i .i64 d.1),.m (.i .i64 d.2),.m (.b true)]
 | none=>.tu [.m (.i .i64 0),.m (.i .i64 0),.m (.b false)]
def YP (r:(Int×Int×Int)×Bool×Int):V:=.tu [.m (Vj r.1),.m (.b r.2.1),.m (.i .i64 r.2.2)]
theorem Acw {v w:I}{p q:List Ce}(hv:IsSl v (Aj p))(hw:IsSl w (Aj q))(hp:right p=true)(hq:right q=true)(H:Hp):Gives G 170 [.m v,.m w] H (mvV (mvd p q)) H:=by
 have hl:=(AI hp).2.2
 have hl2:=(AI hq).2.2
 have hr:=hv.rules
 have hr2:=hw.rules
 simp only[show (Aj p).length=p.length from by simp[Aj]]at hr
 simp only[show (Aj q).length=q.length from by simp[Aj]]at hr2
 refine Al rfl rfl rfl rfl rfl ?_
 by_cases hlen:p.length=q.length
 rotate_left
 ·have hlen':¬(p.length:Int)=q.length:=by omega
  rw[Acv hlen]
  simp (maxSteps:=2000000) (disch:=omega) [hr,hr2,hlen',mvV]
 cases hpe:p with
 | nil =>
  have hl0:p.length=0:=by rw[hpe];rfl
  rw[<-hpe]
  have hm:mvd p q=none:=by rw[hpe];exact PL q
  rw[hm]
  have hq0:q.length=0:=by omega
  simp (maxSteps:=2000000) (disch:=omega) [hr,hr2,hl0,hq0,mvV]
 | cons c r =>
  obtain⟨d,s,hqe⟩:∃d s,q=d::s:=by
   cases q with
   | nil=>rw[hpe]at hlen;simp at hlen
   | cons d s=>exact⟨d,s,rfl⟩
  have h0:p[0]? = some c:=by rw[hpe];rfl
  have h02:q[0]? = some d:=by rw[hqe];rfl
  have hn0:=AJ h0
  have hn02:=AJ h02
  have hbc:=Bt hp (Aiu h0)
  have hbd:=Bt hq (Aiu h02)
  have hm:mvd p q=if q=p.map (mvF (d.x-c.x) (d.y-c.y)) then some (d.x-c.x,d.y-c.y) else none:=by rw[hpe,hqe];exact AhH c d r s
  rw[<-hpe,hm]
  obtain⟨dx,hdx⟩:∃dx,dx=d.x-c.x:=⟨_,rfl⟩
  obtain⟨dy,hdy⟩:∃dy,dy=d.y-c.y:=⟨_,rfl⟩
  have w1:wr .i64 (d.x-c.x)=dx:=by rw[hdx];exact Aa (by omega) (by omega)
  have w2:wr .i64 (d.y-c.y)=dy:=by rw[hdy];exact Aa (by omega) (by omega)
  rw[<-hdx,<-hdy]
  have hpos:0<p.length:=(Aq h0).1
  have hpos2:0<q.length:=(Aq h02).1
  have hlen':(p.length:Int)=q.length:=by omega
  have hne:¬q.length=0:=by omega
  have hne':¬(q.length:Int)=0:=by omega
  simp (maxSteps:=2000000) (disch:=omega) [hr,hr2,hlen,hne,hn0,hn02,w1,w2]
  refine(?key:∀(i:Nat) (B:List (Nat×List V)),i<=q.length->q.take i=(p.map (mvF dx dy)).take i->Run G c170_B0 (S170_0 (.m v) (.m w) (.m (.i .i64 dx)) (.m (.i .i64 dy)) (.m (.i .i64 (q.length:Int))) (.m (.i .i64 (i:Int))) B []) _) 0 _ (AiD _) rfl
  refine BN (fun i:Nat=>q.length-i) fun i ih B hi hpre=>?_
  unfold c170_B0
  cases hy:q[i]? with
  | none =>
   have:i=q.length:=by have:=AiC.1 hy;omega
   subst this
   rw[Ajc,AiJ (by simp;omega)]at hpre
   rw[Air hpre]
   simp (maxSteps:=2000000) (disch:=omega) [mvV]
  | some b =>
   have hlt2:=(Aq hy).1
   obtain⟨a,hx⟩:∃a,p[i]? = some a:=⟨p[i]'(by omega),Aip _⟩
   have hlt:=(Aq hx).1
   have hlt2':(i:Int)<q.length:=by omega
   have hn:=AJ hx
   have hn2:=AJ hy
   have hba:=Bt hp (Aiu hx)
   have hbb:=Bt hq (Aiu hy)
   have wi:wr .i64 ((i:Int)+1)=((i+1:Nat):Int):=Aa (by omega) (by omega)
   have w3:wr .i64 (a.x+dx)=a.x+dx:=Aa (by omega) (by omega)
   have w4:wr .i64 (a.y+dy)=a.y+dy:=Aa (by omega) (by omega)
   have hmy:(p.map (mvF dx dy))[i]? = some (mvF dx dy a):=by rw[AiL,hx];rfl
   by_cases he:b.x=a.x+dx/\b.y=a.y+dy/\b.s=a.s
   ·have e:b=mvF dx dy a:=by
     cases b
     unfold mvF
     simp only[Ce.mk.injEq]
     exact he
    have k2:=fun B'=>ih (i+1) (by omega) B' (by omega) (Pn hpre hy hmy e)
    simp (maxSteps:=2000000) (disch:=omega) [hr,hr2,hlen,hlt2',hn,hn2,wi,w3,w4,he.1,he.2.1,he.2.2,-Int.natCast_add]
    exact k2 _
   ·have hno:¬q=p.map (mvF dx dy):=fun hh=>he (by
     have:q[i]? = some (mvF dx dy a):=by rw[hh];exact hmy
     rw[hy]at this
     injection this with this
     rw[this]
     exact⟨rfl,rfl,rfl⟩)
    rw[Aiq hno]
    have he1:(decide (b.x=a.x+dx)&&(decide (b.y=a.y+dy)&&decide (b.s=a.s)))=false:=by
     rw[Bool.eq_false_iff]
     simpa using he
    have he2:(decide (b.x=a.x+dx)&&decide (b.y=a.y+dy)&&decide (b.s=a.s))=false:=by
     rw[Bool.and_assoc];exact he1
    simp (maxSteps:=2000000) (disch:=omega) [hr,hr2,hlen,hlt2',hn,hn2,w3,w4,he1,mvV]
theorem Xg (m:Int)(H:Hp):Gives G 169 [.m (.i .i64 m)] H (.m (.b (decide (1<=m/\m<=64)))) H:=by
 refine Al rfl rfl rfl rfl rfl ?_
 by_cases h1:1<=m
 ·by_cases h2:m<=64
  ·simp (maxSteps:=2000000) (disch:=omega) [h1,h2]
  ·simp (maxSteps:=2000000) (disch:=omega) [h1,h2]
 ·simp (maxSteps:=2000000) (disch:=omega) [h1]
theorem AhT {t:TreeC}{h n v:I}{es:List (List I)}{p:List Ce}(hT:TreeV t h n es)(hv:IsSl v (Aj p))(hl:(p.length:Int)<=9223372036854775806)(m:Int)(H:Hp):Gives G 136 [.m (.ag [.i .i64 t.states,h,n]),.m v,.m (.i .i64 m)] H (YP (AcF t p m)) H:=by
 obtain⟨x0,_,g1⟩:=AbY hT hv hl 0
 unfold rnE at g1
 have gp:=fun H=>Xg m H
 unfold AcF
 by_cases hc:Dy t p=0
 rotate_left
 ·rw[Aiq hc]at *
  refine Al rfl rfl rfl rfl rfl ?_
  simp (maxSteps:=2000000) (disch:=omega) [Ab,cl (g1 _),hc,YP,Vj]
 rw[Air hc]at *
 rw[Air (by omega)]at g1
 by_cases hm:1<=m/\m<=64
 rotate_left
 ·rw[Aiq hm]at *
  rw[AiE hm]at gp
  refine Al rfl rfl rfl rfl rfl ?_
  simp (maxSteps:=2000000) (disch:=omega) [Ab,cl (g1 _),cl (gp _),BC,YP,Vj]
 rw[Air hm]at *
 rw[Aiv hm]at gp
 have hS:=Ee hT
 obtain⟨hq,hrp,_⟩:=BZ hc
 have hrv:=hv.rules
 obtain⟨k,rfl⟩:=AiN (show 0<=m by omega)
 rw[show ((k:Int)).toNat=k from rfl]
 have hk:k<=64:=by omega
 refine Al rfl rfl rfl rfl rfl ?_
 simp (maxSteps:=2000000) (disch:=omega) [cl (g1 _),cl (gp _),show ((0:Int)).toNat=0 from rfl,BC]
 refine(?key:∀(i:Nat) (q:List Ce) (u:I) (B:List (Nat×List V)),i<=k->MQ t p k 1 p=MQ t p (k-i) (((i+1:Nat):Int)) q->Dy t q=0->IsSl u (Aj q)->getB B 3=some [.m (.i .i64 t.states),.m h,.m n]->getB B 6=some [.m (.i .i64 0),.m (.i .i64 0),.m (.i .i64 0)]->Run G c136_B0 (S136_0 (.m v) (.m (.i .i64 (k:Int))) (.fa 3 0) (.fa 6 0) (.m u) (.m (.i .i64 (((i+1:Nat):Int)))) B []) _) 0 p v _ (AiD _) rfl hc hv rfl rfl
 refine BN (fun i:Nat=>k-i) fun i ih q u B hi hf hcq hu hB hB6=>?_
 unfold c136_B0
 have hru:=hu.rules
 simp only[show (Aj q).length=q.length from by simp[Aj]]at hru
 rw[hf]
 by_cases hik:i<k
 rotate_left
 ·have:i=k:=by omega
  subst this
  rw[Nat.sub_self]
  simp (maxSteps:=2000000) (disch:=omega) [Ab,show ¬((i+1:Nat):Int)<=i from by omega,hB6,MQ,YP,Vj,-Int.natCast_add]
 have hik2:((i+1:Nat):Int)<=k:=by omega
 by_cases hq0:q=[]
 ·rw[hq0,KK hq]
  have hl0:q.length=0:=by rw[hq0];rfl
  simp (maxSteps:=2000000) (disch:=omega) [Ab,hik2,hru,hl0,hB6,YP,Vj,-Int.natCast_add]
 have hpos:0<q.length:=List.length_pos_iff.2 hq0
 have hpos2:(0:Int)<q.length:=by omega
 have gs:=fun H=>NG hT hu (by have:=(AI (BZ hcq).2.1).2.2;omega) H
 unfold BP at gs
 rw[Air hcq]at gs
 obtain⟨j,hj⟩:∃j,k-i=j+1:=⟨k-i-1,by omega⟩
 have wi:wr .i64 (((i+1:Nat):Int)+1)=((i+1+1:Nat):Int):=Aa (by omega) (by omega)
 by_cases he:(stp t q).2=0
 ·have hc2:=JD hcq (hS q hcq) he
  have gm:=fun H=>Acw hv (Ge (stp t q).1) hrp (BZ hc2).2.1 H
  have hf2:MQ t p (k-i) (((i+1:Nat):Int)) q=match mvd p (stp t q).1 with
   | some d=>((((i+1:Nat):Int),d.1,d.2),true,0)
   | none=>MQ t p j (((i+1+1:Nat):Int)) (stp t q).1:=by rw[hj];exact UI he
  rw[he]at gs
  cases hmv:mvd p (stp t q).1 with
  | some d =>
   rw[hmv]at hf2 gm
   dsimp only at hf2
   rw[hf2]
   generalize zP (stp t q).1=z at *
   simp only[mvV]at gm
   simp (maxSteps:=2000000) (disch:=omega) [Ab,hik2,hru,hpos,hB,cl (gs _),cl (gm _),hB6,YP,Vj,-Int.natCast_add]
  | none =>
   rw[hmv]at hf2 gm
   dsimp only at hf2
   have k2:=fun B'=>ih (i+1) (by omega) (stp t q).1 (zP (stp t q).1) B' (by omega) (by rw[hf,hf2,show k-(i+1)=j from by omega]) hc2 (Ge _)
   rw[hf]at k2
   generalize zP (stp t q).1=z at *
   simp only[mvV]at gm
   simp (maxSteps:=2000000) (disch:=omega) [hik2,hru,hpos,hB,cl (gs _),cl (gm _),wi,-Int.natCast_add]
   exact k2 _ hB hB6
 ·rw[hj,YQ he]
  generalize (stp t q).2=e at *
  generalize zP (stp t q).1=z at *
  simp (maxSteps:=2000000) (disch:=omega) [Ab,hik2,hru,hpos,hB,cl (gs _),he,hB6,YP,Vj,-Int.natCast_add]
def hasV (r:Bool×Int):V:=.tu [.m (.b r.1),.m (.i .i64 r.2)]
theorem AhV {a b:Int×Int×Int}:(decide (a=b))=(decide (a.1=b.1)&&(decide (a.2.1=b.2.1)&&decide (a.2.2=b.2.2))):=by
 obtain⟨a1,a2,a3⟩:=a
 obtain⟨b1,b2,b3⟩:=b
 simp[Bool.decide_and]
theorem has_s {t:TreeC}{h n v:I}{es:List (List I)}{p:List Ce}(hT:TreeV t h n es)(hv:IsSl v (Aj p))(hl:(p.length:Int)<=9223372036854775806)(m:Int×Int×Int)(H:Hp):Gives G 106 [.m (.ag [.i .i64 t.states,h,n]),.m v,.m (Vj m)] H (hasV (AdA t p m)) H:=by
 have g1:=fun H=>AhT hT hv hl m.1 H
 unfold AdA
 rw[AhV]
 generalize AcF t p m.1=r at *
 obtain⟨f,ok,e⟩:=r
 dsimp only at *
 simp only[YP,Vj]at *
 refine Al rfl rfl rfl rfl rfl ?_
 cases ok with
 | true=>simp (maxSteps:=2000000) (disch:=omega) [Ab,cl (g1 _),hasV]
 | false=>simp (maxSteps:=2000000) (disch:=omega) [Ab,cl (g1 _),hasV]
noncomputable def plE (t:TreeC)(l:List Sh):List St5->Int
 | []=>0
 | x::r=>if (plF t l x).2=0 then plE t l r else (plF t l x).2
noncomputable def plP (t:TreeC)(l:List Sh)(xs:List St5):List (List Ce):=xs.map fun x=>(plF t l x).1
theorem Xk {t:TreeC}{l:List Sh}{xs:List St5}{i:Nat}{x:St5}(h:xs[i]? = some x):plE t l (xs.drop i)=if (plF t l x).2=0 then plE t l (xs.drop (i+1)) else (plF t l x).2:=by
 rw[(Aq h).2]
 rfl
theorem Xj {t:TreeC}{l:List Sh}{xs:List St5}{i:Nat}{x:St5}(h:xs[i]? = some x):plP t l (xs.take (i+1))=plP t l (xs.take i)++[(plF t l x).1]:=by
 unfold plP
 rw[Az h]
 simp
theorem Gi {t:TreeC}(hS:BU t){l:List Sh}{xs:List St5}:∀p,p∈plP t l xs->right p=true:=fun p hp=>by
 obtain⟨x,_,rfl⟩:=AiH.1 hp
 exact(Acf hS).1
def dsj (p q:List Ce):Prop:=∀c,c∈p -> ∀d,d∈q->apart c d
def AdC (p q:List Ce):Bool:=p.all fun c=>q.all fun d=>!(decide (c.x=d.x)&&decide (c.y=d.y))
theorem Hz (p q:List Ce):AdC p q=true↔dsj p q:=by
 unfold AdC dsj apart
 simp only[Aiw,AiU,Bool.and_eq_false_iff,decide_eq_false_iff_not]
 refine⟨fun h c hc d hd hh=>?_,fun h c hc d hd=>?_⟩
 ·rcases h c hc d hd with h|h
  ·exact h hh.1
  ·exact h hh.2
 ·have:=h c hc d hd
  by_cases hx:c.x=d.x
  ·exact .inr fun hy=>this ⟨hx,hy⟩
  ·exact .inl hx
theorem KL {p q:List Ce}(h:dsj p q):dsj q p:=fun c hc d hd=>Fd (h d hd c hc)
def CH (ps:List (List Ce)):Prop:=ps.Pairwise dsj
theorem Cg {ps:List (List Ce)}(h:∀p,p∈ps->right p=true):ps.flatten.Pairwise apart↔CH ps:=by
 rw[List.pairwise_flatten]
 refine⟨fun hh=>hh.2,fun hh=>⟨fun l hl=>EZ (AI (h l hl)).1,hh⟩⟩
theorem MH {ps:List (List Ce)}(h:∀p,p∈ps->right p=true):∀c,c∈ps.flatten->DB c=true:=fun c hc=>by
 obtain⟨l,hl,hm⟩:=AjN.1 hc
 exact(AI (h l hl)).2.1 c hm
open Classical in
noncomputable def En (ps:List (List Ce)):List Ce×Int:=if CH ps then if 5000<ps.flatten.length then ([],6) else (AR ps.flatten,0) else ([],8)
def shI (v:I)(s:Sh):List I:=[v,.i .i64 s.m.1,.i .i64 s.m.2.1,.i .i64 s.m.2.2]
def IS (es:List (List I))(l:List Sh):Prop:=es.length=l.length /\ ∀(i:Nat) (s:Sh),l[i]? = some s->s.c.length<=1000000 /\ ∃v,nth es i=some (shI v s)/\IsSl v (Aj s.c)
def Pq (x:St5):List I:=[.i .i64 x.i,.i .i64 x.n,.i .i64 x.k,.i .i64 x.x,.i .i64 x.y]
def Ca (xs:List St5):List (List I):=xs.map Pq
@[simp] theorem EJ (xs:List St5):(Ca xs).length=xs.length:=by simp[Ca]
theorem IQ {xs:List St5}{i:Nat}{x:St5}(h:xs[i]? = some x):nth (Ca xs) i=some [.i .i64 x.i,.i .i64 x.n,.i .i64 x.k,.i .i64 x.x,.i .i64 x.y]:=by
 rw[AP]
 simp[Ca,h,Pq]
theorem TZ {t:TreeC}{l:List Sh}:∀ {xs:List St5},plE t l xs=0 -> ∀x,x∈xs->(plF t l x).2=0
 | x::r,h,y,hy=>by
  unfold plE at h
  by_cases he:(plF t l x).2=0
  ·rw[Air he]at h
   rcases AiK.1 hy with rfl|hy
   ·exact he
   ·exact TZ h y hy
  ·rw[Aiq he]at h
   exact absurd h he
theorem PD {t:TreeC}{l:List Sh}:∀ {xs:List St5},(∀x,x∈xs->(plF t l x).2=0)->plE t l xs=0
 | [],_=>rfl
 | x::r,h=>by
  unfold plE
  rw[Air (h x (AiM ..))]
  exact PD fun y hy=>h y (AiW _ hy)
theorem UN {ps:List (List Ce)}{i:Nat}{q:List Ce}(h:ps[i]? = some q):CH (ps.take (i+1))↔CH (ps.take i) /\ ∀(k:Nat) p,k<i->ps[k]? = some p->dsj p q:=by
 unfold CH
 rw[Az h,AjB]
 refine⟨fun hh=>⟨hh.1,fun k p hk hp=>hh.2.2 p (List.mem_iff_getElem?.2 ⟨k,by rw[AiR,Air hk];exact hp⟩) q (AiQ.2 rfl)⟩,fun hh=>⟨hh.1,AjM _ _,fun p hp d hd=>?_⟩⟩
 rw[AiQ.1 hd]
 obtain⟨k,hk⟩:=List.mem_iff_getElem?.1 hp
 rw[AiR]at hk
 split at hk
 ·rename_i hlt
  exact hh.2 k p hlt hk
 ·cases hk
theorem AcI {ps:List (List Ce)}{i k:Nat}{p q:List Ce}(hk:k<i)(hp:ps[k]? = some p)(hq:ps[i]? = some q)(h:¬dsj p q):¬CH ps:=fun hh=>by
 have h1:=AjH.1 hh
 obtain⟨l1,e1⟩:=Ain.1 hp
 obtain⟨l2,e2⟩:=Ain.1 hq
 have:=h1 k i l1 l2 hk
 rw[e1,e2]at this
 exact h this
noncomputable def GJ (t:TreeC):List (List Ce)->Int
 | []=>0
 | p::r=>if (BP t p).2=0 then GJ t r else (BP t p).2
noncomputable def Dw (t:TreeC)(ps:List (List Ce)):List (List Ce):=ps.map fun p=>(BP t p).1
theorem TK {t:TreeC}{ps:List (List Ce)}{i:Nat}{p:List Ce}(h:ps[i]? = some p):GJ t (ps.drop i)=if (BP t p).2=0 then GJ t (ps.drop (i+1)) else (BP t p).2:=by
 rw[(Aq h).2]
 rfl
theorem GV {t:TreeC}:∀ {ps:List (List Ce)},GJ t ps=0 -> ∀p,p∈ps->(BP t p).2=0
 | p::r,h,q,hq=>by
  unfold GJ at h
  by_cases he:(BP t p).2=0
  ·rw[Air he]at h
   rcases AiK.1 hq with rfl|hq
   ·exact he
   ·exact GV h q hq
  ·rw[Aiq he]at h
   exact absurd h he
theorem Iw {t:TreeC}:∀ {ps:List (List Ce)},(∀p,p∈ps->(BP t p).2=0)->GJ t ps=0
 | [],_=>rfl
 | p::r,h=>by
  unfold GJ
  rw[Air (h p (AiM ..))]
  exact Iw fun q hq=>h q (AiW _ hq)
open Classical in
noncomputable def Co (t:TreeC):Nat->Int->List (List Ce)->List Ce->Int×Int
 | 0,_,_,_=>(-1,0)
 | k+1,g,ps,w=>if GJ t ps=0 then if (BP t w).2=0 then if CH (Dw t ps)/\AR (Dw t ps).flatten=(BP t w).1 then Co t k (g+1) (Dw t ps) (BP t w).1 else (g,0) else (0,(BP t w).2) else (0,GJ t ps)
theorem EI {t:TreeC}{k:Nat}{g:Int}{ps:List (List Ce)}{w:List Ce}(h1:GJ t ps=0)(h2:(BP t w).2=0)(h3:CH (Dw t ps))(h4:AR (Dw t ps).flatten=(BP t w).1):Co t (k+1) g ps w=Co t k (g+1) (Dw t ps) (BP t w).1:=by
 rw[Co,Air h1,Air h2,Air ⟨h3,h4⟩]
theorem FD {t:TreeC}{k:Nat}{g:Int}{ps:List (List Ce)}{w:List Ce}(h1:GJ t ps=0)(h2:(BP t w).2=0)(h3:¬(CH (Dw t ps)/\AR (Dw t ps).flatten=(BP t w).1)):Co t (k+1) g ps w=(g,0):=by
 rw[Co,Air h1,Air h2,Aiq h3]
theorem IJ {t:TreeC}{k:Nat}{g:Int}{ps:List (List Ce)}{w:List Ce}(h1:GJ t ps=0)(h2:¬(BP t w).2=0):Co t (k+1) g ps w=(0,(BP t w).2):=by
 rw[Co,Air h1,Aiq h2]
theorem GO {t:TreeC}{k:Nat}{g:Int}{ps:List (List Ce)}{w:List Ce}(h1:¬GJ t ps=0):Co t (k+1) g ps w=(0,GJ t ps):=by
 rw[Co,Aiq h1]
noncomputable def ptE (t:TreeC)(l:List Sh)(xs:List St5):Int:=if Bl t=true then if l.length<=8/\xs.length<=16 then plE t l xs else 6 else 11
open Classical in
noncomputable def Ch (t:TreeC)(l:List Sh)(xs:List St5)(gens:Int):Int×Int :=
 if ptE t l xs=0 then if 0<=gens/\gens<=10000 then if CH (plP t l xs) then if 5000<(plP t l xs).flatten.length then (0,6) else Co t gens.toNat 1 (plP t l xs) (AR (plP t l xs).flatten) else (0,0) else (0,2) else (0,ptE t l xs)
noncomputable def Mp (t:TreeC)(l:List Sh)(xs:List St5)(gens:Int):List Ce×Int :=
 if ptE t l xs=0 then if (En (plP t l xs)).2=0 then rnE t (En (plP t l xs)).1 gens else ([],(En (plP t l xs)).2) else ([],ptE t l xs)
theorem DS {ps qs:List (List Ce)}(h:ps.Perm qs):CH ps↔CH qs:=h.pairwise_iff fun hab=>KL hab
theorem DR {ps qs:List (List Ce)}(h:ps.Perm qs):ps.flatten.Perm qs.flatten:=List.Perm.flatten h
theorem Cv {p q:List Ce}(h:p.Perm q)(ha:q.Pairwise apart):AR p=AR q:=IB (CQ ha) (CQ (Fe h ha)) (((Bf p).trans h).trans (Bf q).symm)
theorem EY {t:TreeC}(hS:BU t){p:List Ce}(h:(BP t p).2=0):right (BP t p).1=true:=(BZ (NF hS h).2.2).2.1
theorem GI {t:TreeC}(hS:BU t){ps:List (List Ce)}(h:GJ t ps=0):∀p,p∈Dw t ps->right p=true:=fun p hp=>by
 obtain⟨q,hq,rfl⟩:=AiH.1 hp
 exact EY hS (GV h q hq)
theorem Mm {t:TreeC}{ps qs:List (List Ce)}(h:ps.Perm qs):GJ t ps=0↔GJ t qs=0:=⟨fun h1=>Iw fun p hp=>GV h1 p (h.mem_iff.2 hp),fun h1=>Iw fun p hp=>GV h1 p (h.mem_iff.1 hp)⟩
theorem JI {t:TreeC}(hS:BU t):∀(k:Nat) (g:Int) (ps qs:List (List Ce)) (w:List Ce),ps.Perm qs->((Co t k g ps w).2=0↔(Co t k g qs w).2=0)/\((Co t k g ps w).2=0->(Co t k g ps w).1=(Co t k g qs w).1)
 | 0,_,_,_,_,_=>⟨Iff.rfl,fun _=>rfl⟩
 | k+1,g,ps,qs,w,h=>by
  by_cases h1:GJ t ps=0
  ·have h1':=(Mm h).1 h1
   by_cases h2:(BP t w).2=0
   ·have hp:(Dw t ps).Perm (Dw t qs):=h.map _
    by_cases h3:CH (Dw t ps)/\AR (Dw t ps).flatten=(BP t w).1
    ·have h3':=(DS hp).1 h3.1
     have h4':AR (Dw t qs).flatten=(BP t w).1:=by
      rw[<-h3.2]
      exact Cv (DR hp).symm ((Cg (GI hS h1)).2 h3.1)
     rw[EI h1 h2 h3.1 h3.2,EI h1' h2 h3' h4']
     exact JI hS k _ _ _ _ hp
    ·have h3':¬(CH (Dw t qs)/\AR (Dw t qs).flatten=(BP t w).1):=fun hh=>h3 ⟨(DS hp).2 hh.1,by
      rw[<-hh.2]
      exact Cv (DR hp) ((Cg (GI hS h1')).2 hh.1)⟩
     rw[FD h1 h2 h3,FD h1' h2 h3']
     exact⟨Iff.rfl,fun _=>rfl⟩
   ·rw[IJ h1 h2,IJ h1' h2]
    exact⟨Iff.rfl,fun _=>rfl⟩
  ·have h1':¬GJ t qs=0:=fun hh=>h1 ((Mm h).2 hh)
   rw[GO h1,GO h1']
   exact⟨⟨fun hh=>absurd hh h1,fun hh=>absurd hh h1'⟩,fun hh=>absurd hh h1⟩
theorem Xl {t:TreeC}{l:List Sh}{xs ys:List St5}(h:xs.Perm ys):plE t l xs=0↔plE t l ys=0:=⟨fun h1=>PD fun p hp=>TZ h1 p (h.mem_iff.2 hp),fun h1=>PD fun p hp=>TZ h1 p (h.mem_iff.1 hp)⟩
theorem Pz {t:TreeC}{l:List Sh}{xs ys:List St5}(h:xs.Perm ys):ptE t l xs=0↔ptE t l ys=0:=by
 unfold ptE
 rw[h.length_eq]
 by_cases hq:Bl t=true
 ·rw[Air hq,Air hq]
  by_cases hl:l.length<=8/\ys.length<=16
  ·rw[Air hl,Air hl]
   exact Xl h
  ·rw[Aiq hl,Aiq hl]
 ·rw[Aiq hq,Aiq hq]
theorem Rh {t:TreeC}(hS:BU t){l:List Sh}{xs ys:List St5}(h:xs.Perm ys)(gens:Int):((Ch t l xs gens).2=0↔(Ch t l ys gens).2=0)/\((Ch t l xs gens).2=0->(Ch t l xs gens).1=(Ch t l ys gens).1):=by
 have hp:(plP t l xs).Perm (plP t l ys):=h.map _
 have hpe:=Pz (t:=t) (l:=l) h
 unfold Ch
 by_cases h1:ptE t l xs=0
 ·have h1':=hpe.1 h1
  rw[Air h1,Air h1']
  by_cases h2:0<=gens/\gens<=10000
  ·rw[Air h2,Air h2]
   by_cases h3:CH (plP t l xs)
   ·have h3':=(DS hp).1 h3
    rw[Air h3,Air h3',(DR hp).length_eq]
    split
    ·exact⟨Iff.rfl,fun _=>rfl⟩
    ·have e:AR (plP t l xs).flatten=AR (plP t l ys).flatten:=Cv (DR hp) ((Cg (Gi hS)).2 h3')
     rw[e]
     exact JI hS _ _ _ _ _ hp
   ·have h3':¬CH (plP t l ys):=fun hh=>h3 ((DS hp).2 hh)
    rw[Aiq h3,Aiq h3']
    exact⟨Iff.rfl,fun _=>rfl⟩
  ·rw[Aiq h2,Aiq h2]
   exact⟨Iff.rfl,fun _=>rfl⟩
 ·have h1':¬ptE t l ys=0:=fun hh=>h1 (hpe.2 hh)
  rw[Aiq h1,Aiq h1']
  exact⟨⟨fun hh=>absurd hh h1,fun hh=>absurd hh h1'⟩,fun hh=>absurd hh h1⟩
theorem Ro {ps qs:List (List Ce)}(h:ps.Perm qs)(hr:∀p,p∈qs->right p=true):En ps=En qs:=by
 unfold En
 by_cases h1:CH ps
 ·have h2:=(DS h).1 h1
  rw[Air h1,Air h2,(DR h).length_eq,Cv (DR h) ((Cg hr).2 h2)]
 ·have h2:¬CH qs:=fun hh=>h1 ((DS h).2 hh)
  rw[Aiq h1,Aiq h2]
theorem TW {t:TreeC}(hS:BU t){l:List Sh}{xs ys:List St5}(h:xs.Perm ys)(h0:ptE t l xs=0)(gens:Int):Mp t l xs gens=Mp t l ys gens:=by
 have hp:(plP t l xs).Perm (plP t l ys):=h.map _
 unfold Mp
 rw[Air h0,Air ((Pz h).1 h0),Ro hp (Gi hS)]
theorem Hw {t:TreeC}{l:List Sh}{xs:List St5}{gens:Int}(h:(Ch t l xs gens).2=0):ptE t l xs=0/\(0<=gens/\gens<=10000):=by
 unfold Ch at h
 refine Ajp fun hh=>?_
 by_cases h1:ptE t l xs=0
 ·rw[Air h1]at h
  by_cases h2:0<=gens/\gens<=10000
  ·exact hh ⟨h1,h2⟩
  ·rw[Aiq h2]at h
   cases h
 ·rw[Aiq h1]at h
  exact h1 h
theorem IK {t:TreeC}:∀(k:Nat) (g:Int) (ps:List (List Ce)) (w:List Ce),(Co t k g ps w).2=0->(Co t k g ps w).1=-1\/(g<=(Co t k g ps w).1/\(Co t k g ps w).1<g+k)
 | 0,_,_,_,_=>.inl rfl
 | k+1,g,ps,w,h=>by
  by_cases h1:GJ t ps=0
  ·by_cases h2:(BP t w).2=0
   ·by_cases h3:CH (Dw t ps)/\AR (Dw t ps).flatten=(BP t w).1
    ·rw[EI h1 h2 h3.1 h3.2]at h ⊢
     rcases IK k _ _ _ h with e|e
     ·exact .inl e
     ·exact .inr (by omega)
    ·rw[FD h1 h2 h3]
     exact .inr (by dsimp only;omega)
   ·rw[IJ h1 h2]at h
    exact absurd h h2
  ·rw[GO h1]at h
   exact absurd h h1
theorem Hq {p:List Ce}(h:p.Pairwise fun a b=>AZ a b=true):AR p=p:=(IB h (CQ (EZ h)) (Bf p))
theorem Mz {t:TreeC}(hS:BU t):∀(k:Nat) (g:Int) (p:List Ce),(Co t k g [p] p).1=-1 \/ ¬(Co t k g [p] p).2=0
 | 0,_,_=>.inl rfl
 | k+1,g,p=>by
  by_cases h2:(BP t p).2=0
  ·have h1:GJ t [p]=0:=Iw fun q hq=>by rw[AiQ.1 hq];exact h2
   have h4:AR (Dw t [p]).flatten=(BP t p).1:=by
    show AR ((BP t p).1++[])=_
    rw[AiV]
    exact Hq (AI (EY hS h2)).1
   rw[EI h1 h2 (AjM _ _) h4]
   exact Mz hS k _ _
  ·have h1:¬GJ t [p]=0:=fun hh=>h2 (GV hh p (AiQ.2 rfl))
   rw[GO h1]
   exact .inr h1
theorem Kt {t:TreeC}{p:List Ce}(hc:Dy t p=0):BP t p=stp t p:=by unfold BP;rw[Air hc]
theorem YC {t:TreeC}{p:List Ce}{k:Nat}(h:(stp t p).2=0):BC t (k+1) p=BC t k (stp t p).1:=by rw[BC,Air h]
theorem IL {t:TreeC}(hS:BU t):∀(k:Nat) (g:Int) (ps:List (List Ce)) (w:List Ce),1<=g->Co t k g ps w=(-1,0)->(∀p,p∈ps->Dy t p=0)->Dy t w=0->CH ps->AR ps.flatten=w ->
  (∀p,p∈ps->(BC t k p).2=0/\Co t k g [p] p=(-1,0))/\(BC t k w).2=0/\CH (ps.map fun p=>(BC t k p).1)/\AR (ps.map fun p=>(BC t k p).1).flatten=(BC t k w).1
 | 0,g,ps,w,_,_,_,_,hd,hw=>⟨fun p _=>⟨rfl,rfl⟩,rfl,by simpa[BC]using hd,by simpa[BC]using hw⟩
 | k+1,g,ps,w,hg,h,hc,hcw,hd,hw=>by
  by_cases h1:GJ t ps=0
  rotate_left
  ·rw[GO h1]at h
   cases h
  by_cases h2:(BP t w).2=0
  rotate_left
  ·rw[IJ h1 h2]at h
   cases h
  by_cases h3:CH (Dw t ps)/\AR (Dw t ps).flatten=(BP t w).1
  rotate_left
  ·rw[FD h1 h2 h3]at h
   have:=congrArg Prod.fst h
   dsimp only at this
   omega
  rw[EI h1 h2 h3.1 h3.2]at h
  obtain⟨k1,k2,k3,k4⟩:=IL hS k (g+1) _ _ (by omega) h (fun p hp=>by
   obtain⟨q,hq,rfl⟩:=AiH.1 hp
   exact(NF hS (GV h1 q hq)).2.2) (NF hS h2).2.2 h3.1 h3.2
  have e1:∀p,p∈ps->BC t (k+1) p=BC t k (BP t p).1:=fun p hp=>by
   have h5:=GV h1 p hp
   rw[Kt (hc p hp)]at h5 ⊢
   exact YC h5
  have e2:BC t (k+1) w=BC t k (BP t w).1:=by
   rw[Kt hcw]at h2 ⊢
   exact YC h2
  have e3:(ps.map fun p=>(BC t (k+1) p).1)=(Dw t ps).map fun p=>(BC t k p).1:=by
   unfold Dw
   rw[Ajy]
   exact List.map_congr_left fun p hp=>by rw[e1 p hp];rfl
  refine⟨fun p hp=>?_,by rw[e2];exact k2,by rw[e3];exact k3,by rw[e3,e2];exact k4⟩
  have hm:(BP t p).1∈Dw t ps:=AjA (f:=fun p=>(BP t p).1) hp
  obtain⟨m1,m2⟩:=k1 _ hm
  have h5:=GV h1 p hp
  refine⟨by rw[e1 p hp];exact m1,?_⟩
  have s1:GJ t [p]=0:=Iw fun q hq=>by rw[AiQ.1 hq];exact h5
  have s4:AR (Dw t [p]).flatten=(BP t p).1:=by
   show AR ((BP t p).1++[])=_
   rw[AiV]
   exact Hq (AI (EY hS h5)).1
  rw[EI s1 h5 (AjM _ _) s4]
  exact m2
theorem JE {c:Ce}{L:List Ce}(hl:∀d,d∈L->AZ c d=true)(ha:L.Pairwise apart):AR (c::L)=c::AR L:=by
 have h1:(c::AR L).Pairwise fun a b=>AZ a b=true:=AiO.2 ⟨fun d hd=>hl d ((Bf L).mem_iff.1 hd),CQ ha⟩
 have h2:(c::L).Pairwise apart:=AiO.2 ⟨fun d hd=>FE (hl d hd),ha⟩
 exact IB h1 (CQ h2) ((Bf _).trans (List.Perm.cons c (Bf L).symm))
theorem MM {a b:List Ce}(ha:a.Pairwise fun x y=>AZ x y=true)(hb:b.Pairwise fun x y=>AZ x y=true)(hd:dsj a b):(a++b).Pairwise apart:=AjB.2 ⟨EZ ha,EZ hb,hd⟩
theorem MJ {c:Ce}{a b:List Ce}(hl:∀d,d∈b->AZ c d=true):dsj (c::a) b↔dsj a b :=
 ⟨fun h x hx=>h x (AiW _ hx),fun h x hx d hd=>by
  rcases AiK.1 hx with rfl|hx
  ·exact FE (hl d hd)
  ·exact h x hx d hd⟩
theorem MI {d:Ce}{a b:List Ce}(hl:∀c,c∈a->AZ d c=true):dsj a (d::b)↔dsj a b :=
 ⟨fun h x hx e he=>h x hx e (AiW _ he),fun h x hx e he=>by
  rcases AiK.1 he with rfl|he
  ·exact Fd (FE (hl x hx))
  ·exact h x hx e he⟩
structure UnI (out q a b next:List Ce):Prop where
 d:dsj a b↔dsj out q
 s:dsj a b->next++AR (a++b)=AR (out++q)
 pa:a.Pairwise fun x y=>AZ x y=true
 pb:b.Pairwise fun x y=>AZ x y=true
theorem UnI.init {out q:List Ce}(ha:out.Pairwise fun x y=>AZ x y=true)(hb:q.Pairwise fun x y=>AZ x y=true):UnI out q out q []:=⟨Iff.rfl,fun _=>rfl,ha,hb⟩
theorem UnI.left {out q a b next:List Ce}{c:Ce}(h:UnI out q (c::a) b next)(hl:∀d,d∈b->AZ c d=true):UnI out q a b (next++[c]):=by
 have hp:=AiO.1 h.pa
 refine⟨(MJ hl).symm.trans h.d,fun hd=>?_,hp.2,h.pb⟩
 rw[<-h.s ((MJ hl).2 hd),Aji,JE (fun d hd2=>?_) (MM hp.2 h.pb hd)]
 ·simp
 ·rcases Ajn.1 hd2 with hm|hm
  ·exact hp.1 d hm
  ·exact hl d hm
theorem UnI.right {out q a b next:List Ce}{e:Ce}(h:UnI out q a (e::b) next)(hl:∀c,c∈a->AZ e c=true):UnI out q a b (next++[e]):=by
 have hp:=AiO.1 h.pb
 refine⟨(MI hl).symm.trans h.d,fun hd=>?_,h.pa,hp.2⟩
 have hap:=MM h.pa hp.2 hd
 have e1:AR (a++e::b)=e::AR (a++b):=by
  have hc:=JE (c:=e) (L:=a++b) (fun d hd2=>by
   rcases Ajn.1 hd2 with hm|hm
   ·exact hl d hm
   ·exact hp.1 d hm) hap
  rw[<-hc]
  refine Cv List.perm_middle (AiO.2 ⟨fun d hd2=>?_,hap⟩)
  rcases Ajn.1 hd2 with hm|hm
  ·exact FE (hl d hm)
  ·exact FE (hp.1 d hm)
 rw[<-h.s ((MI hl).2 hd),e1]
 simp
theorem UnI.meet {out q a b next:List Ce}{c d:Ce}(h:UnI out q (c::a) (d::b) next)(hx:c.x=d.x)(hy:c.y=d.y):¬dsj out q:=fun hh=>(h.d.2 hh) c (AiM ..) d (AiM ..) ⟨hx,hy⟩
theorem UnI.done {out q next:List Ce}(h:UnI out q [] [] next):dsj out q/\next=AR (out++q):=by
 have h0:dsj [] []:=fun c hc=>by cases hc
 exact⟨h.d.1 h0,by rw[<-h.s h0];simp[AR]⟩
theorem XR {ps:List (List Ce)}{q:List Ce}:dsj (AR ps.flatten) q ↔ ∀p,p∈ps->dsj p q:=by
 refine⟨fun h p hp c hc=>h c ((Bf _).mem_iff.2 (AjN.2 ⟨p,hp,hc⟩)),fun h c hc=>?_⟩
 obtain⟨p,hp,hcp⟩:=AjN.1 ((Bf _).mem_iff.1 hc)
 exact h p hp c hcp
theorem JK {ps:List (List Ce)}{i:Nat}{q:List Ce}(h:ps[i]? = some q):CH (ps.take (i+1))↔CH (ps.take i)/\dsj (AR (ps.take i).flatten) q:=by
 unfold CH
 rw[Az h,AjB,XR]
 exact⟨fun hh=>⟨hh.1,fun p hp=>hh.2.2 p hp q (AiQ.2 rfl)⟩,fun hh=>⟨hh.1,AjM _ _,fun p hp d hd=>by rw[AiQ.1 hd];exact hh.2 p hp⟩⟩
theorem XS {ps:List (List Ce)}(i:Nat)(h:CH ps):CH (ps.take i):=h.sublist (List.take_sublist i ps)
open Classical in
noncomputable def unF (ps:List (List Ce)):List Ce×Bool:=if CH ps then (AR ps.flatten,true) else ([],false)
theorem Afj {p:List Ce}{x y w h:Int}(e:Qg p=[x,y,w,h]):TA p=(decide (10000<w)||decide (10000<h)):=by
 unfold TA
 rw[e]
theorem AbQ {t:TreeC}{h n v:I}{es:List (List I)}{s:Sh}(hT:TreeV t h n es)(hv:IsSl v (Aj s.c))(hl:s.c.length<=1000000)(H:Hp):Gives G 64 [.m (.ag [.i .i64 t.states,h,n]),.m (.ag (shI v s))] H (.m (.b (Gg t s))) H:=by
 have gb:=fun H=>Aid hv (by omega) H
 have gh:=fun H=>has_s hT hv (by omega) s.m H
 obtain⟨x,y,w,hh,e⟩:=Aie s.c
 unfold Gg
 unfold YS at gb
 rw[e]at gb
 rw[Afj e]
 generalize (!s.c.isEmpty&&right s.c)=b at *
 generalize AdA t s.c s.m=r at *
 obtain⟨ok,er⟩:=r
 simp only[hasV,Vj,AiT,List.map_nil]at gb gh
 refine Al rfl rfl rfl rfl rfl ?_
 cases b with
 | false=>simp (maxSteps:=2000000) (disch:=omega) [Ab,shI,cl (gb _)]
 | true =>
  by_cases h1:10000<w
  ·simp (maxSteps:=2000000) (disch:=omega) [Ab,shI,cl (gb _),h1]
  ·by_cases h2:10000<hh
   ·simp (maxSteps:=2000000) (disch:=omega) [Ab,shI,cl (gb _),h1,h2]
   ·cases ok with
    | false=>simp (maxSteps:=2000000) (disch:=omega) [Ab,shI,cl (gb _),h1,h2,cl (gh _)]
    | true=>simp (maxSteps:=2000000) (disch:=omega) [Ab,shI,cl (gb _),h1,h2,cl (gh _)]
def phV (r:List Ce×Int):I:=if r.2=0 then .sl (Aj r.1) else .nl 4
theorem WQ {n p:Int}(h1:0<=n)(h2:0<p):n.tmod p=((n.toNat%p.toNat:Nat):Int):=by
 obtain⟨a,rfl⟩:=AiN h1
 obtain⟨b,rfl⟩:=AiN (Int.le_of_lt h2)
 rfl
theorem Ack {t:TreeC}{h n v:I}{es:List (List I)}{s:Sh}(hT:TreeV t h n es)(hv:IsSl v (Aj s.c))(hl:s.c.length<=1000000)(k:Int)(H:Hp):Gives G 86 [.m (.ag [.i .i64 t.states,h,n]),.m (.ag (shI v s)),.m (.i .i64 k)] H (.tu [.m (phV (phF t s k)),.m (.i .i64 (phF t s k).2)]) H:=by
 have gq:=fun H=>Kx hT H
 have gr:=fun H=>AbQ hT hv hl H
 have hS:=Ee hT
 unfold phF
 cases hq:Bl t with
 | false =>
  rw[hq]at gq
  refine Al rfl rfl rfl rfl rfl ?_
  simp (maxSteps:=2000000) (disch:=omega) [shI,cl (gq _),phV]
 | true =>
 rw[hq]at gq
 rw[Air rfl]
 by_cases hk:0<=k/\k<=10000
 rotate_left
 ·rw[Aiq (fun hh=>hk hh.1)]
  refine Al rfl rfl rfl rfl rfl ?_
  by_cases h1:k<0
  ·simp (maxSteps:=2000000) (disch:=omega) [shI,cl (gq _),h1,Ac,phV]
  ·have h2:10000<k:=by omega
   simp (maxSteps:=2000000) (disch:=omega) [shI,cl (gq _),h1,h2,Ac,phV]
 have k1:¬k<0:=by omega
 have k2:¬10000<k:=by omega
 cases hok:Gg t s with
 | false =>
  rw[hok]at gr
  rw[Aiq (fun hh=>by cases hh.2)]
  refine Al rfl rfl rfl rfl rfl ?_
  simp only[shI]at gr
  simp (maxSteps:=2000000) (disch:=omega) [cl (gq _),k1,k2,Ac,shI,cl (gr _),phV]
 | true =>
  rw[hok]at gr
  rw[Air ⟨hk,rfl⟩]
  have hR:=Hr hS hok
  have hp:=hR.p1
  have hlt:((k.toNat%s.m.1.toNat:Nat):Int)<s.m.1:=by
   have:=Nat.mod_lt k.toNat (show 0<s.m.1.toNat from by omega)
   omega
  obtain⟨p1,p2,p3,_⟩:=hR.ph _ hlt
  obtain⟨x,hx,gx⟩:=AbY hT hv (by omega) ((k.toNat%s.m.1.toNat:Nat):Int)
  unfold rnE at hx gx
  rw[Air hR.ck,Air (by have:=hR.p2;omega)]at hx gx
  rw[show (((k.toNat%s.m.1.toNat:Nat):Int)).toNat=k.toNat%s.m.1.toNat from rfl]at hx gx
  have gh:=fun H=>YN hx (BZ p3).2.1 H
  rw[Aiq p2]at gh
  rw[p1]at gx
  have ht:=WQ hk.1 (show 0<s.m.1 from by omega)
  have hne:¬s.m.1=0:=by omega
  simp only[shI]at gr
  unfold phV
  dsimp only
  rw[Air rfl]
  generalize Cq (BC t (k.toNat%s.m.1.toNat) s.c).1=q at *
  generalize k.toNat%s.m.1.toNat=m at *
  refine Al rfl rfl rfl rfl rfl ?_
  simp (maxSteps:=2000000) (disch:=omega) [cl (gq _),k1,k2,Ac,shI,cl (gr _),ht,hne,Aa (show -9223372036854775808<=((m:Nat):Int) from by omega) (show ((m:Nat):Int)<=9223372036854775807 from by have:=hR.p2;omega),cl (gx _),cl (gh _)]
theorem Ut {k:Int}(h:0<=k/\k<=7):Hv k=k.toNat:=by unfold Hv;omega
theorem Acd {t:TreeC}{h n z:I}{es fs:List (List I)}{l:List Sh}(hT:TreeV t h n es)(hz:IsSl z fs)(hs:IS fs l)(x:St5):∃u,IsSl u (Aj (plF t l x).1) /\ ∀H,Gives G 45 [.m (.ag [.i .i64 t.states,h,n]),.m z,.m (.ag (Pq x))] H (.tu [.m u,.m (.i .i64 (plF t l x).2)]) H:=by
 have gq:=fun H=>Kx hT H
 have hS:=Ee hT
 have hrz:=hz.rules
 rw[hs.1]at hrz
 unfold plF
 cases hq:Bl t with
 | false =>
  rw[hq]at gq
  refine⟨.nl 4,Bc,fun H=>Al rfl rfl rfl rfl rfl ?_⟩
  simp (maxSteps:=2000000) (disch:=omega) [Pq,cl (gq _)]
 | true =>
 rw[hq]at gq
 rw[Air rfl]
 by_cases h0:x.i<0
 ·rw[Aiq (by omega)]
  refine⟨.nl 4,Bc,fun H=>Al rfl rfl rfl rfl rfl ?_⟩
  simp (maxSteps:=2000000) (disch:=omega) [Pq,cl (gq _),h0]
 rw[Air (by omega)]
 obtain⟨i,hi⟩:=AiN (show 0<=x.i by omega)
 rw[hi]
 rw[show ((i:Int)).toNat=i from rfl]
 have hi0:¬(i:Int)<0:=by omega
 cases hx:l[i]? with
 | none =>
  have hge:=AiC.1 hx
  refine⟨.nl 4,Bc,fun H=>Al rfl rfl rfl rfl rfl ?_⟩
  simp (maxSteps:=2000000) (disch:=omega) [Pq,cl (gq _),hi,hi0,hrz,show (l.length:Int)<=i from by omega]
 | some s =>
 have hlt:=(Ain.1 hx).1
 obtain⟨hsl,v,hn,hv⟩:=hs.2 i s hx
 have hilt:¬(l.length:Int)<=i:=by omega
 have hilt':¬l.length<=i:=by omega
 dsimp only
 by_cases hk:0<=x.k/\x.k<=7
 rotate_left
 ·rw[Aiq (fun hh=>hk hh.1)]
  refine⟨.nl 4,Bc,fun H=>Al rfl rfl rfl rfl rfl ?_⟩
  by_cases h1:x.k<0
  ·simp (maxSteps:=2000000) (disch:=omega) [Pq,cl (gq _),hi,hi0,hrz,hilt,h1]
  ·have h2:7<x.k:=by omega
   simp (maxSteps:=2000000) (disch:=omega) [Pq,cl (gq _),hi,hi0,hrz,hilt,h1,h2]
 have k1:¬x.k<0:=by omega
 have k2:¬7<x.k:=by omega
 have gp:=fun H=>Ack hT hv hsl x.n H
 unfold phF at gp
 rw[Air hq]at gp
 by_cases hP:(0<=x.n/\x.n<=10000)/\Gg t s=true
 rotate_left
 ·rw[Aiq (fun hh=>hP hh.2)]
  rw[Aiq hP]at gp
  refine⟨.nl 4,Bc,fun H=>Al rfl rfl rfl rfl rfl ?_⟩
  simp only[shI]at gp hn
  simp (maxSteps:=2000000) (disch:=omega) [Pq,cl (gq _),hi,hi0,hrz,hilt,k1,k2,hn,cl (gp _)]
 rw[Air ⟨hk,hP⟩]
 rw[Air hP]at gp
 have hR:=Hr hS hP.2
 have hlt2:((x.n.toNat%s.m.1.toNat:Nat):Int)<s.m.1:=by
  have:=hR.p1
  have:=Nat.mod_lt x.n.toNat (show 0<s.m.1.toNat from by omega)
  omega
 obtain⟨r1,r2,r3,r4⟩:=TR hR hlt2 x.k.toNat
 obtain⟨q,hq2,_⟩:=Yz (Bp (Aj (Cq (BC t (x.n.toNat%s.m.1.toNat) s.c).1))) r1 x.k []
 rw[Ut hk]at hq2
 have e1:=Pk (AI r1).1 hq2
 have gt:∀H,Gives G 87 [.m (.i .i64 x.k),.m (.sl (Aj (Cq (BC t (x.n.toNat%s.m.1.toNat) s.c).1)))] H (.tu [.m (.sl (Aj (tnS x.k.toNat (Cq (BC t (x.n.toNat%s.m.1.toNat) s.c).1)))),.m (.i .i64 0)]) H:=fun H=>by
  obtain⟨q',hq',g⟩:=Yz (Bp (Aj (Cq (BC t (x.n.toNat%s.m.1.toNat) s.c).1))) r1 x.k H
  rw[Ut hk]at hq'
  rw[<-Pk (AI r1).1 hq']
  exact g
 have gh:=fun H=>YN (Bp (Aj (tnS x.k.toNat (Cq (BC t (x.n.toNat%s.m.1.toNat) s.c).1)))) r2 H
 have hnn:¬tnS x.k.toNat (Cq (BC t (x.n.toNat%s.m.1.toNat) s.c).1)=[]:=fun e=>r4 (by unfold Adv;rw[e];rfl)
 rw[Aiq hnn]at gh
 obtain⟨u,hu,gs⟩:=Xa (Bp (Aj (Adv t s (x.n.toNat%s.m.1.toNat) x.k.toNat))) r3 x.x x.y
 refine⟨u,hu,fun H=>Al rfl rfl rfl rfl rfl ?_⟩
 simp only[phV,Air]at gp
 unfold Adv at gs ⊢
 generalize tnS x.k.toNat (Cq (BC t (x.n.toNat%s.m.1.toNat) s.c).1)=q1 at *
 generalize Cq (BC t (x.n.toNat%s.m.1.toNat) s.c).1=q2 at *
 generalize Cq q1=q3 at *
 generalize shF q3 x.x x.y=res at *
 simp only[shI]at gp hn
 simp (maxSteps:=2000000) (disch:=omega) [Pq,cl (gq _),hi,hi0,hrz,hilt,k1,k2,hn,cl (gp _),cl (gt _),cl (gh _),cl (gs _)]
def PkI (has:Bool)(acc:List Ce)(H:Hp):Prop:=∃b,b<=1/\((acc=[]/\H=[.cs 4 1 [[.m (.b has)]] 0 false,.cs 29 1 [[.m (.nl 4)]] b false])\/(acc≠[]/\H=[.cs 4 1 [[.m (.b has)]] 0 false,.cs 29 1 [[.sl 2 acc.length 3 0 acc.length false]] b false,.cs 73 3 (AK acc) 0 false]))
theorem Xm {has:Bool}{acc:List Ce}{H:Hp}(h:PkI has acc H)(hl:acc.length<=1000000)(c:Ce):∃o b o1 H1 H2,b<=1/\nth H 1=some (.cs 29 1 [[o]] b false)/\AA o=true/\(∀B,Fi ⟨B,H⟩ 73 3 24 o [[.m (.i .i64 c.x),.m (.i .i64 c.y),.m (.i .i64 c.s)]]=some (o1,⟨B,H1⟩))/\AA o1=true/\Au o1=some [o1]/\BM o1=true/\nth H1 1=some (.cs 29 1 [[o]] b false)/\AN H1 1 (.cs 29 1 [[o1]] 1 false)=some H2/\PkI has (acc++[c]) H2:=by
 obtain⟨b,hb,⟨rfl,rfl⟩|⟨hne,rfl⟩⟩:=h
 ·exact⟨_,b,.sl 2 1 3 0 1 false,_,_,hb,rfl,rfl,fun B=>rfl,rfl,rfl,rfl,rfl,rfl,1,Ais _,.inr ⟨by simp,rfl⟩⟩
 ·have ha:=fun B=>Dz (M:=⟨B,[.cs 4 1 [[.m (.b has)]] 0 false,.cs 29 1 [[.sl 2 acc.length 3 0 acc.length false]] b false,.cs 73 3 (AK acc) 0 false]⟩) (r:=2) (bytes:=24) (xs:=[[.m (.i .i64 c.x),.m (.i .i64 c.y),.m (.i .i64 c.s)]]) rfl (by simp) (by simp;omega) rfl
  simp only[DP,Ajf,Ajj,Ajw,List.set_cons_succ,List.set_cons_zero,JF]at ha
  refine⟨_,b,.sl 2 (acc.length+1) 3 0 (acc.length+1) false,_,_,hb,rfl,rfl,ha,rfl,rfl,rfl,rfl,rfl,1,Ais _,.inr ⟨by simp,?_⟩⟩
  simp
theorem Ach {has:Bool}{acc:List Ce}{H:Hp}(h:PkI has acc H):nth H 0=some (.cs 4 1 [[.m (.b has)]] 0 false):=by
 obtain⟨b,hb,⟨rfl,rfl⟩|⟨hne,rfl⟩⟩:=h <;> rfl
theorem NI {has:Bool}{acc:List Ce}{H:Hp}(h:PkI has acc H)(hl:acc.length<=1000000)(c d:Ce)(a b:Bool){Q:V->Hp->Prop}(hQ:∀H',PkI has (acc++if a&&(b==has) then [c] else []) H'->Q (.tu []) H'):Ret G 171 (Vis 171 [.pt 0 1 0 0,.pt 1 1 0 0] c d a b) H Q:=by
 refine Bd mono rfl rfl rfl rfl rfl ?_
 have h0:=Ach h
 cases a with
 | false =>
  have k:=hQ H (by simpa using h)
  simp (maxSteps:=2000000) (disch:=omega) [Ab,Vis,Ce.i]
  exact k
 | true =>
  by_cases hb:b=has
  ·obtain⟨o,b1,o1,H1,H2,hb1,r1,r2,r3,r4,r5,r6,r7,r8,r9⟩:=Xm h hl c
   have k:=hQ H2 (by simpa[hb]using r9)
   have hbe:(b==has)=true:=by simp[hb]
   simp (maxSteps:=2000000) (disch:=omega) [Ab,Vis,Ce.i,h0,hb,r1,hb1,r3,r5,r6,r7,r8]
   exact k
  ·have k:=hQ H (by simpa[hb]using h)
   have hbe:(b==has)=false:=by simpa using hb
   simp (maxSteps:=2000000) (disch:=omega) [Ab,Vis,Ce.i,h0,hbe]
   exact k
theorem Aci {has:Bool}{acc:List Ce}{H:Hp}(h:PkI has acc H):∃o b,b<=1/\nth H 1=some (.cs 29 1 [[o]] b false)/\AA o=true/\viewR H o=some (.m (zP acc))/\view 20 H o=some (zP acc):=by
 obtain⟨b,hb,⟨rfl,rfl⟩|⟨hne,rfl⟩⟩:=h
 ·exact⟨_,b,hb,rfl,rfl,rfl,rfl⟩
 ·have hv:=Yy (H:=[.cs 4 1 [[.m (.b has)]] 0 false,.cs 29 1 [[.sl 2 acc.length 3 0 acc.length false]] b false,.cs 73 3 (AK acc) 0 false]) (r:=2) (b:=0) (q:=acc) rfl (AiD _) 18
  have hz:zP acc=.sl (Aj acc):=by unfold zP;rw[Aiq hne]
  refine⟨_,b,hb,rfl,rfl,?_,?_⟩
  ·show (view 20 _ _).bind _=_
   rw[hv,hz]
   rfl
  ·rw[hz]
   exact hv
theorem Ahv {v w:I}{p q:List Ce}(hv:IsSl v (Aj p))(hw:IsSl w (Aj q))(hp:right p=true)(hq:right q=true)(has:Bool)(H:Hp):Gives G 137 [.m v,.m w,.m (.b has)] H (.m (zP (pkF p q has))) H:=by
 obtain⟨wp,_,lp⟩:=AI hp
 obtain⟨wq,_,lq⟩:=AI hq
 have g1:=fun H=>Ef hv (by omega) H
 have g2:=fun H=>Ef hw (by omega) H
 rw[hp]at g1
 rw[hq]at g2
 refine Al rfl rfl rfl rfl rfl ?_
 simp (maxSteps:=2000000) (disch:=omega) [cl (g1 _),cl (g2 _),Ac]
 rw[Ao]
 refine Acz (Inv:=fun a b H=>∃acc,PkI has acc H/\acc++pkF a b has=pkF p q has) rfl (fun c r b H Q hI hlt hQ=>?_) (fun d s a H Q hI hlt hQ=>?_) (fun c r d s H Q hI hx hy h1 h2 hQ=>?_) hv hw wp wq (by omega) (by omega) ⟨[],⟨0,by omega,.inl ⟨rfl,rfl⟩⟩,rfl⟩ fun H' hI=>?_
 ·obtain⟨acc,hP,he⟩:=hI
  have hl:acc.length<=1000000:=by
   have:=congrArg List.length he
   rw[AiA]at this
   have h2:(pkF p q has).length<=p.length:=List.length_filter_le _ _
   omega
  refine NI hP hl c _ true false fun H' hP'=>hQ H' ⟨_,hP',?_⟩
  rw[<-he,pk_a has hlt]
  cases has <;> simp
 ·obtain⟨acc,hP,he⟩:=hI
  have hl:acc.length<=1000000:=by
   have:=congrArg List.length he
   rw[AiA]at this
   have h2:(pkF p q has).length<=p.length:=List.length_filter_le _ _
   omega
  refine NI hP hl _ d false true fun H' hP'=>hQ H' ⟨_,hP',?_⟩
  rw[<-he,pk_b has hlt]
  simp
 ·obtain⟨acc,hP,he⟩:=hI
  have hl:acc.length<=1000000:=by
   have:=congrArg List.length he
   rw[AiA]at this
   have h2:(pkF p q has).length<=p.length:=List.length_filter_le _ _
   omega
  refine NI hP hl c d true true fun H' hP'=>hQ H' ⟨_,hP',?_⟩
  rw[<-he,pk_ab has hx hy h1]
  cases has <;> simp
 ·obtain⟨acc,hP,he⟩:=hI
  have he:acc=pkF p q has:=by rw[<-he,Acj,AiV]
  obtain⟨o,b,hb,r1,r2,r3,r4⟩:=Aci hP
  rw[he]at r3 r4
  generalize zP (pkF p q has)=z at *
  simp (maxSteps:=2000000) (disch:=omega) [Ab,r1,hb,r3,Am r2,r2]
theorem Rr {v w:I}{p q:List Ce}(hv:IsSl v (Aj p))(hw:IsSl w (Aj q))(hp:right p=true)(hq:right q=true)(H:Hp):Gives G 65 [.m v,.m w] H (.m (.b (AdC p q))) H:=by
 obtain⟨wp,_,lp⟩:=AI hp
 obtain⟨wq,_,lq⟩:=AI hq
 have g1:=fun H=>Ef hv (by omega) H
 have g2:=fun H=>Ef hw (by omega) H
 rw[hp]at g1
 rw[hq]at g2
 have g3:=fun H=>Ahv hv hw hp hq true H
 have ga:∀H,Gives G 107 [.m v,.m w] H (.m (zP (pkF p q true))) H:=fun H=>by
  generalize zP (pkF p q true)=z at *
  refine Al rfl rfl rfl rfl rfl ?_
  simp (maxSteps:=2000000) (disch:=omega) [cl (g3 _)]
 have hrz:=(Ge (pkF p q true)).rules
 simp only[show (Aj (pkF p q true)).length=(pkF p q true).length from by simp[Aj]]at hrz
 have e:AdC p q=decide ((pkF p q true).length=0):=by
  by_cases h:dsj p q
  ·have h1:=(Hz p q).2 h
   have h2:=YF.2 h
   rw[h1,h2]
   rfl
  ·have h1:¬AdC p q=true:=fun hh=>h ((Hz p q).1 hh)
   have h2:¬pkF p q true=[]:=fun hh=>h (YF.1 hh)
   rw[Bool.not_eq_true]at h1
   rw[h1]
   symm
   refine AiE fun hh=>h2 (AiP hh)
 rw[e]
 have hll:((pkF p q true).length:Int)<=5000:=by
  have h2:(pkF p q true).length<=p.length:=List.length_filter_le _ _
  omega
 generalize zP (pkF p q true)=z at *
 generalize (pkF p q true).length=m at *
 refine Al rfl rfl rfl rfl rfl ?_
 by_cases hm:m=0
 ·simp (maxSteps:=2000000) (disch:=omega) [cl (g1 _),cl (g2 _),cl (ga _),Ac,hrz,hm]
 ·simp (maxSteps:=2000000) (disch:=omega) [cl (g1 _),cl (g2 _),cl (ga _),Ac,hrz,hm]
end Go.Mx.Tryz
namespace Go.Mx.Tryz
def onV (xs:List I):List (List V):=xs.map fun x=>[.m x]
@[simp] theorem Dx (xs:List I):(onV xs).length=xs.length:=by simp[onV]
theorem NK (xs ys:List I):onV xs++onV ys=onV (xs++ys):=by simp[onV]
theorem Cn {xs:List I}{i:Nat}{x:I}(h:xs[i]? = some x):nth (onV xs) i=some [.m x]:=by
 rw[AP]
 simp[onV,h]
theorem Acm (xs:List I)(a n:Nat):((onV xs).drop a).take n=onV ((xs.drop a).take n):=by
 unfold onV
 rw[List.map_take,List.map_drop]
def on1 (xs:List I):List (List I):=xs.map fun x=>[x]
@[simp] theorem Acp (xs:List I):(on1 xs).length=xs.length:=by simp[on1]
theorem Aco {xs:List I}{i:Nat}{x:I}(h:xs[i]? = some x):nth (on1 xs) i=some [x]:=by
 rw[AP]
 simp[on1,h]
def Adz (xs:List I):Prop:=∀x,x∈xs->BM (.m x)=true
theorem IF {xs:List I}(h:Adz xs):((onV xs).all fun e=>Nat.beq e.length 1&&e.all BM)=true:=by
 rw[Aiw]
 intro e he
 obtain⟨x,hx,rfl⟩:=AiH.1 he
 simp[h x hx]
theorem Acn (xs:List I):((onV xs).all fun e=>e.all isM)=true:=by
 rw[Aiw]
 intro e he
 obtain⟨x,hx,rfl⟩:=AiH.1 he
 rfl
def LR (ty:Nat)(xs:List I)(o:V)(H:Hp)(ok:Nat->Prop):Prop:=(xs=[]/\o=.m (.nl 4))\/(xs≠[] /\ ∃r,ok r/\o=.sl r xs.length 1 0 xs.length false/\nth H r=some (.cs ty 1 (onV xs) 0 false))
theorem LR.nil {ty:Nat}{H:Hp}{ok:Nat->Prop}:LR ty [] (.m (.nl 4)) H ok:=.inl ⟨rfl,rfl⟩
theorem LR.keep {ty:Nat}{xs:List I}{o:V}{H H':Hp}{ok ok':Nat->Prop}(h:LR ty xs o H ok)(hk:∀r,ok r->nth H' r=nth H r)(ho:∀r,ok r->r<H.length->ok' r):LR ty xs o H' ok':=by
 rcases h with h|⟨hne,r,hr,e,h3⟩
 ·exact .inl h
 ·exact .inr ⟨hne,r,ho r hr (AS h3),e,by rw[hk r hr];exact h3⟩
theorem LR.nf {ty:Nat}{xs:List I}{o:V}{H:Hp}{ok:Nat->Prop}(h:LR ty xs o H ok):AA o=true/\Au o=some [o]/\BM o=true/\Ap (.len false) [o]=some (.m (.i .i64 (xs.length:Nat))):=by
 rcases h with ⟨rfl,rfl⟩|⟨hne,r,hr,rfl,h3⟩
 ·exact⟨rfl,rfl,rfl,rfl⟩
 ·exact⟨rfl,rfl,rfl,rfl⟩
theorem LR.rd {ty:Nat}{xs:List I}{o:V}{H:Hp}{ok:Nat->Prop}(h:LR ty xs o H ok){i:Nat}{x:I}(hx:xs[i]? = some x):∃p,Ap (.ixa 1) [o,.m (.i .i64 (i:Int))]=some p/\AA p=true /\ ∀B,readX ⟨B,H⟩ (.ld false 1) [p]=some (.m x):=by
 have hlt:=(Ain.1 hx).1
 rcases h with ⟨rfl,rfl⟩|⟨hne,r,hr,rfl,h3⟩
 ·simp at hlt
 ·refine⟨.pt r xs.length i 0,?_,rfl,fun B=>?_⟩
  ·simp (maxSteps:=2000000) (disch:=omega) []
  ·simp (maxSteps:=2000000) (disch:=omega) [Ab,Cn hx,h3]
theorem LR.elems {ty:Nat}{xs:List I}{o:V}{H:Hp}{ok:Nat->Prop}(h:LR ty xs o H ok):Mx.elems H o=some (onV xs):=by
 rcases h with ⟨rfl,rfl⟩|⟨hne,r,hr,rfl,h3⟩
 ·rfl
 ·rw[DM,h3]
  show gd (Nat.ble 0 xs.length&&Nat.beq 1 1) (some (((onV xs).drop 0).take xs.length))=_
  rw[Bb,Aiv (AiD _),AjP,AiJ (by simp)]
  rfl
theorem LR.push {ty b n0:Nat}{xs:List I}{o:V}{H:Hp}(h:LR ty xs o H (n0 <= ·))(hn:n0<=H.length)(hb:b<=1000){ys:List I}(hl:xs.length+ys.length<=100000000)(ha:Adz ys):∃o1 H1,(∀B,Fi ⟨B,H⟩ ty 1 b o (onV ys)=some (o1,⟨B,H1⟩))/\AA o1=true/\LR ty (xs++ys) o1 H1 (n0 <= ·)/\n0<=H1.length/\H.length<=H1.length /\ ∀r,r<n0->nth H1 r=nth H r:=by
 have hmul:(xs.length+ys.length)*b<=100000000*1000:=Nat.mul_le_mul hl hb
 cases ys with
 | nil =>
  refine⟨o,H,fun B=>?_,h.nf.1,by rw[AiV];exact h,hn,Ais _,fun _ _=>rfl⟩
  rcases h with ⟨rfl,rfl⟩|⟨hne,r,hr,rfl,h3⟩ <;> rfl
 | cons y t =>
  rcases h with ⟨rfl,rfl⟩|⟨hne,r,hr,rfl,h3⟩
  ·refine⟨.sl H.length (y::t).length 1 0 (y::t).length false,H++[.cs ty 1 (onV (y::t)) 0 false],fun B=>?_,rfl,.inr ⟨by simp,H.length,hn,rfl,De H _ 0⟩,by simp;omega,by simp,fun r hr=>BL _ _ _ (by omega)⟩
   show Bu ⟨B,H⟩ ty 1 b (onV (y::t))=_
   rw[Cz,IF ha,Dx]
   have:Nat.ble ((y::t).length*b) 140737488355328=true:=by
    rw[Bb]
    refine Aiv ?_
    simp only[Ajj,Ajw]at hmul
    omega
   rw[this]
   rfl
  ·have ha2:=fun B=>Dz (M:=⟨B,H⟩) (bytes:=b) (xs:=onV (y::t)) h3 (by simp[onV]) (by simp only[Dx];omega) (IF ha)
   simp only[Dx,NK]at ha2
   have el:xs.length+(y::t).length=(xs++y::t).length:=by simp
   rw[el]at ha2
   refine⟨_,_,ha2,rfl,.inr ⟨by simp,r,hr,rfl,Be (AS h3)⟩,by simp;omega,by simp,fun q hq=>AG fun e=>?_⟩
   subst e
   have:n0<=r:=hr
   omega
def zL (xs:List I):I:=if xs=[] then .nl 4 else .sl (on1 xs)
theorem WN (xs:List I):IsSl (zL xs) (on1 xs):=by
 unfold zL
 split
 ·rename_i h;subst h;exact Bc
 ·exact Bp _
theorem Afi (xs:List I):BM (.m (zL xs))=true:=by
 unfold zL
 split <;> rfl
theorem optV (k:Nat)(H:Hp):∀xs:List I,Af (fun e=>Af (view (k+1) H) e) (onV xs)=some (on1 xs)
 | []=>rfl
 | x::r=>by
  show Option.bind (some [x]) _=_
  simp only[Ait]
  show Option.bind (Af _ (onV r)) _=_
  rw[optV k H r]
  rfl
theorem LR.view {ty:Nat}{xs:List I}{o:V}{H:Hp}{ok:Nat->Prop}(h:LR ty xs o H ok)(k:Nat):Mx.view (k+2) H o=some (zL xs):=by
 have he:=h.elems
 rcases h with ⟨rfl,rfl⟩|⟨hne,r,hr,rfl,h3⟩
 ·rfl
 ·show Option.bind (Mx.elems H (.sl r xs.length 1 0 xs.length false)) _=_
  rw[he]
  show Option.bind (Af (fun e=>Af (Mx.view (k+1) H) e) (onV xs)) _=_
  rw[optV]
  unfold zL
  rw[Aiq hne]
  rfl
theorem NQ {H:Hp}{r ty:Nat}{xs:List I}{b:Nat}{fz:Bool}(h:nth H r=some (.cs ty 1 (onV xs) b fz)):AW [r] H=some (H.set r (.cs ty 1 (onV xs) b true)):=by
 show Option.bind (nth H r) _=_
 rw[h]
 show Option.bind (gd ((onV xs).all fun e=>e.all isM) (some (Row.cs ty 1 (onV xs) b true))) _=_
 rw[Acn]
 show Option.bind (AN H r _) _=_
 rw[AE _ _ _ (AS h)]
 rfl
theorem LR.viewR {ty:Nat}{xs:List I}{o:V}{H:Hp}{ok:Nat->Prop}(h:LR ty xs o H ok):Mx.viewR H o=some (.m (zL xs)):=by
 have hv:=h.view 18
 rcases h with ⟨rfl,rfl⟩|⟨hne,r,hr,rfl,h3⟩
 ·rfl
 ·show (Mx.view 20 H (.sl r xs.length 1 0 xs.length false)).bind _=_
  rw[hv]
  rfl
theorem Cf {call:Bq}{M:Mem}{ty esz b:Nat}{s x:V}{e:List (List V)}(h:Mx.elems M.H x=some e):An call M (.app ty esz b) [s,x]=Fi M ty esz b s e:=by
 cases x with
 | m x =>
  cases x with
  | s l=>simp[Mx.elems]at h
  | _=>simp only[An];rw[h];rfl
 | _=>simp only[An];rw[h];rfl
end Go.Mx.Tryz
