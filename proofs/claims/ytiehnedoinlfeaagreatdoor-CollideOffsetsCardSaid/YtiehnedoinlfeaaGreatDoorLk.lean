/- Ships and shots: Right, Place of the reference. -/
import Derived.Test.YtiehnedoinlfeaaGreatDoorRc
import Derived.Test.YtiehnedoinlfeaaGreatDoorNa
set_option linter.unusedSimpArgs false
set_option linter.unusedVariables false
set_option linter.unusedSectionVars false
set_option maxRecDepth 100000
set_option maxHeartbeats 4000000
namespace Go.Mx.Tryz
open Go.Lib Go.Proofs
variable {α:Type}
theorem Qi (l:List α)(x y:α):AN (l++[x]) l.length y=some (l++[y]):=by
 rw[AB _ _ _ (by simp)]
 simp
theorem Aae (l:List α)(x:α):nth (l++[x]) l.length=some x:=by rw[AL];simp
def GU (l:List (Int×Int)):L0:=l.map fun p=>[.m (.i .i64 p.1),.m (.i .i64 p.2)]
@[simp] theorem UO (l:List (Int×Int)):(GU l).length=l.length:=by simp[GU]
def z2 (l:List (Int×Int)):I:=if l=[] then .nl 4 else .sl (Au l)
theorem z2_sl (l:List (Int×Int)):IsSl (z2 l) (Au l):=by
 unfold z2
 split
 ·rename_i h;subst h;exact AS
 ·exact AX _
def Wn (acc:List (Int×Int))(o:V)(H:Hp):Prop:=(acc=[]/\o=.m (.nl 4))\/(acc≠[] /\ ∃r,o=.sl r acc.length 2 0 acc.length false/\nth H r=some (.cs 64 2 (GU acc) 0 false))
variable {acc:List (Int×Int)} {o:V} {H:Hp}
theorem MN (h:Wn acc o H)(hl:acc.length<=1000000)(x y:Int):∃E Q,(∀B,Et ⟨B,H⟩ 64 2 16 o [[J0 x,J0 y]]=some (E,⟨B,Q⟩))/\Az E=true/\Wn (acc++[(x,y)]) E Q:=by
 rcases h with ⟨rfl,rfl⟩|⟨U,r,rfl,J⟩
 ·refine⟨.sl H.length 1 2 0 1 false,H++[.cs 64 2 (GU [(x,y)]) 0 false],fun B=>rfl,rfl,.inr ⟨by simp,H.length,rfl,CQ H _ 0⟩⟩
 ·have N:=fun B=>Cu (M:=⟨B,H⟩) (r:=r) (bytes:=16) (xs:=[[J0 x,J0 y]]) J (by simp) (by simp;omega) rfl
  have es:GU acc++[[V.m (J4 x),J0 y]]=GU (acc++[(x,y)]):=by simp[GU]
  simp only[UO,Aib,Aic,Air,es]at N
  refine⟨_,_,N,rfl,.inr ⟨by simp,r,by simp,?_⟩⟩
  exact Bc (AO J)
theorem Ve (h:Wn acc o H)(x:Row):Wn acc o (H++[x]):=by
 rcases h with h|⟨E,r,N,J⟩
 ·exact .inl h
 ·exact .inr ⟨E,r,N,by rw[BH _ _ _ (AO J)];exact J⟩
theorem opt2 (k:Nat)(H:Hp):∀l:List (Int×Int),Ah (fun e=>Ah (view (k+1) H) e) (GU l)=some (Au l)
 | []=>rfl
 | x::r=>by
  show Option.bind (some [I.i .i64 x.1,J4 x.2]) _=_
  simp only[Ahz]
  have:=opt2 k H r
  show Option.bind (Ah _ (GU r)) _=_
  rw[this]
  rfl
theorem view2 {r:Nat}{f:List (Int×Int)}(h:nth H r=some (.cs 64 2 (GU f) 0 false))(k:Nat):view (k+2) H (.sl r f.length 2 0 f.length false)=some (.sl (Au f)):=by
 have e:elems H (.sl r f.length 2 0 f.length false)=some (GU f):=by
  show Option.bind (nth H r) _=_
  rw[h]
  show gd (Nat.ble 0 f.length&&Nat.beq 2 2) (some (((GU f).drop 0).take f.length))=_
  rw[Bg,AhA (Ahy _),AiA,AhJ (by simp)]
  rfl
 show Option.bind (elems H (.sl r f.length 2 0 f.length false)) _=_
 rw[e]
 show Option.bind (Ah _ (GU f)) _=_
 rw[opt2]
 rfl
theorem Ec (h:Wn acc o H):view 20 H o=some (z2 acc)/\Az o=true:=by
 rcases h with ⟨rfl,rfl⟩|⟨E,r,rfl,J⟩
 ·exact⟨rfl,rfl⟩
 ·refine⟨?_,rfl⟩
  unfold z2
  rw[Aht E]
  exact view2 J 18
theorem Vd (h:Wn acc o H):viewR H o=some (.m (z2 acc)):=by
 have J:=(Ec h).1
 rcases h with ⟨rfl,rfl⟩|⟨E,r,rfl,N⟩
 ·rfl
 ·show (view 20 _ _).bind _=_
  rw[J]
  rfl
def nr (c:Ce)(k:Int×Int):Prop:=(-2<=k.1-c.x/\k.1-c.x<=2)/\(-2<=k.2-c.y/\k.2-c.y<=2)
instance (c:Ce) (k:Int×Int):Decidable (nr c k):=by unfold nr;infer_instance
def nrs (p:List Ce)(i:Nat)(k:Int×Int):Prop:=∃c,c∈p.take i/\nr c k
variable {p:List Ce} {i:Nat} {c:Ce}
theorem Qs (J:p[i]? = some c)(k:Int×Int):nrs p (i+1) k↔nrs p i k\/nr c k:=by
 unfold nrs
 rw[As J]
 constructor
 ·rintro⟨d,E,h⟩
  rcases Aig.1 E with E|E
  ·exact .inl ⟨d,E,h⟩
  ·rw[AhQ.1 E]at h;exact .inr h
 ·rintro (⟨d,E,h⟩|h)
  ·exact⟨d,by simp[E],h⟩
  ·exact⟨c,by simp,h⟩
structure NearQ (p:List Ce)(acc:List (Int×Int)):Prop where
 nd:acc.Nodup
 all:∀c k,c∈p->nr c k->k∈acc
 len:acc.length<=1000000
 bnd:∀k,k∈acc->(-4000000<=k.1/\k.1<=4000000)/\(-4000000<=k.2/\k.2<=4000000)
variable {v cs:I} {bx by_:Int}
theorem VU {fl:Bool}{w h:Int}(hv:IsSl v (Ae p))(hl:p.length<=5000)(hg:∀c,c∈p->CC c=true)(i:Nat)(hi:i<=p.length)(k:Int×Int)(hk:(-4000000<=k.1/\k.1<=4000000)/\(-4000000<=k.2/\k.2<=4000000))(H:Hp):∃b,(b=true↔nrs p i k)/\Gives G 100 [.m (Nh fl bx by_ w h cs v),J0 (i:Int),.m (.ag [J4 k.1,J4 k.2])] H (.m (.b b)) H:=by
 have W:=hv.rules
 simp only[J3]at W
 have key:∃x H',Gives G 100 [.m (Nh fl bx by_ w h cs v),J0 (i:Int),.m (.ag [J4 k.1,J4 k.2])] H x H'/\(H'=H /\ ∃b,(b=true↔nrs p i k)/\x=.m (.b b)):=by
  refine AJ ?_
  refine Cs rfl rfl rfl rfl rfl ?_
  generalize hQ:(fun(x:V) (H':Hp)=>H'=H /\ ∃b,(b=true↔nrs p i k)/\x=.m (.b b))=Q
  have qt:nrs p i k->Q (.m (.b true)) H:=fun U=>by rw[<-hQ];exact⟨rfl,true,⟨fun _=>U,fun _=>rfl⟩,rfl⟩
  have qf:¬nrs p i k->Q (.m (.b false)) H:=fun U=>by rw[<-hQ];exact⟨rfl,false,⟨fun h=>(by cases h),fun h=>absurd h U⟩,rfl⟩
  clear hQ
  unfold Nh
  simp (maxSteps:=2000000) (disch:=omega) []
  refine(?key:∀(j:Nat) (B:LE),j<=i->getB B 3=some [.m (.b fl),J0 bx,J0 by_,J0 w,J0 h,.m cs,.m v]->getB B 5=some [J0 k.1,J0 k.2] -> ¬nrs p j k->Run G c100_B0 (S100_0 (J0 (i:Int)) (.fa 3 0) (.fa 5 0) (J0 (j:Int)) B []) _) 0 _ (Ahy _) rfl rfl (fun⟨c,hc,_⟩=>by simp at hc)
  refine Bj (fun j:Nat=>i-j) fun j ih B hj J N a0=>?_
  unfold c100_B0
  by_cases hji:j<i
  ·have E:(j:Int)<i:=by omega
   obtain⟨c,hx⟩:∃c,p[j]? = some c:=⟨_,Ahr (by omega)⟩
   have hlt:=(Am hx).1
   have hlt':(j:Int)<p.length:=by omega
   have hn:=Ap hx
   have hcb:(-1048576<=c.x/\c.x<=1048576)/\(-1048576<=c.y/\c.y<=1048576):=by
    have:=hg c (Ahw hx)
    unfold CC placed at this
    simp only[Ahs,AhC]at this
    omega
   obtain⟨Z,hdx⟩:∃Z,Z=k.1-c.x:=⟨_,rfl⟩
   obtain⟨Y,hdy⟩:∃Y,Y=k.2-c.y:=⟨_,rfl⟩
   have w1:wr .i64 (k.1-c.x)=Z:=by rw[hdx];exact Aa (by omega) (by omega)
   have w2:wr .i64 (k.2-c.y)=Y:=by rw[hdy];exact Aa (by omega) (by omega)
   have w3:=J2 (-Z) (by omega)
   have w4:=J2 (-Y) (by omega)
   have wj:=J1 j (by omega)
   have hnr:nr c k↔max Z (-Z)<=2/\max Y (-Y)<=2:=by
    unfold nr
    rw[<-hdx,<-hdy]
    omega
   have hsn:=Qs hx k
   by_cases h1:max Z (-Z)<=2
   ·by_cases h2:max Y (-Y)<=2
    ·have k1:=qt (by
      obtain⟨d,hd,U⟩:=hsn.2 (.inr (hnr.2 ⟨h1,h2⟩))
      refine⟨d,?_,U⟩
      obtain⟨m,hm⟩:=List.mem_iff_getElem?.1 hd
      have hml:=(Am hm).1
      rw[AhH]at hml
      rw[AhX]at hm
      split at hm
      ·exact List.mem_iff_getElem?.2 ⟨m,by rw[AhX,Ahv (by omega)];exact hm⟩
      ·cases hm)
     simp (maxSteps:=2000000) (disch:=omega) [W,E,hn,J,N,w1,w2,w3,w4,h1,h2]
     exact k1
    ·have k1:=ih (j+1) (by omega) B (by omega) J N (fun U=>(hsn.1 U).elim a0 fun h=>h2 (hnr.1 h).2)
     simp (maxSteps:=2000000) (disch:=omega) [W,E,hn,J,N,w1,w2,w3,w4,h1,h2,wj,-Int.natCast_add]
     exact k1
   ·have k1:=ih (j+1) (by omega) B (by omega) J N (fun U=>(hsn.1 U).elim a0 fun h=>h1 (hnr.1 h).1)
    simp (maxSteps:=2000000) (disch:=omega) [W,E,hn,J,N,w1,w2,w3,h1,wj,-Int.natCast_add]
    exact k1
  ·have:j=i:=by omega
   subst this
   have k1:=qf a0
   simp (maxSteps:=2000000) (disch:=omega) []
   exact k1
 obtain⟨x,H',h1,rfl,b,h2,rfl⟩:=key
 exact⟨b,h2,h1⟩
theorem Adk {w h:Nat}(hwh:(w+4)*(h+4)<=1000000)(hw4:w<=1000000/\h<=1000000)(hbx:-1048576<=bx/\bx<=1048576)(hby:-1048576<=by_/\by_<=1048576)(hin:∀c,c∈p->(bx<=c.x/\c.x<bx+w)/\(by_<=c.y/\c.y<by_+h))(H:Hp):
  ∃acc,NearQ p acc/\Gives G 60 [.m (Nh true bx by_ w h cs v)] H (.m (z2 acc)) H:=by
 have key:∃x H',Gives G 60 [.m (Nh true bx by_ w h cs v)] H x H'/\(H'=H /\ ∃acc,NearQ p acc/\x=.m (z2 acc)):=by
  refine AJ ?_
  refine Cs rfl rfl rfl rfl rfl ?_
  generalize hQ:(fun(x:V) (H':Hp)=>H'=H /\ ∃acc,NearQ p acc/\x=.m (z2 acc))=Q
  have qk:∀acc,NearQ p acc->Q (.m (z2 acc)) H:=fun acc hh=>by rw[<-hQ];exact⟨rfl,acc,hh,rfl⟩
  clear hQ
  have y0:=J2 (by_-2) (by omega)
  have x0:=J2 (bx-2) (by omega)
  have yh:wr .i64 (by_+(h:Int))=by_+h:=Aa (by omega) (by omega)
  have yh2:wr .i64 (by_+(h:Int)+2)=by_+h+2:=Aa (by omega) (by omega)
  have xw:wr .i64 (bx+(w:Int))=bx+w:=Aa (by omega) (by omega)
  have xw2:wr .i64 (bx+(w:Int)+2)=bx+w+2:=Aa (by omega) (by omega)
  unfold Nh
  simp (maxSteps:=2000000) (disch:=omega) [y0]
  refine(?key:∀(r:Nat) (W:Int) (acc:List (Int×Int)) (o:V) (B:LE) (Y:Hp),r<=h+4->W=by_-2+(r:Int)->getB B 1=some [.m (.b true),J0 bx,J0 by_,J0 w,J0 h,.m cs,.m v]->acc.Nodup->(∀u z,(u,z)∈acc↔(bx-2<=u/\u<bx+w+2)/\(by_-2<=z/\z<by_-2+r))->acc.length=r*(w+4)->Wn acc o Y->Run G c60_B1 (S60_1 (.fa 1 0) o (J0 W) B Y) _) 0 (by_-2) [] _ _ _ (Ahy _) (by simp) rfl .nil (fun u z=>⟨fun h=>by simp at h,fun h=>by omega⟩) (by simp) (.inl ⟨rfl,rfl⟩)
  refine Bj (fun r:Nat=>h+4-r) fun r ih W acc o B Y hr hyy hB N E J ho=>?_
  unfold c60_B1
  obtain⟨hvw,Z⟩:=Ec ho
  by_cases hrh:r<h+4
  ·have t1:W<by_+h+2:=by omega
   have wr1:=J2 (W+1) (by omega)
   simp (maxSteps:=2000000) (disch:=omega) [hB,yh,yh2,t1,x0]
   refine(?key2:∀(q:Nat) (xx:Int) (acc:List (Int×Int)) (o:V) (B:LE) (Y:Hp),q<=w+4->xx=bx-2+(q:Int)->getB B 1=some [.m (.b true),J0 bx,J0 by_,J0 w,J0 h,.m cs,.m v]->acc.Nodup->(∀u z,(u,z)∈acc↔((bx-2<=u/\u<bx+w+2)/\(by_-2<=z/\z<by_-2+r))\/(z=by_-2+r/\(bx-2<=u/\u<bx-2+q)))->acc.length=r*(w+4)+q->Wn acc o Y->Run G c60_B0 (S60_0 (.fa 1 0) o (J0 W) (J0 xx) B Y) _) 0 (bx-2) acc o _ Y (Ahy _) (by simp) hB N (fun u z=>(E u z).trans ⟨fun h=>.inl h,fun h=>h.elim id fun h=>by omega⟩) (by omega) ho
   clear hvw Z E N J ho hB acc o B Y
   refine Bj (fun q:Nat=>w+4-q) fun q ihq xx acc o B Y hq hxx hB N E J ho=>?_
   unfold c60_B0
   obtain⟨hvw,Z⟩:=Ec ho
   by_cases hqw:q<w+4
   ·have t2:xx<bx+w+2:=by omega
    have wq1:=J2 (xx+1) (by omega)
    have hlb:acc.length<=1000000:=by
     have U:r*(w+4)+(w+4)<=(w+4)*(h+4):=by
      rw[AiU (w+4) (h+4),<-Nat.succ_mul]
      exact Aip _ hrh
     omega
    obtain⟨o1,H2,hap,hn1,ho1⟩:=MN ho hlb xx W
    have k:=ihq (q+1) (by omega) (xx+1) (acc++[(xx,W)]) o1 B H2 (by omega) (by omega) hB (by
     rw[List.nodup_append]
     refine⟨N,by simp,fun a ha b hb=>?_⟩
     rw[AhQ.1 hb]
     intro e
     subst e
     have:=(E _ _).1 ha
     omega) (fun u z=>by
     rw[Aig,AhQ,E,Ahp]
     constructor
     ·rintro ((U|U)|U)
      ·exact .inl U
      ·exact .inr (by omega)
      ·exact .inr (by omega)
     ·rintro (U|U)
      ·exact .inl (.inl U)
      ·by_cases hu:u<bx-2+q
       ·exact .inl (.inr (by omega))
       ·exact .inr (by omega)) (by simp;omega) ho1
    simp (maxSteps:=2000000) (disch:=omega) [hB,xw,xw2,t2,hap,wq1,Al hn1,-Int.natCast_add]
    exact k
   ·have:q=w+4:=by omega
    subst this
    have t2:¬xx<bx+w+2:=by omega
    have k:=ih (r+1) (by omega) (W+1) acc o B Y (by omega) (by omega) hB N (fun u z=>(E u z).trans (by
     constructor
     ·rintro (U|U)
      ·omega
      ·omega
     ·intro U
      by_cases hz:z<by_-2+r
      ·exact .inl (by omega)
      ·exact .inr (by omega))) (by rw[J,Nat.succ_mul]) ho
    simp (maxSteps:=2000000) (disch:=omega) [hB,xw,xw2,t2,wr1,-Int.natCast_add]
    exact k
  ·have:r=h+4:=by omega
   subst this
   have t1:¬W<by_+h+2:=by omega
   have k:=qk acc ⟨N,fun c k hc hk=>by
    have:=hin c hc
    obtain⟨a,b⟩:=k
    unfold nr at hk
    dsimp only at hk
    exact(E a b).2 (by omega),by rw[J,AiU];omega,fun k hk=>by
    obtain⟨a,b⟩:=k
    have:=(E a b).1 hk
    dsimp only
    omega⟩
   have hvr:=Vd ho
   simp (maxSteps:=2000000) (disch:=omega) [hB,yh,yh2,t1,Al Z,hvr,-Int.natCast_add]
   first|exact k|exact⟨Z,k⟩
 obtain⟨x,H',U,rfl,acc,h2,rfl⟩:=key
 exact⟨acc,h2,U⟩
theorem Adj {w h:Int}(hv:IsSl v (Ae p))(hl:p.length<=5000)(hg:∀c,c∈p->CC c=true)(H:Hp):
  ∃acc,NearQ p acc/\Gives G 60 [.m (Nh false bx by_ w h cs v)] H (.m (z2 acc)) H:=by
 have hrv:=hv.rules
 simp only[J3]at hrv
 have ge:=fun i hi k hk H=>VU (fl:=false) (bx:=bx) (by_:=by_) (w:=w) (h:=h) (cs:=cs) hv hl hg i hi k hk H
 have key:∃x H',Gives G 60 [.m (Nh false bx by_ w h cs v)] H x H'/\(H'=H /\ ∃acc,NearQ p acc/\x=.m (z2 acc)):=by
  refine AJ ?_
  refine Cs rfl rfl rfl rfl rfl ?_
  generalize hQ:(fun(x:V) (H':Hp)=>H'=H /\ ∃acc,NearQ p acc/\x=.m (z2 acc))=Q
  have qk:∀acc,NearQ p acc->Q (.m (z2 acc)) H:=fun acc hh=>by rw[<-hQ];exact⟨rfl,acc,hh,rfl⟩
  clear hQ
  unfold Nh at ge ⊢
  simp (maxSteps:=2000000) (disch:=omega) []
  refine(?key:∀(i:Nat) (acc:List (Int×Int)) (o:V) (B:LE) (U:Hp),i<=p.length->getB B 1=some [.m (.b false),J0 bx,J0 by_,J0 w,J0 h,.m cs,.m v]->acc.Nodup->(∀k,k∈acc↔nrs p i k)->acc.length<=25*i->Wn acc o U->Run G c60_B4 (S60_4 (.fa 1 0) o (J0 (i:Int)) B U) _) 0 [] _ _ _ (Ahy _) rfl .nil (fun k=>⟨fun h=>by simp at h,fun⟨c,hc,_⟩=>by simp at hc⟩) (by simp) (.inl ⟨rfl,rfl⟩)
  refine Bj (fun i:Nat=>p.length-i) fun i ih acc o B U hi Z N E W ho=>?_
  unfold c60_B4
  obtain⟨hvw,a0⟩:=Ec ho
  cases hx:p[i]? with
  | none =>
   have:i=p.length:=by have:=Ahx.1 hx;omega
   subst this
   have hvr:=Vd ho
   have k:=qk acc ⟨N,fun c k hc hk=>(E k).2 ⟨c,by rw[AhS];exact hc,hk⟩,by omega,fun k hk=>by
    obtain⟨c,hc,hn⟩:=(E k).1 hk
    rw[AhS]at hc
    have:=hg c hc
    unfold CC placed at this
    simp only[Ahs,AhC]at this
    unfold nr at hn
    omega⟩
   simp (maxSteps:=2000000) (disch:=omega) [hrv,Z,Al a0,hvr]
   first|exact k|exact⟨a0,k⟩
  | some c =>
   have hlt:=(Am hx).1
   have hlt':(i:Int)<p.length:=by omega
   have hn:=Ap hx
   have wi:=J1 i (by omega)
   have hcb:(-1048576<=c.x/\c.x<=1048576)/\(-1048576<=c.y/\c.y<=1048576):=by
    have:=hg c (Ahw hx)
    unfold CC placed at this
    simp only[Ahs,AhC]at this
    omega
   simp (maxSteps:=2000000) (disch:=omega) [hrv,hlt',Z]
   refine(?key2:∀(r:Nat) (yy:Int) (acc:List (Int×Int)) (o:V) (B:LE) (U:Hp),r<=5->yy=-2+(r:Int)->getB B 1=some [.m (.b false),J0 bx,J0 by_,J0 w,J0 h,.m cs,.m v]->acc.Nodup->(∀k,k∈acc↔nrs p i k\/(nr c k/\k.2-c.y<yy))->acc.length<=25*i+5*r->Wn acc o U->Run G c60_B3 (S60_3 (.fa 1 0) o (J0 (i:Int)) (J0 yy) B U) _) 0 (-2) acc o _ U (Ahy _) (by simp) Z N (fun k=>(E k).trans ⟨fun h=>.inl h,fun h=>h.elim id fun h=>by unfold nr at h;omega⟩) (by omega) ho
   clear hvw a0 E N W ho Z acc o B U
   refine Bj (fun r:Nat=>5-r) fun r ihr yy acc o B U hr hyy Z N E W ho=>?_
   unfold c60_B3
   obtain⟨hvw,a0⟩:=Ec ho
   by_cases hr5:r<5
   ·have t1:yy<=2:=by omega
    have wy1:=J2 (yy+1) (by omega)
    simp (maxSteps:=2000000) (disch:=omega) [t1]
    refine(?key3:∀(q:Nat) (xx:Int) (acc:List (Int×Int)) (o:V) (B:LE) (U:Hp),q<=5->xx=-2+(q:Int)->getB B 1=some [.m (.b false),J0 bx,J0 by_,J0 w,J0 h,.m cs,.m v]->acc.Nodup->(∀k,k∈acc↔nrs p i k\/(nr c k/\(k.2-c.y<yy\/(k.2-c.y=yy/\k.1-c.x<xx))))->acc.length<=25*i+5*r+q->Wn acc o U->Run G c60_B2 (S60_2 (.fa 1 0) o (J0 (i:Int)) (J0 yy) (J0 xx) B U) _) 0 (-2) acc o _ U (Ahy _) (by simp) Z N (fun k=>(E k).trans ⟨fun h=>h.elim .inl fun h=>.inr ⟨h.1,.inl h.2⟩,fun h=>h.elim .inl fun h=>.inr ⟨h.1,by have:=h.1;unfold nr at this;omega⟩⟩) (by omega) ho
    clear hvw a0 E N W ho Z acc o B U
    refine Bj (fun q:Nat=>5-q) fun q ihq xx acc o B U hq hxx Z N E W ho=>?_
    unfold c60_B2
    obtain⟨hvw,a0⟩:=Ec ho
    by_cases hq5:q<5
    ·have t2:xx<=2:=by omega
     have wx1:=J2 (xx+1) (by omega)
     obtain⟨X,hX⟩:∃X,X=c.x+xx:=⟨_,rfl⟩
     obtain⟨Y,hY⟩:∃Y,Y=c.y+yy:=⟨_,rfl⟩
     have wX:wr .i64 (c.x+xx)=X:=by rw[hX];exact Aa (by omega) (by omega)
     have wY:wr .i64 (c.y+yy)=Y:=by rw[hY];exact Aa (by omega) (by omega)
     have hnrk:nr c (X,Y):=by unfold nr;dsimp only;omega
     have ho':=Ve ho (.cs 64 2 [[J0 X,J0 Y]] 1 false)
     obtain⟨b,hb,gE⟩:=ge i (by omega) (X,Y) (by dsimp only;omega) (U++[.cs 64 2 [[J0 X,J0 Y]] 1 false])
     dsimp only at gE
     have w22:∀a b c d:V,BQ 2 [[a,b]] 0 0 [c,d]=some [[c,d]]:=fun _ _ _ _=>rfl
     have r22:∀a b:V,CZ 2 [[a,b]] 0 0 2=some [a,b]:=fun _ _=>rfl
     cases b with
     | true =>
      have hold:=hb.1 rfl
      have k:=ihq (q+1) (by omega) (xx+1) acc o B (U++[.cs 64 2 [[J0 X,J0 Y]] 1 false]) (by omega) (by omega) Z N (fun k=>(E k).trans (by
       constructor
       ·rintro (J|⟨J,h2⟩)
        ·exact .inl J
        ·exact .inr ⟨J,by omega⟩
       ·rintro (J|⟨J,h2⟩)
        ·exact .inl J
        ·by_cases e:k=(X,Y)
         ·subst e;exact .inl hold
         ·refine .inr ⟨J,?_⟩
          have:¬(k.1=X/\k.2=Y):=fun h=>e (Prod.ext h.1 h.2)
          omega)) (by omega) ho'
      simp (maxSteps:=2000000) (disch:=omega) [Ab,t2,Z,hrv,hn,wX,wY,Qi,Aae,w22,r22,cl gE,wx1]
      exact k
     | false =>
      have hnew:¬nrs p i (X,Y):=fun h=>by have:=hb.2 h;cases this
      obtain⟨o1,H2,hap,hn1,ho1⟩:=MN ho' (by omega) X Y
      have k:=ihq (q+1) (by omega) (xx+1) (acc++[(X,Y)]) o1 B H2 (by omega) (by omega) Z (by
       rw[List.nodup_append]
       refine⟨N,by simp,fun a ha b hb=>?_⟩
       rw[AhQ.1 hb]
       intro e
       subst e
       rcases (E _).1 ha with J|⟨_,h2⟩
       ·exact hnew J
       ·dsimp only at h2;omega) (fun k=>by
       rw[Aig,AhQ,E]
       constructor
       ·rintro ((J|⟨J,h2⟩)|rfl)
        ·exact .inl J
        ·exact .inr ⟨J,by omega⟩
        ·exact .inr ⟨hnrk,by dsimp only;omega⟩
       ·rintro (J|⟨J,h2⟩)
        ·exact .inl (.inl J)
        ·by_cases e:k=(X,Y)
         ·exact .inr e
         ·refine .inl (.inr ⟨J,?_⟩)
          have:¬(k.1=X/\k.2=Y):=fun h=>e (Prod.ext h.1 h.2)
          omega) (by simp;omega) ho1
      simp (maxSteps:=2000000) (disch:=omega) [Ab,t2,Z,hrv,hn,wX,wY,Qi,Aae,w22,r22,cl gE,hap,wx1,Al hn1]
      exact k
    ·have:q=5:=by omega
     subst this
     have t2:¬xx<=2:=by omega
     have k:=ihr (r+1) (by omega) (yy+1) acc o B U (by omega) (by omega) Z N (fun k=>(E k).trans (by
      constructor
      ·rintro (J|⟨J,h2⟩)
       ·exact .inl J
       ·exact .inr ⟨J,by omega⟩
      ·rintro (J|⟨J,h2⟩)
       ·exact .inl J
       ·refine .inr ⟨J,?_⟩
        unfold nr at J
        omega)) (by omega) ho
     simp (maxSteps:=2000000) (disch:=omega) [t2,wy1]
     exact k
   ·have:r=5:=by omega
    subst this
    have t1:¬yy<=2:=by omega
    have k:=ih (i+1) (by omega) acc o B U (by omega) Z N (fun k=>(E k).trans (by
     rw[Qs hx]
     constructor
     ·rintro (J|⟨J,h2⟩)
      ·exact .inl J
      ·exact .inr J
     ·rintro (J|J)
      ·exact .inl J
      ·exact .inr ⟨J,by unfold nr at J;omega⟩)) (by omega) ho
    simp (maxSteps:=2000000) (disch:=omega) [t1,wi,-Int.natCast_add]
    exact k
 obtain⟨x,H',J,rfl,acc,h2,rfl⟩:=key
 exact⟨acc,h2,J⟩
def dmp (D:List (Int×Int)):Row:=mPB (D.map fun k=>(k,true))
theorem Yz (D:List (Int×Int))(k:Int×Int):(CJ (D.map fun k=>(k,true)) k).getD false=decide (k∈D):=by
 induction D with
 | nil=>rfl
 | cons a r J =>
  by_cases h:a=k
  ·subst h;simp[CJ]
  ·have E:¬k=a:=fun e=>h e.symm
   simp only[AhV,CJ,Aht h,J,AhO,E,false_or]
theorem Adz (D:List (Int×Int))(x y:Int):He ⟨true,[1,1]⟩ [.m (.b false)] false false (dmp D) (.ag [J4 x,J4 y])=some (.m (.b (decide ((x,y)∈D)))):=by
 have:=AbC (D.map fun k=>(k,true)) x y false
 rw[Yz]at this
 exact this
variable {D:List (Int×Int)} {x y:Int}
theorem AgX (h:(x,y) ∉ D):Zw ⟨true,[1,1]⟩ (dmp D) (.ag [J4 x,J4 y]) (.m (.b true))=some (dmp (D++[(x,y)])):=by
 have:=AeR (D.map fun k=>(k,true)) x y true
 rw[Kl]at this
 ·rw[show dmp (D++[(x,y)])=mPB (D.map (fun k=>(k,true))++[((x,y),true)]) from by unfold dmp;rw[List.map_append];rfl]
  exact this
 ·rw[Aiy]
  intro J
  obtain⟨k,E,e⟩:=AhP.1 J
  have e:k=(x,y):=e
  exact h (e ▸ E)
def AdL (D:List (Int×Int))(f:List Ce)(o:V)(H:Hp):Prop:=(f=[]/\o=.m (.nl 4)/\H=[dmp D])\/(f≠[]/\o=.sl 1 f.length 3 0 f.length false/\H=[dmp D,.cs 56 3 (AE f) 0 false])
variable {f:List Ce}
theorem Aaa (h:AdL D f o H):nth H 0=some (dmp D)/\Az o=true /\ ∀E,AN H 0 (dmp E)=some (H.set 0 (dmp E))/\AdL E f o (H.set 0 (dmp E)):=by
 rcases h with ⟨rfl,rfl,rfl⟩|⟨J,rfl,rfl⟩
 ·exact⟨rfl,rfl,fun E=>⟨rfl,.inl ⟨rfl,rfl,rfl⟩⟩⟩
 ·exact⟨rfl,rfl,fun E=>⟨rfl,.inr ⟨J,rfl,rfl⟩⟩⟩
theorem Vb (h:AdL D f o H)(hl:f.length<=1000000)(c:Ce):∃J N,(∀B,Et ⟨B,H⟩ 56 3 24 o [[J0 c.x,J0 c.y,J0 c.s]]=some (J,⟨B,N⟩))/\Az J=true/\AdL D (f++[c]) J N:=by
 rcases h with ⟨rfl,rfl,rfl⟩|⟨Q,rfl,rfl⟩
 ·exact⟨_,_,fun B=>rfl,rfl,.inr ⟨by simp,rfl,rfl⟩⟩
 ·have E:=fun B=>Cu (M:=⟨B,[dmp D,.cs 56 3 (AE f) 0 false]⟩) (r:=1) (bytes:=24) (xs:=[[J0 c.x,J0 c.y,J0 c.s]]) rfl (by simp) (by simp;omega) rfl
  simp only[Dq,Aib,Aic,Air,List.set_cons_succ,List.set_cons_zero]at E
  have e:AE f++[[J0 c.x,J0 c.y,J0 c.s]]=AE (f++[c]):=by simp[AE,QX,Ce.i]
  rw[e]at E
  exact⟨_,_,E,rfl,.inr ⟨by simp,by simp,rfl⟩⟩
theorem Vc {F:Nat}{x:V}(Q:G.prim F=none)(hs:G.sh F=false)(Y:AdL D f o H)(h:∀H,Gives G F [.m (zP f)] H x H):∃W,Gives G F [o] H x W:=by
 rcases Y with ⟨rfl,rfl,rfl⟩|⟨E,rfl,rfl⟩
 ·exact⟨_,h _⟩
 ·have U:zP f=.sl (Ae f):=by unfold zP;rw[Aht E]
  rw[U]at h
  have N:Ah (view 20 [dmp D,Row.cs 56 3 (AE f) 0 false]) [V.sl 1 f.length 3 0 f.length false]=some [.sl (Ae f)]:=by
   have:=Up (H:=[dmp D,Row.cs 56 3 (AE f) 0 false]) (r:=1) (b:=0) (q:=f) rfl (Ahy _) 18
   show (view 20 _ _).bind _=_
   rw[this]
   rfl
  cases hf:FG x with
  | true=>exact⟨_,AQ (is:=[.sl (Ae f)]) Q hs (h []) N (.inr ⟨by simp[Dv,Fs],hf⟩)⟩
  | false =>
   have J:AY ([V.sl 1 f.length 3 0 f.length false].flatMap Dv) [dmp D,Row.cs 56 3 (AE f) 0 false]=some [dmp D,Row.cs 56 3 (AE f) 0 true]:=by
    show Option.bind (gd ((AE f).all fun e=>e.all isM) (some (Row.cs 56 3 (AE f) 0 true))) _=_
    rw[IU]
    rfl
   exact⟨_,BV (is:=[.sl (Ae f)]) Q hs (h []) N (by simp[Dv,Fs]) hf rfl J⟩
def So (t:TreeC)(p:List Ce)(x:V):Prop:=∃q e,DO t p (q,e)/\x=.tu [.m (zP q),.m (.i .i64 e)]
variable {h n:I} {t:TreeC} {es:LT}
set_option maxHeartbeats 4000000 in
theorem ZT (hT:TreeV t h n es)(hv:IsSl v (Ae p))(hc:CE t p=0)(H:Hp):∃x,So t p x/\Gives G 41 [.m (.ag [J4 t.states,h,n]),.m v] H x H:=by
 obtain⟨hq,hr,ht⟩:=Ca hc
 have hR:=DL hq
 obtain⟨pw,hg,hl⟩:=CP hr
 have hrv:=hv.rules
 simp only[J3]at hrv
 have Z:=hT.hd.rules
 simp only[Bo]at Z
 have hh:=BY hR.hood
 have key:∃x H',Gives G 41 [.m (.ag [J4 t.states,h,n]),.m v] H x H'/\(H'=H/\So t p x):=by
  refine AJ ?_
  refine Cs rfl rfl rfl rfl rfl ?_
  generalize hQ:(fun(x:V) (H':Hp)=>H'=H/\So t p x)=Q
  have q5:DO t p ([],5)->Q (.tu [.m (.nl 4),J0 5]) H:=fun hs=>by rw[<-hQ];exact⟨rfl,[],5,hs,rfl⟩
  have qa:∀q e,DO t p (q,e)->Q (.tu [.m (zP q),J0 e]) H:=fun q e hs=>by rw[<-hQ];exact⟨rfl,q,e,hs,rfl⟩
  clear hQ
  have g1:=fun H=>of_m hv hr H
  simp (maxSteps:=2000000) (disch:=omega) [cl (g1 _),hrv]
  refine(?key:∀(i:Nat) (D:List (Int×Int)) (l:List Ce) (o:V) (B:LE) (H1:Hp),i<=p.length->getB B 2=some [J0 t.states,.m h,.m n]->StI t p D l->(∀(a:Nat) c o,a<i->p[a]? = some c->o∈t.hood->(c.x-o.1,c.y-o.2)∈D)->l.length<=25*i->AdL D l o H1->Run G c41_B1 (S41_1 (.fa 2 0) (.m (fzm (KR p))) (.mp 0) o (.m v) (J0 p.length) (J0 (i:Int)) B H1) _) 0 [] [] _ _ _ (Ahy _) rfl (AcB t p) (fun a c o h=>by omega) (by simp) (.inl ⟨rfl,rfl,rfl⟩)
  refine Bj (fun i:Nat=>p.length-i) fun i ih D l o B H1 hi hB hI N hll ho=>?_
  unfold c41_B1
  obtain⟨n0,hnf,hset0⟩:=Aaa ho
  cases hx:p[i]? with
  | none =>
   have:i=p.length:=by have:=Ahx.1 hx;omega
   subst this
   have hall2:∀c o,c∈p->o∈t.hood->(c.x-o.1,c.y-o.2)∈D:=fun c o hc ho2=>by
    obtain⟨a,ha⟩:=List.mem_iff_getElem?.1 hc
    exact N a c o (Am ha).1 ha ho2
   have hgl:=Yc hR ht hI
   rcases Aal (Ch l) (by omega) []with ⟨e,he,_⟩|⟨he,q,hqp,hasc,g0⟩
   ·rw[HS hgl]at he
    cases he
   ·obtain⟨_,k1,k2,k3⟩:=Yd hR ht hI hqp hasc
    have hst:=AcC hq hI hall2 k1 k2
    have gA:=fun H=>AQ (H:=H) (vs:=[.m (zP l)]) (is:=[zP l]) rfl rfl g0 rfl (.inl ⟨rfl,rfl⟩)
    obtain⟨H2,gF⟩:=Vc rfl rfl ho gA
    rw[k3]at gF
    by_cases h5:5000<q.length
    ·rw[Ahv h5]at gF hst
     have k:=qa [] 6 hst
     simp (maxSteps:=2000000) (disch:=omega) [cl gF]
     exact k
    ·rw[Aht h5]at gF hst
     have k:=qa q 0 hst
     generalize zP q=zz at *
     simp (maxSteps:=2000000) (disch:=omega) [cl gF]
     exact k
  | some c =>
   have hlt:=(Am hx).1
   have hlt':(i:Int)<p.length:=by omega
   have hn:=Ap hx
   have wi:=J1 i (by omega)
   have hcg:=hg c (Ahw hx)
   have hcb:(-1048576<=c.x/\c.x<=1048576)/\(-1048576<=c.y/\c.y<=1048576):=by
    unfold CC placed at hcg
    simp only[Ahs,AhC]at hcg
    omega
   simp (maxSteps:=2000000) (disch:=omega) [Ab,hrv,hlt',hn,hB,Z]
   refine(?key2:∀(j:Nat) (D:List (Int×Int)) (l:List Ce) (o:V) (B:LE) (H1:Hp),j<=t.hood.length->getB B 2=some [J0 t.states,.m h,.m n]->getB B 10=some [J0 c.x,J0 c.y,J0 c.s]->StI t p D l->(∀(a:Nat) c o,a<i->p[a]? = some c->o∈t.hood->(c.x-o.1,c.y-o.2)∈D)->(∀(b:Nat) o,b<j->t.hood[b]? = some o->(c.x-o.1,c.y-o.2)∈D)->l.length<=25*i+j->AdL D l o H1->Run G c41_B0 (S41_0 (.fa 2 0) (.m (fzm (KR p))) (.mp 0) o (.fa 10 0) (.m v) (J0 p.length) (J0 (i:Int)) (.m h) (J0 t.hood.length) (J0 (j:Int)) B H1) _) 0 D l o _ H1 (Ahy _) (by simpa using hB) (by simp) hI N (fun b o h=>by omega) (by omega) ho
   clear hset0 hI N hll ho n0 hnf hB B H1 o l D
   refine Bj (fun j:Nat=>t.hood.length-j) fun j ihj D l o B H1 hj hB hA hI N hbj hll ho=>?_
   unfold c41_B0
   obtain⟨n0,hnf,hset⟩:=Aaa ho
   cases hy:t.hood[j]? with
   | none =>
    have:j=t.hood.length:=by have:=Ahx.1 hy;omega
    subst this
    have k:=ih (i+1) (by omega) D l o B H1 (by omega) hB hI (fun a c' o' ha hc' W=>by
     by_cases e:a<i
     ·exact N a c' o' e hc' W
     ·have:a=i:=by omega
      subst this
      rw[hx]at hc'
      cases hc'
      obtain⟨b,hb⟩:=List.mem_iff_getElem?.1 W
      exact hbj b o' (Am hb).1 hb) (by omega) ho
    simp (maxSteps:=2000000) (disch:=omega) [wi,-Int.natCast_add]
    exact k
   | some o2 =>
    have hjl:=(Am hy).1
    have U:(j:Int)<t.hood.length:=by omega
    have hox:=BZ hy
    have hob:=Ed hR.hood o2 (Ahw hy)
    have wj:=J1 j (by omega)
    obtain⟨J,hqx⟩:∃J,J=c.x-o2.1:=⟨_,rfl⟩
    obtain⟨E,hqy⟩:∃E,E=c.y-o2.2:=⟨_,rfl⟩
    have wx:wr .i64 (c.x-o2.1)=J:=by rw[hqx];exact Aa (by omega) (by omega)
    have wy:wr .i64 (c.y-o2.2)=E:=by rw[hqy];exact Aa (by omega) (by omega)
    have Y:=Adz D J E
    have hbj2:∀D':List (Int×Int),(∀k,k∈D->k∈D')->(J,E)∈D' -> ∀(b:Nat) o,b<j+1->t.hood[b]? = some o->(c.x-o.1,c.y-o.2)∈D':=fun D' h1 h2 b o' hb W=>by
     by_cases e:b<j
     ·exact h1 _ (hbj b o' e W)
     ·have:b=j:=by omega
      subst this
      rw[hy]at W
      cases W
      rw[<-hqx,<-hqy]
      exact h2
    by_cases hD:(J,E)∈D
    ·rw[AhA hD]at Y
     have k:=fun B'=>ihj (j+1) (by omega) D l o B' H1 (by omega)
     simp (maxSteps:=2000000) (disch:=omega) [Ab,Z,U,hox,hA,wx,wy,n0,Y,wj,-Int.natCast_add]
     exact k _ (by simpa using hB) (by simpa using hA) hI N (hbj2 D (fun _ h=>h) hD) (by omega) ho
    ·rw[AhB hD]at Y
     have hup:=AgX hD
     obtain⟨hs1,ho1⟩:=hset (D++[(J,E)])
     have gn:=fun H=>AgA hT hR ht J E (by omega) (by omega) H
     have hrg:=Fh hR ht J E
     have hsub:∀k,k∈D->k∈D++[(J,E)]:=fun k hk=>by simp[hk]
     have hall3:∀(a:Nat) c o,a<i->p[a]? = some c->o∈t.hood->(c.x-o.1,c.y-o.2)∈D++[(J,E)]:=fun a c o h1 h2 h3=>hsub _ (N a c o h1 h2 h3)
     by_cases hz:Bv t p J E=0
     ·rw[hz]at gn
      have k:=fun B'=>ihj (j+1) (by omega) (D++[(J,E)]) l o B' (H1.set 0 (dmp (D++[(J,E)]))) (by omega)
      simp (maxSteps:=2000000) (disch:=omega) [Ab,Z,U,hox,hA,hB,wx,wy,n0,Y,hup,hs1,cl (gn _),wj,-Int.natCast_add]
      exact k _ (by simpa using hB) (by simpa using hA) (Yb hI hz) hall3 (hbj2 _ hsub (by simp)) (by omega) ho1
     ·have hpos:0<Bv t p J E:=by omega
      have gp:=fun H=>AcT J E H
      cases hpl:placed J E with
      | false =>
       rw[hpl]at gp
       have k:=q5 (UC hz hpl)
       generalize Bv t p J E=nx at *
       simp (maxSteps:=2000000) (disch:=omega) [Ab,Z,U,hox,hA,hB,wx,wy,n0,Y,hup,hs1,cl (gn _),hpos,cl (gp _),-Int.natCast_add]
       exact k
      | true =>
       rw[hpl]at gp
       obtain⟨o3,H3,ha,hn3,ho3⟩:=Vb ho1 (by omega) ⟨J,E,Bv t p J E⟩
       dsimp only at ha
       have hI3:=AcD hI hD hz hpl
       have k:=fun B'=>ihj (j+1) (by omega) (D++[(J,E)]) (l++[⟨J,E,Bv t p J E⟩]) o3 B' H3 (by omega)
       generalize Bv t p J E=nx at *
       simp (maxSteps:=2000000) (disch:=omega) [Ab,Z,U,hox,hA,hB,wx,wy,n0,Y,hup,hs1,cl (gn _),hpos,cl (gp _),ha,wj,Al hn3,-Int.natCast_add]
       exact k _ (by simpa using hB) (by simpa using hA) hI3 hall3 (hbj2 _ hsub (by simp)) (by simp;omega) ho3
 obtain⟨x,H',h1,rfl,h2⟩:=key
 exact⟨x,h2,h1⟩
def Fo (vs:List I):LT:=vs.map fun v=>[v]
def DK (vs:List I):L0:=vs.map fun v=>[.m v]
@[simp] theorem IX (vs:List I):(Fo vs).length=vs.length:=by simp[Fo]
@[simp] theorem IT (vs:List I):(DK vs).length=vs.length:=by simp[DK]
variable {vs:List I} {u:I}
theorem MP (h:vs[i]? = some u):nth (Fo vs) i=some [u]:=by rw[AL];simp[Fo,h]
theorem UM (h:vs[i]? = some u):nth (DK vs) i=some [.m u]:=by rw[AL];simp[DK,h]
theorem VH (vs:List I):Bn (Fo vs)=DK vs:=by
 unfold Bn Fo DK
 rw[Aiy]
 rfl
def Gs (vs:List I)(ps:List (List Ce)):Prop:=vs.length=ps.length /\ ∀(i:Nat) u q,vs[i]? = some u->ps[i]? = some q->IsSl u (Ae q)
variable {ps:List (List Ce)} {q:List Ce}
theorem Gj (h:Gs vs ps)(W:IsSl u (Ae q)):Gs (vs++[u]) (ps++[q]):=by
 obtain⟨Q,U⟩:=h
 refine⟨by simp[Q],fun i u' Z J E=>?_⟩
 by_cases Y:i<vs.length
 ·rw[AhM Y]at J
  rw[AhM (by omega)]at E
  exact U i u' Z J E
 ·have N:=(Ahq.1 J).1
  have:i=vs.length:=by simp at N;omega
  subst this
  simp at J
  rw[Q]at E
  simp at E
  subst J E
  exact W
def Aem (vs:List I)(o:V)(H:Hp):Prop:=vs≠[]/\((o=.ls (Fo vs)/\H=[])\/(o=.sl 0 vs.length 1 0 vs.length false/\H=[.cs 40 1 (DK vs) 0 false]))
theorem Adb (h:Aem vs o H):Az o=true/\Ar (.len false) [o]=some (J0 vs.length):=by
 rcases h with ⟨_,⟨rfl,rfl⟩|⟨rfl,rfl⟩⟩
 ·exact⟨rfl,by show some (V.m (J4 ((Fo vs).length:Nat)))=_;rw[IX]⟩
 ·exact⟨rfl,rfl⟩
theorem Ada (h:Aem vs o H)(J:vs[i]? = some u)(hl:vs.length<=1000000):∃p,Ar (.ixa 1) [o,J0 (i:Int)]=some p /\ ∀B,readX ⟨B,H⟩ (.ld false 1) [p]=some (.m u):=by
 have N:=(Am J).1
 rcases h with ⟨_,⟨rfl,rfl⟩|⟨rfl,rfl⟩⟩
 ·have E:=MP J
  refine⟨.m (.pt [u]),?_,fun B=>rfl⟩
  simp (maxSteps:=2000000) (disch:=omega) [E,IX]
 ·have E:=UM J
  refine⟨.pt 0 vs.length i 0,?_,fun B=>?_⟩
  ·simp (maxSteps:=2000000) (disch:=omega) []
  ·simp (maxSteps:=2000000) (disch:=omega) [Ab,E]
theorem Yj (vs:List I)(h:∀u,u∈vs->BL (.m u)=true):((DK vs).all fun e=>Nat.beq e.length 1&&e.all BL)=true:=by
 unfold DK
 rw[List.all_map,AhE]
 intro u E
 show (Nat.beq 1 1&&(BL (.m u)&&true))=true
 rw[h u E]
 rfl
theorem UZ (h:Aem vs o H)(hl:vs.length<=1000000)(Z:∀u,u∈vs->BL (.m u)=true)(Q:BL (.m u)=true):∃N U,(∀B,Et ⟨B,H⟩ 40 1 24 o [[.m u]]=some (N,⟨B,U⟩))/\Az N=true/\Aem (vs++[u]) N U:=by
 have E:∀x,x∈vs++[u]->BL (.m x)=true:=fun x J=>by
  rcases Aig.1 J with J|J
  ·exact Z x J
  ·rw[AhQ.1 J];exact Q
 have es:DK vs++[[V.m u]]=DK (vs++[u]):=by simp[DK]
 rcases h with ⟨Y,⟨rfl,rfl⟩|⟨rfl,rfl⟩⟩
 ·refine⟨.sl 0 (vs++[u]).length 1 0 (vs++[u]).length false,[.cs 40 1 (DK (vs++[u])) 0 false],fun B=>?_,rfl,by simp,.inr ⟨rfl,rfl⟩⟩
  show Bs ⟨B,[]⟩ 40 1 24 (Bn (Fo vs)++[[V.m u]])=_
  rw[VH,es]
  have h1:Nat.ble ((DK (vs++[u])).length*24) 140737488355328=true:=by
   rw[Bg]
   refine AhA ?_
   rw[IT,AhF,Aiu]
   omega
  unfold Bs
  rw[h1,Yj _ E,IT]
  rfl
 ·have W:=fun B=>Cu (M:=⟨B,[.cs 40 1 (DK vs) 0 false]⟩) (r:=0) (bytes:=24) (xs:=[[.m u]]) rfl (by simp) (by simp;omega) (by simp[Q])
  simp only[IT,Aib,Aic,Air,es,List.set_cons_zero]at W
  exact⟨_,_,W,rfl,by simp,.inr ⟨by simp,rfl⟩⟩
theorem optP (k:Nat)(H:Hp):∀vs:List I,Ah (fun e=>Ah (view (k+1) H) e) (DK vs)=some (Fo vs)
 | []=>rfl
 | x::r=>by
  show Option.bind (some [x]) _=_
  simp only[Ahz]
  have:=optP k H r
  show Option.bind (Ah _ (DK r)) _=_
  rw[this]
  rfl
theorem Afz {r:Nat}(h:nth H r=some (.cs 40 1 (DK vs) 0 false))(k:Nat):view (k+2) H (.sl r vs.length 1 0 vs.length false)=some (.sl (Fo vs)):=by
 have e:elems H (.sl r vs.length 1 0 vs.length false)=some (DK vs):=by
  show Option.bind (nth H r) _=_
  rw[h]
  show gd (Nat.ble 0 vs.length&&Nat.beq 1 1) (some (((DK vs).drop 0).take vs.length))=_
  rw[Bg,AhA (Ahy _),AiA,AhJ (by simp)]
  rfl
 show Option.bind (elems H (.sl r vs.length 1 0 vs.length false)) _=_
 rw[e]
 show Option.bind (Ah _ (DK vs)) _=_
 rw[optP]
 rfl
theorem UY (h:Aem vs o H)(k:Nat):view (k+2) H o=some (.sl (Fo vs)):=by
 rcases h with ⟨_,⟨rfl,rfl⟩|⟨rfl,rfl⟩⟩
 ·rfl
 ·exact Afz rfl k
theorem Wj (h:IsSl u es)(c:Bt)(B:LE)(H:Hp):An c ⟨B,H⟩ (.bsf 1 [.m (.nl 4)] 1 [0]) [.m u]=some (.ls [[u]],⟨B,H⟩):=by
 rcases h with rfl|⟨rfl,_⟩ <;> rfl
theorem Aha (E:Bb t=true)(U:q.Pairwise (fun a b=>Bd a b=true))(N:∀c,c∈q->CC c=true)(Q:q.length<=5000)(J:Hx t q):CE t q=0:=by
 unfold CE
 rw[Ahv E,Ahv (Gi U N Q),Ahv ((IK (by have:=(DL E).s2;omega) _ q rfl).2 fun c W=>(J c W).2)]
def HisV (t:TreeC)(p:List Ce)(n:Nat)(x:V):Prop:=∃ps e,HisQ t p n (ps,e)/\((¬e=0/\x=.tu [.m (.nl 4),.m (.i .i64 e)])\/(e=0 /\ ∃vs,Gs vs ps/\x=.tu [.m (.sl (Fo vs)),.m (.i .i64 0)]))
theorem Ack (x y:Int)(H:Hp):Gives G 62 [J0 x,J0 y] H (.m (.b (placed x y))) H:=by
 refine Af rfl rfl rfl rfl rfl ?_
 simp (contextual:=true) [Aj,-Int.not_lt,-Int.not_le,-Nat.not_lt,-Nat.not_le,-List.map_take,placed]
theorem AgB {f:I}(hv:IsSl v (Ae p))(hl:p.length<=5000)(Y:∀c,c∈p->CC c=true)(hF:FldV p v f)(H:Hp):∃acc,NearQ p acc/\Gives G 60 [.m f] H (.m (z2 acc)) H:=by
 obtain⟨bx,by_,w,h,fl,cs,rfl,hwh,U,Q,N,E,J,_⟩:=hF.ex
 cases fl with
 | false=>exact Adj hv hl Y H
 | true =>
  have hP:=(J rfl).1
  have W:(w+4)*(h+4)<=1000000/\w<=1000000/\h<=1000000:=by
   have e:(w+4)*(h+4)=w*h+w*4+4*h+16:=by rw[Aif,Nat.mul_add,Nat.mul_add];omega
   rw[e]
   rcases E with ⟨h1,Z⟩|⟨rfl,rfl⟩
   ·have a1:=Nat.le_mul_of_pos_right w Z
    have a2:=Nat.le_mul_of_pos_left h h1
    generalize w*h=P at *
    omega
   ·omega
  exact Adk W.1 W.2 U Q N H
theorem Ys {F:Nat}{x:V}(Q:G.prim F=none)(hs:G.sh F=false)(Y:SA f o H)(h:∀H,Gives G F [.m (zP f)] H x H):∃W,Gives G F [o] H x W:=by
 rcases Y with ⟨rfl,rfl,rfl⟩|⟨E,rfl,rfl⟩
 ·exact⟨_,h _⟩
 ·have U:zP f=.sl (Ae f):=by unfold zP;rw[Aht E]
  rw[U]at h
  have N:Ah (view 20 [Row.cs 56 3 (AE f) 0 false]) [V.sl 0 f.length 3 0 f.length false]=some [.sl (Ae f)]:=by
   have:=Ol (r:=0) (b:=0) (X:=[]) (A:=[]) (q:=f) (n:=f.length) rfl (Ahy _) 18
   show (view 20 _ _).bind _=_
   rw[this]
   rfl
  cases hf:FG x with
  | true=>exact⟨_,AQ (is:=[.sl (Ae f)]) Q hs (h []) N (.inr ⟨by simp[Dv,Fs],hf⟩)⟩
  | false =>
   have J:AY ([V.sl 0 f.length 3 0 f.length false].flatMap Dv) [Row.cs 56 3 (AE f) 0 false]=some [Row.cs 56 3 (AE f) 0 true]:=by
    show Option.bind (gd ((AE f).all fun e=>e.all isM) (some (Row.cs 56 3 (AE f) 0 true))) _=_
    rw[IU]
    rfl
   exact⟨_,BV (is:=[.sl (Ae f)]) Q hs (h []) N (by simp[Dv,Fs]) hf rfl J⟩
theorem UX (h:SA f o H):Ar (.len false) [o]=some (J0 (f.length:Nat)):=by
 rcases h with ⟨rfl,rfl,rfl⟩|⟨_,rfl,_⟩ <;> rfl
def stepL (t:TreeC)(p:List Ce)(acc:List (Int×Int)):List Ce:=(acc.filter fun k=>!decide (Bv t p k.1 k.2=0)).map fun k=>⟨k.1,k.2,Bv t p k.1 k.2⟩
def Om (t:TreeC)(p:List Ce)(acc:List (Int×Int)):Bool:=acc.any fun k=>!decide (Bv t p k.1 k.2=0) && !placed k.1 k.2
theorem RW (t:TreeC)(p:List Ce)(acc:List (Int×Int))(k:Int×Int):stepL t p (acc++[k])=stepL t p acc++if Bv t p k.1 k.2=0 then [] else [⟨k.1,k.2,Bv t p k.1 k.2⟩]:=by
 unfold stepL
 rw[List.filter_append]
 by_cases h:Bv t p k.1 k.2=0 <;> simp[h]
theorem RV (t:TreeC)(p:List Ce)(acc:List (Int×Int))(k:Int×Int):Om t p (acc++[k])=(Om t p acc||(!decide (Bv t p k.1 k.2=0) && !placed k.1 k.2)):=by
 unfold Om
 simp
theorem UA:c∈stepL t p acc↔(c.x,c.y)∈acc/\c.s=Bv t p c.x c.y /\ ¬c.s=0:=by
 unfold stepL
 rw[AhP]
 constructor
 ·rintro⟨k,Q,rfl⟩
  obtain⟨J,E⟩:=List.mem_filter.1 Q
  exact⟨J,rfl,by simpa using E⟩
 ·rintro⟨J,E,N⟩
  refine⟨(c.x,c.y),List.mem_filter.2 ⟨J,?_⟩,?_⟩
  ·dsimp only
   rw[<-E]
   simpa using N
  ·obtain⟨a,b,s⟩:=c
   dsimp only at E ⊢
   rw[<-E]
theorem On (h:acc.Nodup):(stepL t p acc).Pairwise apart:=by
 unfold stepL
 rw[List.pairwise_map]
 exact(h.sublist List.filter_sublist).imp fun {a b} E ⟨J,N⟩=>E (Prod.ext J N)
theorem Qt (E:Bb t=true)(J:NearQ p acc)(h:¬Bv t p x y=0):(x,y)∈acc:=by
 obtain⟨c,o,Q,N,rfl,rfl⟩:=HI E h
 have:=Ed (DL E).hood o N
 refine J.all c _ Q ?_
 unfold nr
 dsimp only
 omega
theorem UB (t:TreeC)(p:List Ce)(acc:List (Int×Int)):(stepL t p acc).length<=acc.length:=by
 unfold stepL
 rw[AhD]
 exact List.length_filter_le _ _
set_option maxHeartbeats 4000000 in
theorem Uy (hT:TreeV t h n es)(hv:IsSl v (Ae p))(hc:CE t p=0)(H:Hp):∃x,So t p x/\Gives G 32 [.m (.ag [J4 t.states,h,n]),.m v] H x H:=by
 obtain⟨hq,hr,ht⟩:=Ca hc
 have hR:=DL hq
 obtain⟨pw,hg,hl⟩:=CP hr
 have g1:=fun H=>Nj hT hv (by omega) H
 rw[hc]at g1
 obtain⟨f,hF,g2⟩:=Ya hv hr []
 have g4:=fun x y hx hy H=>Agz hT hR hv hl hF ht x y hx hy H
 obtain⟨acc,hN,g3⟩:=AgB hv hl hg hF []
 obtain⟨bx,by_,w,k,fl,cs,rfl,_,_,_,_,_,_,hcs⟩:=hF.ex
 have hv1:=Cx hv
 have key:∃x H',Gives G 32 [.m (.ag [J4 t.states,h,n]),.m v] H x H'/\(H'=H/\So t p x):=by
  refine AJ ?_
  refine Cs rfl rfl rfl rfl rfl ?_
  generalize hQ:(fun(x:V) (H':Hp)=>H'=H/\So t p x)=Q
  have qn:∀e,DO t p ([],e)->Q (.tu [.m (.nl 4),J0 e]) H:=fun e hs=>by rw[<-hQ];exact⟨rfl,[],e,hs,rfl⟩
  have qa:∀q,DO t p (q,0)->Q (.tu [.m (zP q),J0 0]) H:=fun q hs=>by rw[<-hQ];exact⟨rfl,q,0,hs,rfl⟩
  clear hQ
  have J:=(z2_sl acc).rules
  simp only[Bo]at J
  unfold Nh at g2 g3 g4
  simp (maxSteps:=2000000) (disch:=omega) [Ab,cl (g1 _),cl g2,cl g3,hcs,hv1]
  refine(?key:∀(i:Nat) (b:Bool) (o:V) (B:LE) (H1:Hp),i<=acc.length->getB B 2=some [J0 t.states,.m h,.m n]->getB B 7=some [.m (.b fl),J0 bx,J0 by_,J0 w,J0 k,.m cs,.m v]->b=Om t p (acc.take i)->SA (stepL t p (acc.take i)) o H1->Run G c32_B0 (S32_0 (.fa 2 0) (.fa 7 0) (.m (z2 acc)) o (.m (.b b)) (J0 (i:Int)) B H1) _) 0 false _ _ _ (Ahy _) rfl rfl rfl (.inl ⟨rfl,rfl,rfl⟩)
  refine Bj (fun i:Nat=>acc.length-i) fun i ih b o B H1 hi E N hb ho=>?_
  unfold c32_B0
  have hnf:=(Eb ho).2
  have hol:=UX ho
  have hlen:=hN.len
  have hsl:=UB t p (acc.take i)
  cases hx:acc[i]? with
  | none =>
   have:i=acc.length:=by have:=Ahx.1 hx;omega
   subst this
   rw[AhS]at hb ho hol hsl
   cases b with
   | true =>
    have hb:=hb.symm
    unfold Om at hb
    obtain⟨k,hk,hk2⟩:=List.any_eq_true.1 hb
    rw[Ahs,Aia,decide_eq_false_iff_not,Aia]at hk2
    have k1:=qn 5 (UC hk2.1 hk2.2)
    simp (maxSteps:=2000000) (disch:=omega) [J]
    exact k1
   | false =>
    have hpl:∀x y,¬Bv t p x y=0->placed x y=true:=fun x y hn=>by
     have hm:=Qt hq hN hn
     cases hpp:placed x y with
     | true=>rfl
     | false =>
      exfalso
      have:Om t p acc=true:=by
       unfold Om
       refine List.any_eq_true.2 ⟨(x,y),hm,?_⟩
       dsimp only
       rw[hpp,AhB hn]
       rfl
      rw[this]at hb
      cases hb
    have hmem:∀c,c∈stepL t p acc↔c.s=Bv t p c.x c.y /\ ¬c.s=0:=fun c=>UA.trans ⟨fun h=>h.2,fun h=>⟨Qt hq hN (by rw[<-h.1];exact h.2),h⟩⟩
    have U:=On (t:=t) (p:=p) hN.nd
    have hgood:∀c,c∈stepL t p acc->CC c=true:=fun c hc=>by
     obtain⟨h1,h2⟩:=(hmem c).1 hc
     have h3:=hpl c.x c.y (by rw[<-h1];exact h2)
     have h4:=Fh hR ht c.x c.y
     rw[<-h1]at h4
     have:=hR.s8
     unfold CC
     rw[h3]
     simp only[AiJ,Ahs,AhC]
     omega
    have Z:DO t p (if 5000<(AT (stepL t p acc)).length then ([],6) else (AT (stepL t p acc),0)):=.inr ⟨hpl,_,Dc U,fun c=>((Bq _).mem_iff).trans (hmem c),rfl⟩
    rw[BS]at Z
    by_cases h5:5000<(stepL t p acc).length
    ·have h5':(5000:Int)<(stepL t p acc).length:=by omega
     rw[Ahv h5]at Z
     have k1:=qn 6 Z
     simp (maxSteps:=2000000) (disch:=omega) [J,hol,h5']
     exact k1
    ·have h5':¬(5000:Int)<(stepL t p acc).length:=by omega
     rw[Aht h5]at Z
     have k1:=qa _ Z
     have gF:=fun H=>MK (Ch (stepL t p acc)) (by omega) hgood U H
     obtain⟨H2,gG⟩:=Ys rfl rfl ho gF
     generalize zP (AT (stepL t p acc))=zz at *
     simp (maxSteps:=2000000) (disch:=omega) [J,hol,h5',cl gG]
     exact k1
  | some k0 =>
   obtain⟨x,y⟩:=k0
   have hlt:=(Am hx).1
   have W:(i:Int)<acc.length:=by omega
   have Y:=BZ hx
   have hbk:=hN.bnd _ (Ahw hx)
   have wi:=J1 i (by omega)
   dsimp only at Y hbk
   have gn:=fun H=>g4 x y (by omega) (by omega) H
   have gp:=fun H=>Ack x y H
   have hrg:=Fh hR ht x y
   have eL:=RW t p (acc.take i) (x,y)
   have eO:=RV t p (acc.take i) (x,y)
   rw[<-As hx]at eL eO
   dsimp only at eL eO
   by_cases hz:Bv t p x y=0
   ·rw[Ahv hz,Ail]at eL
    rw[AhA hz,Bool.not_true,Bool.false_and,Bool.or_false]at eO
    rw[hz]at gn
    have kk:=fun B'=>ih (i+1) (by omega) b o B' H1 (by omega)
    simp (maxSteps:=2000000) (disch:=omega) [Ab,J,W,Y,E,N,cl (gn _),wi,-Int.natCast_add]
    exact kk _ (by simpa using E) (by simpa using N) (by rw[eO];exact hb) (by rw[eL];exact ho)
   ·rw[Aht hz]at eL
    rw[AhB hz,Bool.not_false,AiJ,<-hb]at eO
    obtain⟨o1,H2,U,hn1,ho1⟩:=Cb ho (by rw[AhH]at hsl;omega) ⟨x,y,Bv t p x y⟩
    dsimp only at U
    rw[<-eL]at ho1
    have kk:=fun b' B'=>ih (i+1) (by omega) b' o1 B' H2 (by omega)
    generalize Bv t p x y=nx at *
    cases b with
    | true =>
     simp (maxSteps:=2000000) (disch:=omega) [Ab,Ad,J,W,Y,E,N,cl (gn _),hz,U,wi,Al hn1,-Int.natCast_add]
     exact kk true _ (by simpa using E) (by simpa using N) (by rw[eO];rfl) ho1
    | false =>
     cases hpp:placed x y with
     | true =>
      rw[hpp]at gp eO
      simp (maxSteps:=2000000) (disch:=omega) [Ab,Ad,J,W,Y,E,N,cl (gn _),hz,U,cl (gp _),wi,Al hn1,-Int.natCast_add]
      exact kk false _ (by simpa using E) (by simpa using N) (by rw[eO];rfl) ho1
     | false =>
      rw[hpp]at gp eO
      simp (maxSteps:=2000000) (disch:=omega) [Ab,Ad,J,W,Y,E,N,cl (gn _),hz,U,cl (gp _),wi,Al hn1,-Int.natCast_add]
      exact kk true _ (by simpa using E) (by simpa using N) (by rw[eO];rfl) ho1
 obtain⟨x,H',h1,rfl,h2⟩:=key
 exact⟨x,h2,h1⟩
set_option maxHeartbeats 4000000 in
theorem his_r (hT:TreeV t h n es)(hv:IsSl v (Ae p))(hc:CE t p=0)(m:Nat)(hm:m<=10000)(H:Hp):∃x,HisV t p m x/\Gives G 208 [.m (.ag [J4 t.states,h,n]),.m v,J0 (m:Int)] H x H:=by
 obtain⟨hq,hr,ht⟩:=Ca hc
 have hR:=DL hq
 obtain⟨pw,hg,hl⟩:=CP hr
 have key:∃x Z,Gives G 208 [.m (.ag [J4 t.states,h,n]),.m v,J0 (m:Int)] H x Z/\(Z=H/\HisV t p m x):=by
  refine AJ ?_
  refine Cs rfl rfl rfl rfl rfl ?_
  generalize hQ:(fun(x:V) (Z:Hp)=>Z=H/\HisV t p m x)=Q
  have qe:∀ps e,HisQ t p m (ps,e) -> ¬e=0->Q (.tu [.m (.nl 4),J0 e]) H:=fun ps e h1 h2=>by rw[<-hQ];exact⟨rfl,ps,e,h1,.inl ⟨h2,rfl⟩⟩
  have qk:∀ps vs,HisQ t p m (ps,0)->Gs vs ps->Q (.tu [.m (.sl (Fo vs)),J0 0]) H:=fun ps vs h1 h2=>by rw[<-hQ];exact⟨rfl,ps,0,h1,.inr ⟨rfl,vs,h2,rfl⟩⟩
  clear hQ
  have g1:=fun H=>Nj hT hv (by omega) H
  rw[hc]at g1
  have m0:¬(m:Int)<0:=by omega
  have m1:¬(10000:Int)<m:=by omega
  have m2:¬10000<m:=by omega
  have hb1:=fun c B H=>Wj hv c B H
  simp (maxSteps:=2000000) (disch:=omega) [cl (g1 _),m0,m1,hb1]
  refine(?key:∀(i:Nat) (vs:List I) (ps:List (List Ce)) (a:List Ce) (o:V) (B:LE) (H1:Hp),i<=m->getB B 3=some [J0 t.states,.m h,.m n]->HisR t p (ps++[a])->ps.length=i->Gs vs (ps++[a])->CE t a=0->(∀u,u∈vs->BL (.m u)=true)->Aem vs o H1->Run G c208_B0 (S208_0 (J0 (m:Int)) (.fa 3 0) o (J0 (i:Int)) B H1) _) 0 [v] [] p _ _ _ (Ahy _) rfl .one rfl ⟨rfl,fun i u q hi hq=>by
   cases i with
   | zero=>cases hi;cases hq;exact hv
   | succ i=>simp at hi⟩ hc (fun u hu=>by rw[AhQ.1 hu];exact Cx hv) ⟨by simp,.inl ⟨rfl,rfl⟩⟩
  refine Bj (fun i:Nat=>m-i) fun i ih vs ps a o B H1 hi hB hH J hP W U ho=>?_
  unfold c208_B0
  obtain⟨a0,hlen⟩:=Adb ho
  have hvl:vs.length=i+1:=by rw[hP.1];simp[J]
  by_cases him:i<m
  ·have N:(i:Int)<m:=by omega
   obtain⟨u,hu⟩:∃u,vs[i]? = some u:=⟨_,Ahr (by omega)⟩
   have hua:IsSl u (Ae a):=hP.2 i u a hu (by simp[<-J])
   obtain⟨pt,r1,r2⟩:=Ada ho hu (by omega)
   have w1:wr .i64 ((vs.length:Int)-1)=(i:Int):=by rw[Aa (by omega) (by omega)];omega
   have wi:=J1 i (by omega)
   obtain⟨x,⟨q,e,E,rfl⟩,_⟩:=Uy hT hua W []
   have gs:∀H,Gives G 32 [.m (.ag [J4 t.states,h,n]),.m u] H (.tu [.m (zP q),J0 e]) H:=fun H=>by
    obtain⟨x',⟨q',e',Y,rfl⟩,g⟩:=Uy hT hua W H
    have:=JO E Y
    cases this
    exact g
   by_cases he:e=0
   ·subst he
    obtain⟨hq2,hr2,ht2⟩:=Ca W
    obtain⟨k1,k2,k3,k4⟩:=Qc hR ht2 E
    have hcq:=Aha hq k1 k2 k3 k4
    have hoz:=Cx (Ch q)
    obtain⟨o1,H2,ha,hn1,ho1⟩:=UZ ho (by omega) U hoz
    have hb2:=fun c B H=>Wj (Ch q) c B H
    have k:=fun B'=>ih (i+1) (by omega) (vs++[zP q]) (ps++[a]) q o1 B' H2 (by omega)
    simp (maxSteps:=2000000) (disch:=omega) [N,hB,r1,r2,cl (gs _),hb2,ha,wi,Al hn1,-Int.natCast_add]
    exact k _ hB (hH.snoc E) (by simp[J]) (Gj hP (Ch q)) hcq (fun x hx=>by
     rcases Aig.1 hx with hx|hx
     ·exact U x hx
     ·rw[AhQ.1 hx];exact hoz) ho1
   ·have hq0:q=[]:=by
     rcases E with ⟨e1,_⟩|⟨_,r,_,_,e1⟩
     ·exact AiO Prod.fst e1
     ·split at e1
      ·exact AiO Prod.fst e1
      ·exact absurd (AiO Prod.snd e1) he
    subst hq0
    have k:=qe [] e (.inr ⟨ps,a,by omega,hH,E,he,rfl⟩) he
    simp (maxSteps:=2000000) (disch:=omega) [N,hB,r1,r2,cl (gs _),he]
    exact k
  ·have:i=m:=by omega
   subst this
   have hvw:view 20 H1 o=some (.sl (Fo vs)):=UY ho 18
   have k:=qk (ps++[a]) vs (.inl ⟨rfl,by simp[J],hH⟩) hP
   simp (maxSteps:=2000000) (disch:=omega) [Al a0,hvw]
   exact⟨a0,k⟩
 obtain⟨x,Z,h1,rfl,h2⟩:=key
 exact⟨x,h2,h1⟩
theorem AgP (J:TreeV t h n es)(E:IsSl v (Ae p))(hl:(p.length:Int)<=9223372036854775806)(N:¬CE t p=0)(m:Int)(H:Hp):Gives G 208 [.m (.ag [J4 t.states,h,n]),.m v,J0 m] H (.tu [.m (.nl 4),J0 (CE t p)]) H:=by
 have g1:=fun H=>Nj J E hl H
 refine Af rfl rfl rfl rfl rfl ?_
 simp (maxSteps:=2000000) (disch:=omega) [cl (g1 _),N]
theorem AgO (J:TreeV t h n es)(U:IsSl v (Ae p))(hl:(p.length:Int)<=9223372036854775806)(Q:CE t p=0)(m:Int)(W:m<0\/10000<m)(H:Hp):Gives G 208 [.m (.ag [J4 t.states,h,n]),.m v,J0 m] H (.tu [.m (.nl 4),J0 2]) H:=by
 have g1:=fun H=>Nj J U hl H
 rw[Q]at g1
 refine Af rfl rfl rfl rfl rfl ?_
 by_cases E:m<0
 ·simp (maxSteps:=2000000) (disch:=omega) [cl (g1 _),E]
 ·have N:(10000:Int)<m:=by omega
  simp (maxSteps:=2000000) (disch:=omega) [cl (g1 _),E,N]
theorem CB (J:TreeV t h n es):Ew t:=fun p N=>by
 obtain⟨x,⟨q,e,E,rfl⟩,g⟩:=ZT J (Ch p) N []
 rw[JN E]
 exact E
theorem Uz (N:TreeV t h n es)(J:IsSl v (Ae p))(Q:CE t p=0)(H:Hp):Gives G 41 [.m (.ag [J4 t.states,h,n]),.m v] H (.tu [.m (zP (stp t p).1),J0 (stp t p).2]) H:=by
 obtain⟨x,⟨q,e,E,rfl⟩,g⟩:=ZT N J Q H
 rw[JN E]
 exact g
theorem AcA (N:TreeV t h n es)(J:IsSl v (Ae p))(Q:CE t p=0)(H:Hp):Gives G 32 [.m (.ag [J4 t.states,h,n]),.m v] H (.tu [.m (zP (stp t p).1),J0 (stp t p).2]) H:=by
 obtain⟨x,⟨q,e,E,rfl⟩,g⟩:=Uy N J Q H
 rw[JN E]
 exact g
theorem Oo (N:TreeV t h n es)(J:IsSl v (Ae p))(hl:(p.length:Int)<=9223372036854775806)(H:Hp):Gives G 22 [.m (.ag [J4 t.states,h,n]),.m v] H (.tu [.m (zP (BT t p).1),J0 (BT t p).2]) H:=by
 have g1:=fun H=>Wf N J hl H
 unfold BT
 by_cases E:CE t p=0
 ·rw[Ahv E]
  have Q:=fun H=>Uz N J E H
  rw[E]at g1
  generalize stp t p=r at *
  obtain⟨q,e⟩:=r
  dsimp only at *
  generalize zP q=z at *
  refine Af rfl rfl rfl rfl rfl ?_
  simp (maxSteps:=2000000) (disch:=omega) [cl (g1 _),cl (Q _)]
 ·rw[Aht E]
  refine Af rfl rfl rfl rfl rfl ?_
  simp (maxSteps:=2000000) (disch:=omega) [cl (g1 _),E]
  rfl
theorem Oq (N:TreeV t h n es)(J:IsSl v (Ae p))(hl:(p.length:Int)<=9223372036854775806)(H:Hp):Gives G 32 [.m (.ag [J4 t.states,h,n]),.m v] H (.tu [.m (zP (BT t p).1),J0 (BT t p).2]) H:=by
 unfold BT
 by_cases E:CE t p=0
 ·rw[Ahv E]
  exact AcA N J E H
 ·rw[Aht E]
  have g1:=fun H=>Nj N J hl H
  refine Af rfl rfl rfl rfl rfl ?_
  simp (maxSteps:=2000000) (disch:=omega) [cl (g1 _),E]
  rfl
theorem Gh {t:TreeC}(N:Ew t):∀(n:Nat) (p:List Ce),CE t p=0->(BX t n p).2=0->BX t (n+1) p=stp t (BX t n p).1
 | 0,p,hc,_=>by
  show (if (stp t p).2=0 then ((stp t p).1,0) else ([],(stp t p).2))=stp t p
  by_cases E:(stp t p).2=0
  ·rw[Ahv E];exact Prod.ext rfl E.symm
  ·rw[Aht E];exact Prod.ext (Ux (N p hc) E).symm rfl
 | n+1,p,hc,h=>by
  have J:∀k,BX t (k+1) p=if (stp t p).2=0 then BX t k (stp t p).1 else ([],(stp t p).2):=fun k=>by rw[BX]
  by_cases E:(stp t p).2=0
  ·rw[J,Ahv E]at h ⊢
   rw[J,Ahv E]
   exact Gh N n _ (IM hc (N p hc) E) h
  ·rw[J,Aht E]at h
   exact absurd h E
theorem IQ {t:TreeC}:∀(k n:Nat) (p:List Ce),k<=n -> ¬(BX t k p).2=0->BX t n p=BX t k p
 | 0,_,p,_,h=>absurd rfl h
 | k+1,0,p,hl,_=>absurd hl (by omega)
 | k+1,n+1,p,hl,h=>by
  rw[BX]at h
  rw[BX,BX]
  by_cases E:(stp t p).2=0
  ·rw[Ahv E]at h
   rw[Ahv E,Ahv E]
   exact IQ k n _ (by omega) h
  ·rw[Aht E,Aht E]
theorem QO (Y:Ew t)(hc:CE t p=0){l:List (List Ce)}(h:HisR t p l):∀(i:Nat) (q:List Ce),l[i]? = some q->BX t i p=(q,0):=by
 induction h with
 | one =>
  intro i q N
  cases i with
  | zero=>cases N;rfl
  | succ i=>simp at N
 | @snoc ps a q h1 Z U =>
  intro i x E
  by_cases Q:i<(ps++[a]).length
  ·rw[AhM Q]at E
   exact U i x E
  ·have J:=(Ahq.1 E).1
   have:i=ps.length+1:=by simp at J Q;omega
   subst this
   have W:=U ps.length a (by simp)
   have e1:=Gh Y ps.length p hc (by rw[W])
   rw[e1,W]
   have ex:x=q:=by
    rw[AhZ (by simp)]at E
    simpa using E.symm
   rw[ex]
   exact JN Z
theorem YK (N:Ew t)(W:CE t p=0){n:Nat}{e:Int}(h:HisQ t p n (ps,e)):(e=0 -> ∃q,ps[n]? = some q/\BX t n p=(q,0))/\(¬e=0->BX t n p=([],e)):=by
 rcases h with ⟨U,Q,E⟩|⟨Y,a,U,Q,E,J,h5⟩
 ·dsimp only at U Q E
  refine⟨fun _=>?_,fun h=>absurd U h⟩
  obtain⟨q,hq⟩:∃q,ps[n]? = some q:=⟨_,Ahr (by omega)⟩
  exact⟨q,hq,QO N W E n q hq⟩
 ·dsimp only at E J
  refine⟨fun h=>absurd h J,fun _=>?_⟩
  have e0:=QO N W Q Y.length a (by simp)
  have Z:=Gh N Y.length p W (by rw[e0])
  rw[e0,JN E]at Z
  rw[IQ (Y.length+1) n p (by omega) (by rw[Z];exact J),Z]
theorem Agb (hT:TreeV t h n es)(hv:IsSl v (Ae p))(hl:(p.length:Int)<=9223372036854775806)(m:Int):∃x,IsSl x (Ae (rnE t p m).1) /\ ∀H,Gives G 25 [.m (.ag [J4 t.states,h,n]),.m v,J0 m] H (.tu [.m x,J0 (rnE t p m).2]) H:=by
 have g1:=fun H=>Wf hT hv hl H
 unfold rnE
 by_cases U:CE t p=0
 rotate_left
 ·rw[Aht U]
  refine⟨.nl 4,AS,fun H=>?_⟩
  refine Af rfl rfl rfl rfl rfl ?_
  simp (maxSteps:=2000000) (disch:=omega) [cl (g1 _),U]
 rw[Ahv U]
 rw[U]at g1
 by_cases hm:0<=m/\m<=10000
 rotate_left
 ·rw[Aht hm]
  refine⟨.nl 4,AS,fun H=>?_⟩
  refine Af rfl rfl rfl rfl rfl ?_
  by_cases h0:m<0
  ·simp (maxSteps:=2000000) (disch:=omega) [cl (g1 _),h0]
  ·have E:(10000:Int)<m:=by omega
   simp (maxSteps:=2000000) (disch:=omega) [cl (g1 _),h0,E]
 rw[Ahv hm]
 have hS:=CB hT
 obtain⟨k,rfl⟩:=AhK hm.1
 have hk:k<=10000:=by omega
 rw[show ((k:Int)).toNat=k from rfl]
 have key:∃x Y,Gives G 25 [.m (.ag [J4 t.states,h,n]),.m v,J0 (k:Int)] [] x Y/\(Y=[] /\ ∃z,IsSl z (Ae (BX t k p).1)/\x=.tu [.m z,J0 (BX t k p).2]):=by
  refine AJ ?_
  refine Cs rfl rfl rfl rfl rfl ?_
  generalize hQ:(fun(x:V) (Y:Hp)=>Y=[] /\ ∃z,IsSl z (Ae (BX t k p).1)/\x=.tu [.m z,J0 (BX t k p).2])=Q
  have qk:∀q z,BX t k p=(q,0)->IsSl z (Ae q)->Q (.tu [.m z,J0 0]) []:=fun q z E h2=>by rw[<-hQ];exact⟨rfl,z,by rw[E];exact h2,by rw[E]⟩
  have qe:∀e,BX t k p=([],e)->Q (.tu [.m (.nl 4),J0 e]) []:=fun e E=>by rw[<-hQ];exact⟨rfl,.nl 4,by rw[E];exact AS,by rw[E]⟩
  clear hQ
  have m0:¬(k:Int)<0:=by omega
  have m1:¬(10000:Int)<k:=by omega
  have m2:¬10000<k:=by omega
  simp (maxSteps:=2000000) (disch:=omega) [cl (g1 _),m0,m1]
  refine(?key:∀(i:Nat) (q:List Ce) (u:I) (B:LE),i<=k->BX t i p=(q,0)->CE t q=0->IsSl u (Ae q)->getB B 3=some [J0 t.states,.m h,.m n]->Run G c25_B0 (S25_0 (.m u) (.fa 3 0) (J0 (k:Int)) (J0 (i:Int)) B []) _) 0 p v _ (Ahy _) rfl U hv rfl
  refine Bj (fun i:Nat=>k-i) fun i ih q u B hi hr J hu hB=>?_
  unfold c25_B0
  by_cases hik:i<k
  ·have N:(i:Int)<k:=by omega
   have wi:=J1 i (by omega)
   have gs:=fun H=>Uz hT hu J H
   have e1:=Gh hS i p U (by rw[hr])
   rw[hr]at e1
   dsimp only at e1
   by_cases W:(stp t q).2=0
   ·have Z:=fun B'=>ih (i+1) (by omega) (stp t q).1 (zP (stp t q).1) B' (by omega) (by rw[e1];exact Prod.ext rfl W) (IM J (hS q J) W) (Ch _)
    rw[W]at gs
    generalize zP (stp t q).1=z at *
    simp (maxSteps:=2000000) (disch:=omega) [N,hB,cl (gs _),wi,-Int.natCast_add]
    exact Z _ hB
   ·have Z:=qe (stp t q).2 (by rw[IQ (i+1) k p (by omega) (by rw[e1];exact W),e1];exact Prod.ext (Ux (hS q J) W) rfl)
    generalize (stp t q).2=e at *
    generalize zP (stp t q).1=z at *
    simp (maxSteps:=2000000) (disch:=omega) [N,hB,cl (gs _),W]
    exact Z
  ·have:i=k:=by omega
   subst this
   have Z:=qk q u hr hu
   simp (maxSteps:=2000000) (disch:=omega) []
   exact Z
 obtain⟨x,Y,g,rfl,z,E,rfl⟩:=key
 exact⟨z,E,fun H=>AQ (H:=H) (is:=[.ag [J4 t.states,h,n],v,J4 (k:Int)]) rfl rfl g rfl (.inl ⟨rfl,rfl⟩)⟩
theorem Agc (Q:TreeV t h n es)(Y:IsSl v (Ae p))(hl:(p.length:Int)<=9223372036854775806)(m:Int):∃x,IsSl x (Ae (rnE t p m).1) /\ ∀H,Gives G 175 [.m (.ag [J4 t.states,h,n]),.m v,J0 m] H (.tu [.m x,J0 (rnE t p m).2]) H:=by
 unfold rnE
 by_cases E:CE t p=0
 rotate_left
 ·rw[Aht E]
  have g1:=fun H=>AgP Q Y hl E m H
  refine⟨.nl 4,AS,fun H=>?_⟩
  refine Af rfl rfl rfl rfl rfl ?_
  simp (maxSteps:=2000000) (disch:=omega) [cl (g1 _),E]
 rw[Ahv E]
 by_cases Z:0<=m/\m<=10000
 rotate_left
 ·rw[Aht Z]
  have g1:=fun H=>AgO Q Y hl E m (by omega) H
  refine⟨.nl 4,AS,fun H=>?_⟩
  refine Af rfl rfl rfl rfl rfl ?_
  simp (maxSteps:=2000000) (disch:=omega) [cl (g1 _)]
 rw[Ahv Z]
 have hS:=CB Q
 obtain⟨k,rfl⟩:=AhK Z.1
 have hk:k<=10000:=by omega
 rw[show ((k:Int)).toNat=k from rfl]
 obtain⟨x,⟨ps,e,hQ,hx⟩,g0⟩:=his_r Q Y E k hk []
 have g1:∀H,Gives G 208 [.m (.ag [.i .i64 t.states,h,n]),.m v,.m (.i .i64 (k:Int))] H x H:=fun H=>AQ (H:=H) (is:=[.ag [.i .i64 t.states,h,n],v,.i .i64 (k:Int)]) rfl rfl g0 rfl (.inl ⟨by rcases hx with ⟨_,rfl⟩|⟨_,vs,_,rfl⟩ <;> rfl,rfl⟩)
 obtain⟨q1,q2⟩:=YK hS E hQ
 rcases hx with ⟨U,rfl⟩|⟨U,vs,W,rfl⟩
 ·rw[q2 U]
  refine⟨.nl 4,AS,fun H=>?_⟩
  refine Af rfl rfl rfl rfl rfl ?_
  simp (maxSteps:=2000000) (disch:=omega) [cl (g1 _),U]
 ·obtain⟨q,hq,hr⟩:=q1 U
  rw[hr]
  have J:=(Ahq.1 hq).1
  obtain⟨u,hu⟩:∃u,vs[k]? = some u:=⟨_,Ahr (by rw[W.1];exact J)⟩
  have hn:=MP hu
  have hlen:k<vs.length:=by rw[W.1];exact J
  have N:=(AX (Fo vs)).rules
  simp only[IX]at N
  refine⟨u,W.2 k u q hu hq,fun H=>?_⟩
  refine Af rfl rfl rfl rfl rfl ?_
  simp (maxSteps:=2000000) (disch:=omega) [cl (g1 _),N,hn]
def mvF (a b:Int)(e:Ce):Ce:=⟨e.x+a,e.y+b,e.s⟩
theorem Adn (c d:Ce)(r s:List Ce):mvd (c::r) (d::s)=if d::s=(c::r).map (mvF (d.x-c.x) (d.y-c.y)) then some (d.x-c.x,d.y-c.y) else none:=rfl
theorem Yv (c d:Ce)(r s:List Ce):mvd (c::r) (d::s)=if (d::s).map (mvC d.x d.y)=(c::r).map (mvC c.x c.y) then some (d.x-c.x,d.y-c.y) else none:=by
 rw[Adn]
 have e:(d::s=(c::r).map (mvF (d.x-c.x) (d.y-c.y)))=((d::s).map (mvC d.x d.y)=(c::r).map (mvC c.x c.y)):=by
  refine propext ⟨fun h=>?_,fun h=>?_⟩
  ·have E:=AiO (List.map (mvC d.x d.y)) h
   rw[E,Aiy]
   refine List.map_congr_left fun e _=>?_
   show mvC d.x d.y (mvF _ _ e)=mvC c.x c.y e
   simp only[mvC,mvF,Ce.mk.injEq,and_true]
   omega
  ·have E:=AiO (List.map (mvF d.x d.y)) h
   rw[Aiy,Aiy]at E
   have J:∀l:List Ce,l.map (mvF d.x d.y ∘ mvC d.x d.y)=l:=fun l=>by
    conv=>rhs;rw[<-List.map_id l]
    refine List.map_congr_left fun e _=>?_
    show mvF d.x d.y (mvC d.x d.y e)=e
    cases e
    simp[mvC,mvF]
   rw[J]at E
   rw[E]
   refine List.map_congr_left fun e _=>?_
   show mvF d.x d.y (mvC c.x c.y e)=mvF _ _ e
   simp only[mvC,mvF,Ce.mk.injEq,and_true]
   omega
 by_cases h:d::s=(c::r).map (mvF (d.x-c.x) (d.y-c.y))
 ·rw[Ahv h,Ahv (e ▸ h)]
 ·rw[Aht h,Aht (fun N=>h (e ▸ N))]
theorem Qy (p:List Ce):mvd [] p=none:=by cases p <;> rfl
theorem Adm (h:¬p.length=q.length):mvd p q=none:=by
 cases p with
 | nil=>exact Qy q
 | cons c r =>
  cases q with
  | nil=>rfl
  | cons d s =>
   rw[Adn]
   refine Aht fun e=>h ?_
   have:=AiO List.length e
   rw[AhD]at this
   exact this.symm
def JW (m:Int×Int×Int):I:=.ag [.i .i64 m.1,.i .i64 m.2.1,.i .i64 m.2.2]
def mvV:Option (Int×Int)->V
 | some d=>.tu [.m (.i .i64 d.1),.m (.i .i64 d.2),.m (.b true)]
 | none=>.tu [.m (.i .i64 0),.m (.i .i64 0),.m (.b false)]
def Nc (r:(Int×Int×Int)×Bool×Int):V:=.tu [.m (JW r.1),.m (.b r.2.1),.m (.i .i64 r.2.2)]
theorem Ado {w:I}(hv:IsSl v (Ae p))(hw:IsSl w (Ae q))(hp:right p=true)(hq:right q=true)(H:Hp):Gives G 115 [.m v,.m w] H (mvV (mvd p q)) H:=by
 have hl:=(Ay hp).2.2
 have hl2:=(Ay hq).2.2
 have hr:=hv.rules
 have Q:=hw.rules
 simp only[J3]at hr
 simp only[J3]at Q
 refine Af rfl rfl rfl rfl rfl ?_
 by_cases E:p.length=q.length
 rotate_left
 ·have Y:¬(p.length:Int)=q.length:=by omega
  rw[Adm E]
  simp (maxSteps:=2000000) (disch:=omega) [hr,Q,Y,mvV]
 cases hpe:p with
 | nil =>
  have hl0:p.length=0:=by rw[hpe];rfl
  rw[<-hpe]
  have hm:mvd p q=none:=by rw[hpe];exact Qy q
  rw[hm]
  have hq0:q.length=0:=by omega
  simp (maxSteps:=2000000) (disch:=omega) [hr,Q,hl0,hq0,mvV]
 | cons c r =>
  obtain⟨d,s,hqe⟩:∃d s,q=d::s:=by
   cases q with
   | nil=>rw[hpe]at E;simp at E
   | cons d s=>exact⟨d,s,rfl⟩
  have h0:p[0]? = some c:=by rw[hpe];rfl
  have Z:q[0]? = some d:=by rw[hqe];rfl
  have hn0:=Ap h0
  have hn02:=Ap Z
  have hbc:=AW hp (Ahw h0)
  have hbd:=AW hq (Ahw Z)
  have hm:mvd p q=if q=p.map (mvF (d.x-c.x) (d.y-c.y)) then some (d.x-c.x,d.y-c.y) else none:=by rw[hpe,hqe];exact Adn c d r s
  rw[<-hpe,hm]
  obtain⟨N,hdx⟩:∃N,N=d.x-c.x:=⟨_,rfl⟩
  obtain⟨J,hdy⟩:∃J,J=d.y-c.y:=⟨_,rfl⟩
  have w1:wr .i64 (d.x-c.x)=N:=by rw[hdx];exact Aa (by omega) (by omega)
  have w2:wr .i64 (d.y-c.y)=J:=by rw[hdy];exact Aa (by omega) (by omega)
  rw[<-hdx,<-hdy]
  have hpos:0<p.length:=(Am h0).1
  have hpos2:0<q.length:=(Am Z).1
  have Y:(p.length:Int)=q.length:=by omega
  have hne:¬q.length=0:=by omega
  have hne':¬(q.length:Int)=0:=by omega
  simp (maxSteps:=2000000) (disch:=omega) [hr,Q,E,hne,hn0,hn02,w1,w2]
  refine(?key:∀(i:Nat) (B:LE),i<=q.length->q.take i=(p.map (mvF N J)).take i->Run G c115_B0 (S115_0 (.m v) (.m w) (J0 N) (J0 J) (J0 (q.length:Int)) (J0 (i:Int)) B []) _) 0 _ (Ahy _) rfl
  refine Bj (fun i:Nat=>q.length-i) fun i ih B hi W=>?_
  unfold c115_B0
  cases hy:q[i]? with
  | none =>
   have:i=q.length:=by have:=Ahx.1 hy;omega
   subst this
   rw[AhS,AhJ (by simp;omega)]at W
   rw[Ahv W]
   simp (maxSteps:=2000000) (disch:=omega) [mvV]
  | some b =>
   have hlt2:=(Am hy).1
   obtain⟨a,hx⟩:∃a,p[i]? = some a:=⟨p[i]'(by omega),Ahr _⟩
   have hlt:=(Am hx).1
   have U:(i:Int)<q.length:=by omega
   have hn:=Ap hx
   have hn2:=Ap hy
   have hba:=AW hp (Ahw hx)
   have hbb:=AW hq (Ahw hy)
   have wi:=J1 i (by omega)
   have w3:=J2 (a.x+N) (by omega)
   have w4:=J2 (a.y+J) (by omega)
   have hmy:(p.map (mvF N J))[i]? = some (mvF N J a):=by rw[AhN,hx];rfl
   by_cases he:b.x=a.x+N/\b.y=a.y+J/\b.s=a.s
   ·have e:b=mvF N J a:=by
     cases b
     unfold mvF
     simp only[Ce.mk.injEq]
     exact he
    have k2:=fun B'=>ih (i+1) (by omega) B' (by omega) (PZ W hy hmy e)
    simp (maxSteps:=2000000) (disch:=omega) [hr,Q,E,U,hn,hn2,wi,w3,w4,he.1,he.2.1,he.2.2,-Int.natCast_add]
    exact k2 _
   ·have hno:¬q=p.map (mvF N J):=fun hh=>he (by
     have:q[i]? = some (mvF N J a):=by rw[hh];exact hmy
     rw[hy]at this
     injection this with this
     rw[this]
     exact⟨rfl,rfl,rfl⟩)
    rw[Aht hno]
    have he1:(decide (b.x=a.x+N)&&(decide (b.y=a.y+J)&&decide (b.s=a.s)))=false:=by
     rw[Bool.eq_false_iff]
     simpa using he
    have he2:(decide (b.x=a.x+N)&&decide (b.y=a.y+J)&&decide (b.s=a.s))=false:=by
     rw[Bool.and_assoc];exact he1
    simp (maxSteps:=2000000) (disch:=omega) [hr,Q,E,U,hn,hn2,w3,w4,he1,mvV]
theorem Yl (m:Int)(H:Hp):Gives G 114 [J0 m] H (.m (.b (decide (1<=m/\m<=64)))) H:=by
 refine Af rfl rfl rfl rfl rfl ?_
 by_cases E:1<=m
 ·by_cases J:m<=64
  ·simp (maxSteps:=2000000) (disch:=omega) [E,J]
  ·simp (maxSteps:=2000000) (disch:=omega) [E,J]
 ·simp (maxSteps:=2000000) (disch:=omega) [E]
theorem AgS (hT:TreeV t h n es)(hv:IsSl v (Ae p))(hl:(p.length:Int)<=9223372036854775806)(m:Int)(H:Hp):Gives G 79 [.m (.ag [J4 t.states,h,n]),.m v,J0 m] H (Nc (OI t p m)) H:=by
 obtain⟨x0,_,g1⟩:=Agb hT hv hl 0
 unfold rnE at g1
 have gp:=fun H=>Yl m H
 unfold OI
 by_cases hc:CE t p=0
 rotate_left
 ·rw[Aht hc]at *
  refine Af rfl rfl rfl rfl rfl ?_
  simp (maxSteps:=2000000) (disch:=omega) [Ab,cl (g1 _),hc,Nc,JW]
 rw[Ahv hc]at *
 rw[Ahv (by omega)]at g1
 by_cases hm:1<=m/\m<=64
 rotate_left
 ·rw[Aht hm]at *
  rw[AhB hm]at gp
  refine Af rfl rfl rfl rfl rfl ?_
  simp (maxSteps:=2000000) (disch:=omega) [Ab,cl (g1 _),cl (gp _),BX,Nc,JW]
 rw[Ahv hm]at *
 rw[AhA hm]at gp
 have hS:=CB hT
 obtain⟨hq,hrp,_⟩:=Ca hc
 have hrv:=hv.rules
 obtain⟨k,rfl⟩:=AhK (show 0<=m by omega)
 rw[show ((k:Int)).toNat=k from rfl]
 have hk:k<=64:=by omega
 refine Af rfl rfl rfl rfl rfl ?_
 simp (maxSteps:=2000000) (disch:=omega) [cl (g1 _),cl (gp _),show ((0:Int)).toNat=0 from rfl,BX]
 refine(?key:∀(i:Nat) (q:List Ce) (u:I) (B:LE),i<=k->HM t p k 1 p=HM t p (k-i) (((i+1:Nat):Int)) q->CE t q=0->IsSl u (Ae q)->getB B 3=some [J0 t.states,.m h,.m n]->getB B 6=some [J0 0,J0 0,J0 0]->Run G c79_B0 (S79_0 (.m v) (J0 (k:Int)) (.fa 3 0) (.fa 6 0) (.m u) (J0 (((i+1:Nat):Int))) B []) _) 0 p v _ (Ahy _) rfl hc hv rfl rfl
 refine Bj (fun i:Nat=>k-i) fun i ih q u B hi hf W hu hB N=>?_
 unfold c79_B0
 have U:=hu.rules
 simp only[J3]at U
 rw[hf]
 by_cases hik:i<k
 rotate_left
 ·have:i=k:=by omega
  subst this
  rw[Nat.sub_self]
  simp (maxSteps:=2000000) (disch:=omega) [Ab,show ¬((i+1:Nat):Int)<=i from by omega,N,HM,Nc,JW,-Int.natCast_add]
 have E:((i+1:Nat):Int)<=k:=by omega
 by_cases Y:q=[]
 ·rw[Y,HL hq]
  have hl0:q.length=0:=by rw[Y];rfl
  simp (maxSteps:=2000000) (disch:=omega) [Ab,E,U,hl0,N,Nc,JW,-Int.natCast_add]
 have Q:0<q.length:=AiX.2 Y
 have hpos2:(0:Int)<q.length:=by omega
 have gs:=fun H=>Oo hT hu (by have:=(Ay (Ca W).2.1).2.2;omega) H
 unfold BT at gs
 rw[Ahv W]at gs
 obtain⟨j,hj⟩:∃j,k-i=j+1:=⟨k-i-1,by omega⟩
 have wi:wr .i64 (((i+1:Nat):Int)+1)=((i+1+1:Nat):Int):=Aa (by omega) (by omega)
 by_cases he:(stp t q).2=0
 ·have hc2:=IM W (hS q W) he
  have Z:=fun H=>Ado hv (Ch (stp t q).1) hrp (Ca hc2).2.1 H
  have J:HM t p (k-i) (((i+1:Nat):Int)) q=match mvd p (stp t q).1 with
   | some d=>((((i+1:Nat):Int),d.1,d.2),true,0)
   | none=>HM t p j (((i+1+1:Nat):Int)) (stp t q).1:=by rw[hj];exact Ng he
  rw[he]at gs
  cases hmv:mvd p (stp t q).1 with
  | some d =>
   rw[hmv]at J Z
   dsimp only at J
   rw[J]
   generalize zP (stp t q).1=z at *
   simp only[mvV]at Z
   simp (maxSteps:=2000000) (disch:=omega) [Ab,E,U,Q,hB,cl (gs _),cl (Z _),N,Nc,JW,-Int.natCast_add]
  | none =>
   rw[hmv]at J Z
   dsimp only at J
   have k2:=fun B'=>ih (i+1) (by omega) (stp t q).1 (zP (stp t q).1) B' (by omega) (by rw[hf,J,show k-(i+1)=j from by omega]) hc2 (Ch _)
   rw[hf]at k2
   generalize zP (stp t q).1=z at *
   simp only[mvV]at Z
   simp (maxSteps:=2000000) (disch:=omega) [E,U,Q,hB,cl (gs _),cl (Z _),wi,-Int.natCast_add]
   exact k2 _ hB N
 ·rw[hj,QR he]
  generalize (stp t q).2=e at *
  generalize zP (stp t q).1=z at *
  simp (maxSteps:=2000000) (disch:=omega) [Ab,E,U,Q,hB,cl (gs _),he,N,Nc,JW,-Int.natCast_add]
theorem QN (hv:IsSl v (Ae p))(hp:right p=true){r:List Ce}(U:p=c::r)(H:Hp):Gives G 207 [.m v] H (.m (zP (p.map (mvC c.x c.y)))) H:=by
 have hl:=(Ay hp).2.2
 have hr:=hv.rules
 simp only[J3]at hr
 have h0:p[0]? = some c:=by rw[U];rfl
 have a0:=Ap h0
 have hbc:=AW hp (Ahw h0)
 have hpos:0<p.length:=(Am h0).1
 refine Af rfl rfl rfl rfl rfl ?_
 simp (maxSteps:=2000000) (disch:=omega) []
 refine(?key:∀(i:Nat) (f:List Ce) (o:V) (B:LE) (Y:Hp),i<=p.length->f=(p.take i).map (mvC c.x c.y)->SA f o Y->Run G c207_B0 (S207_0 (.m v) o (J0 (i:Int)) B Y) _) 0 [] _ _ _ (Ahy _) rfl (.inl ⟨rfl,rfl,rfl⟩)
 refine Bj (fun i:Nat=>p.length-i) fun i ih f o B Y hi Q ho=>?_
 unfold c207_B0
 obtain⟨J,E⟩:=Eb ho
 cases hx:p[i]? with
 | some a =>
  have hlt:=(Am hx).1
  have N:(i:Int)<p.length:=by omega
  have hn:=Ap hx
  have wi:=J2 ((i:Int)+1) (by omega)
  have htk:p.take (i+1)=p.take i++[a]:=As hx
  have hba:=AW hp (Ahw hx)
  have w1:=J2 (a.x-c.x) (by omega)
  have w2:=J2 (a.y-c.y) (by omega)
  have a1:f.length<=1000000:=by rw[Q,AhD,AhH];omega
  obtain⟨o1,H2,ha,Z,W⟩:=Cb ho a1 (mvC c.x c.y a)
  have e:f++[mvC c.x c.y a]=(p.take (i+1)).map (mvC c.x c.y):=by rw[htk,Q];simp
  have k2:=fun B'=>ih (i+1) (by omega) (f++[mvC c.x c.y a]) o1 B' H2 (by omega) e W
  simp only[mvC]at ha
  simp (maxSteps:=2000000) (disch:=omega) [hr,N,hn,a0,wi,w1,w2,ha,Al Z]
  exact k2 _
 | none =>
  have:i=p.length:=by have:=Ahx.1 hx;omega
  subst this
  rw[AhS]at Q
  rw[Q]at J
  generalize zP (p.map (mvC c.x c.y))=z at *
  simp (maxSteps:=2000000) (disch:=omega) [hr,J,Al E]
  exact E
theorem AgT (hT:TreeV t h n es)(hv:IsSl v (Ae p))(hl:(p.length:Int)<=9223372036854775806)(m:Int)(H:Hp):Gives G 174 [.m (.ag [J4 t.states,h,n]),.m v,J0 m] H (Nc (OI t p m)) H:=by
 obtain⟨x0,_,g1⟩:=Agc hT hv hl 0
 unfold rnE at g1
 unfold OI
 by_cases hc:CE t p=0
 rotate_left
 ·rw[Aht hc]at *
  refine Af rfl rfl rfl rfl rfl ?_
  simp (maxSteps:=2000000) (disch:=omega) [Ab,cl (g1 _),hc,Nc,JW]
 rw[Ahv hc]at *
 rw[Ahv (by omega)]at g1
 by_cases hm:1<=m/\m<=64
 rotate_left
 ·rw[Aht hm]at *
  refine Af rfl rfl rfl rfl rfl ?_
  by_cases h1:m<1
  ·simp (maxSteps:=2000000) (disch:=omega) [Ab,cl (g1 _),BX,h1,Nc,JW]
  ·have h2:64<m:=by omega
   simp (maxSteps:=2000000) (disch:=omega) [Ab,cl (g1 _),BX,h1,h2,Nc,JW]
 rw[Ahv hm]at *
 have hS:=CB hT
 obtain⟨hq,a2,_⟩:=Ca hc
 have hpl:=(Ay a2).2.2
 have Y:=hv.rules
 simp only[J3]at Y
 obtain⟨k,rfl⟩:=AhK (show 0<=m by omega)
 rw[show ((k:Int)).toNat=k from rfl]
 have hk:k<=64:=by omega
 have m1:¬(k:Int)<1:=by omega
 have m1':¬k<1:=by omega
 have m2:¬(64:Int)<k:=by omega
 have m2':¬64<k:=by omega
 refine Af rfl rfl rfl rfl rfl ?_
 cases hpe:p with
 | nil =>
  have a1:p.length=0:=by rw[hpe];rfl
  rw[<-hpe]
  have e:HM t p k 1 p=((0,0,0),false,0):=by
   have:=HL hq p k 1
   rw[<-hpe]at this
   exact this
  rw[e]
  simp (maxSteps:=2000000) (disch:=omega) [Ab,cl (g1 _),show ((0:Int)).toNat=0 from rfl,BX,m1,m2,Y,a1,Nc,JW]
 | cons c r =>
 have hp0:0<p.length:=by rw[hpe];simp
 have hp0':¬p.length=0:=by omega
 have hp1':¬(p.length:Int)=0:=by omega
 have h0:p[0]? = some c:=by rw[hpe];rfl
 have hn0:=Ap h0
 have hbc:=AW a2 (Ahw h0)
 have gh1:=fun H=>QN hv a2 hpe H
 rw[<-hpe]
 simp (maxSteps:=2000000) (disch:=omega) [cl (g1 _),show ((0:Int)).toNat=0 from rfl,BX,m1,m2,Y,hp0']
 refine(?key:∀(i:Nat) (q:List Ce) (u:I) (B:LE),i<=k->HM t p k 1 p=HM t p (k-i) (((i+1:Nat):Int)) q->CE t q=0->IsSl u (Ae q)->getB B 3=some [J0 t.states,.m h,.m n]->getB B 6=some [J0 0,J0 0,J0 0]->Run G c174_B0 (S174_0 (.m v) (J0 (k:Int)) (.fa 3 0) (.fa 6 0) (.m u) (J0 (((i+1:Nat):Int))) B []) _) 0 p v _ (Ahy _) rfl hc hv rfl rfl
 refine Bj (fun i:Nat=>k-i) fun i ih q u B hi hf a0 hu hB Q=>?_
 unfold c174_B0
 rw[hf]
 by_cases hik:i<k
 rotate_left
 ·have:i=k:=by omega
  subst this
  rw[Nat.sub_self]
  simp (maxSteps:=2000000) (disch:=omega) [Ab,show ¬((i+1:Nat):Int)<=i from by omega,Q,HM,Nc,JW,-Int.natCast_add]
 have J:((i+1:Nat):Int)<=k:=by omega
 have gs:=fun H=>Oq hT hu (by have:=(Ay (Ca a0).2.1).2.2;omega) H
 unfold BT at gs
 rw[Ahv a0]at gs
 obtain⟨j,hj⟩:∃j,k-i=j+1:=⟨k-i-1,by omega⟩
 have wi:wr .i64 (((i+1:Nat):Int)+1)=((i+1+1:Nat):Int):=Aa (by omega) (by omega)
 by_cases he:(stp t q).2=0
 ·have hc2:=IM a0 (hS q a0) he
  have E:HM t p (k-i) (((i+1:Nat):Int)) q=match mvd p (stp t q).1 with
   | some d=>((((i+1:Nat):Int),d.1,d.2),true,0)
   | none=>HM t p j (((i+1+1:Nat):Int)) (stp t q).1:=by rw[hj];exact Ng he
  rw[he]at gs
  have k1:=fun(W:mvd p (stp t q).1=none) B'=>ih (i+1) (by omega) (stp t q).1 (zP (stp t q).1) B' (by omega) (by rw[hf,E,W,show k-(i+1)=j from by omega]) hc2 (Ch _)
  rw[hf]at k1
  have hz:=Ch (stp t q).1
  have U:=hz.rules
  have a3:=(Ca hc2).2.1
  have hql:=(Ay a3).2.2
  generalize zP (stp t q).1=z at *
  generalize (stp t q).1=q2 at *
  simp only[J3]at U
  cases hqe:q2 with
  | nil =>
   have a1:q2.length=0:=by rw[hqe];rfl
   have W:mvd p q2=none:=by rw[hqe];exact Vw p
   have k2:=k1 W
   rw[W]at E
   dsimp only at E
   simp (maxSteps:=2000000) (disch:=omega) [J,hB,cl (gs _),U,a1,Ad,wi,-Int.natCast_add]
   exact k2 _ hB Q
  | cons d s =>
   have hq0:0<q2.length:=by rw[hqe];simp
   have hq0':(0:Int)<q2.length:=by omega
   have gh2:=fun H=>QN hz a3 hqe H
   have Z:=fun H=>MJ (Ch (q2.map (mvC d.x d.y))) (Ch (p.map (mvC c.x c.y))) (by simp;omega) (by simp;omega) H
   have N:=Yv c d r s
   rw[<-hqe,<-hpe]at N
   have h02:q2[0]? = some d:=by rw[hqe];rfl
   have hn02:=Ap h02
   have hbd:=AW a3 (Ahw h02)
   have w1:=J2 (d.x-c.x) (by omega)
   have w2:=J2 (d.y-c.y) (by omega)
   by_cases hE:q2.map (mvC d.x d.y)=p.map (mvC c.x c.y)
   ·rw[Ahv hE]at N
    rw[N]at E
    dsimp only at E
    rw[E]
    rw[AhA (Hl.2 hE)]at Z
    generalize zP (q2.map (mvC d.x d.y))=z1 at *
    generalize zP (p.map (mvC c.x c.y))=z2 at *
    simp (maxSteps:=2000000) (disch:=omega) [Ab,J,hB,cl (gs _),U,Y,hq0,Ad,cl (gh1 _),cl (gh2 _),cl (Z _),hn0,hn02,w1,w2,Q,Nc,JW,-Int.natCast_add]
   ·rw[Aht hE]at N
    have k2:=k1 N
    rw[N]at E
    dsimp only at E
    rw[AhB (fun h=>hE (Hl.1 h))]at Z
    generalize zP (q2.map (mvC d.x d.y))=z1 at *
    generalize zP (p.map (mvC c.x c.y))=z2 at *
    simp (maxSteps:=2000000) (disch:=omega) [J,hB,cl (gs _),U,hq0,Ad,cl (gh1 _),cl (gh2 _),cl (Z _),wi,-Int.natCast_add]
    exact k2 _ hB Q
 ·rw[hj,QR he]
  generalize (stp t q).2=e at *
  generalize zP (stp t q).1=z at *
  simp (maxSteps:=2000000) (disch:=omega) [Ab,J,hB,cl (gs _),he,Q,Nc,JW,-Int.natCast_add]
def YL (r:Bool×Int):V:=.tu [.m (.b r.1),.m (.i .i64 r.2)]
theorem Aam {a b:Int×Int×Int}:(decide (a=b))=(decide (a.1=b.1)&&(decide (a.2.1=b.2.1)&&decide (a.2.2=b.2.2))):=by
 obtain⟨E,W,N⟩:=a
 obtain⟨U,J,Q⟩:=b
 simp[Bool.decide_and]
theorem has_s (J:TreeV t h n es)(E:IsSl v (Ae p))(hl:(p.length:Int)<=9223372036854775806)(m:Int×Int×Int)(H:Hp):Gives G 132 [.m (.ag [J4 t.states,h,n]),.m v,.m (JW m)] H (YL (YM t p m)) H:=by
 have g1:=fun H=>AgS J E hl m.1 H
 unfold YM
 rw[Aam]
 generalize OI t p m.1=r at *
 obtain⟨f,N,e⟩:=r
 dsimp only at *
 simp only[Nc,JW]at *
 refine Af rfl rfl rfl rfl rfl ?_
 cases N with
 | true=>simp (maxSteps:=2000000) (disch:=omega) [Ab,cl (g1 _),YL]
 | false=>simp (maxSteps:=2000000) (disch:=omega) [Ab,cl (g1 _),YL]
theorem has_r (N:TreeV t h n es)(J:IsSl v (Ae p))(hl:(p.length:Int)<=9223372036854775806)(m:Int×Int×Int)(H:Hp):Gives G 136 [.m (.ag [J4 t.states,h,n]),.m v,.m (JW m)] H (YL (YM t p m)) H:=by
 have g1:=fun H=>AgT N J hl m.1 H
 have U:¬(OI t p m.1).2.2=0->(OI t p m.1).2.1=false:=YR
 unfold YM
 rw[Aam]
 generalize OI t p m.1=r at *
 obtain⟨f,Q,e⟩:=r
 dsimp only at *
 simp only[Nc,JW]at *
 refine Af rfl rfl rfl rfl rfl ?_
 by_cases E:e=0
 ·cases Q with
  | true=>simp (maxSteps:=2000000) (disch:=omega) [Ab,cl (g1 _),E,YL]
  | false=>simp (maxSteps:=2000000) (disch:=omega) [Ab,cl (g1 _),E,YL]
 ·rw[U E]at *
  simp (maxSteps:=2000000) (disch:=omega) [Ab,cl (g1 _),E,YL]
noncomputable def plE (t:TreeC)(l:List Sh):List St5->Int
 | []=>0
 | x::r=>if (plF t l x).2=0 then plE t l r else (plF t l x).2
noncomputable def plP (t:TreeC)(l:List Sh)(xs:List St5):List (List Ce):=xs.map fun x=>(plF t l x).1
variable {l:List Sh} {xs:List St5}
theorem Qn {x:St5}(h:xs[i]? = some x):plE t l (xs.drop i)=if (plF t l x).2=0 then plE t l (xs.drop (i+1)) else (plF t l x).2:=by
 rw[(Am h).2]
 rfl
theorem Qm {x:St5}(h:xs[i]? = some x):plP t l (xs.take (i+1))=plP t l (xs.take i)++[(plF t l x).1]:=by
 unfold plP
 rw[As h]
 simp
theorem ML (E:Ew t):∀p,p∈plP t l xs->right p=true:=fun p J=>by
 obtain⟨x,_,rfl⟩:=AhP.1 J
 exact(pl_ok E).1
def dsj (p q:List Ce):Prop:=∀c,c∈p -> ∀d,d∈q->apart c d
def Ael (p q:List Ce):Bool:=p.all fun c=>q.all fun d=>!(decide (c.x=d.x)&&decide (c.y=d.y))
theorem HN (p q:List Ce):Ael p q=true↔dsj p q:=by
 unfold Ael dsj apart
 simp only[AhE,Aia,Bool.and_eq_false_iff,decide_eq_false_iff_not]
 refine⟨fun h c J d E N=>?_,fun h c J d E=>?_⟩
 ·rcases h c J d E with h|h
  ·exact h N.1
  ·exact h N.2
 ·have:=h c J d E
  by_cases Q:c.x=d.x
  ·exact .inr fun U=>this ⟨Q,U⟩
  ·exact .inl Q
theorem QS (h:dsj p q):dsj q p:=fun c J d E=>Fk (h d E c J)
def Ev (ps:List (List Ce)):Prop:=ps.Pairwise dsj
theorem Ha (h:∀p,p∈ps->right p=true):ps.flatten.Pairwise apart↔Ev ps:=by
 rw[List.pairwise_flatten]
 refine⟨fun E=>E.2,fun E=>⟨fun l J=>Fg (Ay (h l J)).1,E⟩⟩
theorem VO (h:∀p,p∈ps->right p=true):∀c,c∈ps.flatten->CC c=true:=fun c N=>by
 obtain⟨l,E,J⟩:=List.mem_flatten.1 N
 exact(Ay (h l E)).2.1 c J
open Classical in
noncomputable def MZ (ps:List (List Ce)):List Ce×Int:=if Ev ps then if 5000<ps.flatten.length then ([],6) else (AT ps.flatten,0) else ([],8)
def shI (v:I)(s:Sh):List I:=[v,.i .i64 s.m.1,.i .i64 s.m.2.1,.i .i64 s.m.2.2]
def ET (es:LT)(l:List Sh):Prop:=es.length=l.length /\ ∀(i:Nat) (s:Sh),l[i]? = some s->s.c.length<=1000000 /\ ∃v,nth es i=some (shI v s)/\IsSl v (Ae s.c)
def CV (x:St5):List I:=[.i .i64 x.i,.i .i64 x.n,.i .i64 x.k,.i .i64 x.x,.i .i64 x.y]
def DN (xs:List St5):LT:=xs.map CV
@[simp] theorem Gq (xs:List St5):(DN xs).length=xs.length:=by simp[DN]
theorem Je {x:St5}(h:xs[i]? = some x):nth (DN xs) i=some [J4 x.i,J4 x.n,J4 x.k,J4 x.x,J4 x.y]:=by
 rw[AL]
 simp[DN,h,CV]
theorem AcU {t:TreeC}{l:List Sh}:∀ {xs:List St5},plE t l xs=0 -> ∀x,x∈xs->(plF t l x).2=0
 | x::r,h,y,J=>by
  unfold plE at h
  by_cases E:(plF t l x).2=0
  ·rw[Ahv E]at h
   rcases AhO.1 J with rfl|J
   ·exact E
   ·exact AcU h y J
  ·rw[Aht E]at h
   exact absurd h E
theorem VV (h:ps[i]? = some q):Ev (ps.take (i+1))↔Ev (ps.take i) /\ ∀(k:Nat) p,k<i->ps[k]? = some p->dsj p q:=by
 unfold Ev
 rw[As h,AiE]
 refine⟨fun J=>⟨J.1,fun k p E Q=>J.2.2 p (List.mem_iff_getElem?.2 ⟨k,by rw[AhX,Ahv E];exact Q⟩) q (AhQ.2 rfl)⟩,fun J=>⟨J.1,List.pairwise_singleton _ _,fun p Q d U=>?_⟩⟩
 rw[AhQ.1 U]
 obtain⟨k,E⟩:=List.mem_iff_getElem?.1 Q
 rw[AhX]at E
 split at E
 ·rename_i N
  exact J.2 k p N E
 ·cases E
variable {k:Nat}
theorem Ady (U:k<i)(Q:ps[k]? = some p)(J:ps[i]? = some q)(h:¬dsj p q):¬Ev ps:=fun Y=>by
 have Z:=AiG.1 Y
 obtain⟨W,N⟩:=Ahq.1 Q
 obtain⟨l2,E⟩:=Ahq.1 J
 have:=Z k i W l2 U
 rw[N,E]at this
 exact h this
noncomputable def JQ (t:TreeC):List (List Ce)->Int
 | []=>0
 | p::r=>if (BT t p).2=0 then JQ t r else (BT t p).2
noncomputable def Dz (t:TreeC)(ps:List (List Ce)):List (List Ce):=ps.map fun p=>(BT t p).1
theorem MG (h:ps[i]? = some p):JQ t (ps.drop i)=if (BT t p).2=0 then JQ t (ps.drop (i+1)) else (BT t p).2:=by
 rw[(Am h).2]
 rfl
theorem ZU {t:TreeC}:∀ {ps:List (List Ce)},JQ t ps=0 -> ∀p,p∈ps->(BT t p).2=0
 | p::r,h,q,J=>by
  unfold JQ at h
  by_cases E:(BT t p).2=0
  ·rw[Ahv E]at h
   rcases AhO.1 J with rfl|J
   ·exact E
   ·exact ZU h q J
  ·rw[Aht E]at h
   exact absurd h E
open Classical in
noncomputable def EQ (t:TreeC):Nat->Int->List (List Ce)->List Ce->Int×Int
 | 0,_,_,_=>(-1,0)
 | k+1,g,ps,w=>if JQ t ps=0 then if (BT t w).2=0 then if Ev (Dz t ps)/\AT (Dz t ps).flatten=(BT t w).1 then EQ t k (g+1) (Dz t ps) (BT t w).1 else (g,0) else (0,(BT t w).2) else (0,JQ t ps)
variable {w:List Ce} {g:Int}
theorem OD (N:JQ t ps=0)(Q:(BT t w).2=0)(E:Ev (Dz t ps))(J:AT (Dz t ps).flatten=(BT t w).1):EQ t (k+1) g ps w=EQ t k (g+1) (Dz t ps) (BT t w).1:=by
 rw[EQ,Ahv N,Ahv Q,Ahv ⟨E,J⟩]
theorem GY (J:JQ t ps=0)(N:(BT t w).2=0)(E:¬(Ev (Dz t ps)/\AT (Dz t ps).flatten=(BT t w).1)):EQ t (k+1) g ps w=(g,0):=by
 rw[EQ,Ahv J,Ahv N,Aht E]
theorem OC (E:JQ t ps=0)(J:¬(BT t w).2=0):EQ t (k+1) g ps w=(0,(BT t w).2):=by
 rw[EQ,Ahv E,Aht J]
theorem OE (E:¬JQ t ps=0):EQ t (k+1) g ps w=(0,JQ t ps):=by
 rw[EQ,Aht E]
noncomputable def ptE (t:TreeC)(l:List Sh)(xs:List St5):Int:=if Bb t=true then if l.length<=8/\xs.length<=16 then plE t l xs else 6 else 11
open Classical in
noncomputable def Cj (t:TreeC)(l:List Sh)(xs:List St5)(gens:Int):Int×Int :=
 if ptE t l xs=0 then if 0<=gens/\gens<=10000 then if Ev (plP t l xs) then if 5000<(plP t l xs).flatten.length then (0,6) else EQ t gens.toNat 1 (plP t l xs) (AT (plP t l xs).flatten) else (0,0) else (0,2) else (0,ptE t l xs)
theorem IN (h:p.Perm q)(E:q.Pairwise apart):AT p=AT q:=KQ (Dc E) (Dc (Fl h E)) (((Bq p).trans h).trans (Bq q).symm)
theorem GV (E:Ew t)(h:(BT t p).2=0):right (BT t p).1=true:=(Ca (Acz E h).2.2).2.1
theorem JP (J:Ew t)(h:JQ t ps=0):∀p,p∈Dz t ps->right p=true:=fun p N=>by
 obtain⟨q,E,rfl⟩:=AhP.1 N
 exact GV J (ZU h q E)
theorem YA {E:Int}(h:(Cj t l xs E).2=0):ptE t l xs=0/\(0<=E/\E<=10000):=by
 unfold Cj at h
 refine Aiv fun Q=>?_
 by_cases J:ptE t l xs=0
 ·rw[Ahv J]at h
  by_cases N:0<=E/\E<=10000
  ·exact Q ⟨J,N⟩
  ·rw[Aht N]at h
   cases h
 ·rw[Aht J]at h
  exact J h
theorem MV {t:TreeC}:∀(k:Nat) (g:Int) (ps:List (List Ce)) (w:List Ce),(EQ t k g ps w).2=0->(EQ t k g ps w).1=-1\/(g<=(EQ t k g ps w).1/\(EQ t k g ps w).1<g+k)
 | 0,_,_,_,_=>.inl rfl
 | k+1,g,ps,w,h=>by
  by_cases E:JQ t ps=0
  ·by_cases J:(BT t w).2=0
   ·by_cases N:Ev (Dz t ps)/\AT (Dz t ps).flatten=(BT t w).1
    ·rw[OD E J N.1 N.2]at h ⊢
     rcases MV k _ _ _ h with e|e
     ·exact .inl e
     ·exact .inr (by omega)
    ·rw[GY E J N]
     exact .inr (by dsimp only;omega)
   ·rw[OC E J]at h
    exact absurd h J
  ·rw[OE E]at h
   exact absurd h E
theorem JT {L:List Ce}(hl:∀d,d∈L->Bd c d=true)(J:L.Pairwise apart):AT (c::L)=c::AT L:=by
 have Q:(c::AT L).Pairwise fun a b=>Bd a b=true:=AhU.2 ⟨fun d E=>hl d ((Bq L).mem_iff.1 E),Dc J⟩
 have N:(c::L).Pairwise apart:=AhU.2 ⟨fun d E=>FK (hl d E),J⟩
 exact KQ Q (Dc N) ((Bq _).trans (List.Perm.cons c (Bq L).symm))
variable {a b:List Ce}
theorem Nq (N:a.Pairwise fun x y=>Bd x y=true)(E:b.Pairwise fun x y=>Bd x y=true)(J:dsj a b):(a++b).Pairwise apart:=AiE.2 ⟨Fg N,Fg E,J⟩
theorem Nl (hl:∀d,d∈b->Bd c d=true):dsj (c::a) b↔dsj a b :=
 ⟨fun h x E=>h x (Aij _ E),fun h x E d J=>by
  rcases AhO.1 E with rfl|E
  ·exact FK (hl d J)
  ·exact h x E d J⟩
theorem Nk {d:Ce}(hl:∀c,c∈a->Bd d c=true):dsj a (d::b)↔dsj a b :=
 ⟨fun h x J e E=>h x J e (Aij _ E),fun h x J e E=>by
  rcases AhO.1 E with rfl|E
  ·exact Fk (FK (hl x J))
  ·exact h x J e E⟩
structure UnI (out q a b next:List Ce):Prop where
 d:dsj a b↔dsj out q
 s:dsj a b->next++AT (a++b)=AT (out++q)
 pa:a.Pairwise fun x y=>Bd x y=true
 pb:b.Pairwise fun x y=>Bd x y=true
variable {out:List Ce}
theorem UnI.init (J:out.Pairwise fun x y=>Bd x y=true)(E:q.Pairwise fun x y=>Bd x y=true):UnI out q out q []:=⟨Iff.rfl,fun _=>rfl,J,E⟩
variable {next:List Ce}
theorem UnI.left (h:UnI out q (c::a) b next)(hl:∀d,d∈b->Bd c d=true):UnI out q a b (next++[c]):=by
 have N:=AhU.1 h.pa
 refine⟨(Nl hl).symm.trans h.d,fun Q=>?_,N.2,h.pb⟩
 rw[<-h.s ((Nl hl).2 Q),Aiq,JT (fun d E=>?_) (Nq N.2 h.pb Q)]
 ·simp
 ·rcases Aig.1 E with J|J
  ·exact N.1 d J
  ·exact hl d J
theorem UnI.right {e:Ce}(h:UnI out q a (e::b) next)(hl:∀c,c∈a->Bd e c=true):UnI out q a b (next++[e]):=by
 have Q:=AhU.1 h.pb
 refine⟨(Nk hl).symm.trans h.d,fun U=>?_,h.pa,Q.2⟩
 have N:=Nq h.pa Q.2 U
 have Y:AT (a++e::b)=e::AT (a++b):=by
  have W:=JT (c:=e) (L:=a++b) (fun d E=>by
   rcases Aig.1 E with J|J
   ·exact hl d J
   ·exact Q.1 d J) N
  rw[<-W]
  refine IN List.perm_middle (AhU.2 ⟨fun d E=>?_,N⟩)
  rcases Aig.1 E with J|J
  ·exact FK (hl d J)
  ·exact FK (Q.1 d J)
 rw[<-h.s ((Nk hl).2 U),Y]
 simp
theorem UnI.meet {d:Ce}(h:UnI out q (c::a) (d::b) next)(J:c.x=d.x)(N:c.y=d.y):¬dsj out q:=fun E=>(h.d.2 E) c (AhR ..) d (AhR ..) ⟨J,N⟩
theorem UnI.done (h:UnI out q [] [] next):dsj out q/\next=AT (out++q):=by
 have E:dsj [] []:=fun c J=>by cases J
 exact⟨h.d.1 E,by rw[<-h.s E];simp[AT]⟩
theorem Za:dsj (AT ps.flatten) q ↔ ∀p,p∈ps->dsj p q:=by
 refine⟨fun h p J c N=>h c ((Bq _).mem_iff.2 (List.mem_flatten.2 ⟨p,J,N⟩)),fun h c N=>?_⟩
 obtain⟨p,J,E⟩:=List.mem_flatten.1 ((Bq _).mem_iff.1 N)
 exact h p J c E
theorem JZ (h:ps[i]? = some q):Ev (ps.take (i+1))↔Ev (ps.take i)/\dsj (AT (ps.take i).flatten) q:=by
 unfold Ev
 rw[As h,AiE,Za]
 exact⟨fun E=>⟨E.1,fun p J=>E.2.2 p J q (AhQ.2 rfl)⟩,fun E=>⟨E.1,List.pairwise_singleton _ _,fun p J d N=>by rw[AhQ.1 N];exact E.2 p J⟩⟩
theorem Zb (i:Nat)(h:Ev ps):Ev (ps.take i):=h.sublist (List.take_sublist i ps)
open Classical in
noncomputable def unF (ps:List (List Ce)):List Ce×Bool:=if Ev ps then (AT ps.flatten,true) else ([],false)
theorem ZN {w h:Int}(e:No p=[x,y,w,h]):Uo p=(decide (10000<w)||decide (10000<h)):=by
 unfold Uo
 rw[e]
variable {s:Sh}
theorem AcI (W:TreeV t h n es)(U:IsSl v (Ae s.c))(hl:s.c.length<=1000000)(H:Hp):Gives G 86 [.m (.ag [J4 t.states,h,n]),.m (.ag (shI v s))] H (.m (.b (Cw t s))) H:=by
 have E:=fun H=>Ahd U (by omega) H
 have Q:=fun H=>has_s W U (by omega) s.m H
 obtain⟨x,y,w,Z,e⟩:=Aao s.c
 unfold Cw
 unfold QZ at E
 rw[e]at E
 rw[ZN e]
 generalize (!s.c.isEmpty&&right s.c)=b at *
 generalize YM t s.c s.m=r at *
 obtain⟨Y,er⟩:=r
 simp only[YL,JW,AhV,List.map_nil]at E Q
 refine Af rfl rfl rfl rfl rfl ?_
 cases b with
 | false=>simp (maxSteps:=2000000) (disch:=omega) [Ab,shI,cl (E _)]
 | true =>
  by_cases J:10000<w
  ·simp (maxSteps:=2000000) (disch:=omega) [Ab,shI,cl (E _),J]
  ·by_cases N:10000<Z
   ·simp (maxSteps:=2000000) (disch:=omega) [Ab,shI,cl (E _),J,N]
   ·cases Y with
    | false=>simp (maxSteps:=2000000) (disch:=omega) [Ab,shI,cl (E _),J,N,cl (Q _)]
    | true=>simp (maxSteps:=2000000) (disch:=omega) [Ab,shI,cl (E _),J,N,cl (Q _)]
def phV (r:List Ce×Int):I:=if r.2=0 then .sl (Ae r.1) else .nl 4
theorem PY {n p:Int}(E:0<=n)(J:0<p):n.tmod p=((n.toNat%p.toNat:Nat):Int):=by
 obtain⟨a,rfl⟩:=AhK E
 obtain⟨b,rfl⟩:=AhK (Int.le_of_lt J)
 rfl
theorem AcY (U:TreeV t h n es)(hv:IsSl v (Ae s.c))(hl:s.c.length<=1000000)(k:Int)(H:Hp):Gives G 48 [.m (.ag [J4 t.states,h,n]),.m (.ag (shI v s)),J0 k] H (.tu [.m (phV (phF t s k)),J0 (phF t s k).2]) H:=by
 have E:=fun H=>KO U H
 have J:=fun H=>AcI U hv hl H
 have hS:=CB U
 unfold phF
 cases hq:Bb t with
 | false =>
  rw[hq]at E
  refine Af rfl rfl rfl rfl rfl ?_
  simp (maxSteps:=2000000) (disch:=omega) [shI,cl (E _),phV]
 | true =>
 rw[hq]at E
 rw[Ahv rfl]
 by_cases hk:0<=k/\k<=10000
 rotate_left
 ·rw[Aht (fun Z=>hk Z.1)]
  refine Af rfl rfl rfl rfl rfl ?_
  by_cases h1:k<0
  ·simp (maxSteps:=2000000) (disch:=omega) [shI,cl (E _),h1,Ad,phV]
  ·have h2:10000<k:=by omega
   simp (maxSteps:=2000000) (disch:=omega) [shI,cl (E _),h1,h2,Ad,phV]
 have k1:¬k<0:=by omega
 have k2:¬10000<k:=by omega
 cases hok:Cw t s with
 | false =>
  rw[hok]at J
  rw[Aht (fun Z=>by cases Z.2)]
  refine Af rfl rfl rfl rfl rfl ?_
  simp only[shI]at J
  simp (maxSteps:=2000000) (disch:=omega) [cl (E _),k1,k2,Ad,shI,cl (J _),phV]
 | true =>
  rw[hok]at J
  rw[Ahv ⟨hk,rfl⟩]
  have Q:=Fe hS hok
  have hp:=Q.p1
  have a0:((k.toNat%s.m.1.toNat:Nat):Int)<s.m.1:=by
   have:=Nat.mod_lt k.toNat (show 0<s.m.1.toNat from by omega)
   omega
  obtain⟨p1,p2,p3,_⟩:=Q.ph _ a0
  obtain⟨x,W,N⟩:=Agb U hv (by omega) ((k.toNat%s.m.1.toNat:Nat):Int)
  unfold rnE at W N
  rw[Ahv Q.ck,Ahv (by have:=Q.p2;omega)]at W N
  rw[show (((k.toNat%s.m.1.toNat:Nat):Int)).toNat=k.toNat%s.m.1.toNat from rfl]at W N
  have gh:=fun H=>Aak W (Ca p3).2.1 H
  rw[Aht p2]at gh
  rw[p1]at N
  have ht:=PY hk.1 (show 0<s.m.1 from by omega)
  have Y:¬s.m.1=0:=by omega
  simp only[shI]at J
  unfold phV
  dsimp only
  rw[Ahv rfl]
  generalize BG (BX t (k.toNat%s.m.1.toNat) s.c).1=q at *
  generalize k.toNat%s.m.1.toNat=m at *
  refine Af rfl rfl rfl rfl rfl ?_
  simp (maxSteps:=2000000) (disch:=omega) [cl (E _),k1,k2,Ad,shI,cl (J _),ht,Y,Aa (show -9223372036854775808<=((m:Nat):Int) from by omega) (show ((m:Nat):Int)<=9223372036854775807 from by have:=Q.p2;omega),cl (N _),cl (gh _)]
theorem Oz {k:Int}(h:0<=k/\k<=7):CS k=k.toNat:=by unfold CS;omega
variable {z:I} {fs:LT}
theorem AcR (hT:TreeV t h n es)(hz:IsSl z fs)(hs:ET fs l)(x:St5):∃u,IsSl u (Ae (plF t l x).1) /\ ∀H,Gives G 28 [.m (.ag [J4 t.states,h,n]),.m z,.m (.ag (CV x))] H (.tu [.m u,J0 (plF t l x).2]) H:=by
 have U:=fun H=>KO hT H
 have hS:=CB hT
 have J:=hz.rules
 rw[hs.1]at J
 unfold plF
 cases hq:Bb t with
 | false =>
  rw[hq]at U
  refine⟨.nl 4,AS,fun H=>Af rfl rfl rfl rfl rfl ?_⟩
  simp (maxSteps:=2000000) (disch:=omega) [CV,cl (U _)]
 | true =>
 rw[hq]at U
 rw[Ahv rfl]
 by_cases h0:x.i<0
 ·rw[Aht (by omega)]
  refine⟨.nl 4,AS,fun H=>Af rfl rfl rfl rfl rfl ?_⟩
  simp (maxSteps:=2000000) (disch:=omega) [CV,cl (U _),h0]
 rw[Ahv (by omega)]
 obtain⟨i,W⟩:=AhK (show 0<=x.i by omega)
 rw[W]
 rw[show ((i:Int)).toNat=i from rfl]
 have N:¬(i:Int)<0:=by omega
 cases hx:l[i]? with
 | none =>
  have hge:=Ahx.1 hx
  refine⟨.nl 4,AS,fun H=>Af rfl rfl rfl rfl rfl ?_⟩
  simp (maxSteps:=2000000) (disch:=omega) [CV,cl (U _),W,N,J,show (l.length:Int)<=i from by omega]
 | some s =>
 have hlt:=(Ahq.1 hx).1
 obtain⟨hsl,v,hn,hv⟩:=hs.2 i s hx
 have E:¬(l.length:Int)<=i:=by omega
 have hilt':¬l.length<=i:=by omega
 dsimp only
 by_cases hk:0<=x.k/\x.k<=7
 rotate_left
 ·rw[Aht (fun hh=>hk hh.1)]
  refine⟨.nl 4,AS,fun H=>Af rfl rfl rfl rfl rfl ?_⟩
  by_cases h1:x.k<0
  ·simp (maxSteps:=2000000) (disch:=omega) [CV,cl (U _),W,N,J,E,h1]
  ·have h2:7<x.k:=by omega
   simp (maxSteps:=2000000) (disch:=omega) [CV,cl (U _),W,N,J,E,h1,h2]
 have k1:¬x.k<0:=by omega
 have k2:¬7<x.k:=by omega
 have Q:=fun H=>AcY hT hv hsl x.n H
 unfold phF at Q
 rw[Ahv hq]at Q
 by_cases Z:(0<=x.n/\x.n<=10000)/\Cw t s=true
 rotate_left
 ·rw[Aht (fun hh=>Z hh.2)]
  rw[Aht Z]at Q
  refine⟨.nl 4,AS,fun H=>Af rfl rfl rfl rfl rfl ?_⟩
  simp only[shI]at Q hn
  simp (maxSteps:=2000000) (disch:=omega) [CV,cl (U _),W,N,J,E,k1,k2,hn,cl (Q _)]
 rw[Ahv ⟨hk,Z⟩]
 rw[Ahv Z]at Q
 have hR:=Fe hS Z.2
 have a1:((x.n.toNat%s.m.1.toNat:Nat):Int)<s.m.1:=by
  have:=hR.p1
  have:=Nat.mod_lt x.n.toNat (show 0<s.m.1.toNat from by omega)
  omega
 obtain⟨r1,r2,r3,r4⟩:=Qe hR a1 x.k.toNat
 obtain⟨q,a0,_⟩:=ZR (AX (Ae (BG (BX t (x.n.toNat%s.m.1.toNat) s.c).1))) r1 x.k []
 rw[Oz hk]at a0
 have e1:=PW (Ay r1).1 a0
 have gt:∀H,Gives G 49 [J0 x.k,.m (.sl (Ae (BG (BX t (x.n.toNat%s.m.1.toNat) s.c).1)))] H (.tu [.m (.sl (Ae (tnS x.k.toNat (BG (BX t (x.n.toNat%s.m.1.toNat) s.c).1)))),J0 0]) H:=fun H=>by
  obtain⟨q',Y,g⟩:=ZR (AX (Ae (BG (BX t (x.n.toNat%s.m.1.toNat) s.c).1))) r1 x.k H
  rw[Oz hk]at Y
  rw[<-PW (Ay r1).1 Y]
  exact g
 have gh:=fun H=>Aak (AX (Ae (tnS x.k.toNat (BG (BX t (x.n.toNat%s.m.1.toNat) s.c).1)))) r2 H
 have hnn:¬tnS x.k.toNat (BG (BX t (x.n.toNat%s.m.1.toNat) s.c).1)=[]:=fun e=>r4 (by unfold Sx;rw[e];rfl)
 rw[Aht hnn]at gh
 obtain⟨u,hu,gs⟩:=Yh (AX (Ae (Sx t s (x.n.toNat%s.m.1.toNat) x.k.toNat))) r3 x.x x.y
 refine⟨u,hu,fun H=>Af rfl rfl rfl rfl rfl ?_⟩
 simp only[phV,Ahv]at Q
 unfold Sx at gs ⊢
 generalize tnS x.k.toNat (BG (BX t (x.n.toNat%s.m.1.toNat) s.c).1)=q1 at *
 generalize BG (BX t (x.n.toNat%s.m.1.toNat) s.c).1=q2 at *
 generalize BG q1=q3 at *
 generalize shF q3 x.x x.y=res at *
 simp only[shI]at Q hn
 simp (maxSteps:=2000000) (disch:=omega) [CV,cl (U _),W,N,J,E,k1,k2,hn,cl (Q _),cl (gt _),cl (gh _),cl (gs _)]
theorem UH (Y:TreeV t h n es)(W:IsSl v (Ae s.c))(hl:s.c.length<=1000000)(H:Hp):Gives G 93 [.m (.ag [J4 t.states,h,n]),.m (.ag (shI v s))] H (.m (.b (Cw t s))) H:=by
 have E:=fun H=>Ahe W (by omega) H
 have J:=fun H=>has_r Y W (by omega) s.m H
 obtain⟨x,y,w,Q,e⟩:=Aao s.c
 unfold Cw
 unfold QZ at E
 rw[e]at E
 rw[ZN e]
 generalize (!s.c.isEmpty&&right s.c)=b at *
 generalize YM t s.c s.m=r at *
 obtain⟨Z,er⟩:=r
 simp only[YL,JW,AhV,List.map_nil]at E J
 refine Af rfl rfl rfl rfl rfl ?_
 have e1:decide (w<=10000) = !decide (10000<w):=by by_cases h:10000<w <;> simp[h] <;> omega
 have e2:decide (Q<=10000) = !decide (10000<Q):=by by_cases h:10000<Q <;> simp[h] <;> omega
 cases Z with
 | false=>simp (maxSteps:=2000000) (disch:=omega) [Ab,shI,cl (E _),cl (J _)]
 | true =>
  by_cases N:er=0
  ·cases b with
   | false=>simp (maxSteps:=2000000) (disch:=omega) [Ab,shI,cl (E _),cl (J _),N]
   | true =>
    by_cases U:10000<w
    ·simp (maxSteps:=2000000) (disch:=omega) [Ab,shI,cl (E _),cl (J _),N,U,show ¬w<=10000 from by omega]
    ·simp (maxSteps:=2000000) (disch:=omega) [Ab,shI,cl (E _),cl (J _),N,U,show w<=10000 from by omega,e2]
  ·simp (maxSteps:=2000000) (disch:=omega) [Ab,shI,cl (E _),cl (J _),N]
theorem VT (U:TreeV t h n es)(Q:IsSl v (Ae s.c))(hl:s.c.length<=1000000)(N:ShipR t s)(hi:(i:Int)<s.m.1):∃x,IsSl x (Ae (BX t i s.c).1) /\ ∀H,Gives G 137 [.m (.ag [J4 t.states,h,n]),.m (.ag (shI v s)),J0 (i:Int)] H (.m x) H:=by
 obtain⟨x,J,E⟩:=Agc U Q (by omega) (i:Int)
 have W:=N.p2
 unfold rnE at J E
 rw[Ahv N.ck,Ahv (by omega)]at J E
 rw[show ((i:Int)).toNat=i from rfl]at J E
 refine⟨x,J,fun H=>Af rfl rfl rfl rfl rfl ?_⟩
 simp (maxSteps:=2000000) (disch:=omega) [shI,cl (E _)]
theorem AcZ (Q:TreeV t h n es)(hv:IsSl v (Ae s.c))(hl:s.c.length<=1000000){k:Int}(hk:0<=k/\k<=10000)(J:Cw t s=true)(H:Hp):Gives G 96 [.m (.ag [J4 t.states,h,n]),.m (.ag (shI v s)),J0 k] H (.tu [.m (zP (BG (BX t (k.toNat%s.m.1.toNat) s.c).1)),J0 0]) H:=by
 have hS:=CB Q
 have gq:=fun H=>KP Q H
 have U:=fun H=>UH Q hv hl H
 have N:=Fe hS J
 rw[N.q]at gq
 rw[J]at U
 have k1:¬k<0:=by omega
 have k2:¬10000<k:=by omega
 have hp:=N.p1
 have hp2:=N.p2
 have E:((k.toNat%s.m.1.toNat:Nat):Int)<s.m.1:=by
  have:=Nat.mod_lt k.toNat (show 0<s.m.1.toNat from by omega)
  omega
 obtain⟨p1,p2,p3,_⟩:=N.ph _ E
 obtain⟨x,hx,Y⟩:=VT Q hv hl N E
 have Z:=fun H=>VK hx (Ca p3).2.1 H
 rw[Aht p2]at Z
 have ht:=PY hk.1 (show 0<s.m.1 from by omega)
 have W:¬s.m.1=0:=by omega
 simp only[shI]at U Y
 generalize zP (BG (BX t (k.toNat%s.m.1.toNat) s.c).1)=q at *
 generalize k.toNat%s.m.1.toNat=m at *
 refine Af rfl rfl rfl rfl rfl ?_
 simp (maxSteps:=2000000) (disch:=omega) [cl (gq _),k1,k2,shI,cl (U _),ht,W,Aa (show -9223372036854775808<=((m:Nat):Int) from by omega) (show ((m:Nat):Int)<=9223372036854775807 from by omega),cl (Y _),cl (Z _)]
theorem AcH (Y:TreeV t h n es)(hv:IsSl v (Ae s.c))(hl:s.c.length<=1000000){k c:Int}(hk:0<=k/\k<=10000)(hc:0<=c/\c<=7)(E:Cw t s=true)(H:Hp):Gives G 57 [.m (.ag [J4 t.states,h,n]),.m (.ag (shI v s)),J0 k,J0 c] H (.m (zP (Sx t s (k.toNat%s.m.1.toNat) c.toNat))) H:=by
 have hS:=CB Y
 have Z:=Fe hS E
 have hp:=Z.p1
 have J:((k.toNat%s.m.1.toNat:Nat):Int)<s.m.1:=by
  have:=Nat.mod_lt k.toNat (show 0<s.m.1.toNat from by omega)
  omega
 have U:=fun H=>AcZ Y hv hl hk E H
 obtain⟨r1,r2,r3,r4⟩:=Qe Z J c.toNat
 have Q:=fun H=>Acp (Ch (BG (BX t (k.toNat%s.m.1.toNat) s.c).1)) r1 c (by omega) H
 rw[Oz hc]at Q
 have W:=fun H=>VK (Ch (tnS c.toNat (BG (BX t (k.toNat%s.m.1.toNat) s.c).1))) r2 H
 have N:¬tnS c.toNat (BG (BX t (k.toNat%s.m.1.toNat) s.c).1)=[]:=fun e=>r4 (by unfold Sx;rw[e];rfl)
 rw[Aht N]at W
 unfold Sx
 generalize zP (BG (tnS c.toNat (BG (BX t (k.toNat%s.m.1.toNat) s.c).1)))=z3 at *
 generalize zP (tnS c.toNat (BG (BX t (k.toNat%s.m.1.toNat) s.c).1))=z2 at *
 generalize zP (BG (BX t (k.toNat%s.m.1.toNat) s.c).1)=z1 at *
 simp only[shI]at U
 refine Af rfl rfl rfl rfl rfl ?_
 simp (maxSteps:=2000000) (disch:=omega) [shI,cl (U _),cl (Q _),cl (W _)]
theorem Qu (x:Int)(H:Hp):Gives G 55 [J0 x] H (.m (.b (decide (-2097152<=x/\x<=2097152)))) H:=by
 refine Af rfl rfl rfl rfl rfl ?_
 by_cases E:-2097152<=x
 ·by_cases J:x<=2097152
  ·simp (maxSteps:=2000000) (disch:=omega) [E,J]
  ·simp (maxSteps:=2000000) (disch:=omega) [E,J]
 ·simp (maxSteps:=2000000) (disch:=omega) [E]
noncomputable def ckF (t:TreeC)(l:List Sh)(x:St5):Int:=if Bb t=true then match (if 0<=x.i then l[x.i.toNat]? else none) with
  | some s=>if (0<=x.k/\x.k<=7)/\((0<=x.n/\x.n<=10000)/\Cw t s=true) then 0 else 2
  | none=>13
 else 11
set_option maxHeartbeats 2000000 in
theorem Wg (hT:TreeV t h n es)(hz:IsSl z fs)(hs:ET fs l)(x:St5)(H:Hp):Gives G 54 [.m (.ag [J4 t.states,h,n]),.m z,.m (.ag (CV x))] H (J0 (ckF t l x)) H:=by
 have Q:=fun H=>KP hT H
 have J:=hz.rules
 rw[hs.1]at J
 unfold ckF
 cases hq:Bb t with
 | false =>
  rw[hq]at Q
  refine Af rfl rfl rfl rfl rfl ?_
  simp (maxSteps:=2000000) (disch:=omega) [CV,cl (Q _)]
 | true =>
 rw[hq]at Q
 rw[Ahv rfl]
 by_cases h0:x.i<0
 ·rw[Aht (by omega)]
  refine Af rfl rfl rfl rfl rfl ?_
  simp (maxSteps:=2000000) (disch:=omega) [CV,cl (Q _),h0]
 rw[Ahv (by omega)]
 obtain⟨i,W⟩:=AhK (show 0<=x.i by omega)
 rw[W]
 rw[show ((i:Int)).toNat=i from rfl]
 have N:¬(i:Int)<0:=by omega
 cases hx:l[i]? with
 | none =>
  have hge:=Ahx.1 hx
  refine Af rfl rfl rfl rfl rfl ?_
  simp (maxSteps:=2000000) (disch:=omega) [CV,cl (Q _),W,N,J,show (l.length:Int)<=i from by omega]
 | some s =>
 have hlt:=(Ahq.1 hx).1
 obtain⟨hsl,v,Y,hv⟩:=hs.2 i s hx
 have E:¬(l.length:Int)<=i:=by omega
 have hilt':¬l.length<=i:=by omega
 have hlt':(i:Int)<l.length:=by omega
 have U:=fun H=>UH hT hv hsl H
 simp only[shI]at U Y
 dsimp only
 refine Af rfl rfl rfl rfl rfl ?_
 cases hok:Cw t s with
 | false =>
  rw[hok]at U
  rw[Aht (fun hh=>by cases hh.2.2)]
  simp (maxSteps:=2000000) (disch:=omega) [CV,cl (Q _),W,N,J,E,Y,cl (U _)]
 | true =>
  rw[hok]at U
  by_cases Z:x.n<0
  ·rw[Aht (by omega)]
   simp (maxSteps:=2000000) (disch:=omega) [CV,cl (Q _),W,N,J,E,Y,cl (U _),Z]
  by_cases h2:10000<x.n
  ·rw[Aht (by omega)]
   simp (maxSteps:=2000000) (disch:=omega) [CV,cl (Q _),W,N,J,E,Y,cl (U _),Z,h2]
  by_cases h3:x.k<0
  ·rw[Aht (by omega)]
   simp (maxSteps:=2000000) (disch:=omega) [CV,cl (Q _),W,N,J,E,Y,cl (U _),Z,h2,h3]
  by_cases h4:7<x.k
  ·rw[Aht (by omega)]
   simp (maxSteps:=2000000) (disch:=omega) [CV,cl (Q _),W,N,J,E,Y,cl (U _),Z,h2,h3,h4]
  rw[Ahv ⟨by omega,by omega,rfl⟩]
  simp (maxSteps:=2000000) (disch:=omega) [CV,cl (Q _),W,N,J,E,Y,cl (U _),Z,h2,h3,h4]
theorem AcS (hT:TreeV t h n es)(hz:IsSl z fs)(hs:ET fs l)(x:St5)(H:Hp):Gives G 30 [.m (.ag [J4 t.states,h,n]),.m z,.m (.ag (CV x))] H (.tu [.m (zP (plF t l x).1),J0 (plF t l x).2]) H:=by
 have hS:=CB hT
 have W:=fun H=>Wg hT hz hs x H
 have a0:=hz.rules
 rw[hs.1]at a0
 simp only[CV]at W
 by_cases E:ckF t l x=0
 rotate_left
 ·have e:plF t l x=([],ckF t l x):=by
   unfold ckF plF at *
   by_cases Z:Bb t=true
   ·simp only[Ahv Z]at E ⊢
    generalize (if 0<=x.i then l[x.i.toNat]? else none)=o at *
    cases o with
    | none=>rfl
    | some s =>
     dsimp only at E ⊢
     by_cases U:(0<=x.k/\x.k<=7)/\((0<=x.n/\x.n<=10000)/\Cw t s=true)
     ·rw[Ahv U]at E
      exact absurd rfl E
     ·simp only[Aht U]
   ·simp only[Aht Z]
  rw[e]
  refine Af rfl rfl rfl rfl rfl ?_
  simp (maxSteps:=2000000) (disch:=omega) [CV,cl (W _),E,zP]
 have Q:Bb t=true /\ ∃(i:Nat) (s:Sh),x.i=i/\l[i]? = some s/\(0<=x.k/\x.k<=7)/\(0<=x.n/\x.n<=10000)/\Cw t s=true/\plF t l x=shF (Sx t s (x.n.toNat%s.m.1.toNat) x.k.toNat) x.x x.y:=by
  unfold ckF at E
  unfold plF
  by_cases Z:Bb t=true
  ·rw[Ahv Z]at E ⊢
   by_cases h0:0<=x.i
   ·rw[Ahv h0]at E ⊢
    cases Y:l[x.i.toNat]? with
    | none=>rw[Y]at E;cases E
    | some s =>
     rw[Y]at E
     dsimp only at E ⊢
     by_cases U:(0<=x.k/\x.k<=7)/\((0<=x.n/\x.n<=10000)/\Cw t s=true)
     ·rw[Ahv U]
      exact⟨Z,x.i.toNat,s,by omega,Y,U.1,U.2.1,U.2.2,rfl⟩
     ·rw[Aht U]at E
      cases E
   ·rw[Aht h0]at E
    cases E
  ·rw[Aht Z]at E
   cases E
 obtain⟨hq,i,s,hi,Y,hk,hn2,Q,e⟩:=Q
 rw[e]
 rw[E]at W
 have hlt:=(Ahq.1 Y).1
 have hlt':(i:Int)<l.length:=by omega
 obtain⟨hsl,v,hn,hv⟩:=hs.2 i s Y
 have hR:=Fe hS Q
 have hp:=hR.p1
 have a1:((x.n.toNat%s.m.1.toNat:Nat):Int)<s.m.1:=by
  have:=Nat.mod_lt x.n.toNat (show 0<s.m.1.toNat from by omega)
  omega
 obtain⟨_,_,r3,_⟩:=Qe hR a1 x.k.toNat
 have gs:=fun H=>AcH hT hv hsl hn2 hk Q H
 have gsh:=fun H=>Yg (Ch (Sx t s (x.n.toNat%s.m.1.toNat) x.k.toNat)) r3 x.x x.y H
 have J:=fun H=>Qu x.x H
 have N:=fun H=>Qu x.y H
 simp only[shI]at gs hn
 generalize Sx t s (x.n.toNat%s.m.1.toNat) x.k.toNat=q at *
 refine Af rfl rfl rfl rfl rfl ?_
 by_cases hX:-2097152<=x.x/\x.x<=2097152
 rotate_left
 ·rw[AhB hX]at J
  rw[MI (fun hh=>hX hh.1)]
  simp (maxSteps:=2000000) (disch:=omega) [CV,cl (W _),cl (J _),Ad,zP]
 rw[AhA hX]at J
 by_cases hY:-2097152<=x.y/\x.y<=2097152
 rotate_left
 ·rw[AhB hY]at N
  rw[MI (fun hh=>hY hh.2)]
  simp (maxSteps:=2000000) (disch:=omega) [CV,cl (W _),cl (J _),cl (N _),Ad,zP]
 rw[AhA hY]at N
 generalize shF q x.x x.y=res at *
 generalize zP res.1=z1 at *
 generalize zP q=z2 at *
 simp only[hi]at W
 simp (maxSteps:=2000000) (disch:=omega) [CV,hi,cl (W _),cl (J _),cl (N _),Ad,a0,hn,cl (gs _),cl (gsh _)]
end Go.Mx.Tryz
