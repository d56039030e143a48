/- Equal and Syms: walked. -/
import Derived.Test.YtlhjjcaifenlbaaGreatDoorNo
import Derived.Test.YtlhjjcaifenlbaaGreatDoorTc
import Derived.Test.YtlhjjcaifenlbaaGreatDoorSz
set_option linter.unusedSimpArgs false
set_option linter.unusedVariables false
set_option linter.unusedSectionVars false
set_option maxRecDepth 100000
namespace Go.Mx.Tryz
open Go.Lib Go.Proofs
structure CaseW (zs zx:I)(fs:List (List I))(l:List Sh)(xs:List St5):Prop where
 s:IsSl zs fs
 fl:fs.length=l.length
 sv:∀(i:Nat) (s:Sh),l[i]? = some s->(s.c.length:Int)<=9223372036854775807 /\ ∃v,nth fs i=some (shI v s)/\IsSl v (Aj s.c)
 x:IsSl zx (Ca xs)
 ll:(l.length:Int)<=9223372036854775807
 lx:(xs.length:Int)<=9223372036854775807
structure CaseA (zs zx:I)(fs:List (List I))(l:List Sh)(xs:List St5):Prop where
 s:IsSl zs fs
 sv:IS fs l
 x:IsSl zx (Ca xs)
 ll:l.length<=1000000
 lx:xs.length<=1000000
def EF (s:Sh):Bool:=decide (s.c.length<=30) && !(decide (8<s.m.1)&&decide (s.m.1<=64))
def Fr (x:St5):Bool:=!(decide (20<x.n)&&decide (x.n<=10000))
def Ix (f:Bool)(l:List Sh)(xs:List St5)(gens most:Int):Bool:=l.all EF&&(xs.all Fr&&(f&&(decide (l.length<=20)&&(decide (xs.length<=20)&&((decide (gens<=24)||decide (10000<gens))&&(decide (most<=8)||decide (64<most)))))))
theorem TQ {zs zx:I}{fs:List (List I)}{l:List Sh}{xs:List St5}{f:Bool}{gens most:Int}(hW:CaseW zs zx fs l xs)(h:Ix f l xs gens most=true):CaseA zs zx fs l xs:=by
 unfold Ix at h
 simp only[Aio,Aix]at h
 obtain⟨h1,_,_,h2,h3,_⟩:=h
 refine⟨hW.s,⟨hW.fl,fun i s hi=>?_⟩,hW.x,by omega,by omega⟩
 have:=Aiw.1 h1 s (Aiu hi)
 unfold EF at this
 simp only[Aio,Aix]at this
 exact⟨by omega,(hW.sv i s hi).2⟩
set_option maxHeartbeats 4000000 in
theorem TO {t:TreeC}{h n zs zx:I}{es fs:List (List I)}{l:List Sh}{xs:List St5}(hT:TreeV t h n es)(hW:CaseW zs zx fs l xs)(gens most:Int)(H:Hp):Gives G 21 [.m (.ag [.i .i64 t.states,h,n]),.m (.ag [zs,zx,.i .i64 gens,.i .i64 most])] H (.m (.b (Ix (Vl t) l xs gens most))) H:=by
 have gf:=fun H=>AhU hT H
 have hrs:=hW.s.rules
 rw[hW.fl]at hrs
 have hrx:=hW.x.rules
 rw[EJ]at hrx
 have hll:=hW.ll
 have hlx:=hW.lx
 refine Al rfl rfl rfl rfl rfl ?_
 generalize hE:Ix (Vl t) l xs gens most=E
 unfold Ix at hE
 have f1:∀ {i:Nat} {s:Sh},l[i]? = some s->(l.drop i).all EF=(EF s&&(l.drop (i+1)).all EF):=fun {i s} hx=>by rw[(Aq hx).2];rfl
 have f2:∀ {i:Nat} {x:St5},xs[i]? = some x->(xs.drop i).all Fr=(Fr x&&(xs.drop (i+1)).all Fr):=fun {i x} hx=>by rw[(Aq hx).2];rfl
 simp (maxSteps:=2000000) (disch:=omega) [hrs]
 refine(?key:∀(i:Nat) (B:List (Nat×List V)),i<=l.length->l.all EF=(l.drop i).all EF->getB B 2=some [.m (.i .i64 t.states),.m h,.m n]->getB B 3=some [.m zs,.m zx,.m (.i .i64 gens),.m (.i .i64 most)]->Run G c21_B0 (S21_0 (.fa 2 0) (.fa 3 0) (.m (.i .i64 (l.length:Int))) (.m (.i .i64 (i:Int))) B []) _) 0 _ (AiD _) rfl rfl rfl
 refine BN (fun i:Nat=>l.length-i) fun i ih B hi hall hB2 hB=>?_
 unfold c21_B0
 cases hx:l[i]? with
 | some s =>
  have hlt:=(Ain.1 hx).1
  have hlt':(i:Int)<l.length:=by omega
  obtain⟨hsl,v,hn,hv⟩:=hW.sv i s hx
  have hrv:=hv.rules
  simp only[show (Aj s.c).length=s.c.length from by simp[Aj]]at hrv
  have wi:wr .i64 ((i:Int)+1)=((i+1:Nat):Int):=Aa (by omega) (by omega)
  have hst:=f1 hx
  simp only[shI]at hn
  have kf:EF s=false->E=false:=fun h=>by rw[<-hE,hall,hst,h];rfl
  have kt:EF s=true -> ∀B',getB B' 2=some [.m (.i .i64 t.states),.m h,.m n]->getB B' 3=some [.m zs,.m zx,.m (.i .i64 gens),.m (.i .i64 most)]->_:=fun h B'=>ih (i+1) (by omega) B' (by omega) (by rw[hall,hst,h];rfl)
  unfold EF at kf kt
  by_cases c1:s.c.length<=30
  ·by_cases c2:8<s.m.1
   ·by_cases c3:s.m.1<=64
    ·have:=kf (by rw[Aiv c2,Aiv c3];simp)
     subst this
     simp (maxSteps:=2000000) (disch:=omega) [hrs,hlt',hn,hB,hrv,show ¬30<s.c.length from by omega,show ¬(30:Int)<s.c.length from by omega,c2,c3]
    ·have k2:=kt (by rw[Aiv c1,AiE c3];simp)
     simp (maxSteps:=2000000) (disch:=omega) [hrs,hlt',hn,hB,hrv,show ¬30<s.c.length from by omega,show ¬(30:Int)<s.c.length from by omega,c2,c3,wi,-Int.natCast_add]
     exact k2 _ hB2 hB
   ·have k2:=kt (by rw[Aiv c1,AiE c2];simp)
    simp (maxSteps:=2000000) (disch:=omega) [hrs,hlt',hn,hB,hrv,show ¬30<s.c.length from by omega,show ¬(30:Int)<s.c.length from by omega,c2,wi,-Int.natCast_add]
    exact k2 _ hB2 hB
  ·have:=kf (by rw[AiE c1];simp)
   subst this
   simp (maxSteps:=2000000) (disch:=omega) [hrs,hlt',hn,hB,hrv,show (30:Int)<s.c.length from by omega]
 | none =>
  have:i=l.length:=by have:=AiC.1 hx;omega
  subst this
  clear ih hx hi
  have hall2:l.all EF=true:=by rw[hall,Ajs];rfl
  rw[hall2,Bool.true_and]at hE
  simp (maxSteps:=2000000) (disch:=omega) [hB,hrx]
  refine(?key2:∀(i:Nat) (B:List (Nat×List V)),i<=xs.length->xs.all Fr=(xs.drop i).all Fr->getB B 2=some [.m (.i .i64 t.states),.m h,.m n]->getB B 3=some [.m zs,.m zx,.m (.i .i64 gens),.m (.i .i64 most)]->Run G c21_B1 (S21_1 (.fa 2 0) (.fa 3 0) (.m (.i .i64 (xs.length:Int))) (.m (.i .i64 (i:Int))) B []) _) 0 _ (AiD _) rfl hB2 hB
  clear hall hB hB2 B
  refine BN (fun i:Nat=>xs.length-i) fun i ih B hi hall hB2 hB=>?_
  unfold c21_B1
  cases hx:xs[i]? with
  | some x =>
   have hlt:=(Ain.1 hx).1
   have hlt':(i:Int)<xs.length:=by omega
   have hn:=IQ hx
   have wi:wr .i64 ((i:Int)+1)=((i+1:Nat):Int):=Aa (by omega) (by omega)
   have hst:=f2 hx
   have kf:Fr x=false->E=false:=fun h=>by rw[<-hE,hall,hst,h];rfl
   have kt:Fr x=true -> ∀B',getB B' 2=some [.m (.i .i64 t.states),.m h,.m n]->getB B' 3=some [.m zs,.m zx,.m (.i .i64 gens),.m (.i .i64 most)]->_:=fun h B'=>ih (i+1) (by omega) B' (by omega) (by rw[hall,hst,h];rfl)
   unfold Fr at kf kt
   by_cases c2:20<x.n
   ·by_cases c3:x.n<=10000
    ·have:=kf (by rw[Aiv c2,Aiv c3];rfl)
     subst this
     simp (maxSteps:=2000000) (disch:=omega) [hrx,hlt',hn,hB,c2,c3]
    ·have k2:=kt (by rw[AiE c3];simp)
     simp (maxSteps:=2000000) (disch:=omega) [hrx,hlt',hn,hB,c2,c3,wi,-Int.natCast_add]
     exact k2 _ hB2 hB
   ·have k2:=kt (by rw[AiE c2];simp)
    simp (maxSteps:=2000000) (disch:=omega) [hrx,hlt',hn,hB,c2,wi,-Int.natCast_add]
    exact k2 _ hB2 hB
  | none =>
   have:i=xs.length:=by have:=AiC.1 hx;omega
   subst this
   clear ih hx hi
   have hall2:xs.all Fr=true:=by rw[hall,Ajs];rfl
   rw[hall2,Bool.true_and]at hE
   clear hall
   cases hf:Vl t with
   | false =>
    rw[hf]at gf hE
    have:E=false:=by rw[<-hE];rfl
    subst this
    simp (maxSteps:=2000000) (disch:=omega) [hB2,cl (gf _)]
   | true =>
   rw[hf]at gf hE
   by_cases c1:l.length<=20
   rotate_left
   ·rw[AiE c1]at hE
    have:E=false:=by rw[<-hE];rfl
    subst this
    simp (maxSteps:=2000000) (disch:=omega) [hB,hB2,cl (gf _),hrs,show ¬(l.length:Int)<=20 from by omega]
   have c1':(l.length:Int)<=20:=by omega
   by_cases c2:xs.length<=20
   rotate_left
   ·rw[AiE c2]at hE
    have:E=false:=by rw[<-hE];simp
    subst this
    simp (maxSteps:=2000000) (disch:=omega) [hB,hB2,cl (gf _),hrs,c1',hrx,show ¬(xs.length:Int)<=20 from by omega]
   have c2':(xs.length:Int)<=20:=by omega
   rw[Aiv c1,Aiv c2]at hE
   by_cases c3:gens<=24
   ·rw[Aiv c3]at hE
    by_cases c4:most<=8
    ·rw[Aiv c4]at hE
     subst hE
     simp (maxSteps:=2000000) (disch:=omega) [hB,hB2,cl (gf _),hrs,c1',hrx,c2',c3,c4]
    ·by_cases c5:64<most
     ·rw[Aiv c5]at hE
      have:E=true:=by rw[<-hE];simp
      subst this
      simp (maxSteps:=2000000) (disch:=omega) [hB,hB2,cl (gf _),hrs,c1',hrx,c2',c3,c4,c5]
     ·rw[AiE c5,AiE c4]at hE
      subst hE
      simp (maxSteps:=2000000) (disch:=omega) [hB,hB2,cl (gf _),hrs,c1',hrx,c2',c3,c4,c5]
   ·by_cases c6:10000<gens
    ·rw[Aiv c6]at hE
     by_cases c4:most<=8
     ·rw[Aiv c4]at hE
      have:E=true:=by rw[<-hE];simp
      subst this
      simp (maxSteps:=2000000) (disch:=omega) [hB,hB2,cl (gf _),hrs,c1',hrx,c2',c3,c4,c6]
     ·by_cases c5:64<most
      ·rw[Aiv c5]at hE
       have:E=true:=by rw[<-hE];simp
       subst this
       simp (maxSteps:=2000000) (disch:=omega) [hB,hB2,cl (gf _),hrs,c1',hrx,c2',c3,c4,c5,c6]
      ·rw[AiE c5,AiE c4]at hE
       have:E=false:=by rw[<-hE];simp
       subst this
       simp (maxSteps:=2000000) (disch:=omega) [hB,hB2,cl (gf _),hrs,c1',hrx,c2',c3,c4,c5,c6]
    ·rw[AiE c6,AiE c3]at hE
     have:E=false:=by rw[<-hE];rfl
     subst this
     simp (maxSteps:=2000000) (disch:=omega) [hB,hB2,cl (gf _),hrs,c1',hrx,c2',c3,c6]
theorem XP {B n:Nat}{l:List I}(hB:B<=9223372036854775807)(h:Fits Go.Proofs.Tryz.prog B (n+6) 49 l):∃(zs zx:I) (fs:List (List I)) (sl:List Sh) (xs:List St5) (gens most:Int),l=[zs,zx,.i .i64 gens,.i .i64 most]/\CaseW zs zx fs sl xs:=by
 unfold Fits at h
 rw[Go.Proofs.Tryz.underlying49]at h
 simp only[FitsF]at h
 obtain⟨x1,y1,rfl,k1,x2,y2,rfl,k2,x3,y3,rfl,k3,x4,y4,rfl,k4,rfl⟩:=h
 obtain⟨g,rfl,_⟩:=BG k3
 obtain⟨m,rfl,_⟩:=BG k4
 unfold Fits at k1 k2
 rw[Go.Proofs.Tryz.underlying26]at k1
 rw[Go.Proofs.Tryz.underlying27]at k2
 simp only at k1 k2
 have hs:∃(z:I) (fs:List (List I)) (sl:List Sh),x1=[z]/\IsSl z fs/\fs.length<=B/\fs.length=sl.length /\ ∀(i:Nat) (s:Sh),sl[i]? = some s->s.c.length<=B /\ ∃v,nth fs i=some (shI v s)/\IsSl v (Aj s.c):=by
  rcases k1 with rfl|⟨es,rfl,hle,hes⟩
  ·exact⟨_,[],[],rfl,Bc,by simp,rfl,fun i s hi=>by simp at hi⟩
  ·obtain⟨sl,h1,h2⟩:=UK fun x hx=>XL (hes x hx)
   exact⟨_,es,sl,rfl,Bp _,hle,h1,h2⟩
 have hx:∃(z:I) (xs:List St5),x2=[z]/\IsSl z (Ca xs)/\xs.length<=B:=by
  rcases k2 with rfl|⟨es,rfl,hle,hes⟩
  ·exact⟨_,[],rfl,Bc,by simp⟩
  ·obtain⟨p,rfl⟩:=UJ fun x hx=>XK (hes x hx)
   exact⟨_,p,rfl,Bp _,by simpa using hle⟩
 obtain⟨zs,fs,sl,rfl,b1,b2,b3,b4⟩:=hs
 obtain⟨zx,xs,rfl,c1,c2⟩:=hx
 exact⟨zs,zx,fs,sl,xs,g,m,rfl,⟨b1,b3,fun i s hi=>⟨by have:=(b4 i s hi).1;omega,(b4 i s hi).2⟩,c1,by omega,by omega⟩⟩
theorem AcQ:Ci Go.Proofs.Tryz.prog 49=some true:=by unfold Ci;rw[Go.Proofs.Tryz.underlying49];rfl
theorem Qm {B n:Nat}{ts:List TypeId}{us:List V}(hB:B<=9223372036854775807)(h:Do Go.Proofs.Tryz.prog B (n+6) (49::ts) us):
  ∃(zs zx:I) (fs:List (List I)) (sl:List Sh) (xs:List St5) (gens most:Int) (r:List V),us=.m (.ag [zs,zx,.i .i64 gens,.i .i64 most])::r/\CaseW zs zx fs sl xs/\Do Go.Proofs.Tryz.prog B (n+6) ts r:=by
 obtain⟨l,r,rfl,hl,h'⟩:=It h
 obtain⟨zs,zx,fs,sl,xs,g,m,rfl,hW⟩:=XP hB hl
 rw[Ty AcQ]
 exact⟨zs,zx,fs,sl,xs,g,m,r,rfl,hW,h'⟩
theorem Px {t:TreeC}(hS:BU t)(l:List Sh)(xs:List St5)(gens:Int):(Mp t l xs gens).1.length<=5000:=by
 rw[Pw]
 split
 ·exact AbZ hS _ _
 ·simp
theorem NS {t:TreeC}{p:List Ce}(hq:Bl t=true)(hr:right p=true)(ht:FC t p):Dy t p=0:=by
 unfold Dy
 rw[Air hq,Air hr,Air ((Ks (by have:=(GL hq).s2;omega) _ p rfl).2 fun c hc=>(ht c hc).2)]
theorem TC {t:TreeC}{p:List Ce}{a b:Int}(h:FC t p):FC t (p.map (mvC a b)):=fun c hc=>by
 obtain⟨d,hd,rfl⟩:=AiH.1 hc
 exact h d hd
theorem Afn {t:TreeC}{p:List Ce}{k:Nat}(h:FC t p):FC t (tnS k p):=fun c hc=>by
 obtain⟨d,hd,rfl⟩:=AiH.1 ((Bf _).mem_iff.1 hc)
 have:=h d hd
 unfold tnC
 exact this
theorem Ahu {t:TreeC}(hS:BU t){l:List Sh}{x:St5}(h:(plF t l x).2=0):Dy t (plF t l x).1=0:=by
 have hr:=(Acf hS (l:=l) (x:=x)).1
 unfold plF at h hr ⊢
 by_cases hq:Bl t=true
 rotate_left
 ·rw[Aiq hq]at h;cases h
 rw[Air hq]at h hr ⊢
 cases hx:(if 0<=x.i then l[x.i.toNat]? else none) with
 | none=>rw[hx]at h;cases h
 | some s =>
  rw[hx]at h hr
  dsimp only at h hr ⊢
  by_cases hc:(0<=x.k/\x.k<=7)/\((0<=x.n/\x.n<=10000)/\Gg t s=true)
  rotate_left
  ·rw[Aiq hc]at h;cases h
  rw[Air hc]at h hr ⊢
  have hR:=Hr hS hc.2.2
  have hlt:((x.n.toNat%s.m.1.toNat:Nat):Int)<s.m.1:=by
   have:=hR.p1
   have:=Nat.mod_lt x.n.toNat (show 0<s.m.1.toNat from by omega)
   omega
  obtain⟨_,_,h3,_⟩:=hR.ph _ hlt
  obtain⟨_,_,k3,_⟩:=TR hR hlt x.k.toNat
  refine NS hq hr ?_
  rw[(Iy k3).2 h]
  exact TC (TC (Afn (TC (BZ h3).2.2)))
theorem Py {t:TreeC}{l:List Sh}{xs:List St5}(h:ptE t l xs=0):Bl t=true/\plE t l xs=0:=by
 have hl:=IC h
 unfold ptE at h
 by_cases hq:Bl t=true
 ·rw[Air hq,Air hl]at h
  exact⟨hq,h⟩
 ·rw[Aiq hq]at h;cases h
theorem Acb {t:TreeC}{l:List Sh}{xs:List St5}(h:ptE t l xs=0){x:St5}(hx:x∈xs):ptE t l [x]=0:=by
 have hl:=IC h
 obtain⟨hq,hp⟩:=Py h
 unfold ptE
 rw[Air hq,Air ⟨hl.1,by simp⟩]
 exact PD fun y hy=>by rw[AiQ.1 hy];exact TZ hp x hx
theorem Acg {t:TreeC}(hS:BU t){l:List Sh}{xs:List St5}(h:ptE t l xs=0):∀p,p∈plP t l xs->Dy t p=0:=fun p hp=>by
 obtain⟨x,hx,rfl⟩:=AiH.1 hp
 exact Ahu hS (TZ (Py h).2 x hx)
theorem XC {t:TreeC}{ps:List (List Ce)}(hq:Bl t=true)(hc:∀p,p∈ps->Dy t p=0)(hd:CH ps)(hl:ps.flatten.length<=5000):Dy t (AR ps.flatten)=0:=by
 have hr:∀p,p∈ps->right p=true:=fun p hp=>(BZ (hc p hp)).2.1
 refine NS hq (Gh (CQ ((Cg hr).2 hd)) (fun c hm=>MH hr c ((Bf _).mem_iff.1 hm)) (by rw[Dd];exact hl)) fun c hm=>?_
 obtain⟨p,hp,hcp⟩:=AjN.1 ((Bf _).mem_iff.1 hm)
 exact(BZ (hc p hp)).2.2 c hcp
theorem MA {t:TreeC}(hq:Bl t=true):∀(k:Nat) (g:Int),Co t k g [] []=(-1,0)
 | 0,_=>rfl
 | k+1,g=>by
  have hc:Dy t []=0:=NS hq rfl fun c hc=>by cases hc
  have e:BP t []=([],0):=by rw[Kt hc,NE hq]
  rw[EI (t:=t) (ps:=[]) (w:=[]) rfl (by rw[e]) (show CH (Dw t []) from List.Pairwise.nil) (by rw[e];rfl),e]
  exact MA hq k _
theorem Uv {t:TreeC}(hS:BU t){l:List Sh}{xs:List St5}{gens:Int}(h:(Ch t l xs gens).2=0)(h0:0<=(Ch t l xs gens).1):(Ch t l xs gens).1<=gens/\1<xs.length:=by
 obtain⟨hp,hg⟩:=Hw h
 unfold Ch at h h0 ⊢
 rw[Air hp,Air hg]at h h0 ⊢
 by_cases hd:CH (plP t l xs)
 rotate_left
 ·rw[Aiq hd]
  refine⟨hg.1,Ajp fun hn=>hd ?_⟩
  match xs,hn with
  | [],_=>exact List.Pairwise.nil
  | [x],_=>exact AjM _ _
  | x::y::r,hn=>simp at hn
 rw[Air hd]at h h0 ⊢
 by_cases hb:5000<(plP t l xs).flatten.length
 ·rw[Air hb]at h;cases h
 rw[Aiq hb]at h h0 ⊢
 refine⟨?_,Ajp fun hn=>?_⟩
 ·rcases IK _ _ _ _ h with e|e <;> omega
 ·match xs,hn,h,h0 with
  | [],_,h,h0 =>
   have e:Co t gens.toNat 1 (plP t l []) (AR (plP t l []).flatten)=(-1,0):=MA (Py hp).1 _ _
   rw[e]at h0
   exact absurd h0 (by decide)
  | [x],_,h,h0 =>
   have e:AR (plP t l [x]).flatten=(plF t l x).1:=by
    show AR ((plF t l x).1++[])=_
    rw[AiV]
    exact Hq (AI (Acf hS).1).1
   rw[e]at h h0
   rcases Mz hS gens.toNat 1 (plF t l x).1 with e1|e1
   ·have h0:0<=(Co t gens.toNat 1 [(plF t l x).1] (plF t l x).1).1:=h0
    rw[e1]at h0
    exact absurd h0 (by decide)
   ·exact e1 h
  | x::y::r,hn,_,_=>simp at hn
theorem NO {t:TreeC}(hS:BU t){l:List Sh}{xs:List St5}{gens:Int}(h:(Ch t l xs gens).2=0)(h0:¬0<=(Ch t l xs gens).1):
  (∀x,x∈xs->Ch t l [x] gens=(-1,0)/\Mp t l [x] gens=((BC t gens.toNat (plF t l x).1).1,0)/\right (BC t gens.toNat (plF t l x).1).1=true)/\CH (xs.map fun x=>(BC t gens.toNat (plF t l x).1).1)/\Mp t l xs gens=(AR (xs.map fun x=>(BC t gens.toNat (plF t l x).1).1).flatten,0):=by
 obtain⟨hp,hg⟩:=Hw h
 have hcp:=Acg hS hp
 unfold Ch at h h0
 rw[Air hp,Air hg]at h h0
 by_cases hd:CH (plP t l xs)
 rotate_left
 ·rw[Aiq hd]at h0
  exact absurd (Int.le_refl 0) h0
 rw[Air hd]at h h0
 by_cases hb:5000<(plP t l xs).flatten.length
 ·rw[Air hb]at h;cases h
 rw[Aiq hb]at h h0
 have hcw:=XC (Py hp).1 hcp hd (by omega)
 have hm:Co t gens.toNat 1 (plP t l xs) (AR (plP t l xs).flatten)=(-1,0):=by
  rcases IK _ _ _ _ h with e|e
  ·exact Prod.ext e h
  ·omega
 obtain⟨a1,a2,a3,a4⟩:=IL hS _ _ _ _ (by omega) hm hcp hcw hd rfl
 have e0:((plP t l xs).map fun p=>(BC t gens.toNat p).1)=xs.map fun x=>(BC t gens.toNat (plF t l x).1).1:=by
  unfold plP
  rw[Ajy]
  rfl
 rw[e0]at a3 a4
 refine⟨fun x hx=>?_,a3,?_⟩
 ·have hm1:(plF t l x).1∈plP t l xs:=AjA (f:=fun x=>(plF t l x).1) hx
  obtain⟨b1,b2⟩:=a1 _ hm1
  have hc:=hcp _ hm1
  have hr:=(BZ hc).2.1
  have hp1:=Acb hp hx
  have hd1:CH (plP t l [x]):=AjM _ _
  have e1:(plP t l [x]).flatten=(plF t l x).1:=by
   show (plF t l x).1++[]=_
   rw[AiV]
  have e2:AR (plF t l x).1=(plF t l x).1:=Hq (AI hr).1
  have hl:=(AI hr).2.2
  refine⟨?_,?_,(BZ (Pu hS _ _ hc b1)).2.1⟩
  ·unfold Ch
   rw[Air hp1,Air hg,Air hd1,e1,Aiq (by omega),e2]
   exact b2
  ·unfold Mp
   rw[Air hp1,Hx hd1 (by rw[e1];omega),Air rfl,e1,e2]
   unfold rnE
   rw[Air hc,Air hg]
   exact Prod.ext rfl b1
 ·unfold Mp
  rw[Air hp,Hx hd hb,Air rfl]
  unfold rnE
  rw[Air hcw,Air hg]
  exact Prod.ext a4.symm a2
theorem LK.call4 {ty w:Nat}{es:List (List I)}{o:V}{H:Hp}(h:LK ty w es o H){F:Nat}{p q r:I}{x:V}(hp:G.prim F=none)(hs:G.sh F=false)(hg:∀H,Gives G F [.m p,.m q,.m (zK es),.m r] H x H):∃H2,Gives G F [.m p,.m q,o,.m r] H x H2/\(FY x=true->H2=H):=by
 have hv:Af (Mx.view 20 H) [.m p,.m q,o,.m r]=some [p,q,zK es,r]:=by
  show (Option.bind (some p) fun y=>Option.bind (Option.bind (some q) fun y=>Option.bind (Option.bind (Mx.view 20 H o) fun y=>Option.bind (some [r]) fun ys=>some (y::ys)) fun ys=>some (y::ys)) fun ys=>some (y::ys))=_
  rw[h.view 18]
  rfl
 rcases h with ⟨rfl,rfl⟩|⟨hne,q',rfl,h3⟩
 ·exact⟨H,hg H,fun _=>rfl⟩
 ·cases hf:FY x with
  | true=>exact⟨_,Ba (is:=[p,q,zK es,r]) hp hs (hg []) hv (.inr ⟨by simp[DA,FR],hf⟩),fun _=>rfl⟩
  | false =>
   have hfz:AW ([V.m p,V.m q,V.sl q' es.length w 0 es.length false,V.m r].flatMap DA) H=some (H.set q' (.cs ty w (Bj es) 0 true)):=by
    show Option.bind (nth H q') _=_
    rw[h3]
    show Option.bind (gd ((Bj es).all fun e=>e.all isM) (some (Row.cs ty w (Bj es) 0 true))) _=_
    rw[PV]
    show Option.bind (AN H q' _) _=_
    rw[AE _ _ _ (AS h3)]
    rfl
   exact⟨_,Cm (is:=[p,q,zK es,r]) hp hs (hg []) hv (by simp[DA,FR]) hf rfl hfz,fun h=>by cases h⟩
theorem UZ (xs:List St5):okE 5 (Ca xs):=fun e he=>by
 unfold Ca at he
 obtain⟨x,_,rfl⟩:=AiH.1 he
 exact⟨rfl,fun y hy=>by unfold Pq at hy;simp only[AiK,List.not_mem_nil,or_false]at hy;rcases hy with rfl|rfl|rfl|rfl|rfl <;> rfl⟩
theorem Xd {xs:List St5}{j:Nat}{x:St5}(h:xs[j]? = some x):(xs.drop j).reverse=(xs.drop (j+1)).reverse++[x]:=by
 rw[(Aq h).2]
 simp
set_option maxHeartbeats 8000000 in
theorem Rn (gw:Gives G 22 [] [] (.m (.b true)) []){t:TreeC}{h n zs zx:I}{es fs:List (List I)}{l:List Sh}{xs:List St5}{gens most:Int}(hT:TreeV t h n es)(hW:CaseW zs zx fs l xs):Gives G 9 [.m (.ag [.i .i64 t.states,h,n]),.m (.ag [zs,zx,.i .i64 gens,.i .i64 most])] [] (.m (.b true)) []:=by
 have g1:=fun H=>TO hT hW gens most H
 have hS:=Ee hT
 have gw2:∀H,Gives G 22 [] H (.m (.b true)) H:=fun H=>Ba (H:=H) (is:=[]) rfl rfl gw rfl (.inl ⟨rfl,rfl⟩)
 refine Al rfl rfl rfl rfl rfl ?_
 cases hf:Ix (Vl t) l xs gens most with
 | false =>
  rw[hf]at g1
  simp (maxSteps:=2000000) (disch:=omega) [cl (g1 _),cl gw]
 | true =>
 rw[hf]at g1
 have hA:=TQ hW hf
 clear hf hW
 have hrx:=hA.x.rules
 rw[EJ]at hrx
 have hlx:=hA.lx
 have gm:=fun H=>PO hT hA.s hA.sv hA.x hA.ll hA.lx gens H
 have gb:=fun H=>PO hT hA.s hA.sv (AaP (Ca xs.reverse)) hA.ll (by rw[List.length_reverse];exact hA.lx) gens H
 obtain⟨x,hx,gx⟩:=Xe hT hA.s hA.sv hA.x hA.ll hA.lx gens
 obtain⟨y,hy,gy⟩:=Xe hT hA.s hA.sv (AaP (Ca xs.reverse)) hA.ll (by rw[List.length_reverse];exact hA.lx) gens
 have hpm:=Rh hS (l:=l) (List.reverse_perm xs).symm gens
 have hpr:(Ch t l xs gens).2=0->Mp t l xs gens=Mp t l xs.reverse gens:=fun h0=>TW hS (List.reverse_perm xs).symm (Hw h0).1 gens
 have hl1:=Px hS l xs gens
 have hl2:=Px hS l xs.reverse gens
 have ge:=fun H=>Mq hx hy (by omega) (by omega) H
 generalize Ch t l xs gens=m1 at *
 generalize Ch t l xs.reverse gens=m2 at *
 generalize Mp t l xs gens=r1 at *
 generalize Mp t l xs.reverse gens=r2 at *
 have w0:wr .i64 ((xs.length:Int)-1)=(xs.length:Int)-1:=Aa (by omega) (by omega)
 simp (maxSteps:=2000000) (disch:=omega) [cl (g1 _),hrx,w0]
 refine(?key:∀(k j:Nat) (o:V) (B:List (Nat×List V)) (H1:Hp),j<=xs.length->j=k->LK 57 5 (Ca (xs.drop j).reverse) o H1->getB B 2=some [.m (.i .i64 t.states),.m h,.m n]->getB B 3=some [.m zs,.m zx,.m (.i .i64 gens),.m (.i .i64 most)]->Run G c9_B0 (S9_0 (.fa 2 0) (.fa 3 0) o (.m (.i .i64 ((j:Int)-1))) B H1) _) xs.length xs.length _ _ [] (Ais _) rfl (by rw[Ajs];exact LK.nil) rfl rfl
 refine BN (fun k:Nat=>k) fun k ih j o B H1 hj hjk hL hB2 hB=>?_
 unfold c9_B0
 obtain⟨hnf,-,-,-⟩:=hL.nf
 cases j with
 | succ j =>
  obtain⟨x0,hx0⟩:∃x,xs[j]? = some x:=⟨_,Aip (by omega)⟩
  have hn:=IQ hx0
  have hj1:((j+1:Nat):Int)-1=(j:Int):=by omega
  have wj:wr .i64 ((j:Int)-1)=(j:Int)-1:=Aa (by omega) (by omega)
  obtain⟨o1,H2,ha,hn1,hL1,-,-⟩:=hL.push (by omega) (b:=40) (by omega) (ys:=Ca [x0]) (by simp;omega) (UZ _)
  have e1:Ca (xs.drop (j+1)).reverse++Ca [x0]=Ca (xs.drop j).reverse:=by rw[Xd hx0];simp[Ca]
  rw[e1]at hL1
  have ha:∀B,Fi ⟨B,H1⟩ 57 5 40 o [[.m (.i .i64 x0.i),.m (.i .i64 x0.n),.m (.i .i64 x0.k),.m (.i .i64 x0.x),.m (.i .i64 x0.y)]]=some (o1,⟨B,H2⟩):=ha
  have k2:=fun B'=>ih j (by omega) j o1 B' H2 (by omega) rfl hL1
  rw[hj1]
  simp (maxSteps:=2000000) (disch:=omega) [hrx,hn,hB,Am hn1,ha,wj]
  exact k2 _ hB2 hB
 | zero =>
  clear ih
  rw[AjP]at hL
  obtain⟨H2,c1,c2⟩:=hL.call4 rfl rfl gb
  have:=c2 rfl
  subst this
  obtain⟨H3,d1,-⟩:=hL.call4 rfl rfl gy
  by_cases he:m1.2=0
  ·have he2:=hpm.1.1 he
   have hr:=hpr he
   subst hr
   have hg:=hpm.2 he
   rw[Aiv (JL.2 rfl)]at ge
   simp (maxSteps:=2000000) (disch:=omega) [hB,hB2,cl (gm _),cl c1,cl (gx _),cl d1,he,he2,hg,Ac,cl (ge _),cl (gw2 _)]
  ·have he2:¬m2.2=0:=fun hh=>he (hpm.1.2 hh)
   simp (maxSteps:=2000000) (disch:=omega) [hB,hB2,cl (gm _),cl c1,he,he2,Ac,cl (gw2 _)]
theorem IZ (gw:Gives G 22 [] [] (.m (.b true)) [])(us:List V)(h:Do Go.Proofs.Tryz.prog maxLen 8 Go.Proofs.Tryz.f9.params.toList us):Gives G 9 us [] (.m (.b true)) []:=by
 have e:Go.Proofs.Tryz.f9.params.toList=[25,49]:=by rw[Go.Proofs.Tryz.params9]
 have h:=e ▸ h
 obtain⟨t,hh,nn,es,r,rfl,hT,h1⟩:=Ql (n:=3) (by decide) h
 obtain⟨zs,zx,fs,sl,xs,g,m,r2,rfl,hW,h2⟩:=Qm (n:=2) (by decide) h1
 have:=Jz h2
 subst this
 exact Rn gw hT hW
theorem AbO {z:I}{xs:List St5}(hz:IsSl z (Ca xs)){i:Nat}{x:St5}(hx:xs[i]? = some x):∃u,IsSl u (Ca [x])/\Ap (.slc 5 true true false) [.m z,.m (.i .i64 (i:Int)),.m (.i .i64 ((i+1:Nat):Int))]=some (.m u):=by
 have hlt:=(Ain.1 hx).1
 have hl:(Ca xs).length=xs.length:=EJ xs
 refine⟨subI z i (i+1),?_,?_⟩
 ·have:=hz.sub i (i+1)
  have e:((Ca xs).drop i).take (i+1-i)=Ca [x]:=by
   rw[show i+1-i=1 from by omega]
   unfold Ca
   rw[<-List.map_drop,<-List.map_take,(Aq hx).2]
   rfl
  rw[e]at this
  exact this
 ·rw[hz.slc (by cases xs <;> rfl) rfl,AaF]
  have h1:bnd (Ca xs).length (.m (.i .i64 ((i+1:Nat):Int)))=some (i+1):=by
   show gd (Nat.ble (i+1) (Ca xs).length) (some (i+1))=_
   rw[Bb,Aiv (by omega)]
   rfl
  have h2:bnd (i+1) (.m (.i .i64 (i:Int)))=some i:=by
   show gd (Nat.ble i (i+1)) (some i)=_
   rw[Bb,Aiv (by omega)]
   rfl
  rw[h1,Ait,h2]
  rfl
set_option maxHeartbeats 8000000 in
theorem UA (gw:Gives G 22 [] [] (.m (.b true)) []){t:TreeC}{h n zs zx:I}{es fs:List (List I)}{l:List Sh}{xs:List St5}{gens most:Int}(hT:TreeV t h n es)(hW:CaseW zs zx fs l xs):Gives G 8 [.m (.ag [.i .i64 t.states,h,n]),.m (.ag [zs,zx,.i .i64 gens,.i .i64 most])] [] (.m (.b true)) []:=by
 have g1:=fun H=>TO hT hW gens most H
 have hS:=Ee hT
 have gw2:∀H,Gives G 22 [] H (.m (.b true)) H:=fun H=>Ba (H:=H) (is:=[]) rfl rfl gw rfl (.inl ⟨rfl,rfl⟩)
 refine Al rfl rfl rfl rfl rfl ?_
 cases hf:Ix (Vl t) l xs gens most with
 | false =>
  rw[hf]at g1
  simp (maxSteps:=2000000) (disch:=omega) [cl (g1 _),cl gw]
 | true =>
 rw[hf]at g1
 have hA:=TQ hW hf
 clear hf hW
 have hrx:=hA.x.rules
 rw[EJ]at hrx
 have hlx:=hA.lx
 have gm:=fun H=>PO hT hA.s hA.sv hA.x hA.ll hA.lx gens H
 by_cases he:(Ch t l xs gens).2=0
 rotate_left
 ·generalize Ch t l xs gens=m at *
  simp (maxSteps:=2000000) (disch:=omega) [cl (g1 _),cl (gm _),he,Ac,cl gw]
 by_cases h0:0<=(Ch t l xs gens).1
 ·obtain⟨k1,k2⟩:=Uv hS he h0
  rw[he]at gm
  generalize (Ch t l xs gens).1=m at *
  simp (maxSteps:=2000000) (disch:=omega) [cl (g1 _),cl (gm _),h0,k1,hrx,show (1:Int)<xs.length from by omega,Ac,cl gw]
 have hx16:=(IC (Hw he).1).2
 obtain⟨a1,a2,a3⟩:=NO hS he h0
 obtain⟨y,hy,gy⟩:=Xe hT hA.s hA.sv hA.x hA.ll hA.lx gens
 rw[a3]at hy gy
 rw[he]at gm
 generalize (Ch t l xs gens).1=m at *
 simp (maxSteps:=2000000) (disch:=omega) [cl (g1 _),cl (gm _),h0,hrx]
 generalize hrn:(fun x=>(BC t gens.toNat (plF t l x).1).1)=rn at *
 have a1:∀x,x∈xs->Ch t l [x] gens=(-1,0)/\Mp t l [x] gens=(rn x,0)/\right (rn x)=true:=by rw[<-hrn];exact a1
 refine(?key:∀(i:Nat) (us:List I) (o:V) (B:List (Nat×List V)) (H1:Hp),i<=xs.length->LR 29 us o H1 (0 <= ·)->KV us ((xs.take i).map rn)->getB B 2=some [.m (.i .i64 t.states),.m h,.m n]->getB B 3=some [.m zs,.m zx,.m (.i .i64 gens),.m (.i .i64 most)]->Run G c8_B0 (S8_0 (.fa 2 0) (.fa 3 0) o (.m (.i .i64 (xs.length:Int))) (.m (.i .i64 (i:Int))) B H1) _) 0 [] _ _ [] (AiD _) (.inl ⟨rfl,rfl⟩) ⟨rfl,fun i u q hi=>by simp at hi⟩ rfl rfl
 refine BN (fun i:Nat=>xs.length-i) fun i ih us o B H1 hi hL hP hB2 hB=>?_
 unfold c8_B0
 obtain⟨hnf,-,-,-⟩:=hL.nf
 by_cases hil:i<xs.length
 ·have hil':(i:Int)<xs.length:=by omega
  have wi:wr .i64 ((i:Int)+1)=((i+1:Nat):Int):=Aa (by omega) (by omega)
  obtain⟨x,hx⟩:∃x,xs[i]? = some x:=⟨_,Aip hil⟩
  obtain⟨b1,b2,b3⟩:=a1 x (Aiu hx)
  obtain⟨u,hu,hsl⟩:=AbO hA.x hx
  have gm1:=fun H=>PO hT hA.s hA.sv hu hA.ll (by simp) gens H
  obtain⟨z,hz,gz⟩:=Xe hT hA.s hA.sv hu hA.ll (by simp) gens
  rw[b1]at gm1
  rw[b2]at gz hz
  have hul:us.length=i:=by rw[hP.1,AiB,AiG];omega
  obtain⟨o1,H2,ha,hn1,hL2,-⟩:=hL.push (AiD _) (b:=24) (by omega) (ys:=[z]) (by simp;omega) (fun y hy=>by rw[AiQ.1 hy];exact El hz)
  have ha:∀B,Fi ⟨B,H1⟩ 29 1 24 o [[.m z]]=some (o1,⟨B,H2⟩):=ha
  have hb1:=fun c B H=>Aic hz c B H
  have hP2:KV (us++[z]) ((xs.take (i+1)).map rn):=by
   rw[Az hx,List.map_append]
   exact Mr hP hz
  have k2:=fun B'=>ih (i+1) (by omega) (us++[z]) o1 B' H2 (by omega) hL2 hP2
  simp (maxSteps:=2000000) (disch:=omega) [hil',hB,hB2,wi,hsl,Am hn1,cl (gm1 _),cl (gz _),hb1,ha,-Int.natCast_add]
  exact k2 _ hB2 hB
 ·have:i=xs.length:=by omega
  subst this
  clear ih
  rw[Ajc]at hP
  have hpr:∀p,p∈xs.map rn->right p=true:=fun p hp=>by
   obtain⟨x,hx,rfl⟩:=AiH.1 hp
   exact(a1 x hx).2.2
  have hul:us.length=xs.length:=by rw[hP.1,AiB]
  have gU:=fun H=>AaU (WN us) hP hpr (by omega) H
  rw[Afl a2]at gU
  obtain⟨H2,gV,-⟩:=hL.callF rfl rfl gU
  have hfl:=Hy (ps:=xs.map rn) fun p hp=>(AI (hpr p hp)).2.2
  rw[AiB]at hfl
  have hl1:(AR (xs.map rn).flatten).length<=1000000:=by rw[Dd];omega
  have ge:=fun H=>Mq (Ge (AR (xs.map rn).flatten)) hy hl1 hl1 H
  rw[Aiv (JL.2 rfl)]at ge
  generalize zP (AR (xs.map rn).flatten)=zz at *
  simp (maxSteps:=2000000) (disch:=omega) [hB,hB2,cl gV,cl (gy _),Ac,cl (ge _),cl (gw2 _)]
theorem KN (gw:Gives G 22 [] [] (.m (.b true)) [])(us:List V)(h:Do Go.Proofs.Tryz.prog maxLen 8 Go.Proofs.Tryz.f8.params.toList us):Gives G 8 us [] (.m (.b true)) []:=by
 have e:Go.Proofs.Tryz.f8.params.toList=[25,49]:=by rw[Go.Proofs.Tryz.params8]
 have h:=e ▸ h
 obtain⟨t,hh,nn,es,r,rfl,hT,h1⟩:=Ql (n:=3) (by decide) h
 obtain⟨zs,zx,fs,sl,xs,g,m,r2,rfl,hW,h2⟩:=Qm (n:=2) (by decide) h1
 have:=Jz h2
 subst this
 exact UA gw hT hW
end Go.Mx.Tryz
namespace Go.Mx.Tryz
open Go.Lib
theorem UD (n:Nat):List.replicate n [V.m (.i .i64 0)]=onV (iI (List.replicate n 0)):=by simp[onV,iI]
theorem NH {α:Type}(l m:List α)(j:Nat)(x:α):(l++m).set (l.length+j) x=l++m.set j x:=by
 rw[AjJ _ _ (by omega)]
 congr 2
 omega
theorem AhP (l:List Nd):InvW l (List.replicate l.length 0,[]):=⟨by simp,AiD _,fun v hv=>by
 have:=(List.mem_replicate.1 hv).2
 subst this
 exact⟨Int.le_refl _,Int.le_refl _⟩⟩
section
variable {α:Type} (H M:List α) (a b c d e x:α)
theorem nu1:nth (H++a::b::M) (H.length+1)=some b:=by rw[De];rfl
theorem nu2:nth (H++a::b::c::M) (H.length+2)=some c:=by rw[De];rfl
theorem nu3:nth (H++a::b::c::d::M) (H.length+3)=some d:=by rw[De];rfl
theorem nu4:nth (H++a::b::c::d::e::M) (H.length+4)=some e:=by rw[De];rfl
theorem su2:AN (H++a::b::c::M) (H.length+2) x=some (H++a::b::x::M):=by
 rw[AE _ _ _ (by simp),NH]
 rfl
theorem su4:AN (H++a::b::c::d::e::M) (H.length+4) x=some (H++a::b::c::d::x::M):=by
 rw[AE _ _ _ (by simp),NH]
 rfl
end
set_option maxHeartbeats 4000000 in
theorem Mt {es:List (List I)}{o:V}{H:Hp}(hv:KQ es)(hk:OkN (es.map dNd))(hel:es.length<=10000000)(hn:L2 es o H){n k:Nat}(hkl:k<es.length)(hkn:(ndU (es.map dNd) k).1<=(n:Int))(Q:V->Hp->Prop) 
  (hQ:∀eo oo H',L2 eo oo H'->KQ eo->eo.map dNd=(HA (es.map dNd) n k (List.replicate es.length 0,[])).1.2->H.length<=H'.length->(∀r,r<H.length->nth H' r=nth H r)->(∀r,AH oo=some r->H.length<=r)->Q oo H') :
  Ret G 203 [o,.m (.i .i64 (k:Int))] H Q:=by
 have hon:=hn.nf
 refine Bd mono rfl rfl rfl (by simp[hon.1]) rfl ?_
 have hL:∀m:Hp,L2 es o (H++m):=fun m=>hn.keep fun r e hr=>BL _ _ _ hr
 have hb1:es.length*8<=281474976710656:=by omega
 have hb2:es.length<=9223372036854775807:=by omega
 have w1:∀x y:V,Cb 1 [[x]] 0 0 [y]=some [[y]]:=fun _ _=>rfl
 have hcf:∀f xs,Au (.fn f xs)=some [.fn f xs]:=fun _ _=>rfl
 have hof:∀f xs,BM (.fn f xs)=true:=fun _ _=>rfl
 simp (maxSteps:=2000000) (disch:=omega) [Ab,hon.2.1,hon.2.2.2,AC,nu2,nu4,su2,su4,hb1,hb2,w1,hcf,hof]
 rw[Ao]
 have hr:=UD es.length
 rw[hr]
 let R:RwS:=⟨H.length,H.length+1,H.length+2,H.length+3,H.length+4⟩
 have hI:=AhP (es.map dNd)
 rw[AiB]at hI
 refine Yx (R:=R) hv hk hel n k (List.replicate es.length 0) [] (.m (.nl 4)) _ ⟨⟨0,by omega,AC ..⟩,hL _,⟨1,by omega,nu2 ..⟩,⟨0,by omega,nu1 ..⟩,⟨0,by omega,nu3 ..⟩,.inl ⟨rfl,rfl⟩,⟨1,by omega,nu4 ..⟩,by simp,by show H.length≠H.length+3;omega,fun r _ h=>(by cases h),fun e h=>(by simp at h)⟩ hI hkl hkn _ fun dn eo oo H2 hO hr2 hK=>?_
 obtain⟨b3,hb3,h3⟩:=hO.h3
 have h3:nth H2 (H.length+3)=some (.cs 23 1 [[oo]] b3 false):=h3
 have hoo:=hO.ho.nf
 have kk:=hQ eo oo H2 hO.ho hO.oe (by have:=congrArg Prod.snd hr2;exact this.symm) (by have:=hK.1;simp at this;omega) (fun r hr=>by
   rw[hK.2.1 r (by simp;omega) (by show r≠H.length+1;omega) (by show r≠H.length+3;omega) (by simp[AH])]
   exact BL _ _ _ hr) fun r hr=>by
   rcases hK.2.2 r hr with h|h
   ·cases h
   ·simp at h;omega
 simp (maxSteps:=2000000) (disch:=omega) [Ab,h3,hb3,Am hoo.1]
 exact⟨hoo.1,kk⟩
end Go.Mx.Tryz
namespace Go.Mx.Tryz
theorem PX:∀ {l:List Nd} {x:Nd} {k:Nat},l.idxOf? x=some k->l[k]? = some x
 | [],x,k,h=>by simp at h
 | y::r,x,k,h=>by
  rw[List.idxOf?_cons]at h
  by_cases e:y=x
  ·subst e
   simp at h
   subst h
   rfl
  ·rw[Aiq (by simpa using e)]at h
   cases hr:r.idxOf? x with
   | none=>rw[hr]at h;cases h
   | some j =>
    rw[hr]at h
    simp at h
    subst h
    simpa using PX hr
theorem Qo (l:List Nd)(x:Nd):(EL l x).1[(EL l x).2]? = some x:=by
 unfold EL
 split
 ·rename_i k h
  exact PX h
 ·simp
theorem Ya {l:List Nd}{x y:Nd}{j:Nat}(h:l[j]? = some y):(EL l x).1[j]? = some y:=by
 unfold EL
 split
 ·exact h
 ·simp only
  rw[AiI (Ain.1 h).1]
  exact h
def OkR (l:List Nd):Prop:=∀i,i<l.length->1<=(ndU l i).1/\(ndU l i).1<=1000/\(ndU l i).2≠[]/\(ndU l i).2.length<=100/\(∀k,k∈(ndU l i).2 -> -1000000000<=k/\k<=1000000000)/\(1<(ndU l i).1 -> ∀k,k∈(ndU l i).2->0<=k/\k.toNat<i/\(ndU l k.toNat).1<(ndU l i).1)
def NP (to:List Int)(x:Nd):List Int:=if 1<x.1 then x.2.map (fun k=>(to[k.toNat]?).getD 0) else x.2
theorem KE (to:List Int)(x:Nd):(NP to x).length=x.2.length:=by unfold NP;split <;> simp
def stepR (st:List Nd×List Int)(x:Nd):List Nd×List Int:=((EL st.1 (x.1,NP st.2 x)).1,st.2++[((EL st.1 (x.1,NP st.2 x)).2:Int)])
def Cw (l:List Nd):Nat->List Nd×List Int
 | 0=>([],[])
 | i+1=>stepR (Cw l i) (ndU l i)
structure BIv (l:List Nd)(i:Nat)(st:List Nd×List Int):Prop where
 tl:st.2.length=i
 tv:∀j,j<i -> ∃(m:Nat) (y:Nd),st.2[j]? = some (m:Int)/\st.1[m]? = some y/\y.1=(ndU l j).1
 ok:OkN st.1
 le:st.1.length<=i
theorem Uq {l:List Nd}{i:Nat}{x:Nd}(h:l[i]? = some x):ndU l i=x:=by unfold ndU;rw[h];rfl
theorem Acq {l:List Nd}{x:Nd}(h:OkN l)(h1:1<=x.1/\x.1<=1000/\x.2≠[]/\x.2.length<=100/\(∀k,k∈x.2 -> -1000000000<=k/\k<=1000000000)/\(1<x.1 -> ∀k,k∈x.2->0<=k/\k.toNat<l.length/\(ndU l k.toNat).1<x.1)):OkN (EL l x).1:=by
 unfold EL
 split
 ·exact h
 ·simp only
  have hold:∀j,j<l.length->ndU (l++[x]) j=ndU l j:=fun j hj=>by unfold ndU;rw[AiI hj]
  intro i hi
  rw[AiA,Ajz]at hi
  by_cases c:i<l.length
  ·obtain⟨a1,a2,a3,a4,a5,a6⟩:=h i c
   rw[hold i c]
   refine⟨a1,a2,a3,a4,a5,fun hl k hk=>?_⟩
   obtain⟨b1,b2,b3⟩:=a6 hl k hk
   rw[hold _ b2]
   exact⟨b1,by rw[AiA];omega,b3⟩
  ·have:i=l.length:=by omega
   subst this
   have e:ndU (l++[x]) l.length=x:=by unfold ndU;simp
   rw[e]
   obtain⟨a1,a2,a3,a4,a5,a6⟩:=h1
   refine⟨a1,a2,a3,a4,a5,fun hl k hk=>?_⟩
   obtain⟨b1,b2,b3⟩:=a6 hl k hk
   rw[hold _ b2]
   exact⟨b1,by rw[AiA];omega,b3⟩
theorem Uw {l:List Nd}{i:Nat}{st:List Nd×List Int}(hr:OkR l)(hi:i<l.length)(h:BIv l i st)(hl:l.length<=10000000):(∀k,k∈NP st.2 (ndU l i) -> -1000000000<=k/\k<=1000000000)/\(1<(ndU l i).1 -> ∀k,k∈NP st.2 (ndU l i)->0<=k/\k.toNat<st.1.length/\(ndU st.1 k.toNat).1<(ndU l i).1):=by
 obtain⟨a1,a2,a3,a4,a5,a6⟩:=hr i hi
 have key:1<(ndU l i).1 -> ∀k,k∈NP st.2 (ndU l i)->0<=k/\k.toNat<st.1.length/\(ndU st.1 k.toNat).1<(ndU l i).1:=fun h1 k hk=>by
  unfold NP at hk
  rw[Air h1]at hk
  obtain⟨q,hq,rfl⟩:=AiH.1 hk
  obtain⟨b1,b2,b3⟩:=a6 h1 q hq
  obtain⟨m,y,c1,c2,c3⟩:=h.tv q.toNat b2
  rw[c1]
  simp only[Option.getD_some,Int.toNat_natCast]
  refine⟨by omega,(Ain.1 c2).1,?_⟩
  rw[Uq c2,c3]
  exact b3
 refine⟨fun k hk=>?_,key⟩
 by_cases h1:1<(ndU l i).1
 ·obtain⟨b1,b2,_⟩:=key h1 k hk
  have:=h.le
  omega
 ·unfold NP at hk
  rw[Aiq h1]at hk
  exact a5 k hk
theorem XX {l:List Nd}{i:Nat}{st:List Nd×List Int}(hr:OkR l)(hi:i<l.length)(h:BIv l i st)(hl:l.length<=10000000):BIv l (i+1) (stepR st (ndU l i)):=by
 obtain⟨a1,a2,a3,a4,a5,a6⟩:=hr i hi
 obtain⟨m1,m2⟩:=Uw hr hi h hl
 refine⟨by show (st.2++_).length=_;simp[h.tl],fun j hj=>?_,Acq h.ok ⟨a1,a2,fun e=>a3 ?_,by rw[KE];exact a4,m1,m2⟩,?_⟩
 ·by_cases c:j<i
  ·obtain⟨m,y,c1,c2,c3⟩:=h.tv j c
   refine⟨m,y,?_,Ya c2,c3⟩
   show (st.2++_)[j]? = _
   rw[AiI (by rw[h.tl];exact c)]
   exact c1
  ·have:j=i:=by omega
   subst this
   refine⟨_,_,?_,Qo _ _,rfl⟩
   show (st.2++_)[j]? = _
   rw[AiX (by rw[h.tl];omega),h.tl]
   simp
 ·have:=KE st.2 (ndU l i)
  have e:NP st.2 (ndU l i)=[]:=e
  rw[e]at this
  exact List.length_eq_zero_iff.1 this.symm
 ·have:=(Qn st.1 ((ndU l i).1,NP st.2 (ndU l i))).2
  have:=h.le
  show (EL st.1 _).1.length<=_
  omega
theorem Qh {l:List Nd}(hr:OkR l)(hl:l.length<=10000000):∀i,i<=l.length->BIv l i (Cw l i)
 | 0,_=>⟨rfl,fun j hj=>by omega,fun i hi=>absurd hi (by simp[Cw]),Ais _⟩
 | i+1,h=>XX hr (by omega) (Qh hr hl i (by omega)) hl
def Xf (l:List Nd):List Nd:=(HA (Cw l l.length).1 1000 (((Cw l l.length).2[l.length-1]?).getD 0).toNat (List.replicate (Cw l l.length).1.length 0,[])).1.2
open Go.Lib
theorem su1 {α:Type}(H M:List α)(a b x:α):AN (H++a::b::M) (H.length+1) x=some (H++a::x::M):=by
 rw[AE _ _ _ (by simp),NH]
 rfl
theorem NM:∀(M c:List Int) (s:Nat) (m:Int),M.length=c.length->M[s]? = some m->(M.take s++c.drop s).set s m=M.take (s+1)++c.drop (s+1)
 | [],_,_,_,_,h=>by simp at h
 | a::M,[],_,_,h,_=>by simp at h
 | a::M,b::c,0,m,_,h=>by simp at h;subst h;simp
 | a::M,b::c,s+1,m,hl,h=>by
  have:=NM M c s m (by simpa using hl) (by simpa using h)
  simp only[List.take_succ_cons,List.drop_succ_cons,Aji,List.set_cons_succ,this]
theorem NN:∀(M c:List Int) (s:Nat),M.length=c.length->(M.take s++c.drop s)[s]? = c[s]?
 | [],[],_,_=>by simp
 | [],_::_,_,h=>by simp at h
 | a::M,[],_,h=>by simp at h
 | a::M,b::c,0,_=>by simp
 | a::M,b::c,s+1,hl=>by
  have:=NN M c s (by simpa using hl)
  simpa using this
theorem Uu (M c:List Int)(s:Nat)(h:M.length=c.length):(M.take s++c.drop s).length=c.length:=by
 rw[AiA,AiG,AiY]
 omega
theorem Ahk (l:V)(o:V)(hl:AA l=true)(ho:AA o=true)(H:Hp):Gives G 201 [l,o] H o H:=by
 refine .of_ret (Bd mono rfl rfl rfl (by simp[hl,ho]) rfl ?_)
 simp (maxSteps:=2000000) (disch:=omega) [Am ho,ho]
theorem AcK {z:I}{c:List (Int×Int)}(hz:IsSl z (AB c))(hne:c≠[])(hc:c.length<=1000000)(H:Hp):Gives G 228 [.m z] H (.sl H.length c.length 2 0 c.length false) (H++[.cs 43 2 (Bj (AB c)) 0 false]):=by
 have hl2:(AB c).length=c.length:=by simp[AB]
 rcases hz with rfl|⟨rfl,h0⟩
 ·have he:elems H (.m (.sl (AB c)))=some (Bj (AB c)):=rfl
  have hnil:DZ 4 (.m (.sl (AB c)))=some false:=rfl
  refine .of_ret (Bd mono rfl rfl rfl rfl rfl ?_)
  have ha:∀B,An (fun _ _ _=>none) ⟨B,H⟩ (.app 43 2 16) [.ls [],.m (.sl (AB c))]=some (.sl H.length c.length 2 0 c.length false,⟨B,H++[.cs 43 2 (Bj (AB c)) 0 false]⟩):=fun B=>by
   rw[Cf he]
   obtain⟨x,t,rfl⟩:=AjO hne
   show Bu ⟨B,H⟩ 43 2 16 (Bj (AB (x::t)))=_
   have hok:((Bj (AB (x::t))).all fun e=>Nat.beq e.length 2&&e.all BM)=true:=by
    rw[Aiw]
    intro e he
    unfold Bj AB at he
    rw[Ajy]at he
    obtain⟨q,_,rfl⟩:=AiH.1 he
    rfl
   rw[Cz,hok,immS_len,hl2]
   have:Nat.ble ((x::t).length*16) 140737488355328=true:=by rw[Bb];exact Aiv (by omega)
   rw[this]
   rfl
  simp[hnil,-Dl,ha]
 ·exact absurd (by simpa[AB]using h0) hne
structure RebQ (H:Hp)(l:List Nd)(i:Nat)(eb:List (List I))(ob tv:V)(Hi:Hp):Prop where
 bld:BldQ (H.length+1) H.length eb ob Hi
 lr:LR 3 (iI (Cw l i).2) tv Hi HF
 eq:eb.map dNd=(Cw l i).1
 len:H.length+2<=Hi.length
 old:∀r,r<H.length->nth Hi r=nth H r
 ro:∀r,AH ob=some r->H.length<=r
 rt:∀r,AH tv=some r->H.length<=r
set_option maxHeartbeats 4000000 in
theorem TX {es:List (List I)}{n:I}(hn:IsSl n es)(hv:KQ es)(hr:OkR (es.map dNd))(hl:es.length<=1000000)(h1:1<=es.length){S:Int}{hd:I}{c:List (Int×Int)}(hh:IsSl hd (AB c))(hcn:c≠[])(hcl:c.length<=1000){H:Hp}(Q:V->Hp->Prop) 
  (hQ:∀rh eo oo H',nth H' rh=some (.cs 43 2 (Bj (AB c)) 0 false)->L2 eo oo H'->KQ eo->eo.map dNd=Xf (es.map dNd)->H.length<=H'.length->(∀r,r<H.length->nth H' r=nth H r)->H.length<=rh->(∀r,AH oo=some r->H.length<=r)->Q (.ag [.m (.i .i64 S),.sl rh c.length 2 0 c.length false,oo]) H') :
  Ret G 200 [.m (.ag [.i .i64 S,hd,n]),.m (.fn 201 [])] H Q:=by
 have hlm:(es.map dNd).length=es.length:=AiB ..
 have rn:=hn.rules
 refine Bd mono rfl rfl rfl rfl rfl ?_
 have w1:∀x y z w:V,Cb 2 [[x,y]] 0 0 [z,w]=some [[z,w]]:=fun _ _ _ _=>rfl
 have am:∀r,Bz [V.mp r]=none:=fun _=>rfl
 have cva:∀l,Au (.ag l)=some l:=fun _=>rfl
 have omp:∀r,BM (.mp r)=true:=fun _=>rfl
 have onl:BM (.m (.nl 4))=true:=rfl
 simp (maxSteps:=2000000) (disch:=omega) [Ab,rn,nu1,su1,w1,am,cva,omp,onl]
 refine(?key:∀(i:Nat) (eb:List (List I)) (ob tv:V) (B:List (Nat×List V)) (Hi:Hp),i<=es.length->getB B 2=some [.m (.i .i64 S),.m hd,.m n]->getB B 4=some [.m (.i .i64 0),.m (.nl 4),.m (.nl 4)]->RebQ H (es.map dNd) i eb ob tv Hi ->
  Run G c200_B1 (S200_1 (.m (.fn 201 [])) (.fa 2 0) (.fa 4 0) (.pt (H.length+1) 1 0 0) tv (.m n) (.m (.i .i64 (es.length:Int))) (.m (.i .i64 (i:Int))) B Hi) _) 0 [] (.m (.nl 4)) (.m (.nl 4)) _ _ (AiD _) rfl rfl ⟨⟨⟨1,Ais _,nu1 ..⟩,AC ..,.inl ⟨rfl,rfl⟩,fun e h=>by simp at h⟩,.inl ⟨rfl,rfl⟩,rfl,by simp,fun r hr=>BL _ _ _ hr,fun r h=>(by cases h),fun r h=>(by cases h)⟩
 refine BN (fun i:Nat=>es.length-i) fun i ih eb ob tv B Hi hi hB2 hB4 hq=>?_
 have hbf:=Qh hr (by omega) i (by omega)
 obtain⟨hbld,hlr,heq,hlen,hold,hro,hrt⟩:=id hq
 have htn:=hlr.nf
 unfold c200_B1
 by_cases hie:i<es.length
 ·have hie':(i:Int)<es.length:=by omega
  obtain⟨e,he⟩:∃e,es[i]? = some e:=⟨es[i],Aip hie⟩
  obtain⟨x,z,rfl,hz⟩:=hv e (Aiu he)
  have hnd:ndU (es.map dNd) i=(x,dIn z):=by
   unfold ndU
   rw[AiL,he]
   rfl
  obtain⟨q1,q2,q3,q4,q5,q6⟩:=hr i (by omega)
  have hmo:=Uw hr (by omega) hbf (by omega)
  have hfo:Cw (es.map dNd) (i+1)=stepR (Cw (es.map dNd) i) (ndU (es.map dNd) i):=rfl
  rw[hnd]at q1 q2 q3 q4 q5 q6 hmo hfo
  simp only at q1 q2 q3 q4 q5 q6 hmo
  generalize hc:dIn z=cc at *
  have gc:=UW hz q3 (by omega) Hi
  have hne:nth es i=some [.i .i64 x,z]:=by rw[AP];exact he
  have oz:=El hz
  simp (maxSteps:=2000000) (disch:=omega) [Ab,hie',rn,hne,cl gc,oz]
  have hMl:(NP (Cw (es.map dNd) i).2 (x,cc)).length=cc.length:=KE _ _
  generalize hM:NP (Cw (es.map dNd) i).2 (x,cc)=M at hMl hmo
  refine(?key2:∀(s:Nat) (B:List (Nat×List V)) (b:Nat),s<=cc.length->b<=cc.length->getB B 2=some [.m (.i .i64 S),.m hd,.m n]->getB B 4=some [.m (.i .i64 0),.m (.nl 4),.m (.nl 4)]->getB B 8=some [.m (.i .i64 x),.m z] ->
   Run G c200_B0 (S200_0 (.m (.fn 201 [])) (.fa 2 0) (.fa 4 0) (.pt (H.length+1) 1 0 0) tv (.fa 8 0) (.sl Hi.length cc.length 1 0 cc.length false) (.m n) (.m (.i .i64 (es.length:Int))) (.m (.i .i64 (i:Int))) (.sl Hi.length cc.length 1 0 cc.length false) (.m (.i .i64 (cc.length:Int))) (.m (.i .i64 (s:Int))) B (Hi++[.cs 3 1 (onV (iI (M.take s++cc.drop s))) b false])) _) 0 _ 0 (AiD _) (AiD _) (by rw[AM];simpa using hB2) (by rw[AM];simpa using hB4) (by rw[AM];simp)
  refine BN (fun s:Nat=>cc.length-s) fun s ihs B b hs hb hB2 hB4 hB8=>?_
  unfold c200_B0
  have hdl:=Uu M cc s hMl
  by_cases hsc:s<cc.length
  ·have hsc':(s:Int)<cc.length:=by omega
   obtain⟨kd,hkd⟩:∃kd,cc[s]? = some kd:=⟨cc[s],Aip hsc⟩
   have hgd:=NN M cc s hMl
   rw[hkd]at hgd
   have hn2:=Cn (Dg hgd)
   have wi:wr .i64 ((s:Int)+1)=((s+1:Nat):Int):=Aa (by omega) (by omega)
   obtain⟨m,hm⟩:∃m,M[s]? = some m:=⟨M[s]'(by omega),Aip (by omega)⟩
   have hset:=NM M cc s m hMl hm
   by_cases hx1:1<x
   ·obtain⟨s1,s2,s3⟩:=q6 hx1 kd (Aiu hkd)
    obtain⟨kn,rfl⟩:=AiN s1
    have s2:kn<i:=s2
    obtain⟨m',y,c1,c2,c3⟩:=hbf.tv kn s2
    have hmm:m=(m':Int):=by
     have e:M[s]? = some (m':Int):=by
      rw[<-hM]
      unfold NP
      rw[Air hx1,AiL,hkd]
      show some (((Cw (es.map dNd) i).2[kn]?).getD 0)=_
      rw[c1]
      rfl
     rw[e]at hm
     exact(Ajq hm).symm
    subst hmm
    have hrd:=(hlr.keepR (H':=Hi++[.cs 3 1 (onV (iI (M.take s++cc.drop s))) b false]) fun r _ hr=>BL _ _ _ hr).rd (Dg c1)
    obtain⟨p,p1,p2,p3⟩:=hrd
    have hst:AN (onV (iI (M.take s++cc.drop s))) s [.m (.i .i64 (m':Int))]=some (onV (iI (M.take (s+1)++cc.drop (s+1)))):=by rw[Eg (by rw[Df,hdl];exact hsc),GW,hset]
    have kk:=fun B=>ihs (s+1) (by omega) B cc.length (by omega) (Ais _)
    simp (maxSteps:=2000000) (disch:=omega) [Ab,hsc',AC,As,hn2,hb,hx1,hB8,p1,p3,hst,hdl,wi]
    exact kk _ hB2 hB4 hB8
   ·have hmm:m=kd:=by
     rw[<-hM]at hm
     unfold NP at hm
     rw[Aiq hx1,hkd]at hm
     exact(Ajq hm).symm
    subst hmm
    have hsame:M.take (s+1)++cc.drop (s+1)=M.take s++cc.drop s:=by
     rw[<-hset]
     apply List.ext_getElem?
     intro j
     by_cases e:s=j
     ·subst e
      rw[AjQ (by rw[hdl];exact hsc),hgd]
     ·rw[Ajm e]
    have kk:=fun B=>ihs (s+1) (by omega) B b (by omega) hb
    rw[hsame]at kk
    simp (maxSteps:=2000000) (disch:=omega) [Ab,hsc',AC,hn2,hb,hx1,hB8,wi]
    exact kk _ hB2 hB4 hB8
  ·have:s=cc.length:=by omega
   subst this
   have hsc':¬(cc.length:Int)<cc.length:=by omega
   have hdM:M.take cc.length++cc.drop cc.length=M:=by rw[Ajs,AiV,AiJ (by omega)]
   rw[hdM]
   generalize hHs:Hi++[.cs 3 1 (onV (iI M)) b false]=Hs
   have hrow:nth Hs Hi.length=some (.cs 3 1 (onV (iI M)) b false):=by rw[<-hHs];exact De Hi _ 0
   have hold2:∀r,r<Hi.length->nth Hs r=nth Hi r:=fun r hr=>by rw[<-hHs];exact BL _ _ _ hr
   have hlenS:Hs.length=Hi.length+1:=by rw[<-hHs];simp
   have hIR:IR M (.sl Hi.length cc.length 1 0 cc.length false) Hs:=⟨Hi.length,b,false,by rw[hMl],hrow,by omega⟩
   have gr:=Ahk (.m (.i .i64 x)) (.sl Hi.length cc.length 1 0 cc.length false) rfl rfl Hs
   have hbS:BldQ (H.length+1) H.length eb ob Hs:=hbld.keep hold2
   simp (maxSteps:=2000000) (disch:=omega) [hsc',hB8,cl gr]
   rw[Ao]
   have hel:eb.length<=es.length:=by
    have h1:=congrArg List.length heq
    have h2:=hbf.le
    rw[AiB]at h1
    omega
   refine Un hbS hIR (by omega) hmo.1 (by omega) (by omega) _ fun eb2 ob2 H2 hb2 he2 hk2=>?_
   rw[heq]at he2 ⊢
   have hidl:(EL (Cw (es.map dNd) i).1 (x,M)).2<=es.length:=by
    have h1:=Qo (Cw (es.map dNd) i).1 (x,M)
    have h2:=(Ain.1 h1).1
    have h3:=(Qn (Cw (es.map dNd) i).1 (x,M)).2
    have h4:=hbf.le
    omega
   have htr:LR 3 (iI (Cw (es.map dNd) i).2) tv H2 HF:=hlr.keepR fun r e hr=>by
    have q:=hlr.row e
    have hbb:=hbld.hb
    obtain⟨_,_,hbb⟩:=hbb
    have hmm:=hbld.hm
    rw[hk2.2.1 r (by omega) (fun e1=>by subst e1;rw[hbb]at q;simp at q) (fun e1=>by subst e1;rw[hmm]at q;simp[mpR]at q) (fun e1=>by have q2:=hbld.hn.row e1;rw[q2]at q;simp at q) (fun e1=>by cases e1;omega)]
    exact hold2 r hr
   have htl:(iI (Cw (es.map dNd) i).2).length<=10000000:=by rw[Df,hbf.tl];omega
   obtain⟨tv2,H3,ga,gn,gl,gk⟩:=htr.pushN (b:=8) (by omega) (ys:=iI [((EL (Cw (es.map dNd) i).1 (x,M)).2:Int)]) (by simp only[Df,Ajz];rw[Df]at htl;omega) (Uo _)
   have hys:onV (iI [((EL (Cw (es.map dNd) i).1 (x,M)).2:Int)])=[[V.m (.i .i64 ((EL (Cw (es.map dNd) i).1 (x,M)).2:Int))]]:=rfl
   rw[hys]at ga
   rw[UE]at gl
   have hfo2:Cw (es.map dNd) (i+1)=((EL (Cw (es.map dNd) i).1 (x,M)).1,(Cw (es.map dNd) i).2++[((EL (Cw (es.map dNd) i).1 (x,M)).2:Int)]):=by rw[hfo,<-hM];rfl
   have hl2:=hk2.1
   have hne3:∀r,r<H2.length->(∀w,nth H2 r=some w -> ∀es b fz,w ≠ .cs 3 1 es b fz)->nth H3 r=nth H2 r:=fun r hr hw=>gk.2.1 r hr fun e=>by
    have q:=htr.row e
    exact hw _ q _ _ _ rfl
   have hb3:BldQ (H.length+1) H.length eb2 ob2 H3:=by
    obtain⟨⟨bb,hb0,hbb⟩,hmm,hnn,hok⟩:=id hb2
    exact⟨⟨bb,hb0,(hne3 _ (AS hbb) fun w hw _ _ _ h=>by rw[hbb]at hw;cases hw;simp at h).trans hbb⟩,(hne3 _ (AS hmm) fun w hw _ _ _ h=>by rw[hmm]at hw;cases hw;simp[mpR]at h).trans hmm,hnn.keep fun r e hr=>hne3 r hr fun w hw _ _ _ h=>by
     have q:=hnn.row e
     rw[q]at hw;cases hw;simp at h,hok⟩
   have kk:=fun B=>ih (i+1) (by omega) eb2 ob2 tv2 B H3 (by omega)
   have wi:wr .i64 ((i:Int)+1)=((i+1:Nat):Int):=Aa (by omega) (by omega)
   have kq:RebQ H (es.map dNd) (i+1) eb2 ob2 tv2 H3:=⟨hb3,by rw[hfo2];exact gl,by rw[hfo2];exact he2,by have:=gk.1;omega,fun r hr=>by
     rw[gk.2.1 r (by omega) fun e=>by have:=hrt r e;omega]
     rw[hk2.2.1 r (by omega) (by omega) (by omega) (fun e=>by have:=hro r e;omega) (fun e=>by cases e;omega),hold2 r (by omega)]
     exact hold r hr,fun r hr=>by
     rcases hk2.2.2 r hr with h|h
     ·exact hro r h
     ·omega,fun r hr=>by
     rcases gk.2.2 r hr with h|h
     ·exact hrt r h
     ·omega⟩
   simp (maxSteps:=2000000) (disch:=omega) [ga,Am gn,wi]
   exact kk _ hB2 hB4 kq
 ·have:i=es.length:=by omega
  subst this
  have hie':¬(es.length:Int)<es.length:=by omega
  obtain⟨bb,hb0,hbb⟩:=hbld.hb
  obtain⟨m,y,c1,c2,c3⟩:=hbf.tv (es.length-1) (by omega)
  obtain⟨p,p1,p2,p3⟩:=hlr.rd (Dg c1)
  have hbl:eb.length=(Cw (es.map dNd) es.length).1.length:=by rw[<-heq,AiB]
  have hml:m<eb.length:=by rw[hbl];exact(Ain.1 c2).1
  have hel:eb.length<=es.length:=by rw[hbl];exact hbf.le
  have gp:=AcK hh hcn (by omega) Hi
  have wl:wr .i64 (((Cw (es.map dNd) es.length).2.length:Int)-1)=((es.length-1:Nat):Int):=by rw[hbf.tl,Aa (by omega) (by omega)];omega
  have hno:=hbld.hn.nf
  rw[Df]at htn
  simp (maxSteps:=2000000) (disch:=omega) [Ab,hie',hB2,hbb,hb0,Aca,htn.2.2.2,wl,p1,p3,cl gp]
  rw[Ao]
  have hL:L2 eb ob (Hi++[.cs 43 2 (Bj (AB c)) 0 false]):=hbld.hn.keep fun r _ hr=>BL _ _ _ hr
  have hokN:OkN (eb.map dNd):=by rw[heq];exact hbf.ok
  have hlev:(ndU (eb.map dNd) m).1<=((1000:Nat):Int):=(hokN m (by rw[AiB];exact hml)).2.1
  refine Mt (n:=1000) hbld.ok hokN (by omega) hL hml hlev _ fun eo oo H2 h2l h2n h2e h2len h2k h2r=>?_
  have hred:eo.map dNd=Xf (es.map dNd):=by
   rw[h2e]
   unfold Xf
   rw[hlm,c1,heq,hbl]
   rfl
  have hon:=h2l.nf
  have kk:=hQ Hi.length eo oo H2 (by rw[h2k _ (by simp)];exact De Hi _ 0) h2l h2n hred (by simp at h2len;omega) (fun r hr=>by rw[h2k r (by simp;omega),BL _ _ _ (by omega)];exact hold r hr) (by omega) fun r hr=>by have:=h2r r hr;simp at this;omega
  have ams:∀(a b c d e:Nat) (f:Bool) (l:List V),Bz (.sl a b c d e f::l)=none:=fun _ _ _ _ _ _ _=>rfl
  have amm:∀(x:I) (l:List V),Bz (.m x::l)=(Bz l).bind fun r=>some (x::r):=fun _ _=>rfl
  have osl:∀(a b c d e:Nat) (f:Bool),BM (.sl a b c d e f)=true:=fun _ _ _ _ _ _=>rfl
  have oi:BM (.m (.i .i64 S))=true:=rfl
  simp (maxSteps:=2000000) (disch:=omega) [Ab,hon.2.1,hon.2.2.1,ams,amm,hB4,cva,osl,oi]
  exact kk
theorem DO {t:TreeC}(h:Bs t=true):(2<=t.states/\t.states<=8)/\CG t.hood=true/\(1<=t.nodes.length/\t.nodes.length<=4096)/\levAt t.nodes (t.nodes.length-1)=t.hood.length /\ ∀(j:Nat) n,t.nodes[j]? = some n->EH t j n=true:=by
 unfold Bs at h
 simp only[Aio,Aix]at h
 exact⟨h.1,h.2.1,h.2.2.1,h.2.2.2.1,fun j n hj=>by have:=GN t t.nodes 0 h.2.2.2.2 j n hj;rwa[Ajw]at this⟩
theorem FF {l:List (Int×Int)}(h:CG l=true):1<=l.length/\l.length<=25:=by
 unfold CG at h
 simp only[Aio,Aix]at h
 exact h.1
theorem Uy (l:List Nd)(k:Int):levAt l k=(ndU l k.toNat).1:=by
 unfold levAt ndU
 cases l[k.toNat]? <;> rfl
theorem AhB {t:TreeC}(h:Bs t=true):OkR t.nodes:=fun i hi=>by
 obtain⟨⟨h1,h2⟩,h3,_,_,h5⟩:=DO h
 have hh:=FF h3
 have hg:t.nodes[i]? = some (ndU t.nodes i):=by
  unfold ndU
  rw[Aip hi]
  rfl
 have hn:=h5 i _ hg
 unfold EH at hn
 simp only[Aio,Aix,Aiw]at hn
 obtain⟨⟨a1,a2,a3⟩,a4⟩:=hn
 have hel:∀k,k∈(ndU t.nodes i).2->0<=k /\ ¬((ndU t.nodes i).1=1/\t.states<=k) /\ ¬(1<(ndU t.nodes i).1/\((i:Int)<=k \/ ¬levAt t.nodes k=(ndU t.nodes i).1-1)):=fun k hk=>by
  have:=a4 k hk
  unfold YR at this
  simp only[Aix]at this
  exact⟨by omega,this.2.1,this.2.2⟩
 refine⟨a1,by omega,fun e=>by rw[e]at a3;simp at a3;omega,by omega,fun k hk=>?_,fun hl k hk=>?_⟩
 ·obtain⟨b1,b2,b3⟩:=hel k hk
  refine⟨by omega,?_⟩
  by_cases hl:(ndU t.nodes i).1=1
  ·have:¬t.states<=k:=fun e=>b2 ⟨hl,e⟩
   omega
  ·have:¬(i:Int)<=k:=fun e=>b3 ⟨by omega,.inl e⟩
   omega
 ·obtain⟨b1,b2,b3⟩:=hel k hk
  have c1:¬(i:Int)<=k:=fun e=>b3 ⟨hl,.inl e⟩
  have c2:levAt t.nodes k=(ndU t.nodes i).1-1:=Ajp fun e=>b3 ⟨hl,.inr e⟩
  rw[Uy]at c2
  exact⟨b1,by omega,by omega⟩
theorem Acs {es:List (List I)}(h:Qp es):KQ es:=fun e he=>by
 obtain⟨x,z,h1,h2,_⟩:=h e he
 exact⟨x,z,h1,h2⟩
theorem Acl (k:Nat)(H:Hp):∀es:List (List I),Af (fun e=>Af (view (k+1) H) e) (Bj es)=some es
 | []=>rfl
 | e::r=>by
  show Option.bind (Af (view (k+1) H) (e.map .m)) _=_
  have h:∀x:List I,Af (view (k+1) H) (x.map .m)=some x:=fun x=>by
   induction x with
   | nil=>rfl
   | cons a t ih =>
    show Option.bind (view (k+1) H (.m a)) _=_
    have:view (k+1) H (.m a)=some a:=rfl
    rw[this,Ait,ih]
    rfl
  rw[h,Ait]
  show Option.bind (Af _ (Bj r)) _=_
  rw[Acl k H r]
  rfl
theorem L2.view {es:List (List I)}{o:V}{H:Hp}(h:L2 es o H)(hne:es≠[])(k:Nat):Mx.view (k+2) H o=some (.sl es):=by
 have he:=h.elems
 rcases h with ⟨rfl,rfl⟩|⟨_,r,rfl,h3⟩
 ·exact absurd rfl hne
 ·show Option.bind (Mx.elems H (.sl r es.length 2 0 es.length false)) _=_
  rw[he]
  show Option.bind (Af (fun e=>Af (Mx.view (k+1) H) e) (Bj es)) _=_
  rw[Acl]
  rfl
set_option maxHeartbeats 4000000 in
theorem Kv {t:TreeC}{h n:I}{es:List (List I)}(hT:TreeV t h n es)(gt:∀H,Gives G 104 [.m (.ag [.i .i64 t.states,h,n])] H (.m (.b (Bs t))) H){H:Hp}(Q:V->Hp->Prop) 
  (hQ:Bs t=true -> ∀rh eo oo H',nth H' rh=some (.cs 43 2 (Bj (AB t.hood)) 0 false)->L2 eo oo H'->KQ eo->eo.map dNd=Xf t.nodes->H.length<=H'.length->(∀r,r<H.length->nth H' r=nth H r)->H.length<=rh->(∀r,AH oo=some r->H.length<=r)->Q (.ag [.m (.i .i64 t.states),.sl rh t.hood.length 2 0 t.hood.length false,oo]) H')
  (h0:Bs t=false->Q (.m (.ag [.i .i64 0,.nl 4,.nl 4])) H):Ret G 164 [.m (.ag [.i .i64 t.states,h,n])] H Q:=by
 refine Bd mono rfl rfl rfl rfl rfl ?_
 have oi:∀x:Int,BM (.m (.i .i64 x))=true:=fun _=>rfl
 have onl:BM (.m (.nl 4))=true:=rfl
 cases hok:Bs t with
 | false =>
  rw[hok]at gt
  have kk:=h0 hok
  simp (maxSteps:=2000000) (disch:=omega) [Ab,cl (gt _),Bz,oi,onl]
  exact kk
 | true =>
  rw[hok]at gt
  obtain⟨_,h3,⟨h4,h4'⟩,_,_⟩:=DO hok
  have hh:=FF h3
  have hl:=DN hT
  simp (maxSteps:=2000000) (disch:=omega) [cl (gt _),Bz]
  rw[Ao]
  have hne:t.hood≠[]:=fun e=>by rw[e]at hh;simp at hh
  have hr:=AhB hok
  rw[hT.eq]at hr
  refine TX hT.nd (Acs hT.ok) hr (by omega) (by omega) hT.hd hne (by omega) _ fun rh eo oo H' k1 k2 k3 k4 k5 k6 k7 k8=>?_
  have kk:=hQ hok rh eo oo H' k1 k2 k3 (by rw[k4,hT.eq]) k5 k6 k7 k8
  have hon:=k2.nf
  have cva:∀l,Au (.ag l)=some l:=fun _=>rfl
  have osl:∀(a b c d e:Nat) (f:Bool),BM (.sl a b c d e f)=true:=fun _ _ _ _ _ _=>rfl
  have ams:∀(a b c d e:Nat) (f:Bool) (l:List V),Bz (.sl a b c d e f::l)=none:=fun _ _ _ _ _ _ _=>rfl
  have amm:∀(x:I) (l:List V),Bz (.m x::l)=(Bz l).bind fun r=>some (x::r):=fun _ _=>rfl
  simp (maxSteps:=2000000) (disch:=omega) [Ab,cva,osl,oi,hon.2.2.1,ams,amm]
  exact kk
def atZ (l:List Int)(k:Int):Option Int:=match k with
 | .ofNat n=>nth l n
 | .negSucc _=>none
def ndZ (l:List Nd)(k:Int):Option Nd:=match k with
 | .ofNat n=>nth l n
 | .negSucc _=>none
def AcM (k:Int):Bool:=leI (-1000000000) k&&leI k 1000000000
def innZ (ns:List Nd)(to:List Int)(up:Int)(s:Nat)(o:Int):Option Int:=(ndZ ns o).bind fun y=>(nth y.2 s).bind fun w=>match ltI 2 up with
 | true=>atZ to w
 | false=>some w
def swEl (ns:List Nd)(to:List Int)(up:Int)(x:Nd)(bl:List Nd)(s:Nat)(kid:Int):Option (List Nd×Int):=match eqI x.1 up with
 | true=>(Af (innZ ns to up s) x.2).bind fun inn=>gd (inn.all AcM&&Nat.ble bl.length 100000) (some ((EL bl (up-1,inn)).1,(((EL bl (up-1,inn)).2:Nat):Int)))
 | false=>match ltI 1 x.1 with
  | true=>(atZ to kid).bind fun w=>some (bl,w)
  | false=>some (bl,kid)
def Pp (ns:List Nd)(to:List Int)(up:Int)(x:Nd):List Nd->Nat->List Int->List Int->Option (List Nd×List Int)
 | bl,_,[],acc=>some (bl,acc)
 | bl,s,kid::r,acc=>(swEl ns to up x bl s kid).bind fun p=>Pp ns to up x p.1 (s+1) r (acc++[p.2])
def Ml (ns:List Nd)(up:Int)(k:Nat)(x:Nd)(bl:List Nd)(to:List Int):Option (List Nd×List Int):=match eqI x.1 (up-1) with
 | true=>some (bl,to)
 | false=>(Pp ns to up x bl 0 x.2 []).bind fun p=>gd (p.2.all AcM&&Nat.ble p.1.length 100000) (some ((EL p.1 (x.1,p.2)).1,to.set k (((EL p.1 (x.1,p.2)).2:Nat):Int)))
def Rb (ns:List Nd)(up:Int):Nat->List Nd->List Nd->List Int->Option (List Nd×List Int)
 | _,[],bl,to=>some (bl,to)
 | k,x::r,bl,to=>(Ml ns up k x bl to).bind fun p=>Rb ns up (k+1) r p.1 p.2
def shpZ (S:Nat)(ns:List Nd):Bool:=ns.all fun x=>Nat.beq x.2.length S&&(leI 0 x.1&&leI x.1 1000&&x.2.all AcM)
theorem Qk {l:List Int}{k v:Int}(h:atZ l k=some v):∃n:Nat,k=(n:Int)/\l[n]? = some v:=by
 cases k with
 | ofNat n=>exact⟨n,rfl,by rw[<-AP];exact h⟩
 | negSucc n=>cases h
theorem PI {l:List Nd}{k:Int}{v:Nd}(h:ndZ l k=some v):∃n:Nat,k=(n:Int)/\l[n]? = some v:=by
 cases k with
 | ofNat n=>exact⟨n,rfl,by rw[<-AP];exact h⟩
 | negSucc n=>cases h
theorem YJ {d:Nat}{p:V}(h:AA p=true):nf1 d p=true:=by
 cases p with
 | fa k o=>cases h
 | _=>rfl
theorem HD {k:Int}:AcM k=true ↔ -1000000000<=k/\k<=1000000000:=by
 unfold AcM
 rw[Aio,GT,GT]
 simp
theorem optMap_get {α β:Type}{f:α->Option β}:∀ {l:List α} {m:List β},Af f l=some m->m.length=l.length /\ ∀(i:Nat) a,l[i]? = some a -> ∃b,m[i]? = some b/\f a=some b
 | [],m,h=>by
  cases h
  exact⟨rfl,fun i a h=>by simp at h⟩
 | x::r,m,h=>by
  simp only[Af,Aik,Ail]at h
  obtain⟨y,hy,t,ht,rfl⟩:=h
  obtain⟨h1,h2⟩:=optMap_get ht
  refine⟨by simp[h1],fun i a hi=>?_⟩
  cases i with
  | zero=>simp at hi;subst hi;exact⟨y,by simp,hy⟩
  | succ i=>simpa using h2 i a (by simpa using hi)
structure SwQ (H:Hp)(es:List (List I))(nv:V)(to:List Int)(eb:List (List I))(ob:V)(Hi:Hp):Prop where
 bld:BldQ (H.length+1) H.length eb ob Hi
 tor:∃b,b<=es.length/\nth Hi (H.length+2)=some (.cs 3 1 (onV (iI to)) b false)
 tl:to.length=es.length
 nd:L2 es nv Hi
 nr:∀r,AH nv=some r->r<H.length
 len:H.length+3<=Hi.length
 old:∀r,r<H.length->nth Hi r=nth H r
 ro:∀r,AH ob=some r->H.length+3<=r
theorem SwQ.keep {H:Hp}{es:List (List I)}{nv:V}{to:List Int}{eb:List (List I)}{ob:V}{Hi H':Hp}(h:SwQ H es nv to eb ob Hi)(hl:Hi.length<=H'.length)(hk:∀r,r<Hi.length->(r<H.length+3\/AH ob=some r)->nth H' r=nth Hi r):SwQ H es nv to eb ob H':=by
 obtain⟨⟨⟨b,hb0,hb⟩,hm,hn,ok⟩,⟨bt,ht0,ht⟩,tl,nd,nr,len,old,ro⟩:=h
 exact⟨⟨⟨b,hb0,by rw[hk _ (AS hb) (.inl (by omega))];exact hb⟩,by rw[hk _ (AS hm) (.inl (by omega))];exact hm,hn.keep fun r e hr=>hk r hr (.inr e),ok⟩,⟨bt,ht0,by rw[hk _ (AS ht) (.inl (by omega))];exact ht⟩,tl,nd.keep fun r e hr=>hk r hr (.inl (by have:=nr r e;omega)),nr,by omega,fun r hr=>by rw[hk r (by omega) (.inl (by omega))];exact old r hr,ro⟩
theorem SwQ.node {H:Hp}{es:List (List I)}{nv:V}{to:List Int}{eb:List (List I)}{ob:V}{Hi H2:Hp}(h:SwQ H es nv to eb ob Hi){eb2:List (List I)}{ob2 nx:V}(hb:BldQ (H.length+1) H.length eb2 ob2 H2)(hk:KpB (H.length+1) H.length ob Hi ob2 H2 nx)(hx:∀r,AH nx=some r->H.length+3<=r):SwQ H es nv to eb2 ob2 H2:=by
 obtain⟨_,⟨bt,ht0,ht⟩,tl,nd,nr,len,old,ro⟩:=h
 obtain⟨k1,k2,k3⟩:=hk
 have hr:∀r,r<H.length+3->r≠H.length+1->r≠H.length->nth H2 r=nth Hi r:=fun r h1 h2 h3=>k2 r (by omega) h2 h3 (fun e=>by have:=ro r e;omega) fun e=>by have:=hx r e;omega
 exact⟨hb,⟨bt,ht0,(hr _ (by omega) (by omega) (by omega)).trans ht⟩,tl,nd.keep fun r e _=>by have:=nr r e;exact hr r (by omega) (by omega) (by omega),nr,by omega,fun r h=>(hr r (by omega) (by omega) (by omega)).trans (old r h),fun r e=>by
  rcases k3 r e with h|h
  ·exact ro r h
  ·omega⟩
set_option maxHeartbeats 8000000 in
theorem TF {S:Nat}{es:List (List I)}{nv:V}{H:Hp}(hv:KQ es)(hnv:L2 es nv H)(hS:1<=S/\S<=20)(hsh:shpZ S (es.map dNd)=true)(hl:1<=es.length/\es.length<=100000){rh n:Nat}{i:Nat}(hi:i<n/\n<=1000){bl:List Nd}{to:List Int}(hsw:Rb (es.map dNd) ((n:Int)-i) 0 (es.map dNd) [] (List.replicate es.length 0)=some (bl,to)) 
  (hbl:OkN bl) (hbn:bl.length<=1000000) {m:Nat} (hm:to[es.length-1]? = some (m:Int)) (hmb:m<bl.length) (Q:V->Hp->Prop)
  (hQ:∀eo oo H',L2 eo oo H'->KQ eo->eo.map dNd=(HA bl 1000 m (List.replicate bl.length 0,[])).1.2->H.length<=H'.length->(∀r,r<H.length->nth H' r=nth H r)->(∀r,AH oo=some r->H.length<=r)->Q (.ag [.m (.i .i64 S),.sl rh n 2 0 n false,oo]) H') :
  Ret G 165 [.ag [.m (.i .i64 S),.sl rh n 2 0 n false,nv],.m (.i .i64 i)] H Q:=by
 have hon:=hnv.nf
 have am:∀r,Bz [V.mp r]=none:=fun _=>rfl
 have cva:∀l,Au (.ag l)=some l:=fun _=>rfl
 have omp:∀r,BM (.mp r)=true:=fun _=>rfl
 have onl:BM (.m (.nl 4))=true:=rfl
 have w1:∀x y z w:V,Cb 2 [[x,y]] 0 0 [z,w]=some [[z,w]]:=fun _ _ _ _=>rfl
 have nfa:AA (.ag [.m (.i .i64 S),.sl rh n 2 0 n false,nv])=true:=rfl
 have wu:wr .i64 ((n:Int)-i)=(n:Int)-i:=Aa (by omega) (by omega)
 have hb1:es.length*8<=281474976710656:=by omega
 refine Bd mono rfl rfl rfl rfl rfl ?_
 simp (maxSteps:=2000000) (disch:=omega) [Ad,Ab,cva,nu1,su1,w1,am,omp,onl,wu,hon.2.2.2,Am hon.1,hb1]
 have hrep:=UD es.length
 rw[hrep]
 refine(?key:∀(k:Nat) (to1:List Int) (eb:List (List I)) (ob:V) (B:List (Nat×List V)) (Hi:Hp),k<=es.length->getB B 2=some [.m (.i .i64 S),.sl rh n 2 0 n false,nv]->getB B 4=some [.m (.i .i64 0),.m (.nl 4),.m (.nl 4)]->SwQ H es nv to1 eb ob Hi ->
  Rb (es.map dNd) ((n:Int)-i) k ((es.map dNd).drop k) (eb.map dNd) to1=some (bl,to) ->
  Run G c165_B2 (S165_2 (.fa 2 0) (.fa 4 0) (.m (.i .i64 ((n:Int)-i))) (.pt (H.length+1) 1 0 0) (.sl (H.length+2) es.length 1 0 es.length true) nv (.m (.i .i64 (es.length:Int))) (.m (.i .i64 (k:Int))) B Hi) _) 0 _ [] (.m (.nl 4)) _ _ (AiD _) rfl rfl ⟨⟨⟨1,Ais _,nu1 ..⟩,AC ..,.inl ⟨rfl,rfl⟩,fun e h=>(by simp at h)⟩,⟨0,AiD _,nu2 ..⟩,by simp,hnv.keep fun r _ hr=>BL _ _ _ hr,fun r e=>hnv.row_lt e,by simp,fun r hr=>BL _ _ _ hr,fun r h=>(by cases h)⟩ hsw
 have hup:((n:Int)-i)<=1000/\1<=(n:Int)-i:=by omega
 generalize (n:Int)-i=up at hsw hup ⊢
 refine BN (fun k:Nat=>es.length-k) fun k ih to1 eb ob B Hi hk hB2 hB4 hq hR=>?_
 unfold c165_B2
 by_cases hke:k<es.length
 ·have hke':(k:Int)<es.length:=by omega
  obtain⟨e,he⟩:∃e,es[k]? = some e:=⟨es[k],Aip hke⟩
  obtain⟨x,z,rfl,hz⟩:=hv e (Aiu he)
  have hdr:(es.map dNd).drop k=(x,dIn z)::(es.map dNd).drop (k+1):=by
   have e1:(es.map dNd)[k]? = some (x,dIn z):=by rw[AiL,he];rfl
   obtain⟨hlt,e2⟩:=Ain.1 e1
   rw[AjG hlt,e2]
  have hx:=Aiw.1 hsh (x,dIn z) (by
   rw[AiH]
   exact⟨_,Aiu he,rfl⟩)
  simp only[Aio,GT,Aix]at hx
  obtain⟨x1,⟨x2,x3⟩,x4⟩:=hx
  have x1:(dIn z).length=S:=Aiz x1
  generalize hc:dIn z=cc at *
  rw[hdr]at hR
  have hR:(Ml (es.map dNd) up k (x,cc) (eb.map dNd) to1).bind (fun p=>Rb (es.map dNd) up (k+1) ((es.map dNd).drop (k+1)) p.1 p.2)=some (bl,to):=hR
  obtain⟨p,pq,p1,p2,p3,⟨p0,p4,p5,p6⟩,p7,p8,p9⟩:=hq.nd.rd he
  have oz:=El hz
  have wu1:wr .i64 (up-1)=up-1:=Aa (by omega) (by omega)
  have wk:wr .i64 ((k:Int)+1)=((k+1:Nat):Int):=Aa (by omega) (by omega)
  by_cases hx1:x=up-1
  ·have hs:Ml (es.map dNd) up k (x,cc) (eb.map dNd) to1=some (eb.map dNd,to1):=by
    unfold Ml
    rw[DL,hx1]
    simp
   rw[hs]at hR
   have kk:=fun B=>ih (k+1) (by omega) to1 eb ob B Hi (by omega)
   simp (maxSteps:=2000000) (disch:=omega) [Ab,hke',p1,YJ p2,p3,oz,wu1,hx1,wk]
   exact kk _ (by rw[AM];simpa using hB2) (by rw[AM];simpa using hB4) hq hR
  ·have hxe:eqI x (up-1)=false:=by rw[DL];simpa using hx1
   unfold Ml at hR
   simp only[hxe]at hR
   have hSb:S*8<=281474976710656:=by omega
   have rz:=hz.rules
   simp (maxSteps:=2000000) (disch:=omega) [Ad,Ab,hke',p1,YJ p2,p3,oz,hB2,wu1,hx1,hSb,rz,x1,BT]
   have hrS:=UD S
   rw[hrS]
   obtain⟨pr,hpr,hR⟩:=Aik.1 hR
   simp only[Aik,Ae,Aio,Ail]at hpr
   obtain⟨qr,hkd,⟨hqb,hql⟩,hpr⟩:=hpr
   have hqb:∀k,k∈qr.2 -> -1000000000<=k/\k<=1000000000:=fun k hk=>HD.1 (Aiw.1 hqb k hk)
   have hql:qr.1.length<=100000:=AjD hql
   refine(?key1:∀(s:Nat) (acc:List Int) (eb1:List (List I)) (ob1:V) (B:List (Nat×List V)) (b:Nat) (H1:Hp),s<=S->acc.length=s->b<=S->getB B 2=some [.m (.i .i64 S),.sl rh n 2 0 n false,nv]->getB B 4=some [.m (.i .i64 0),.m (.nl 4),.m (.nl 4)]->getB B 9=some [.m (.i .i64 x),.m z]->SwQ H es nv to1 eb1 ob1 H1 ->
    nth H1 Hi.length=some (.cs 3 1 (onV (iI (acc++List.replicate (S-s) 0))) b false)->Pp (es.map dNd) to1 up (x,cc) (eb1.map dNd) s (cc.drop s) acc=some qr ->
    Run G c165_B1 (S165_1 (.fa 2 0) (.fa 4 0) (.m (.i .i64 up)) (.pt (H.length+1) 1 0 0) (.sl (H.length+2) es.length 1 0 es.length true) (.m (.i .i64 (k:Int))) (.fa 9 0) (.sl Hi.length S 1 0 S true) nv (.m (.i .i64 (es.length:Int))) (.m (.i .i64 (k:Int))) (.m z) (.m (.i .i64 (S:Int))) (.m (.i .i64 (s:Int))) B H1) _) 0 [] eb ob _ 0 _ (AiD _) rfl (AiD _) (by rw[AM];simpa using hB2) (by rw[AM];simpa using hB4) (by rw[AM];simp) (hq.keep (by simp) fun r hr _=>BL _ _ _ hr) (De Hi _ 0) hkd
   clear hB2 hB4 p3 p5 p6 p9 p8 p2 p1 p4 p7 pq p0 p B
   refine BN (fun s:Nat=>S-s) fun s ihs acc eb1 ob1 B b H1 hs hac hb hB2 hB4 hB9 hq1 hrow hR1=>?_
   unfold c165_B1
   have hHi:=hq.len
   have hgt:Hi.length<H1.length:=AS hrow
   have hob1:∀r,AH ob1=some r->r≠Hi.length:=fun r e1 e2=>by
    subst e2
    have q:=hq1.bld.hn.row e1
    rw[hrow]at q
    simp at q
   by_cases hsS:s<S
   ·have hsS':(s:Int)<S:=by omega
    obtain⟨kd,hkd2⟩:∃kd,cc[s]? = some kd:=⟨cc[s]'(by omega),Aip (by omega)⟩
    have hcd:cc.drop s=kd::cc.drop (s+1):=by
     rw[AjG (by omega)]
     have:=(Ain.1 hkd2).2
     rw[this]
    rw[hcd]at hR1
    have hR1:(swEl (es.map dNd) to1 up (x,cc) (eb1.map dNd) s kd).bind (fun p=>Pp (es.map dNd) to1 up (x,cc) p.1 (s+1) (cc.drop (s+1)) (acc++[p.2]))=some qr:=hR1
    obtain⟨pe,hpe,hR1⟩:=Aik.1 hR1
    have hkn:nth (Cr cc) s=some [.i .i64 kd]:=by rw[AP];simp[Cr,hkd2]
    have ws:wr .i64 ((s:Int)+1)=((s+1:Nat):Int):=Aa (by omega) (by omega)
    have hal:(acc++List.replicate (S-s) 0).length=S:=by rw[AiA,List.length_replicate];omega
    have hset:∀v:Int,AN (onV (iI (acc++List.replicate (S-s) 0))) s [.m (.i .i64 v)]=some (onV (iI (acc++v::List.replicate (S-(s+1)) 0))):=fun v=>by
     rw[Eg (by rw[Df,hal];exact hsS),GW]
     congr 3
     rw[AjJ _ _ (by omega),hac,Nat.sub_self,show S-s=(S-(s+1))+1 by omega,List.replicate_succ]
     simp
    have hn0:nth (onV (iI (acc++List.replicate (S-s) 0))) s=some [.m (.i .i64 0)]:=Cn (Dg (by
     rw[AiX (by omega),hac,Nat.sub_self,List.getElem?_replicate,Air (by omega)]))
    have hkk:∀(v:Int) (eb2:List (List I)) (ob2:V) (B:List (Nat×List V)) (H2:Hp),getB B 2=some [.m (.i .i64 S),.sl rh n 2 0 n false,nv]->getB B 4=some [.m (.i .i64 0),.m (.nl 4),.m (.nl 4)]->getB B 9=some [.m (.i .i64 x),.m z]->SwQ H es nv to1 eb2 ob2 H2->pe=(eb2.map dNd,v)->(∃b,nth H2 Hi.length=some (.cs 3 1 (onV (iI (acc++List.replicate (S-s) 0))) b false))->(∀r,AH ob2=some r->r≠Hi.length)->_:=fun v eb2 ob2 B H2 h2 h4 h9 hq2 hpe ⟨b2,hrow2⟩ hob2=>ihs (s+1) (by omega) (acc++[v]) eb2 ob2 B S (H2.set Hi.length (.cs 3 1 (onV (iI (acc++v::List.replicate (S-(s+1)) 0))) S false)) (by omega) (by simp[hac]) (Ais _) h2 h4 h9 (hq2.keep (by simp) fun r hr h=>AG fun e=>by
      subst e
      rcases h with h|h
      ·omega
      ·exact hob2 _ h rfl) (by rw[Ajt];exact Be (AS hrow2)) (by rw[hpe]at hR1;exact hR1)
    by_cases hxu:x=up
    ·have hxf:eqI x up=true:=by rw[DL];simpa using hxu
     unfold swEl at hpe
     simp only[hxf,Aik,Ae,Aio,Ail]at hpe
     obtain⟨inn,hinn,⟨hib,hie⟩,hpe⟩:=hpe
     have hib:∀k,k∈inn -> -1000000000<=k/\k<=1000000000:=fun k hk=>HD.1 (Aiw.1 hib k hk)
     have hie:(eb1.map dNd).length<=100000:=AjD hie
     rw[AiB]at hie
     obtain⟨hil,hig⟩:=optMap_get hinn
     have hzl:(List.replicate S (0:Int)).length=S:=by simp
     have hSb2:S*8<=281474976710656:=by omega
     simp (maxSteps:=2000000) (disch:=omega) [Ad,Ab,hsS',rz,x1,hkn,hB9,hxu,hB2,BT,hSb2]
     rw[hrS]
     refine(?key0:∀(r:Nat) (B:List (Nat×List V)) (b0:Nat),r<=S->b0<=S->getB B 2=some [.m (.i .i64 S),.sl rh n 2 0 n false,nv]->getB B 4=some [.m (.i .i64 0),.m (.nl 4),.m (.nl 4)]->getB B 9=some [.m (.i .i64 x),.m z] ->
      Run G c165_B0 (S165_0 (.fa 2 0) (.fa 4 0) (.m (.i .i64 up)) (.pt (H.length+1) 1 0 0) (.sl (H.length+2) es.length 1 0 es.length true) (.m (.i .i64 (k:Int))) (.fa 9 0) (.sl Hi.length S 1 0 S true) (.m (.i .i64 (s:Int))) (.sl H1.length S 1 0 S true) nv (.m (.i .i64 (es.length:Int))) (.m (.i .i64 (k:Int))) (.m z) (.m (.i .i64 (S:Int))) (.m (.i .i64 (s:Int))) (.m z) (.m (.i .i64 (S:Int))) (.m (.i .i64 (r:Int))) B (H1++[.cs 3 1 (onV (iI (inn.take r++List.replicate (S-r) 0))) b0 false])) _) 0 B 0 (AiD _) (AiD _) hB2 hB4 hB9
     clear hB2 hB4 hB9 B
     refine BN (fun r:Nat=>S-r) fun r ihr B b0 hr hb0 hB2 hB4 hB9=>?_
     unfold c165_B0
     have hml:=Uu inn (List.replicate S 0) r (by rw[hil,hzl,x1])
     rw[hzl,List.drop_replicate]at hml
     have hqr:SwQ H es nv to1 eb1 ob1 (H1++[.cs 3 1 (onV (iI (inn.take r++List.replicate (S-r) 0))) b0 false]):=hq1.keep (by simp) fun q hq _=>BL _ _ _ hq
     have hq1l:=hq1.len
     by_cases hrS2:r<S
     ·have hrS2':(r:Int)<S:=by omega
      obtain⟨oth,hoth⟩:∃oth,cc[r]? = some oth:=⟨cc[r]'(by omega),Aip (by omega)⟩
      obtain⟨iv,hiv,hin⟩:=hig r oth hoth
      unfold innZ at hin
      simp only[Aik]at hin
      obtain⟨y,hy,w,hw,hin⟩:=hin
      obtain⟨on,rfl,hy1⟩:=PI hy
      rw[AiL]at hy1
      obtain⟨ey,hey,hy2⟩:=AiZ.1 hy1
      clear hy hy1
      obtain⟨yl,zy,rfl,hzy⟩:=hv ey (Aiu hey)
      have hyy:y=(yl,dIn zy):=hy2.symm
      subst hyy
      have hyl:(dIn zy).length=S:=by
       have:=Aiw.1 hsh (yl,dIn zy) (by rw[AiH];exact⟨_,Aiu hey,rfl⟩)
       simp only[Aio]at this
       exact Aiz this.1
      have hwn:nth (Cr (dIn zy)) s=some [.i .i64 w]:=by
       rw[AP]at hw ⊢
       simp only at hw
       simp[Cr,hw]
      have rzy:=hzy.rules
      have hon2:nth (Cr cc) r=some [.i .i64 (on:Int)]:=by rw[AP];simp[Cr,hoth]
      obtain⟨p,q,p1,p2,p3,_,p7,p8,p9⟩:=hqr.nd.rd hey
      have wr1:wr .i64 ((r:Int)+1)=((r+1:Nat):Int):=Aa (by omega) (by omega)
      have hmg:=NN inn (List.replicate S 0) r (by rw[hil,hzl,x1])
      rw[List.getElem?_replicate,Air hrS2,List.drop_replicate]at hmg
      have hn1:=Cn (Dg hmg)
      have hms:=NM inn (List.replicate S 0) r iv (by rw[hil,hzl,x1]) hiv
      rw[List.drop_replicate,List.drop_replicate]at hms
      have kk:=fun B b1 h=>ihr (r+1) (by omega) B b1 (by omega) h
      by_cases hu2:2<up
      ·have hlt:ltI 2 up=true:=by rw[CM];simpa using hu2
       simp only[hlt]at hin
       obtain⟨wn,rfl,hin2⟩:=Qk hin
       obtain⟨bt,ht0,ht⟩:=hqr.tor
       have hwl:wn<es.length:=by rw[<-hq1.tl];exact(Ain.1 hin2).1
       have hwl':(wn:Int)<es.length:=by omega
       have hnt:=Cn (Dg hin2)
       have ht2:∀row:Row,nth (H1++[row]) (H.length+2)=some (.cs 3 1 (onV (iI to1)) bt false):=fun row=>by
        rw[BL _ _ _ (by omega)]
        rwa[BL _ _ _ (by omega)]at ht
       have hs1:AN (onV (iI (inn.take r++List.replicate (S-r) 0))) r [.m (.i .i64 (wn:Int))]=some (onV (iI ((inn.take r++List.replicate (S-r) 0).set r (wn:Int)))):=by rw[Eg (by rw[Df,hml];exact hrS2),GW]
       have hs2:AN (onV (iI ((inn.take r++List.replicate (S-r) 0).set r (wn:Int)))) r [.m (.i .i64 iv)]=some (onV (iI (inn.take (r+1)++List.replicate (S-(r+1)) 0))):=by rw[Eg (by rw[Df,Ajd,hml];exact hrS2),GW,List.set_set,hms]
       have hn2:nth (onV (iI ((inn.take r++List.replicate (S-r) 0).set r (wn:Int)))) r=some [.m (.i .i64 (wn:Int))]:=Cn (Dg (AjQ (by rw[hml];exact hrS2)))
       have hl3:((inn.take r++List.replicate (S-r) 0).set r (wn:Int)).length=S:=by rw[Ajd,hml]
       generalize inn.take r++List.replicate (S-r) 0=D at hml hn1 hs1 hs2 hn2 hl3 p3 p9 ⊢
       generalize D.set r (wn:Int)=D1 at hs1 hs2 hn2 hl3
       simp (maxSteps:=2000000) (disch:=omega) [Ab,hrS2',rz,x1,hon2,hB2,p1,p7,p9,rzy,hyl,hwn,AC,As,hn1,hs1,hml,hu2,hn2,hl3,ht2,ht0,hnt,hs2,wr1,BT]
       exact kk _ S (Ais _) hB2 hB4 hB9
      ·have hlt:ltI 2 up=false:=by rw[CM];simpa using hu2
       simp only[hlt,Ail]at hin
       subst hin
       have hs1:AN (onV (iI (inn.take r++List.replicate (S-r) 0))) r [.m (.i .i64 w)]=some (onV (iI (inn.take (r+1)++List.replicate (S-(r+1)) 0))):=by rw[Eg (by rw[Df,hml];exact hrS2),GW,hms]
       generalize inn.take r++List.replicate (S-r) 0=D at hml hn1 hs1 p3 p9 ⊢
       simp (maxSteps:=2000000) (disch:=omega) [Ab,hrS2',rz,x1,hon2,hB2,p1,p7,p9,rzy,hyl,hwn,AC,As,hn1,hs1,hml,hu2,wr1,BT]
       exact kk _ S (Ais _) hB2 hB4 hB9
     ·have:r=S:=by omega
      subst this
      have hrS2':¬(r:Int)<r:=by omega
      have hdM:inn.take r++List.replicate (r-r) 0=inn:=by rw[Nat.sub_self,List.replicate_zero,AiV,AiJ (by omega)]
      rw[hdM]at hqr ⊢
      generalize hHs:H1++[.cs 3 1 (onV (iI inn)) b0 false]=Hs at hqr
      have hrow3:nth Hs H1.length=some (.cs 3 1 (onV (iI inn)) b0 false):=by rw[<-hHs];exact De H1 _ 0
      have hold3:∀q,q<H1.length->nth Hs q=nth H1 q:=fun q hq=>by rw[<-hHs];exact BL _ _ _ hq
      have hIR:IR inn (.sl H1.length r 1 0 r true) Hs:=⟨H1.length,b0,true,by rw[hil,x1],hrow3,by omega⟩
      simp (maxSteps:=2000000) (disch:=omega) [hrS2',wu1]
      rw[Ao]
      refine Un hqr.bld hIR (by omega) hib (by omega) (by omega) _ fun eb2 ob2 H2 hb2 he2 hk2=>?_
      have hq2:=hqr.node hb2 hk2 (fun q e=>by have e:_=q:=Ajq e;omega)
      have hlenS:Hs.length=H1.length+1:=by rw[<-hHs];simp
      have hrow4:nth H2 Hi.length=some (.cs 3 1 (onV (iI (acc++List.replicate (r-s) 0))) b false):=by
       rw[hk2.2.1 _ (by omega) (by omega) (by omega) (fun e=>hob1 _ e rfl) (fun e=>by have e:H1.length=Hi.length:=Ajq e;omega),hold3 _ hgt]
       exact hrow
      have hob2:∀q,AH ob2=some q->q≠Hi.length:=fun q e1 e2=>by
       rcases hk2.2.2 q e1 with h|h
       ·exact hob1 q h e2
       ·omega
      have hse:AN H2 Hi.length (.cs 3 1 (onV (iI (acc++(((EL (eb1.map dNd) (up-1,inn)).2:Nat):Int)::List.replicate (r-(s+1)) 0))) r false)=some (H2.set Hi.length (.cs 3 1 (onV (iI (acc++(((EL (eb1.map dNd) (up-1,inn)).2:Nat):Int)::List.replicate (r-(s+1)) 0))) r false)):=AE _ _ _ (AS hrow4)
      have kk:=fun B h2 h4 h9=>hkk (((EL (eb1.map dNd) (up-1,inn)).2:Nat):Int) eb2 ob2 B H2 h2 h4 h9 hq2 (by rw[he2];exact hpe.symm) ⟨b,hrow4⟩ hob2
      simp (maxSteps:=2000000) (disch:=omega) [Ab,hrow4,hn0,hset,hal,hse,ws]
      exact kk _ hB2 hB4 hB9
    ·have hxf:eqI x up=false:=by rw[DL];simpa using hxu
     unfold swEl at hpe
     simp only[hxf]at hpe
     by_cases hx2:1<x
     ·have hlt:ltI 1 x=true:=by rw[CM];simpa using hx2
      simp only[hlt,Aik,Ail]at hpe
      obtain⟨w,hw,hpe⟩:=hpe
      obtain⟨kn,rfl,hw2⟩:=Qk hw
      obtain⟨bt,ht0,ht⟩:=hq1.tor
      have hkl:kn<es.length:=by rw[<-hq1.tl];exact(Ain.1 hw2).1
      have hkl':(kn:Int)<es.length:=by omega
      have hnt:=Cn (Dg hw2)
      have hse:AN H1 Hi.length (.cs 3 1 (onV (iI (acc++w::List.replicate (S-(s+1)) 0))) S false)=some (H1.set Hi.length (.cs 3 1 (onV (iI (acc++w::List.replicate (S-(s+1)) 0))) S false)):=AE _ _ _ hgt
      have kk:=fun B h2 h4 h9=>hkk w eb1 ob1 B H1 h2 h4 h9 hq1 hpe.symm ⟨b,hrow⟩ hob1
      simp (maxSteps:=2000000) (disch:=omega) [Ab,hsS',rz,x1,hkn,hB9,hxu,hx2,ht,ht0,hnt,hrow,hn0,hset,hal,hse,ws,BT]
      exact kk _ hB2 hB4 hB9
     ·have hlt:ltI 1 x=false:=by rw[CM];simpa using hx2
      simp only[hlt,Ail]at hpe
      have hse:AN H1 Hi.length (.cs 3 1 (onV (iI (acc++kd::List.replicate (S-(s+1)) 0))) S false)=some (H1.set Hi.length (.cs 3 1 (onV (iI (acc++kd::List.replicate (S-(s+1)) 0))) S false)):=AE _ _ _ hgt
      have kk:=fun B h2 h4 h9=>hkk kd eb1 ob1 B H1 h2 h4 h9 hq1 hpe.symm ⟨b,hrow⟩ hob1
      simp (maxSteps:=2000000) (disch:=omega) [Ab,hsS',rz,x1,hkn,hB9,hxu,hx2,hrow,hn0,hset,hal,hse,ws,BT]
      exact kk _ hB2 hB4 hB9
   ·have:s=S:=by omega
    subst this
    have hsS':¬(s:Int)<s:=by omega
    have hcd:cc.drop s=[]:=by rw[<-x1];exact Ajs
    rw[hcd]at hR1
    have hR1:some (eb1.map dNd,acc)=some qr:=hR1
    cases hR1
    rw[Nat.sub_self,List.replicate_zero,AiV]at hrow
    rw[AiB]at hql
    have hIR:IR acc (.sl Hi.length s 1 0 s true) H1:=⟨Hi.length,b,true,by rw[hac],hrow,by omega⟩
    simp (maxSteps:=2000000) (disch:=omega) [hsS',hB9]
    rw[Ao]
    refine Un hq1.bld hIR (by omega) hqb (by omega) (by omega) _ fun eb2 ob2 H2 hb2 he2 hk2=>?_
    have hq2:=hq1.node hb2 hk2 (fun q e=>by have e:_=q:=Ajq e;omega)
    obtain⟨bt,ht0,ht⟩:=hq2.tor
    have htl:=hq2.tl
    obtain⟨v0,hv0⟩:∃v0,to1[k]? = some v0:=⟨to1[k]'(by omega),Aip (by omega)⟩
    have hn3:=Cn (Dg hv0)
    have hs3:AN (onV (iI to1)) k [.m (.i .i64 (((EL (eb1.map dNd) (x,acc)).2:Nat):Int))]=some (onV (iI (to1.set k (((EL (eb1.map dNd) (x,acc)).2:Nat):Int)))):=by rw[Eg (by rw[Df];omega),GW]
    generalize hto2:to1.set k (((EL (eb1.map dNd) (x,acc)).2:Nat):Int)=to2 at hs3
    have htl2:to2.length=es.length:=by rw[<-hto2,Ajd];exact htl
    have hse:AN H2 (H.length+2) (.cs 3 1 (onV (iI to2)) es.length false)=some (H2.set (H.length+2) (.cs 3 1 (onV (iI to2)) es.length false)):=AE _ _ _ (AS ht)
    have hq3:SwQ H es nv to2 eb2 ob2 (H2.set (H.length+2) (.cs 3 1 (onV (iI to2)) es.length false)):=by
     obtain⟨⟨⟨b5,hb50,hb5⟩,hm5,hn5,ok5⟩,_,_,nd5,nr5,len5,old5,ro5⟩:=hq2
     exact⟨⟨⟨b5,hb50,by rw[AG (by omega)];exact hb5⟩,by rw[AG (by omega)];exact hm5,hn5.keep fun q e _=>AG (by have:=ro5 q e;omega),ok5⟩,⟨es.length,Ais _,Be (AS ht)⟩,htl2,nd5.keep fun q e _=>AG (by have:=nr5 q e;omega),nr5,by simpa using len5,fun q hq=>by rw[AG (by omega)];exact old5 q hq,ro5⟩
    have hpr2:pr=(eb2.map dNd,to2):=by rw[<-hpr,he2,<-hto2]
    rw[hpr2]at hR
    have kk:=fun B h2 h4=>ih (k+1) (by omega) to2 eb2 ob2 B _ (by omega) h2 h4 hq3 hR
    simp (maxSteps:=2000000) (disch:=omega) [Ab,ht,hn3,hs3,htl,hse,wk]
    exact kk _ hB2 hB4
 ·have:k=es.length:=by omega
  subst this
  have hke':¬(es.length:Int)<es.length:=by omega
  have hdr:(es.map dNd).drop es.length=[]:=List.drop_eq_nil_of_le (by simp)
  rw[hdr]at hR
  have hR:some (eb.map dNd,to1)=some (bl,to):=hR
  cases hR
  obtain⟨bb,hb0,hbb⟩:=hq.bld.hb
  obtain⟨bt,ht0,ht⟩:=hq.tor
  have htl:=hq.tl
  have hnm:=Cn (Dg hm)
  have hno:=hq.bld.hn.nf
  rw[AiB]at hmb hbn
  have wl:wr .i64 ((es.length:Int)-1)=((es.length-1:Nat):Int):=by rw[Aa (by omega) (by omega)];omega
  have hlt:es.length-1<es.length:=by omega
  have hlt':((es.length-1:Nat):Int)<es.length:=by omega
  simp (maxSteps:=2000000) (disch:=omega) [Ab,hke',hB2,hbb,hb0,Aca,wl,ht,ht0,hnm]
  rw[Ao]
  have hlev:(ndU (eb.map dNd) m).1<=((1000:Nat):Int):=(hbl m (by rw[AiB];exact hmb)).2.1
  refine Mt (n:=1000) hq.bld.ok hbl (by omega) hq.bld.hn hmb hlev _ fun eo oo H2 h2l h2n h2e h2len h2k h2r=>?_
  have hon2:=h2l.nf
  have hql:=hq.len
  have kk:=hQ eo oo H2 h2l h2n (by rw[h2e,AiB]) (by omega) (fun r hr=>by rw[h2k r (by omega)];exact hq.old r hr) fun r hr=>by have:=h2r r hr;omega
  have ams:∀(a b c d e:Nat) (f:Bool) (l:List V),Bz (.sl a b c d e f::l)=none:=fun _ _ _ _ _ _ _=>rfl
  have amm:∀(x:I) (l:List V),Bz (.m x::l)=(Bz l).bind fun r=>some (x::r):=fun _ _=>rfl
  have osl:∀(a b c d e:Nat) (f:Bool),BM (.sl a b c d e f)=true:=fun _ _ _ _ _ _=>rfl
  have oi:BM (.m (.i .i64 (S:Int)))=true:=rfl
  simp (maxSteps:=2000000) (disch:=omega) [Ab,hon2.2.1,hon2.2.2.1,ams,amm,hB4,cva,osl,oi]
  exact kk
def okX (l:List Nd)(x:Nd):Bool:=leI 1 x.1&&(leI x.1 1000&&(!x.2.isEmpty&&(Nat.ble x.2.length 100&&(x.2.all AcM&&(!ltI 1 x.1||x.2.all fun k=>match ndZ l k with
 | some y=>ltI y.1 x.1
 | none=>false)))))
def okNb (l:List Nd):Bool:=l.all (okX l)
theorem okN_b {l:List Nd}(h:okNb l=true):OkN l:=fun i hi=>by
 have hg:l[i]? = some (ndU l i):=by
  unfold ndU
  rw[Aip hi]
  rfl
 have hx:=Aiw.1 h _ (Aiu hg)
 unfold okX at hx
 simp only[Aio,GT,Aix,AjC,AiU,Aiw,CM,decide_eq_false_iff_not]at hx
 obtain⟨a1,a2,a3,a4,a5,a6⟩:=hx
 refine⟨a1,a2,fun e=>by rw[e]at a3;simp at a3,AjD a4,fun k hk=>HD.1 (a5 k hk),fun hl k hk=>?_⟩
 rcases a6 with h|h
 ·exact absurd hl h
 ·have:=h k hk
  cases hy:ndZ l k with
  | none=>rw[hy]at this;cases this
  | some y =>
   rw[hy]at this
   simp only[Aix]at this
   obtain⟨n,rfl,hn⟩:=PI hy
   refine⟨by omega,?_,?_⟩
   ·show n<l.length
    exact(Ain.1 hn).1
   ·show (ndU l n).1<_
    rw[Uq hn]
    exact this
def swZ (S:Nat)(ns:List Nd)(up:Int):Option (List Nd):=gd (shpZ S ns&&(Nat.ble 1 ns.length&&Nat.ble ns.length 100000)) ((Rb ns up 0 ns [] (List.replicate ns.length 0)).bind fun p=>(nth p.2 (ns.length-1)).bind fun v=>(Aae v).bind fun m =>
 gd (okNb p.1&&(Nat.ble p.1.length 1000000&&Nat.blt m p.1.length)) (some (HA p.1 1000 m (List.replicate p.1.length 0,[])).1.2))
abbrev Hd:=List (Int×Int)
def inT (S:Nat):Nat->Nat->Hd->List Nd->Bool->Option (Hd×List Nd×Bool)
 | 0,_,hd,ns,srt=>some (hd,ns,srt)
 | r+1,j,hd,ns,srt=>(nth hd j).bind fun a=>(nth hd (j+1)).bind fun b=>match ltI 0 (HC a.1 a.2 b.1 b.2) with
  | true=>(swZ S ns ((hd.length:Int)-j)).bind fun ns2=>inT S r (j+1) ((hd.set j b).set (j+1) a) ns2 false
  | false=>inT S r (j+1) hd ns srt
def Ady (S:Nat):Nat->Hd->List Nd->Option (Hd×List Nd)
 | 0,_,_=>none
 | f+1,hd,ns=>(inT S (hd.length-1) 0 hd ns true).bind fun q=>match q.2.2 with
  | true=>some (q.1,q.2.1)
  | false=>Ady S f q.1 q.2.1
def IX (k:Int)(hd:Hd):Hd:=hd.map fun p=>Gl (Hv k) p.1 p.2
def Iu (k:Int)(S:Nat)(hd:Hd)(ns:List Nd):Option (Hd×List Nd):=Ady S 64 (IX k hd) (Xf ns)
theorem WS {S:Nat}{ns r:List Nd}{up:Int}(h:swZ S ns up=some r):shpZ S ns=true/\(1<=ns.length/\ns.length<=100000) /\ ∃(bl:List Nd) (to:List Int) (m:Nat),Rb ns up 0 ns [] (List.replicate ns.length 0)=some (bl,to)/\OkN bl/\bl.length<=1000000/\to[ns.length-1]? = some (m:Int)/\m<bl.length/\r=(HA bl 1000 m (List.replicate bl.length 0,[])).1.2:=by
 unfold swZ at h
 simp only[Ae,Aio,Aik,Ail]at h
 obtain⟨⟨h1,h2,h3⟩,⟨bl,to⟩,h4,v,h5,m,h6,⟨h7,h8,h9⟩,h10⟩:=h
 refine⟨h1,⟨AjD h2,AjD h3⟩,bl,to,m,h4,okN_b h7,AjD h8,?_,AjD h9,h10.symm⟩
 rw[<-AP]
 cases v with
 | ofNat n=>cases h6;exact h5
 | negSucc n=>cases h6
theorem PM {α:Type}:∀(M c:List α) (s:Nat) (m:α),M.length=c.length->M[s]? = some m->(M.take s++c.drop s).set s m=M.take (s+1)++c.drop (s+1)
 | [],_,_,_,_,h=>by simp at h
 | a::M,[],_,_,h,_=>by simp at h
 | a::M,b::c,0,m,_,h=>by simp at h;subst h;simp
 | a::M,b::c,s+1,m,hl,h=>by
  have:=PM M c s m (by simpa using hl) (by simpa using h)
  simp only[List.take_succ_cons,List.drop_succ_cons,Aji,List.set_cons_succ,this]
theorem PN {α:Type}:∀(M c:List α) (s:Nat),M.length=c.length->(M.take s++c.drop s)[s]? = c[s]?
 | [],[],_,_=>by simp
 | [],_::_,_,h=>by simp at h
 | a::M,[],_,h=>by simp at h
 | a::M,b::c,0,_=>by simp
 | a::M,b::c,s+1,hl=>by
  have:=PN M c s (by simpa using hl)
  simpa using this
theorem Xv {α:Type}(M c:List α)(s:Nat)(h:M.length=c.length):(M.take s++c.drop s).length=c.length:=by
 rw[AiA,AiG,AiY]
 omega
def AV (l:Hd):List (List V):=l.map fun p=>[.m (.i .i64 p.1),.m (.i .i64 p.2)]
@[simp] theorem Adw (l:Hd):(AV l).length=l.length:=by simp[AV]
theorem UC (l:Hd):Bj (AB l)=AV l:=by
 unfold Bj AB AV
 rw[Ajy]
 rfl
theorem EX {l:Hd}{i:Nat}{p:Int×Int}(h:l[i]? = some p):nth (AV l) i=some [.m (.i .i64 p.1),.m (.i .i64 p.2)]:=by
 rw[AP]
 simp[AV,h]
theorem IA {l:Hd}{i:Nat}{p:Int×Int}(h:i<l.length):AN (AV l) i [.m (.i .i64 p.1),.m (.i .i64 p.2)]=some (AV (l.set i p)):=by
 rw[AE _ _ _ (by simpa using h)]
 simp[AV,List.map_set]
theorem wrP {es:List (List V)}{i:Nat}{a b x y:V}(h:nth es i=some [a,b]):Cb 2 es i 0 [x,y]=AN es i [x,y]:=by
 show Option.bind (nth es (i+0)) _=_
 rw[Nat.add_zero,h]
 rfl
theorem IN {l:Hd}{r b k:Nat}{fz:Bool}{H:Hp}(h:nth H r=some (.cs 43 2 (AV l) b fz))(hb:b<=l.length):Mx.view (k+2) H (.sl r l.length 2 0 l.length false)=some (.sl (AB l)):=by
 show Option.bind (Mx.elems H (.sl r l.length 2 0 l.length false)) _=_
 rw[DM,h]
 show Option.bind (gd (Nat.ble b l.length&&Nat.beq 2 2) (some (((AV l).drop 0).take l.length))) _=_
 rw[Bb,Aiv hb,AjP,AiJ (by simp),<-UC]
 show Option.bind (Af (fun e=>Af (Mx.view (k+1) H) e) (Bj (AB l))) _=_
 rw[Acl]
 rfl
theorem AbP {S:Int}{hs es:List (List I)}(hl:es.length<=4096)(H:Hp):Gives G 166 [.m (.ag [.i .i64 S,.sl hs,.sl es])] H (.tu [.m (.ag [.i .i64 S,.sl hs,.sl es]),.m (.i .i64 0)]) H:=by
 refine Al rfl rfl rfl rfl rfl ?_
 have hl':¬(4096:Int)<es.length:=by omega
 have amm:∀(x:I) (l:List V),Bz (.m x::l)=(Bz l).bind fun r=>some (x::r):=fun _ _=>rfl
 have oi:∀x:Int,BM (.m (.i .i64 x))=true:=fun _=>rfl
 have os:∀x,BM (.m (.sl x))=true:=fun _=>rfl
 have am0:Bz []=some []:=rfl
 simp (maxSteps:=2000000) (disch:=omega) [Ab,hl',amm,oi,os,am0]
set_option maxHeartbeats 1000000 in
theorem AaW {k:Int}{t:TreeC}{h n:I}{es:List (List I)}(hT:TreeV t h n es)(gt:∀H,Gives G 104 [.m (.ag [.i .i64 t.states,h,n])] H (.m (.b (Bs t))) H)(hok:Bs t=true){hd:Hd}{ns:List Nd}(hZ:Iu k t.states.toNat t.hood t.nodes=some (hd,ns))(hlen:1<=ns.length/\ns.length<=4096)(H:Hp):
  ∃eo,eo.map dNd=ns/\KQ eo/\Gives G 132 [.m (.i .i64 k),.m (.ag [.i .i64 t.states,h,n])] H (.tu [.m (.ag [.i .i64 t.states,.sl (AB hd),.sl eo]),.m (.i .i64 0)]) H:=by
 have key:Ret G 132 [.m (.i .i64 k),.m (.ag [.i .i64 t.states,h,n])] H (fun v H'=>H'=H /\ ∃eo,eo.map dNd=ns/\KQ eo/\v=.tu [.m (.ag [.i .i64 t.states,.sl (AB hd),.sl eo]),.m (.i .i64 0)]):=by
  have gt0:=gt
  rw[hok]at gt
  obtain⟨⟨hS1,hS2⟩,hho,_,_,_⟩:=DO hok
  have hh:=FF hho
  have amm:∀(x:I) (l:List V),Bz (.m x::l)=(Bz l).bind fun r=>some (x::r):=fun _ _=>rfl
  have am0:Bz []=some []:=rfl
  have oi:∀x:Int,BM (.m (.i .i64 x))=true:=fun _=>rfl
  have onl:BM (.m (.nl 4))=true:=rfl
  have oh:=El hT.hd
  have on:=El hT.nd
  refine Fv rfl rfl rfl rfl rfl ?_
  simp (maxSteps:=2000000) (disch:=omega) [cl (gt _),amm,am0]
  rw[Ao]
  refine Kv hT gt0 _ (fun _ rh eo oo H1 k1 k2 k3 k4 k5 k6 k7 k8=>?_) (fun e=>by rw[hok]at e;cases e)
  have hon:=k2.nf
  have osl:∀(a b c d e:Nat) (f:Bool),BM (.sl a b c d e f)=true:=fun _ _ _ _ _ _=>rfl
  have cva:∀l,Au (.ag l)=some l:=fun _=>rfl
  rw[UC]at k1
  simp (maxSteps:=2000000) (disch:=omega) [Ab,cva,osl,oi,hon.2.2.1]
  obtain⟨S,hSe⟩:=AiN (show 0<=t.states by omega)
  rw[hSe]at hZ hS1 hS2 ⊢
  simp only[Int.toNat_natCast]at hZ
  have hZ:Ady S 64 (IX k t.hood) (Xf t.nodes)=some (hd,ns):=hZ
  generalize hN:t.hood.length=N at *
  have hrl:(IX k t.hood).length=t.hood.length:=by unfold IX;simp
  refine(?key1:∀(i:Nat) (B:List (Nat×List V)) (Hi:Hp) (b:Nat),i<=N->getB B 4=some [.m (.i .i64 0),.m (.nl 4),.m (.nl 4)]->getB B 6=some [.m (.i .i64 (S:Int)),.sl rh N 2 0 N false,oo]->b<=N->nth Hi rh=some (.cs 43 2 (AV ((IX k t.hood).take i++t.hood.drop i)) b false)->L2 eo oo Hi ->
   Run G c132_B0 (S132_0 (.m (.i .i64 k)) (.fa 4 0) (.fa 6 0) (.sl rh N 2 0 N false) (.m (.i .i64 (N:Int))) (.m (.i .i64 (i:Int))) B Hi) _) 0 _ H1 0 (AiD _) rfl rfl (AiD _) k1 k2
  refine BN (fun i:Nat=>N-i) fun i ih B Hi b hi hB4 hB6 hb hrow hnd=>?_
  unfold c132_B0
  have hml:=Xv (IX k t.hood) t.hood i hrl
  by_cases hiN:i<N
  ·have hiN':(i:Int)<N:=by omega
   obtain⟨p,hp⟩:∃p,t.hood[i]? = some p:=⟨t.hood[i]'(by omega),Aip (by omega)⟩
   have hmg:=PN (IX k t.hood) t.hood i hrl
   rw[hp]at hmg
   have hn1:=EX hmg
   have hpo:GM p=true:=by
    have h0:=hho
    unfold CG at h0
    simp only[Aio]at h0
    exact KP t.hood none h0.2 p (Aiu hp)
   unfold GM at hpo
   simp only[Aix]at hpo
   have ga:=fun H=>Vc k p.1 p.2 (by omega) (by omega) H
   have hq:(IX k t.hood)[i]? = some (Gl (Hv k) p.1 p.2):=by
    unfold IX
    rw[AiL,hp]
    rfl
   have hms:=PM (IX k t.hood) t.hood i (Gl (Hv k) p.1 p.2) hrl hq
   have hst:AN (AV ((IX k t.hood).take i++t.hood.drop i)) i [.m (.i .i64 (Gl (Hv k) p.1 p.2).1),.m (.i .i64 (Gl (Hv k) p.1 p.2).2)]=some (AV ((IX k t.hood).take (i+1)++t.hood.drop (i+1))):=by rw[IA (by omega),hms]
   have hse:AN Hi rh (.cs 43 2 (AV ((IX k t.hood).take (i+1)++t.hood.drop (i+1))) N false)=some (Hi.set rh (.cs 43 2 (AV ((IX k t.hood).take (i+1)++t.hood.drop (i+1))) N false)):=AE _ _ _ (AS hrow)
   have wi:wr .i64 ((i:Int)+1)=((i+1:Nat):Int):=Aa (by omega) (by omega)
   have hnd2:L2 eo oo (Hi.set rh (.cs 43 2 (AV ((IX k t.hood).take (i+1)++t.hood.drop (i+1))) N false)):=hnd.keep fun r e _=>AG fun e2=>by
    subst e2
    have q:=hnd.row e
    rw[hrow]at q
    simp at q
   have kk:=fun B h4 h6=>ih (i+1) (by omega) B _ N (by omega) h4 h6 (Ais _) (Be (AS hrow)) hnd2
   have hml2:((IX k t.hood).take i++t.hood.drop i).length=N:=by rw[hml,hN]
   generalize (IX k t.hood).take i++t.hood.drop i=D at hrow hn1 hst hml2
   generalize (IX k t.hood).take (i+1)++t.hood.drop (i+1)=D1 at hst hse kk
   simp (maxSteps:=2000000) (disch:=omega) [Ab,hiN',hrow,hb,rd2 hn1,wrP hn1,amm,am0,oi,hB6,cl (ga _),hst,hse,hml2,wi]
   exact kk _ (by rw[AM];simpa using hB4) (by rw[AM];simpa using hB6)
  ·have:i=N:=by omega
   subst this
   have hiN':¬(i:Int)<i:=by omega
   have hD:(IX k t.hood).take i++t.hood.drop i=IX k t.hood:=by
    rw[List.drop_eq_nil_of_le (by omega),AiV,AiJ (by omega)]
   rw[hD]at hrow
   simp (maxSteps:=2000000) (disch:=omega) [hiN']
   clear ih hml hD k1 k2
   refine(?key2:∀(f:Nat) (srt:Bool) (hd1:Hd) (e1:List (List I)) (nv:V) (B:List (Nat×List V)) (Hi:Hp) (b:Nat),(match srt with
     | true=>some (hd1,e1.map dNd)
     | false=>Ady S f hd1 (e1.map dNd))=some (hd,ns)->hd1.length=i->getB B 4=some [.m (.i .i64 0),.m (.nl 4),.m (.nl 4)]->getB B 6=some [.m (.i .i64 (S:Int)),.sl rh i 2 0 i false,nv]->b<=i->nth Hi rh=some (.cs 43 2 (AV hd1) b false)->L2 e1 nv Hi->KQ e1 ->
    Run G c132_B2 (S132_2 (.fa 4 0) (.fa 6 0) (.m (.b srt)) B Hi) _) 64 false (IX k t.hood) eo oo B Hi b (by rw[k4];exact hZ) (by omega) hB4 hB6 hb hrow hnd k3
   clear hB4 hB6 hrow hnd hb b Hi B
   refine BN (fun f:Nat=>f) fun f ihf srt hd1 e1 nv B Hi b hR hl1 hB4 hB6 hb hrow hnd hok1=>?_
   unfold c132_B2
   have hnvn:=hnd.nf
   cases srt with
   | true =>
    have hR:some (hd1,e1.map dNd)=some (hd,ns):=hR
    cases hR
    rw[AiB]at hlen
    have hne:e1≠[]:=fun e=>by rw[e]at hlen;simp at hlen
    have gz:=AbP (S:=(S:Int)) (hs:=AB hd) (es:=e1) (by omega) []
    have hvh:=IN (k:=17) hrow (by rw[hl1];exact hb)
    rw[hl1]at hvh
    have hvn:=hnd.view hne 17
    have ams:∀(a b c d e:Nat) (f:Bool) (l:List V),Bz (.sl a b c d e f::l)=none:=fun _ _ _ _ _ _ _=>rfl
    have hvs:Af (view 20 Hi) [V.ag [.m (.i .i64 (S:Int)),.sl rh i 2 0 i false,nv]]=some [.ag [.i .i64 (S:Int),.sl (AB hd),.sl e1]]:=by
     show Option.bind (Option.bind (Af (view 19 Hi) [.m (.i .i64 (S:Int)),.sl rh i 2 0 i false,nv]) _) _=_
     have e0:Af (view 19 Hi) [.m (.i .i64 (S:Int)),.sl rh i 2 0 i false,nv]=some [.i .i64 (S:Int),.sl (AB hd),.sl e1]:=by
      simp only[Af]
      rw[hvh,hvn]
      rfl
     rw[e0]
     rfl
    obtain⟨rn,rfl⟩:∃rn,nv=.sl rn e1.length 2 0 e1.length false:=by
     rcases hnd with ⟨h1,_⟩|⟨_,r,h1,_⟩
     ·exact absurd h1 hne
     ·exact⟨r,h1⟩
    obtain⟨bn,hrn⟩:∃bn,nth Hi rn=some (.cs 65 2 (Bj e1) bn false):=⟨0,hnd.row rfl⟩
    have hall1:((AV hd).all fun e=>e.all isM)=true:=by
     rw[Aiw]
     intro e he
     obtain⟨q,_,rfl⟩:=AiH.1 he
     rfl
    have hall2:((Bj e1).all fun e=>e.all isM)=true:=by
     rw[Aiw]
     intro e he
     obtain⟨q,_,rfl⟩:=AiH.1 he
     rw[Aiw]
     intro x hx
     obtain⟨y,_,rfl⟩:=AiH.1 hx
     rfl
    have hrne:rh≠rn:=fun e=>by
     subst e
     rw[hrow]at hrn
     simp at hrn
    obtain⟨H2,hfz⟩:∃H2,AW [rh,rn] Hi=some H2:=by
     refine⟨(Hi.set rh (.cs 43 2 (AV hd) b true)).set rn (.cs 65 2 (Bj e1) bn true),?_⟩
     show Option.bind (nth Hi rh) _=_
     rw[hrow]
     show Option.bind (gd ((AV hd).all fun e=>e.all isM) (some (Row.cs 43 2 (AV hd) b true))) _=_
     rw[hall1]
     show Option.bind (AN Hi rh _) _=_
     rw[AE _ _ _ (AS hrow)]
     show Option.bind (nth (Hi.set rh _) rn) _=_
     rw[AG hrne,hrn]
     show Option.bind (gd ((Bj e1).all fun e=>e.all isM) (some (Row.cs 65 2 (Bj e1) bn true))) _=_
     rw[hall2]
     show Option.bind (AN _ rn _) _=_
     rw[AE _ _ _ (by rw[Ajd];exact AS hrn)]
     rfl
    have gF:=Cm (vs:=[V.ag [.m (.i .i64 (S:Int)),.sl rh i 2 0 i false,.sl rn e1.length 2 0 e1.length false]]) (is:=[.ag [.i .i64 (S:Int),.sl (AB hd),.sl e1]]) rfl rfl gz hvs (by simp[DA,FR]) rfl rfl hfz
    have os:∀x,BM (.m (.sl x))=true:=fun _=>rfl
    simp (maxSteps:=2000000) (disch:=omega) [Ab,hB6,hB4,amm,ams,am0,cl gF,oi,os]
    exact hok1
   | false =>
    have hR:Ady S f hd1 (e1.map dNd)=some (hd,ns):=hR
    cases f with
    | zero=>cases hR
    | succ f =>
     have hR:(inT S (hd1.length-1) 0 hd1 (e1.map dNd) true).bind (fun q=>match q.2.2 with
      | true=>some (q.1,q.2.1)
      | false=>Ady S f q.1 q.2.1)=some (hd,ns):=hR
     obtain⟨q,hq,hR⟩:=Aik.1 hR
     simp (maxSteps:=2000000) (disch:=omega) []
     refine(?key3:∀(r j:Nat) (srt:Bool) (hd1:Hd) (e1:List (List I)) (nv:V) (B:List (Nat×List V)) (Hi:Hp) (b:Nat),inT S r j hd1 (e1.map dNd) srt=some q->r+j+1=i->hd1.length=i->getB B 4=some [.m (.i .i64 0),.m (.nl 4),.m (.nl 4)]->getB B 6=some [.m (.i .i64 (S:Int)),.sl rh i 2 0 i false,nv]->b<=i->nth Hi rh=some (.cs 43 2 (AV hd1) b false)->L2 e1 nv Hi->KQ e1 ->
      Run G c132_B1 (S132_1 (.fa 4 0) (.fa 6 0) (.m (.b srt)) (.m (.i .i64 ((j:Int)+1))) B Hi) _) (hd1.length-1) 0 true hd1 e1 nv B Hi b hq (by omega) hl1 hB4 hB6 hb hrow hnd hok1
     clear hq hl1 hB4 hB6 hb hrow hnd hok1
     refine BN (fun r:Nat=>r) fun r ihr j srt hd1 e1 nv B Hi b hq hrj hl1 hB4 hB6 hb hrow hnd hok1=>?_
     unfold c132_B1
     cases r with
     | zero =>
      have hq:some (hd1,e1.map dNd,srt)=some q:=hq
      cases hq
      have hji:¬((j:Int)+1<i):=by omega
      have kk:=fun B h4 h6=>ihf f (by omega) srt hd1 e1 nv B Hi b hR hl1 h4 h6 hb hrow hnd hok1
      simp (maxSteps:=2000000) (disch:=omega) [hB6,hji]
      exact kk _ hB4 hB6
     | succ r =>
      have hji:(j:Int)+1<i:=by omega
      have hji2:j+1<i:=by omega
      have hji3:(j:Int)<i:=by omega
      have hji4:j<i:=by omega
      have hq:(nth hd1 j).bind (fun a=>(nth hd1 (j+1)).bind fun b=>match ltI 0 (HC a.1 a.2 b.1 b.2) with
       | true=>(swZ S (e1.map dNd) ((hd1.length:Int)-j)).bind fun ns2=>inT S r (j+1) ((hd1.set j b).set (j+1) a) ns2 false
       | false=>inT S r (j+1) hd1 (e1.map dNd) srt)=some q:=hq
      obtain⟨pa,ha,hq⟩:=Aik.1 hq
      obtain⟨pb,hpb,hq⟩:=Aik.1 hq
      rw[AP]at ha hpb
      have hna:=EX ha
      have hnb:=EX hpb
      have gc:=fun H=>Ub pa.1 pa.2 pb.1 pb.2 H
      have wj:wr .i64 ((j:Int)+1+1)=((j+1:Nat):Int)+1:=by rw[Aa (by omega) (by omega)];omega
      have wj0:wr .i64 (j:Int)=(j:Int):=Aa (by omega) (by omega)
      by_cases hg:0<HC pa.1 pa.2 pb.1 pb.2
      ·have hgt:ltI 0 (HC pa.1 pa.2 pb.1 pb.2)=true:=by rw[CM];simpa using hg
       simp only[hgt]at hq
       obtain⟨ns2,hsw,hq⟩:=Aik.1 hq
       obtain⟨z1,z2,bl,to,m,z3,z4,z5,z6,z7,rfl⟩:=WS hsw
       rw[AiB]at z2 z3 z6
       rw[hl1]at z3
       have hnvn:=hnd.nf
       have ams:∀(a b c d e:Nat) (f:Bool) (l:List V),Bz (.sl a b c d e f::l)=none:=fun _ _ _ _ _ _ _=>rfl
       simp (maxSteps:=2000000) (disch:=omega) [Ab,hB6,hji,hrow,hb,hl1,rd2 hna,rd2 hnb,amm,ams,am0,cl (gc _),hg,wj0]
       rw[Ao]
       refine TF hok1 hnd (by omega) z1 z2 (by omega) z3 z4 z5 z6 z7 _ fun eo2 oo2 H2 m1 m2 m3 m4 m5 m6=>?_
       have hon2:=m1.nf
       have hrow2:nth H2 rh=some (.cs 43 2 (AV hd1) b false):=by rw[m5 rh (AS hrow)];exact hrow
       have hs1:AN (AV hd1) j [.m (.i .i64 pb.1),.m (.i .i64 pb.2)]=some (AV (hd1.set j pb)):=IA (by omega)
       have hs2:AN (AV (hd1.set j pb)) (j+1) [.m (.i .i64 pa.1),.m (.i .i64 pa.2)]=some (AV ((hd1.set j pb).set (j+1) pa)):=IA (by rw[Ajd];omega)
       have hnb2:nth (AV (hd1.set j pb)) (j+1)=some [.m (.i .i64 pb.1),.m (.i .i64 pb.2)]:=EX (by rw[Ajm (by omega)];exact hpb)
       have hl2:(hd1.set j pb).length=i:=by rw[Ajd];exact hl1
       have hl3:((hd1.set j pb).set (j+1) pa).length=i:=by rw[Ajd,Ajd];exact hl1
       generalize hd1.set j pb=D1 at hs1 hs2 hnb2 hl2 hl3 hq
       generalize D1.set (j+1) pa=D2 at hs2 hl3 hq
       have se1:AN H2 rh (.cs 43 2 (AV D1) i false)=some (H2.set rh (.cs 43 2 (AV D1) i false)):=AE _ _ _ (AS hrow2)
       have hr3:nth (H2.set rh (.cs 43 2 (AV D1) i false)) rh=some (.cs 43 2 (AV D1) i false):=Be (AS hrow2)
       have se2:AN (H2.set rh (.cs 43 2 (AV D1) i false)) rh (.cs 43 2 (AV D2) i false)=some ((H2.set rh (.cs 43 2 (AV D1) i false)).set rh (.cs 43 2 (AV D2) i false)):=AE _ _ _ (AS hr3)
       have hrow3:nth (H2.set rh (.cs 43 2 (AV D2) i false)) rh=some (.cs 43 2 (AV D2) i false):=Be (AS hrow2)
       have hnd3:L2 eo2 oo2 (H2.set rh (.cs 43 2 (AV D2) i false)):=m1.keep fun r e _=>by
        have hne:rh≠r:=fun e2=>by
         subst e2
         have q:=m1.row e
         rw[hrow2]at q
         simp at q
        rw[AG hne]
       have kk:=fun B h4 h6=>ihr r (by omega) (j+1) false D2 eo2 oo2 B _ i (by rw[m3];exact hq) (by omega) hl3 h4 h6 (Ais _) hrow3 hnd3 m2
       have cva:∀l,Au (.ag l)=some l:=fun _=>rfl
       simp (maxSteps:=2000000) (disch:=omega) [Ab,hB6,cva,osl,oi,hon2.2.2.1,hrow2,hb,rd2 hna,rd2 hnb,amm,am0,hl1,wj0,wrP hna,hs1,se1,hr3,wrP hnb2,hs2,se2,hl2,wj]
       have ej:((j:Int)+1+1)=((j+1:Nat):Int)+1:=by omega
       rw[ej]
       exact kk _ (by rw[AM];simpa using hB4) (by rw[AM];simp)
      ·have hgt:ltI 0 (HC pa.1 pa.2 pb.1 pb.2)=false:=by rw[CM];simpa using hg
       simp only[hgt]at hq
       have kk:=fun B h4 h6=>ihr r (by omega) (j+1) srt hd1 e1 nv B Hi b hq (by omega) hl1 h4 h6 hb hrow hnd hok1
       simp (maxSteps:=2000000) (disch:=omega) [Ab,hB6,hji,hrow,hb,hl1,rd2 hna,rd2 hnb,amm,am0,cl (gc _),hg,wj,wj0]
       exact kk _ hB4 hB6
 obtain⟨v,H',g,rfl,eo,h1,h2,rfl⟩:=Bn key
 exact⟨eo,h1,h2,g⟩
end Go.Mx.Tryz
set_option maxHeartbeats 4000000
namespace Go.Mx.Tryz
open Go.Lib
def bdN (ns:List Nd):Bool:=ns.all fun x=>x.2.all AcM&&Nat.ble x.2.length 1000
theorem Um {es:List (List I)}(h:KQ es)(hb:bdN (es.map dNd)=true):Qp es:=fun e he=>by
 obtain⟨x,z,rfl,hz⟩:=h e he
 have hx:=Aiw.1 hb (x,dIn z) (by rw[AiH];exact⟨_,he,rfl⟩)
 simp only[Aio]at hx
 have hl:=AjD hx.2
 exact⟨x,z,rfl,hz,by omega,fun k hk=>by have:=HD.1 (Aiw.1 hx.1 k hk);omega⟩
theorem XQ {t:TreeC}{es:List (List I)}(hT:TreeV t (.sl (AB t.hood)) (.sl es) es)(gt:∀H,Gives G 104 [.m (.ag [.i .i64 t.states,.sl (AB t.hood),.sl es])] H (.m (.b (Bs t))) H) 
  (gh:∀H,Gives G 167 [.m (.sl (AB t.hood)),.m (.sl (AB t.hood))] H (.m (.b true)) H)
  (gs:Gives G 168 [.m (.ag [.i .i64 t.states,.sl (AB t.hood),.sl es]),.m (.ag [.i .i64 t.states,.sl (AB t.hood),.sl es])] [] (.m (.b true)) [])
  (hok:Bs t=true) (hr:Xf t.nodes=t.nodes) (he:∀eo,KQ eo->eo.map dNd=t.nodes->eo=es) (H:Hp) :
  Gives G 133 [.m (.ag [.i .i64 t.states,.sl (AB t.hood),.sl es]),.m (.ag [.i .i64 t.states,.sl (AB t.hood),.sl es])] H (.m (.b true)) H:=by
 have ga:=gt
 rw[hok]at ga
 have amm:∀(x:I) (l:List V),Bz (.m x::l)=(Bz l).bind fun r=>some (x::r):=fun _ _=>rfl
 have am0:Bz []=some []:=rfl
 have oi:∀x:Int,BM (.m (.i .i64 x))=true:=fun _=>rfl
 have oh:=El hT.hd
 have on:=El hT.nd
 obtain⟨_,_,⟨hn1,_⟩,_,_⟩:=DO hok
 have hne:t.nodes≠[]:=fun e=>by rw[e]at hn1;simp at hn1
 refine Al rfl rfl rfl rfl rfl ?_
 simp (maxSteps:=2000000) (disch:=omega) [Ac,cl (ga _),cl (gh _),amm,am0]
 rw[Ao]
 refine Kv hT gt _ (fun _ rh eo oo H1 k1 k2 k3 k4 k5 k6 k7 k8=>?_) (fun e=>by rw[hok]at e;cases e)
 simp (maxSteps:=2000000) (disch:=omega) [Ac]
 rw[Ao]
 refine Kv hT gt _ (fun _ rh2 eo2 oo2 H2 m1 m2 m3 m4 m5 m6 m7 m8=>?_) (fun e=>by rw[hok]at e;cases e)
 obtain rfl:=he eo k3 (k4.trans hr)
 obtain rfl:=he eo2 m3 (m4.trans hr)
 have hne1:eo2≠[]:=fun e=>hne (by rw[<-k4.trans hr,e];rfl)
 rw[UC]at k1 m1
 have q1:nth H2 rh=some (.cs 43 2 (AV t.hood) 0 false):=by rw[m6 rh (AS k1)];exact k1
 have q2:L2 eo2 oo H2:=k2.keep fun r _ hr=>m6 r hr
 have v1:=IN (k:=17) q1 (AiD _)
 have v2:=IN (k:=17) m1 (AiD _)
 have v3:=q2.view hne1 17
 have v4:=m2.view hne1 17
 have hvs:Af (view 20 H2) [V.ag [.m (.i .i64 t.states),.sl rh t.hood.length 2 0 t.hood.length false,oo],V.ag [.m (.i .i64 t.states),.sl rh2 t.hood.length 2 0 t.hood.length false,oo2]]=some [.ag [.i .i64 t.states,.sl (AB t.hood),.sl eo2],.ag [.i .i64 t.states,.sl (AB t.hood),.sl eo2]]:=by
  have e0:Af (view 19 H2) [.m (.i .i64 t.states),.sl rh t.hood.length 2 0 t.hood.length false,oo]=some [.i .i64 t.states,.sl (AB t.hood),.sl eo2]:=by
   simp only[Af]
   rw[v1,v3]
   rfl
  have e1:Af (view 19 H2) [.m (.i .i64 t.states),.sl rh2 t.hood.length 2 0 t.hood.length false,oo2]=some [.i .i64 t.states,.sl (AB t.hood),.sl eo2]:=by
   simp only[Af]
   rw[v2,v4]
   rfl
  show Option.bind (Option.bind (Af (view 19 H2) [.m (.i .i64 t.states),.sl rh t.hood.length 2 0 t.hood.length false,oo]) _) _=_
  rw[e0]
  show Option.bind (Option.bind (Option.bind (Af (view 19 H2) [.m (.i .i64 t.states),.sl rh2 t.hood.length 2 0 t.hood.length false,oo2]) _) _) _=_
  rw[e1]
  rfl
 have gF:=Ba (H:=H2) rfl rfl gs hvs (.inr ⟨by simp[DA,FR],rfl⟩)
 simp (maxSteps:=2000000) (disch:=omega) [Ac,cl gF]
def RF (k:Nat):List Int:=(List.range k).map fun j:Nat=>(j:Int)
theorem TB (k:Nat):RF (k+1)=RF k++[(k:Int)]:=by simp[RF,List.range_succ]
theorem AgW {t:TreeC}{es:List (List I)}(hT:TreeV t (.sl (AB t.hood)) (.sl es) es)(gt:∀H,Gives G 104 [.m (.ag [.i .i64 t.states,.sl (AB t.hood),.sl es])] H (.m (.b (Bs t))) H) 
  (gh:∀H,Gives G 167 [.m (.sl (AB t.hood)),.m (.sl (AB t.hood))] H (.m (.b true)) H)
  (gs:Gives G 168 [.m (.ag [.i .i64 t.states,.sl (AB t.hood),.sl es]),.m (.ag [.i .i64 t.states,.sl (AB t.hood),.sl es])] [] (.m (.b true)) [])
  (he:∀eo,KQ eo->eo.map dNd=t.nodes->eo=es) (hok:Bs t=true) (hr:Xf t.nodes=t.nodes) (hZ:∀k:Nat,k<8->Iu (k:Int) t.states.toNat t.hood t.nodes=some (t.hood,t.nodes)) (H:Hp) :
  Gives G 190 [.m (.ag [.i .i64 t.states,.sl (AB t.hood),.sl es])] H (.m (.sl (Cr (RF 8)))) H:=by
 obtain⟨_,hho,⟨hn1,hn2⟩,_,_⟩:=DO hok
 have amm:∀(x:I) (l:List V),Bz (.m x::l)=(Bz l).bind fun r=>some (x::r):=fun _ _=>rfl
 have am0:Bz []=some []:=rfl
 have oi:∀x:Int,BM (.m (.i .i64 x))=true:=fun _=>rfl
 have os:∀x,BM (.m (.sl x))=true:=fun _=>rfl
 have oh:=El hT.hd
 have on:=El hT.nd
 have hne:t.nodes≠[]:=fun e=>by rw[e]at hn1;simp at hn1
 refine Al rfl rfl rfl rfl rfl ?_
 simp (maxSteps:=2000000) (disch:=omega) []
 refine(?key:∀(k:Nat) (o:V) (B:List (Nat×List V)) (Hi:Hp),k<=8->getB B 1=some [.m (.i .i64 t.states),.m (.sl (AB t.hood)),.m (.sl es)]->LR 3 (iI (RF k)) o Hi HF ->
  Run G c190_B0 (S190_0 (.fa 1 0) o (.m (.i .i64 (k:Int))) B Hi) _) 0 (.m (.nl 4)) _ _ (by omega) rfl (.inl ⟨rfl,rfl⟩)
 refine BN (fun k:Nat=>8-k) fun k ih o B Hi hk hB hl=>?_
 unfold c190_B0
 have hon:=hl.nf
 by_cases hk8:k<8
 ·have hk8':(k:Int)<8:=by omega
  obtain⟨eo,he1,he2,gu⟩:=AaW hT gt hok (hZ k hk8) ⟨hn1,hn2⟩ Hi
  obtain rfl:=he eo he2 he1
  have ge:=XQ hT gt gh gs hok hr he
  obtain⟨o1,H1,a1,a2,a3,_,_⟩:=hl.push1 (b:=8) (by omega) (y:=.i .i64 (k:Int)) (by unfold RF;simp;omega) rfl
  have e1:iI (RF k)++[.i .i64 (k:Int)]=iI (RF (k+1)):=by rw[TB];simp[iI]
  rw[e1]at a3
  have wk:wr .i64 ((k:Int)+1)=((k+1:Nat):Int):=Aa (by omega) (by omega)
  have kk:=fun B h=>ih (k+1) (by omega) o1 B H1 (by omega) h a3
  simp (maxSteps:=2000000) (disch:=omega) [Ab,hk8',hB,amm,am0,oi,os,cl gu,cl (ge _),Ac,a1,Am a2,wk]
  exact kk _ (by rw[AM];simpa using hB)
 ·have:k=8:=by omega
  subst this
  have hv:=hl.viewR
  have hz:zL (iI (RF 8))=.sl (Cr (RF 8)):=by
   unfold zL
   rw[Aiq (by simp[iI,RF]),Mu]
  rw[hz]at hv
  simp (maxSteps:=2000000) (disch:=omega) [Am hon.1,hon.1,hv]
end Go.Mx.Tryz
