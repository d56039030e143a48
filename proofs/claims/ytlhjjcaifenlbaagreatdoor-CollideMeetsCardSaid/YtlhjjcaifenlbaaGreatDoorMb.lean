/- B3/S23 is left as it is by each of the eight symmetries. -/
import Derived.Test.YtlhjjcaifenlbaaGreatDoorNo
import Derived.Test.YtlhjjcaifenlbaaGreatDoorNa
import Derived.Test.YtlhjjcaifenlbaaGreatDoorRd
import Derived.Test.YtlhjjcaifenlbaaGreatDoorSz
import Derived.Test.YtlhjjcaifenlbaaGreatDoorEg
import Derived.Test.YtlhjjcaifenlbaaGreatDoorSeav
set_option linter.unusedSimpArgs false
set_option linter.unusedVariables false
set_option linter.unusedSectionVars false
set_option maxRecDepth 100000
set_option maxHeartbeats 4000000
namespace Go.Mx.Tryz
open Go.Lib Go.Proofs
structure CaseW (zs zx:I)(fs:LT)(l:List Sh)(xs:List St5):Prop where
 s:IsSl zs fs
 fl:fs.length=l.length
 sv:∀(i:Nat) (s:Sh),l[i]? = some s->(s.c.length:Int)<=9223372036854775807 /\ ∃v,nth fs i=some (shI v s)/\IsSl v (Af s.c)
 x:IsSl zx (Fl xs)
 ll:(l.length:Int)<=9223372036854775807
 lx:(xs.length:Int)<=9223372036854775807
structure CaseA (zs zx:I)(fs:LT)(l:List Sh)(xs:List St5):Prop where
 s:IsSl zs fs
 sv:Et fs l
 x:IsSl zx (Fl xs)
 ll:l.length<=1000000
 lx:xs.length<=1000000
def EM (s:Sh):Bool:=decide (s.c.length<=30) && !(decide (8<s.m.1)&&decide (s.m.1<=64))
def Fu (x:St5):Bool:=!(decide (20<x.n)&&decide (x.n<=10000))
def IM (f:Bool)(l:List Sh)(xs:List St5)(gens most:Int):Bool:=l.all EM&&(xs.all Fu&&(f&&(decide (l.length<=20)&&(decide (xs.length<=20)&&((decide (gens<=24)||decide (10000<gens))&&(decide (most<=8)||decide (64<most)))))))
variable {zs zx:I} {fs:LT} {l:List Sh} {xs:List St5} {gens most:Int}
theorem UJ {f:Bool}(u:CaseW zs zx fs l xs)(h:IM f l xs gens most=true):CaseA zs zx fs l xs:=by
 unfold IM at h
 simp only[Ahi,Aht]at h
 obtain⟨E,_,_,J,N,_⟩:=h
 refine⟨u.s,⟨u.fl,fun i s z=>?_⟩,u.x,by omega,by omega⟩
 have:=Ahu.1 E s (Ahm z)
 unfold EM at this
 simp only[Ahi,Aht]at this
 exact⟨by omega,(u.sv i s z).2⟩
variable {t:TreeC} {h n:I} {es:LT}
theorem UH (hT:TreeV t h n es)(hW:CaseW zs zx fs l xs)(gens most:Int)(H:Hp):Gives G 21 [.m (.ag [J4 t.states,h,n]),.m (.ag [zs,zx,J4 gens,J4 most])] H (.m (.b (IM (Wz t) l xs gens most))) H:=by
 have gf:=fun H=>AgK hT H
 have z:=hW.s.rules
 rw[hW.fl]at z
 have Q:=hW.x.rules
 rw[Jh]at Q
 have hll:=hW.ll
 have hlx:=hW.lx
 refine Ae rfl rfl rfl rfl rfl ?_
 generalize N:IM (Wz t) l xs gens most=E
 unfold IM at N
 have f1:∀ {i:Nat} {s:Sh},l[i]? = some s->(l.drop i).all EM=(EM s&&(l.drop (i+1)).all EM):=fun {i s} hx=>by rw[(Am hx).2];rfl
 have f2:∀ {i:Nat} {x:St5},xs[i]? = some x->(xs.drop i).all Fu=(Fu x&&(xs.drop (i+1)).all Fu):=fun {i x} hx=>by rw[(Am hx).2];rfl
 simp (disch:=omega) [z]
 refine(?key:∀(i:Nat) (B:LE),i<=l.length->l.all EM=(l.drop i).all EM->getB B 2=some [J0 t.states,.m h,.m n]->getB B 3=some [.m zs,.m zx,J0 gens,J0 most]->Run G c21_B0 (S21_0 (.fa 2 0) (.fa 3 0) (J0 (l.length:Int)) (J0 (i:Int)) B []) _) 0 _ (Aho _) rfl rfl rfl
 refine Bl (fun i:Nat=>l.length-i) fun i ih B hi J u W=>?_
 unfold c21_B0
 cases hx:l[i]? with
 | some s =>
  have hlt:=(Ahg.1 hx).1
  have U:(i:Int)<l.length:=by omega
  obtain⟨hsl,v,hn,hv⟩:=hW.sv i s hx
  have hrv:=hv.rules
  simp only[show (Af s.c).length=s.c.length from by simp[Af]]at hrv
  have wi:=J1 i (by omega)
  have hst:=f1 hx
  simp only[shI]at hn
  have kf:EM s=false->E=false:=fun h=>by rw[<-N,J,hst,h];rfl
  have kt:EM s=true -> ∀B',getB B' 2=some [J0 t.states,.m h,.m n]->getB B' 3=some [.m zs,.m zx,J0 gens,J0 most]->_:=fun h B'=>ih (i+1) (by omega) B' (by omega) (by rw[J,hst,h];rfl)
  unfold EM at kf kt
  by_cases c1:s.c.length<=30
  ·by_cases c2:8<s.m.1
   ·by_cases Y:s.m.1<=64
    ·have:=kf (by rw[Ahq c2,Ahq Y];simp)
     subst this
     simp (disch:=omega) [z,U,hn,W,hrv,show ¬30<s.c.length from by omega,show ¬(30:Int)<s.c.length from by omega,c2,Y]
    ·have k2:=kt (by rw[Ahq c1,Ahs Y];simp)
     simp (disch:=omega) [z,U,hn,W,hrv,show ¬30<s.c.length from by omega,show ¬(30:Int)<s.c.length from by omega,c2,Y,wi,-Int.natCast_add]
     exact k2 _ u W
   ·have k2:=kt (by rw[Ahq c1,Ahs c2];simp)
    simp (disch:=omega) [z,U,hn,W,hrv,show ¬30<s.c.length from by omega,show ¬(30:Int)<s.c.length from by omega,c2,wi,-Int.natCast_add]
    exact k2 _ u W
  ·have:=kf (by rw[Ahs c1];simp)
   subst this
   simp (disch:=omega) [z,U,hn,W,hrv,show (30:Int)<s.c.length from by omega]
 | none =>
  have:i=l.length:=by have:=Ahn.1 hx;omega
  subst this
  clear ih hx hi
  have a1:l.all EM=true:=by rw[J,Aia];rfl
  rw[a1,Aiy]at N
  simp (disch:=omega) [W,Q]
  refine(?key2:∀(i:Nat) (B:LE),i<=xs.length->xs.all Fu=(xs.drop i).all Fu->getB B 2=some [J0 t.states,.m h,.m n]->getB B 3=some [.m zs,.m zx,J0 gens,J0 most]->Run G c21_B1 (S21_1 (.fa 2 0) (.fa 3 0) (J0 (xs.length:Int)) (J0 (i:Int)) B []) _) 0 _ (Aho _) rfl u W
  clear J W u B
  refine Bl (fun i:Nat=>xs.length-i) fun i ih B hi J u W=>?_
  unfold c21_B1
  cases hx:xs[i]? with
  | some x =>
   have hlt:=(Ahg.1 hx).1
   have U:(i:Int)<xs.length:=by omega
   have hn:=Jg hx
   have wi:=J1 i (by omega)
   have hst:=f2 hx
   have kf:Fu x=false->E=false:=fun h=>by rw[<-N,J,hst,h];rfl
   have kt:Fu x=true -> ∀B',getB B' 2=some [J0 t.states,.m h,.m n]->getB B' 3=some [.m zs,.m zx,J0 gens,J0 most]->_:=fun h B'=>ih (i+1) (by omega) B' (by omega) (by rw[J,hst,h];rfl)
   unfold Fu at kf kt
   by_cases c2:20<x.n
   ·by_cases Y:x.n<=10000
    ·have:=kf (by rw[Ahq c2,Ahq Y];rfl)
     subst this
     simp (disch:=omega) [Q,U,hn,W,c2,Y]
    ·have k2:=kt (by rw[Ahs Y];simp)
     simp (disch:=omega) [Q,U,hn,W,c2,Y,wi,-Int.natCast_add]
     exact k2 _ u W
   ·have k2:=kt (by rw[Ahs c2];simp)
    simp (disch:=omega) [Q,U,hn,W,c2,wi,-Int.natCast_add]
    exact k2 _ u W
  | none =>
   have:i=xs.length:=by have:=Ahn.1 hx;omega
   subst this
   clear ih hx hi
   have a1:xs.all Fu=true:=by rw[J,Aia];rfl
   rw[a1,Aiy]at N
   clear J
   cases hf:Wz t with
   | false =>
    rw[hf]at gf N
    have:E=false:=by rw[<-N];rfl
    subst this
    simp (disch:=omega) [u,cl (gf _)]
   | true =>
   rw[hf]at gf N
   by_cases c1:l.length<=20
   rotate_left
   ·rw[Ahs c1]at N
    have:E=false:=by rw[<-N];rfl
    subst this
    simp (disch:=omega) [W,u,cl (gf _),z,show ¬(l.length:Int)<=20 from by omega]
   have Z:(l.length:Int)<=20:=by omega
   by_cases c2:xs.length<=20
   rotate_left
   ·rw[Ahs c2]at N
    have:E=false:=by rw[<-N];simp
    subst this
    simp (disch:=omega) [W,u,cl (gf _),z,Z,Q,show ¬(xs.length:Int)<=20 from by omega]
   have a0:(xs.length:Int)<=20:=by omega
   rw[Ahq c1,Ahq c2]at N
   by_cases Y:gens<=24
   ·rw[Ahq Y]at N
    by_cases c4:most<=8
    ·rw[Ahq c4]at N
     subst N
     simp (disch:=omega) [W,u,cl (gf _),z,Z,Q,a0,Y,c4]
    ·by_cases c5:64<most
     ·rw[Ahq c5]at N
      have:E=true:=by rw[<-N];simp
      subst this
      simp (disch:=omega) [W,u,cl (gf _),z,Z,Q,a0,Y,c4,c5]
     ·rw[Ahs c5,Ahs c4]at N
      subst N
      simp (disch:=omega) [W,u,cl (gf _),z,Z,Q,a0,Y,c4,c5]
   ·by_cases c6:10000<gens
    ·rw[Ahq c6]at N
     by_cases c4:most<=8
     ·rw[Ahq c4]at N
      have:E=true:=by rw[<-N];simp
      subst this
      simp (disch:=omega) [W,u,cl (gf _),z,Z,Q,a0,Y,c4,c6]
     ·by_cases c5:64<most
      ·rw[Ahq c5]at N
       have:E=true:=by rw[<-N];simp
       subst this
       simp (disch:=omega) [W,u,cl (gf _),z,Z,Q,a0,Y,c4,c5,c6]
      ·rw[Ahs c5,Ahs c4]at N
       have:E=false:=by rw[<-N];simp
       subst this
       simp (disch:=omega) [W,u,cl (gf _),z,Z,Q,a0,Y,c4,c5,c6]
    ·rw[Ahs c6,Ahs Y]at N
     have:E=false:=by rw[<-N];rfl
     subst this
     simp (disch:=omega) [W,u,cl (gf _),z,Z,Q,a0,Y,c6]
theorem Zc {B n:Nat}{l:List I}(hB:B<=9223372036854775807)(h:Fits Go.Proofs.Tryz.prog B (n+6) 49 l):∃(zs zx:I) (fs:LT) (sl:List Sh) (xs:List St5) (gens most:Int),l=[zs,zx,J4 gens,J4 most]/\CaseW zs zx fs sl xs:=by
 unfold Fits at h
 rw[Go.Proofs.Tryz.underlying49]at h
 simp only[GZ]at h
 obtain⟨x1,y1,rfl,Q,Z,y2,rfl,U,x3,y3,rfl,k3,x4,y4,rfl,Y,rfl⟩:=h
 obtain⟨g,rfl,_⟩:=BI k3
 obtain⟨m,rfl,_⟩:=BI Y
 unfold Fits at Q U
 rw[Go.Proofs.Tryz.underlying26]at Q
 rw[Go.Proofs.Tryz.underlying27]at U
 simp only at Q U
 have hs:∃(z:I) (fs:LT) (sl:List Sh),x1=[z]/\IsSl z fs/\fs.length<=B/\fs.length=sl.length /\ ∀(i:Nat) (s:Sh),sl[i]? = some s->s.c.length<=B /\ ∃v,nth fs i=some (shI v s)/\IsSl v (Af s.c):=by
  rcases Q with rfl|⟨es,rfl,E,u⟩
  ·exact⟨_,[],[],rfl,AM,by simp,rfl,fun i s N=>by simp at N⟩
  ·obtain⟨sl,h1,h2⟩:=VV fun x J=>YY (u x J)
   exact⟨_,es,sl,rfl,Bf _,E,h1,h2⟩
 have J:∃(z:I) (xs:List St5),Z=[z]/\IsSl z (Fl xs)/\xs.length<=B:=by
  rcases U with rfl|⟨es,rfl,E,u⟩
  ·exact⟨_,[],rfl,AM,by simp⟩
  ·obtain⟨p,rfl⟩:=VU fun x J=>YX (u x J)
   exact⟨_,p,rfl,Bf _,by simpa using E⟩
 obtain⟨zs,fs,sl,rfl,b1,b2,b3,W⟩:=hs
 obtain⟨zx,xs,rfl,c1,c2⟩:=J
 exact⟨zs,zx,fs,sl,xs,g,m,rfl,⟨b1,b3,fun i s N=>⟨by have:=(W i s N).1;omega,(W i s N).2⟩,c1,by omega,by omega⟩⟩
theorem AdB:Cn Go.Proofs.Tryz.prog 49=some true:=by unfold Cn;rw[Go.Proofs.Tryz.underlying49];rfl
theorem Rf {B n:Nat}{u:List TypeId}{us:List V}(E:B<=9223372036854775807)(h:DC Go.Proofs.Tryz.prog B (n+6) (49::u) us):
  ∃(zs zx:I) (fs:LT) (sl:List Sh) (xs:List St5) (gens most:Int) (r:List V),us=.m (.ag [zs,zx,J4 gens,J4 most])::r/\CaseW zs zx fs sl xs/\DC Go.Proofs.Tryz.prog B (n+6) u r:=by
 obtain⟨l,r,rfl,J,N⟩:=IF h
 obtain⟨zs,zx,fs,sl,xs,g,m,rfl,z⟩:=Zc E J
 rw[Ul AdB]
 exact⟨zs,zx,fs,sl,xs,g,m,r,rfl,z,N⟩
theorem Yo (u:Dr t)(l:List Sh)(xs:List St5)(gens:Int):(Yp t l xs gens).1.length<=5000:=by
 rw[Qk]
 split
 ·exact AcK u _ _
 ·simp
theorem VH (J:Gives G 22 [] [] (.m (.b true)) [])(z:TreeV t h n es)(E:CaseW zs zx fs l xs):Gives G 5 [.m (.ag [J4 t.states,h,n]),.m (.ag [zs,zx,J4 gens,J4 most])] [] (.m (.b true)) []:=by
 have g1:=fun H=>UH z E gens most H
 refine Ae rfl rfl rfl rfl rfl ?_
 cases hf:IM (Wz t) l xs gens most with
 | false =>
  rw[hf]at g1
  simp (disch:=omega) [cl (g1 _),cl J]
 | true =>
 rw[hf]at g1
 have u:=UJ E hf
 have Q:=fun H=>Agv z u.s u.sv u.x u.ll u.lx gens H
 have N:=fun H=>Agw z u.s u.sv u.x u.ll u.lx gens H
 generalize Lb t l xs gens=e at *
 simp (disch:=omega) [cl (g1 _),Ad,cl (Q _),cl (N _),cl J]
theorem Lo (N:Gives G 22 [] [] (.m (.b true)) [])(us:List V)(h:DC Go.Proofs.Tryz.prog maxLen 8 Go.Proofs.Tryz.f5.params.toList us):Gives G 5 us [] (.m (.b true)) []:=by
 have e:Go.Proofs.Tryz.f5.params.toList=[25,49]:=by rw[Go.Proofs.Tryz.params5]
 have h:=e ▸ h
 obtain⟨t,Q,U,es,r,rfl,J,z⟩:=Re (n:=3) (by decide) h
 obtain⟨zs,zx,fs,sl,xs,g,m,W,rfl,u,E⟩:=Rf (n:=2) (by decide) z
 have:=JN E
 subst this
 exact VH N J u
theorem OF (N:Gives G 22 [] [] (.m (.b true)) [])(z:TreeV t h n es)(E:CaseW zs zx fs l xs):Gives G 6 [.m (.ag [J4 t.states,h,n]),.m (.ag [zs,zx,J4 gens,J4 most])] [] (.m (.b true)) []:=by
 have g1:=fun H=>UH z E gens most H
 refine Ae rfl rfl rfl rfl rfl ?_
 cases hf:IM (Wz t) l xs gens most with
 | false =>
  rw[hf]at g1
  simp (disch:=omega) [cl (g1 _),cl N]
 | true =>
 rw[hf]at g1
 have u:=UJ E hf
 obtain⟨x,U,Y⟩:=res_s z u.s u.sv u.x u.ll u.lx gens
 obtain⟨y,Q,W⟩:=res_r z u.s u.sv u.x u.ll u.lx gens
 have Z:=Yo (Cb z) l xs gens
 have J:=fun H=>IV U Q (by omega) (by omega) H
 rw[Ahq (Gn.2 rfl)]at J
 generalize Yp t l xs gens=e at *
 simp (disch:=omega) [cl (g1 _),Ad,cl (Y _),cl (W _),cl (J _),cl N]
theorem Je (N:Gives G 22 [] [] (.m (.b true)) [])(us:List V)(h:DC Go.Proofs.Tryz.prog maxLen 8 Go.Proofs.Tryz.f6.params.toList us):Gives G 6 us [] (.m (.b true)) []:=by
 have e:Go.Proofs.Tryz.f6.params.toList=[25,49]:=by rw[Go.Proofs.Tryz.params6]
 have h:=e ▸ h
 obtain⟨t,Q,U,es,r,rfl,J,z⟩:=Re (n:=3) (by decide) h
 obtain⟨zs,zx,fs,sl,xs,g,m,W,rfl,u,E⟩:=Rf (n:=2) (by decide) z
 have:=JN E
 subst this
 exact OF N J u
end Go.Mx.Tryz
namespace Go.Mx.Tryz
open Go.Lib
theorem VM (n:Nat):List.replicate n [V.m (J4 0)]=onV (iI (List.replicate n 0)):=by simp[onV,iI]
theorem Ow {α:Type}(l m:List α)(j:Nat)(x:α):(l++m).set (l.length+j) x=l++m.set j x:=by
 rw[AiF _ _ (by omega)]
 congr 2
 omega
theorem AgB (l:List Nd):InvW l (List.replicate l.length 0,[]):=⟨by simp,Aho _,fun v u=>by
 have:=(List.mem_replicate.1 u).2
 subst this
 exact⟨Int.le_refl _,Int.le_refl _⟩⟩
section
variable {α:Type} (H M:List α) (a b c d e x:α)
theorem nu1:nth (H++a::b::M) (H.length+1)=some b:=by rw[CU];rfl
theorem nu2:nth (H++a::b::c::M) (H.length+2)=some c:=by rw[CU];rfl
theorem nu3:nth (H++a::b::c::d::M) (H.length+3)=some d:=by rw[CU];rfl
theorem nu4:nth (H++a::b::c::d::e::M) (H.length+4)=some e:=by rw[CU];rfl
theorem su2:AO (H++a::b::c::M) (H.length+2) x=some (H++a::b::x::M):=by
 rw[AA _ _ _ (by simp),Ow]
 rfl
theorem su4:AO (H++a::b::c::d::e::M) (H.length+4) x=some (H++a::b::c::d::x::M):=by
 rw[AA _ _ _ (by simp),Ow]
 rfl
end
set_option maxHeartbeats 4000000 in
theorem MV {es:LT}{o:V}{H:Hp}(hv:Lt es)(hk:OkN (es.map dNd))(a4:es.length<=10000000)(hn:L2 es o H){n k:Nat}(a1:k<es.length)(a6:(ndU (es.map dNd) k).1<=(n:Int))(Q:V->Hp->Prop) 
  (hQ:∀N E H',L2 N E H'->Lt N->N.map dNd=(HL (es.map dNd) n k (List.replicate es.length 0,[])).1.2->H.length<=H'.length->(∀r,r<H.length->nth H' r=nth H r)->(∀r,AH E=some r->H.length<=r)->Q E H') :
  Ret G 203 [o,J0 (k:Int)] H Q:=by
 have u:=hn.nf
 refine Bg mono rfl rfl rfl (by simp[u.1]) rfl ?_
 have hL:∀m:Hp,L2 es o (H++m):=fun m=>hn.keep fun r e z=>BK _ _ _ z
 have a5:es.length*8<=281474976710656:=by omega
 have a2:es.length<=9223372036854775807:=by omega
 have w1:∀x y:V,BS 1 [[x]] 0 0 [y]=some [[y]]:=fun _ _=>rfl
 have a3:∀f xs,Ay (.fn f xs)=some [.fn f xs]:=fun _ _=>rfl
 have a0:∀f xs,BM (.fn f xs)=true:=fun _ _=>rfl
 simp (disch:=omega) [Ab,u.2.1,u.2.2.2,AC,nu2,nu4,su2,su4,a5,a2,w1,a3,a0]
 rw[Ao]
 have z:=VM es.length
 rw[z]
 let R:RwS:=⟨H.length,H.length+1,H.length+2,H.length+3,H.length+4⟩
 have hI:=AgB (es.map dNd)
 rw[Ahr]at hI
 refine ZO (R:=R) hv hk a4 n k (List.replicate es.length 0) [] (.m (.nl 4)) _ ⟨⟨0,by omega,AC ..⟩,hL _,⟨1,by omega,nu2 ..⟩,⟨0,by omega,nu1 ..⟩,⟨0,by omega,nu3 ..⟩,.inl ⟨rfl,rfl⟩,⟨1,by omega,nu4 ..⟩,by simp,by show H.length≠H.length+3;omega,fun r _ h=>(by cases h),fun e h=>(by simp at h)⟩ hI a1 a6 _ fun dn N E H2 U Y W=>?_
 obtain⟨b3,Z,h3⟩:=U.h3
 have h3:nth H2 (H.length+3)=some (.cs 23 1 [[E]] b3 false):=h3
 have J:=U.ho.nf
 have kk:=hQ N E H2 U.ho U.oe (by have:=AiE Prod.snd Y;exact this.symm) (by have:=W.1;simp at this;omega) (fun r z=>by
   rw[W.2.1 r (by simp;omega) (by show r≠H.length+1;omega) (by show r≠H.length+3;omega) (by simp[AH])]
   exact BK _ _ _ z) fun r z=>by
   rcases W.2.2 r z with h|h
   ·cases h
   ·simp at h;omega
 simp (disch:=omega) [Ab,h3,Z,Al J.1]
 exact⟨J.1,kk⟩
end Go.Mx.Tryz
namespace Go.Mx.Tryz
theorem QL:∀ {l:List Nd} {x:Nd} {k:Nat},l.idxOf? x=some k->l[k]? = some x
 | [],x,k,h=>by simp at h
 | y::r,x,k,h=>by
  rw[List.idxOf?_cons]at h
  by_cases e:y=x
  ·subst e
   simp at h
   subst h
   rfl
  ·rw[Ahj (by simpa using e)]at h
   cases hr:r.idxOf? x with
   | none=>rw[hr]at h;cases h
   | some j =>
    rw[hr]at h
    simp at h
    subst h
    simpa using QL hr
theorem Rh (l:List Nd)(x:Nd):(EP l x).1[(EP l x).2]? = some x:=by
 unfold EP
 split
 ·rename_i k h
  exact QL h
 ·simp
variable {l:List Nd} {x:Nd}
theorem Zn {y:Nd}{j:Nat}(h:l[j]? = some y):(EP l x).1[j]? = some y:=by
 unfold EP
 split
 ·exact h
 ·simp only
  rw[AhC (Ahg.1 h).1]
  exact h
def OkR (l:List Nd):Prop:=∀i,i<l.length->1<=(ndU l i).1/\(ndU l i).1<=1000/\(ndU l i).2≠[]/\(ndU l i).2.length<=100/\(∀k,k∈(ndU l i).2 -> -1000000000<=k/\k<=1000000000)/\(1<(ndU l i).1 -> ∀k,k∈(ndU l i).2->0<=k/\k.toNat<i/\(ndU l k.toNat).1<(ndU l i).1)
def OE (to:List Int)(x:Nd):List Int:=if 1<x.1 then x.2.map (fun k=>(to[k.toNat]?).getD 0) else x.2
theorem Lc (to:List Int)(x:Nd):(OE to x).length=x.2.length:=by unfold OE;split <;> simp
def stepR (st:List Nd×List Int)(x:Nd):List Nd×List Int:=((EP st.1 (x.1,OE st.2 x)).1,st.2++[((EP st.1 (x.1,OE st.2 x)).2:Int)])
def CA (l:List Nd):Nat->List Nd×List Int
 | 0=>([],[])
 | i+1=>stepR (CA l i) (ndU l i)
structure BIv (l:List Nd)(i:Nat)(st:List Nd×List Int):Prop where
 tl:st.2.length=i
 tv:∀j,j<i -> ∃(m:Nat) (y:Nd),st.2[j]? = some (m:Int)/\st.1[m]? = some y/\y.1=(ndU l j).1
 ok:OkN st.1
 le:st.1.length<=i
variable {i:Nat}
theorem Vs (h:l[i]? = some x):ndU l i=x:=by unfold ndU;rw[h];rfl
theorem Adb (h:OkN l)(h1:1<=x.1/\x.1<=1000/\x.2≠[]/\x.2.length<=100/\(∀k,k∈x.2 -> -1000000000<=k/\k<=1000000000)/\(1<x.1 -> ∀k,k∈x.2->0<=k/\k.toNat<l.length/\(ndU l k.toNat).1<x.1)):OkN (EP l x).1:=by
 unfold EP
 split
 ·exact h
 ·simp only
  have u:∀j,j<l.length->ndU (l++[x]) j=ndU l j:=fun j hj=>by unfold ndU;rw[AhC hj]
  intro i hi
  rw[Ahv,Ais]at hi
  by_cases c:i<l.length
  ·obtain⟨a1,Y,U,W,Z,N⟩:=h i c
   rw[u i c]
   refine⟨a1,Y,U,W,Z,fun Q k J=>?_⟩
   obtain⟨z,E,b3⟩:=N Q k J
   rw[u _ E]
   exact⟨z,by rw[Ahv];omega,b3⟩
  ·have:i=l.length:=by omega
   subst this
   have e:ndU (l++[x]) l.length=x:=by unfold ndU;simp
   rw[e]
   obtain⟨a1,Y,U,W,Z,N⟩:=h1
   refine⟨a1,Y,U,W,Z,fun Q k J=>?_⟩
   obtain⟨z,E,b3⟩:=N Q k J
   rw[u _ E]
   exact⟨z,by rw[Ahv];omega,b3⟩
variable {st:List Nd×List Int}
theorem VD (Z:OkR l)(hi:i<l.length)(h:BIv l i st)(hl:l.length<=10000000):(∀k,k∈OE st.2 (ndU l i) -> -1000000000<=k/\k<=1000000000)/\(1<(ndU l i).1 -> ∀k,k∈OE st.2 (ndU l i)->0<=k/\k.toNat<st.1.length/\(ndU st.1 k.toNat).1<(ndU l i).1):=by
 obtain⟨a1,a2,a3,a4,a5,W⟩:=Z i hi
 have z:1<(ndU l i).1 -> ∀k,k∈OE st.2 (ndU l i)->0<=k/\k.toNat<st.1.length/\(ndU st.1 k.toNat).1<(ndU l i).1:=fun E k u=>by
  unfold OE at u
  rw[Ahl E]at u
  obtain⟨q,Y,rfl⟩:=AhE.1 u
  obtain⟨Q,J,b3⟩:=W E q Y
  obtain⟨m,y,c1,N,U⟩:=h.tv q.toNat J
  rw[c1]
  simp only[AiJ,Int.toNat_natCast]
  refine⟨by omega,(Ahg.1 N).1,?_⟩
  rw[Vs N,U]
  exact b3
 refine⟨fun k u=>?_,z⟩
 by_cases E:1<(ndU l i).1
 ·obtain⟨Q,J,_⟩:=z E k u
  have:=h.le
  omega
 ·unfold OE at u
  rw[Ahj E]at u
  exact a5 k u
theorem Zk (u:OkR l)(hi:i<l.length)(h:BIv l i st)(hl:l.length<=10000000):BIv l (i+1) (stepR st (ndU l i)):=by
 obtain⟨W,U,N,Q,a5,a6⟩:=u i hi
 obtain⟨z,E⟩:=VD u hi h hl
 refine⟨by show (st.2++_).length=_;simp[h.tl],fun j hj=>?_,Adb h.ok ⟨W,U,fun e=>N ?_,by rw[Lc];exact Q,z,E⟩,?_⟩
 ·by_cases c:j<i
  ·obtain⟨m,y,Y,Z,J⟩:=h.tv j c
   refine⟨m,y,?_,Zn Z,J⟩
   show (st.2++_)[j]? = _
   rw[AhC (by rw[h.tl];exact c)]
   exact Y
  ·have:j=i:=by omega
   subst this
   refine⟨_,_,?_,Rh _ _,rfl⟩
   show (st.2++_)[j]? = _
   rw[AhP (by rw[h.tl];omega),h.tl]
   simp
 ·have:=Lc st.2 (ndU l i)
  have e:OE st.2 (ndU l i)=[]:=e
  rw[e]at this
  exact List.length_eq_zero_iff.1 this.symm
 ·have:=(Rg st.1 ((ndU l i).1,OE st.2 (ndU l i))).2
  have:=h.le
  show (EP st.1 _).1.length<=_
  omega
theorem Ra {l:List Nd}(u:OkR l)(hl:l.length<=10000000):∀i,i<=l.length->BIv l i (CA l i)
 | 0,_=>⟨rfl,fun j z=>by omega,fun i hi=>absurd hi (by simp[CA]),Ahk _⟩
 | i+1,h=>Zk u (by omega) (Ra u hl i (by omega)) hl
def Yq (l:List Nd):List Nd:=(HL (CA l l.length).1 1000 (((CA l l.length).2[l.length-1]?).getD 0).toNat (List.replicate (CA l l.length).1.length 0,[])).1.2
open Go.Lib
variable {α:Type}
theorem su1 (H M:List α)(a b x:α):AO (H++a::b::M) (H.length+1) x=some (H++a::x::M):=by
 rw[AA _ _ _ (by simp),Ow]
 rfl
theorem OC:∀(M c:List Int) (s:Nat) (m:Int),M.length=c.length->M[s]? = some m->(M.take s++c.drop s).set s m=M.take (s+1)++c.drop (s+1)
 | [],_,_,_,_,h=>by simp at h
 | a::M,[],_,_,h,_=>by simp at h
 | a::M,b::c,0,m,_,h=>by simp at h;subst h;simp
 | a::M,b::c,s+1,m,hl,h=>by
  have:=OC M c s m (by simpa using hl) (by simpa using h)
  simp only[List.take_succ_cons,List.drop_succ_cons,Aig,List.set_cons_succ,this]
theorem OD:∀(M c:List Int) (s:Nat),M.length=c.length->(M.take s++c.drop s)[s]? = c[s]?
 | [],[],_,_=>by simp
 | [],_::_,_,h=>by simp at h
 | a::M,[],_,h=>by simp at h
 | a::M,b::c,0,_=>by simp
 | a::M,b::c,s+1,hl=>by
  have:=OD M c s (by simpa using hl)
  simpa using this
theorem Vz (M c:List Int)(s:Nat)(h:M.length=c.length):(M.take s++c.drop s).length=c.length:=by
 rw[Ahv,Ahx,AhT]
 omega
theorem AfX (l:V)(o:V)(hl:AB l=true)(u:AB o=true)(H:Hp):Gives G 201 [l,o] H o H:=by
 refine .of_ret (Bg mono rfl rfl rfl (by simp[hl,u]) rfl ?_)
 simp (disch:=omega) [Al u,u]
variable {c:List (Int×Int)}
theorem Adu {z:I}(Y:IsSl z (Az c))(J:c≠[])(Z:c.length<=1000000)(H:Hp):Gives G 228 [.m z] H (.sl H.length c.length 2 0 c.length false) (H++[.cs 43 2 (Bn (Az c)) 0 false]):=by
 have N:(Az c).length=c.length:=by simp[Az]
 rcases Y with rfl|⟨rfl,W⟩
 ·have u:elems H (.m (.sl (Az c)))=some (Bn (Az c)):=rfl
  have E:FC 4 (.m (.sl (Az c)))=some false:=rfl
  refine .of_ret (Bg mono rfl rfl rfl rfl rfl ?_)
  have U:∀B,An (fun _ _ _=>none) ⟨B,H⟩ (.app 43 2 16) [.ls [],.m (.sl (Az c))]=some (.sl H.length c.length 2 0 c.length false,⟨B,H++[.cs 43 2 (Bn (Az c)) 0 false]⟩):=fun B=>by
   rw[Cl u]
   obtain⟨x,t,rfl⟩:=AiL J
   show Bv ⟨B,H⟩ 43 2 16 (Bn (Az (x::t)))=_
   have Q:((Bn (Az (x::t))).all fun e=>Nat.beq e.length 2&&e.all BM)=true:=by
    rw[Ahu]
    intro e u
    unfold Bn Az at u
    rw[Aim]at u
    obtain⟨q,_,rfl⟩:=AhE.1 u
    rfl
   rw[Dj,Q,immS_len,N]
   have:Nat.ble ((x::t).length*16) 140737488355328=true:=by rw[Bh];exact Ahq (by omega)
   rw[this]
   rfl
  simp[E,-Dz,U]
 ·exact absurd (by simpa[Az]using W) J
structure RebQ (H:Hp)(l:List Nd)(i:Nat)(eb:LT)(ob tv:V)(Hi:Hp):Prop where
 bld:BldQ (H.length+1) H.length eb ob Hi
 lr:LR 3 (iI (CA l i).2) tv Hi HQ
 eq:eb.map dNd=(CA l i).1
 len:H.length+2<=Hi.length
 old:∀r,r<H.length->nth Hi r=nth H r
 ro:∀r,AH ob=some r->H.length<=r
 rt:∀r,AH tv=some r->H.length<=r
variable {es:LT} {n:I} {H:Hp}
set_option maxHeartbeats 4000000 in
theorem US (hn:IsSl n es)(hv:Lt es)(u:OkR (es.map dNd))(hl:es.length<=1000000)(h1:1<=es.length){S:Int}{hd:I}(hh:IsSl hd (Az c))(hcn:c≠[])(hcl:c.length<=1000)(Q:V->Hp->Prop) 
  (hQ:∀rh eo oo H',nth H' rh=some (.cs 43 2 (Bn (Az c)) 0 false)->L2 eo oo H'->Lt eo->eo.map dNd=Yq (es.map dNd)->H.length<=H'.length->(∀r,r<H.length->nth H' r=nth H r)->H.length<=rh->(∀r,AH oo=some r->H.length<=r)->Q (.ag [J0 S,.sl rh c.length 2 0 c.length false,oo]) H') :
  Ret G 200 [.m (.ag [J4 S,hd,n]),.m (.fn 201 [])] H Q:=by
 have hlm:(es.map dNd).length=es.length:=Ahr ..
 have rn:=hn.rules
 refine Bg mono rfl rfl rfl rfl rfl ?_
 have w1:∀x y z w:V,BS 2 [[x,y]] 0 0 [z,w]=some [[z,w]]:=fun _ _ _ _=>rfl
 have am:∀r,BF [V.mp r]=none:=fun _=>rfl
 have cva:∀l,Ay (.ag l)=some l:=fun _=>rfl
 have omp:∀r,BM (.mp r)=true:=fun _=>rfl
 have onl:BM (.m (.nl 4))=true:=rfl
 simp (disch:=omega) [Ab,rn,nu1,su1,w1,am,cva,omp,onl]
 refine(?key:∀(i:Nat) (eb:LT) (ob tv:V) (B:LE) (J:Hp),i<=es.length->getB B 2=some [J0 S,.m hd,.m n]->getB B 4=some [J0 0,.m (.nl 4),.m (.nl 4)]->RebQ H (es.map dNd) i eb ob tv J ->
  Run G c200_B1 (S200_1 (.m (.fn 201 [])) (.fa 2 0) (.fa 4 0) (.pt (H.length+1) 1 0 0) tv (.m n) (.m (.i .i64 (es.length:Int))) (.m (.i .i64 (i:Int))) B J) _) 0 [] (.m (.nl 4)) (.m (.nl 4)) _ _ (Aho _) rfl rfl ⟨⟨⟨1,Ahk _,nu1 ..⟩,AC ..,.inl ⟨rfl,rfl⟩,fun e h=>by simp at h⟩,.inl ⟨rfl,rfl⟩,rfl,by simp,fun r u=>BK _ _ _ u,fun r h=>(by cases h),fun r h=>(by cases h)⟩
 refine Bl (fun i:Nat=>es.length-i) fun i ih eb ob tv B J hi a1 a0 hq=>?_
 have W:=Ra u (by omega) i (by omega)
 obtain⟨E,a7,a6,hlen,hold,hro,hrt⟩:=id hq
 have htn:=a7.nf
 unfold c200_B1
 by_cases hie:i<es.length
 ·have a5:(i:Int)<es.length:=by omega
  obtain⟨e,he⟩:∃e,es[i]? = some e:=⟨es[i],Ahh hie⟩
  obtain⟨x,z,rfl,hz⟩:=hv e (Ahm he)
  have hnd:ndU (es.map dNd) i=(x,dIn z):=by
   unfold ndU
   rw[AhD,he]
   rfl
  obtain⟨q1,q2,q3,q4,q5,q6⟩:=u i (by omega)
  have hmo:=VD u (by omega) W (by omega)
  have hfo:CA (es.map dNd) (i+1)=stepR (CA (es.map dNd) i) (ndU (es.map dNd) i):=rfl
  rw[hnd]at q1 q2 q3 q4 q5 q6 hmo hfo
  simp only at q1 q2 q3 q4 q5 q6 hmo
  generalize hc:dIn z=cc at *
  have gc:=Wj hz q3 (by omega) J
  have hne:nth es i=some [J4 x,z]:=by rw[AL];exact he
  have oz:=Cv hz
  simp (disch:=omega) [Ab,a5,rn,hne,cl gc,oz]
  have a3:(OE (CA (es.map dNd) i).2 (x,cc)).length=cc.length:=Lc _ _
  generalize hM:OE (CA (es.map dNd) i).2 (x,cc)=M at a3 hmo
  refine(?key2:∀(s:Nat) (B:LE) (b:Nat),s<=cc.length->b<=cc.length->getB B 2=some [J0 S,.m hd,.m n]->getB B 4=some [J0 0,.m (.nl 4),.m (.nl 4)]->getB B 8=some [J0 x,.m z] ->
   Run G c200_B0 (S200_0 (.m (.fn 201 [])) (.fa 2 0) (.fa 4 0) (.pt (H.length+1) 1 0 0) tv (.fa 8 0) (.sl J.length cc.length 1 0 cc.length false) (.m n) (J0 (es.length:Int)) (J0 (i:Int)) (.sl J.length cc.length 1 0 cc.length false) (J0 (cc.length:Int)) (J0 (s:Int)) B (J++[.cs 3 1 (onV (iI (M.take s++cc.drop s))) b false])) _) 0 _ 0 (Aho _) (Aho _) (by rw[AN];simpa using a1) (by rw[AN];simpa using a0) (by rw[AN];simp)
  refine Bl (fun s:Nat=>cc.length-s) fun s ihs B b hs hb a1 a0 a2=>?_
  unfold c200_B0
  have hdl:=Vz M cc s a3
  by_cases hsc:s<cc.length
  ·have Z:(s:Int)<cc.length:=by omega
   obtain⟨kd,hkd⟩:∃kd,cc[s]? = some kd:=⟨cc[s],Ahh hsc⟩
   have hgd:=OD M cc s a3
   rw[hkd]at hgd
   have hn2:=Ci (Dq hgd)
   have wi:=J1 s (by omega)
   obtain⟨m,hm⟩:∃m,M[s]? = some m:=⟨M[s]'(by omega),Ahh (by omega)⟩
   have hset:=OC M cc s m a3 hm
   by_cases a8:1<x
   ·obtain⟨s1,s2,s3⟩:=q6 a8 kd (Ahm hkd)
    obtain⟨kn,rfl⟩:=AhA s1
    have s2:kn<i:=s2
    obtain⟨m',y,c1,c2,c3⟩:=W.tv kn s2
    have N:m=(m':Int):=by
     have e:M[s]? = some (m':Int):=by
      rw[<-hM]
      unfold OE
      rw[Ahl a8,AhD,hkd]
      show some (((CA (es.map dNd) i).2[kn]?).getD 0)=_
      rw[c1]
      rfl
     rw[e]at hm
     exact(Aik hm).symm
    subst N
    have hrd:=(a7.keepR (H':=J++[.cs 3 1 (onV (iI (M.take s++cc.drop s))) b false]) fun r _ u=>BK _ _ _ u).rd (Dq c1)
    obtain⟨p,p1,p2,p3⟩:=hrd
    have hst:AO (onV (iI (M.take s++cc.drop s))) s [J0 (m':Int)]=some (onV (iI (M.take (s+1)++cc.drop (s+1)))):=by rw[Em (by rw[Dp,hdl];exact hsc),Hh,hset]
    have kk:=fun B=>ihs (s+1) (by omega) B cc.length (by omega) (Ahk _)
    simp (disch:=omega) [Ab,Z,AC,Au,hn2,hb,a8,a2,p1,p3,hst,hdl,wi]
    exact kk _ a1 a0 a2
   ·have N:m=kd:=by
     rw[<-hM]at hm
     unfold OE at hm
     rw[Ahj a8,hkd]at hm
     exact(Aik hm).symm
    subst N
    have hsame:M.take (s+1)++cc.drop (s+1)=M.take s++cc.drop s:=by
     rw[<-hset]
     apply List.ext_getElem?
     intro j
     by_cases e:s=j
     ·subst e
      rw[AiM (by rw[hdl];exact hsc),hgd]
     ·rw[Aij e]
    have kk:=fun B=>ihs (s+1) (by omega) B b (by omega) hb
    rw[hsame]at kk
    simp (disch:=omega) [Ab,Z,AC,hn2,hb,a8,a2,wi]
    exact kk _ a1 a0 a2
  ·have:s=cc.length:=by omega
   subst this
   have Z:¬(cc.length:Int)<cc.length:=by omega
   have hdM:M.take cc.length++cc.drop cc.length=M:=by rw[Aia,Aid,Ahz (by omega)]
   rw[hdM]
   generalize hHs:J++[.cs 3 1 (onV (iI M)) b false]=Hs
   have hrow:nth Hs J.length=some (.cs 3 1 (onV (iI M)) b false):=by rw[<-hHs];exact CU J _ 0
   have Y:∀r,r<J.length->nth Hs r=nth J r:=fun r u=>by rw[<-hHs];exact BK _ _ _ u
   have hlenS:Hs.length=J.length+1:=by rw[<-hHs];simp
   have hIR:IR M (.sl J.length cc.length 1 0 cc.length false) Hs:=⟨J.length,b,false,by rw[a3],hrow,by omega⟩
   have gr:=AfX (J0 x) (.sl J.length cc.length 1 0 cc.length false) rfl rfl Hs
   have hbS:BldQ (H.length+1) H.length eb ob Hs:=E.keep Y
   simp (disch:=omega) [Z,a2,cl gr]
   rw[Ao]
   have hel:eb.length<=es.length:=by
    have h1:=AiE List.length a6
    have h2:=W.le
    rw[Ahr]at h1
    omega
   refine Vp hbS hIR (by omega) hmo.1 (by omega) (by omega) _ fun eb2 ob2 H2 hb2 he2 hk2=>?_
   rw[a6]at he2 ⊢
   have hidl:(EP (CA (es.map dNd) i).1 (x,M)).2<=es.length:=by
    have h1:=Rh (CA (es.map dNd) i).1 (x,M)
    have h2:=(Ahg.1 h1).1
    have h3:=(Rg (CA (es.map dNd) i).1 (x,M)).2
    have h4:=W.le
    omega
   have htr:LR 3 (iI (CA (es.map dNd) i).2) tv H2 HQ:=a7.keepR fun r e u=>by
    have q:=a7.row e
    have U:=E.hb
    obtain⟨_,_,U⟩:=U
    have N:=E.hm
    rw[hk2.2.1 r (by omega) (fun e1=>by subst e1;rw[U]at q;simp at q) (fun e1=>by subst e1;rw[N]at q;simp[mpR]at q) (fun e1=>by have q2:=E.hn.row e1;rw[q2]at q;simp at q) (fun e1=>by cases e1;omega)]
    exact Y r u
   have htl:(iI (CA (es.map dNd) i).2).length<=10000000:=by rw[Dp,W.tl];omega
   obtain⟨tv2,H3,ga,gn,gl,gk⟩:=htr.pushN (b:=8) (by omega) (ys:=iI [((EP (CA (es.map dNd) i).1 (x,M)).2:Int)]) (by simp only[Dp,Ais];rw[Dp]at htl;omega) (Vq _)
   have hys:onV (iI [((EP (CA (es.map dNd) i).1 (x,M)).2:Int)])=[[V.m (J4 ((EP (CA (es.map dNd) i).1 (x,M)).2:Int))]]:=rfl
   rw[hys]at ga
   rw[VN]at gl
   have hfo2:CA (es.map dNd) (i+1)=((EP (CA (es.map dNd) i).1 (x,M)).1,(CA (es.map dNd) i).2++[((EP (CA (es.map dNd) i).1 (x,M)).2:Int)]):=by rw[hfo,<-hM];rfl
   have hl2:=hk2.1
   have a4:∀r,r<H2.length->(∀w,nth H2 r=some w -> ∀es b fz,w ≠ .cs 3 1 es b fz)->nth H3 r=nth H2 r:=fun r u hw=>gk.2.1 r u fun e=>by
    have q:=htr.row e
    exact hw _ q _ _ _ rfl
   have hb3:BldQ (H.length+1) H.length eb2 ob2 H3:=by
    obtain⟨⟨bb,hb0,U⟩,N,hnn,hok⟩:=id hb2
    exact⟨⟨bb,hb0,(a4 _ (AQ U) fun w hw _ _ _ h=>by rw[U]at hw;cases hw;simp at h).trans U⟩,(a4 _ (AQ N) fun w hw _ _ _ h=>by rw[N]at hw;cases hw;simp[mpR]at h).trans N,hnn.keep fun r e u=>a4 r u fun w hw _ _ _ h=>by
     have q:=hnn.row e
     rw[q]at hw;cases hw;simp at h,hok⟩
   have kk:=fun B=>ih (i+1) (by omega) eb2 ob2 tv2 B H3 (by omega)
   have wi:=J1 i (by omega)
   have kq:RebQ H (es.map dNd) (i+1) eb2 ob2 tv2 H3:=⟨hb3,by rw[hfo2];exact gl,by rw[hfo2];exact he2,by have:=gk.1;omega,fun r u=>by
     rw[gk.2.1 r (by omega) fun e=>by have:=hrt r e;omega]
     rw[hk2.2.1 r (by omega) (by omega) (by omega) (fun e=>by have:=hro r e;omega) (fun e=>by cases e;omega),Y r (by omega)]
     exact hold r u,fun r u=>by
     rcases hk2.2.2 r u with h|h
     ·exact hro r h
     ·omega,fun r u=>by
     rcases gk.2.2 r u with h|h
     ·exact hrt r h
     ·omega⟩
   simp (disch:=omega) [ga,Al gn,wi]
   exact kk _ a1 a0 kq
 ·have:i=es.length:=by omega
  subst this
  have a5:¬(es.length:Int)<es.length:=by omega
  obtain⟨bb,hb0,U⟩:=E.hb
  obtain⟨m,y,c1,c2,c3⟩:=W.tv (es.length-1) (by omega)
  obtain⟨p,p1,p2,p3⟩:=a7.rd (Dq c1)
  have hbl:eb.length=(CA (es.map dNd) es.length).1.length:=by rw[<-a6,Ahr]
  have hml:m<eb.length:=by rw[hbl];exact(Ahg.1 c2).1
  have hel:eb.length<=es.length:=by rw[hbl];exact W.le
  have gp:=Adu hh hcn (by omega) J
  have wl:wr .i64 (((CA (es.map dNd) es.length).2.length:Int)-1)=((es.length-1:Nat):Int):=by rw[W.tl,Aa (by omega) (by omega)];omega
  have hno:=E.hn.nf
  rw[Dp]at htn
  simp (disch:=omega) [Ab,a5,a1,U,hb0,AcL,htn.2.2.2,wl,p1,p3,cl gp]
  rw[Ao]
  have hL:L2 eb ob (J++[.cs 43 2 (Bn (Az c)) 0 false]):=E.hn.keep fun r _ u=>BK _ _ _ u
  have hokN:OkN (eb.map dNd):=by rw[a6];exact W.ok
  have hlev:(ndU (eb.map dNd) m).1<=((1000:Nat):Int):=(hokN m (by rw[Ahr];exact hml)).2.1
  refine MV (n:=1000) E.ok hokN (by omega) hL hml hlev _ fun eo oo H2 h2l h2n h2e h2len h2k h2r=>?_
  have hred:eo.map dNd=Yq (es.map dNd):=by
   rw[h2e]
   unfold Yq
   rw[hlm,c1,a6,hbl]
   rfl
  have hon:=h2l.nf
  have kk:=hQ J.length eo oo H2 (by rw[h2k _ (by simp)];exact CU J _ 0) h2l h2n hred (by simp at h2len;omega) (fun r u=>by rw[h2k r (by simp;omega),BK _ _ _ (by omega)];exact hold r u) (by omega) fun r u=>by have:=h2r r u;simp at this;omega
  have ams:∀(a b c d e:Nat) (f:Bool) (l:List V),BF (.sl a b c d e f::l)=none:=fun _ _ _ _ _ _ _=>rfl
  have amm:∀(x:I) (l:List V),BF (.m x::l)=(BF l).bind fun r=>some (x::r):=fun _ _=>rfl
  have osl:∀(a b c d e:Nat) (f:Bool),BM (.sl a b c d e f)=true:=fun _ _ _ _ _ _=>rfl
  have oi:BM (J0 S)=true:=rfl
  simp (disch:=omega) [Ab,hon.2.1,hon.2.2.1,ams,amm,a0,cva,osl,oi]
  exact kk
variable {t:TreeC}
theorem DY (h:AY t=true):(2<=t.states/\t.states<=8)/\BR t.hood=true/\(1<=t.nodes.length/\t.nodes.length<=4096)/\levAt t.nodes (t.nodes.length-1)=t.hood.length /\ ∀(j:Nat) n,t.nodes[j]? = some n->Es t j n=true:=by
 unfold AY at h
 simp only[Ahi,Aht]at h
 exact⟨h.1,h.2.1,h.2.2.1,h.2.2.2.1,fun j n u=>by have:=GV t t.nodes 0 h.2.2.2.2 j n u;rwa[Aih]at this⟩
theorem FI {l:List (Int×Int)}(h:BR l=true):1<=l.length/\l.length<=25:=by
 unfold BR at h
 simp only[Ahi,Aht]at h
 exact h.1
theorem VF (l:List Nd)(k:Int):levAt l k=(ndU l k.toNat).1:=by
 unfold levAt ndU
 cases l[k.toNat]? <;> rfl
theorem Agl (h:AY t=true):OkR t.nodes:=fun i Y=>by
 obtain⟨⟨h1,h2⟩,h3,_,_,h5⟩:=DY h
 have hh:=FI h3
 have hg:t.nodes[i]? = some (ndU t.nodes i):=by
  unfold ndU
  rw[Ahh Y]
  rfl
 have N:=h5 i _ hg
 unfold Es at N
 simp only[Ahi,Aht,Ahu]at N
 obtain⟨⟨a1,a2,W⟩,Z⟩:=N
 have z:∀k,k∈(ndU t.nodes i).2->0<=k /\ ¬((ndU t.nodes i).1=1/\t.states<=k) /\ ¬(1<(ndU t.nodes i).1/\((i:Int)<=k \/ ¬levAt t.nodes k=(ndU t.nodes i).1-1)):=fun k u=>by
  have:=Z k u
  unfold Si at this
  simp only[Aht]at this
  exact⟨by omega,this.2.1,this.2.2⟩
 refine⟨a1,by omega,fun e=>by rw[e]at W;simp at W;omega,by omega,fun k u=>?_,fun E k u=>?_⟩
 ·obtain⟨Q,U,J⟩:=z k u
  refine⟨by omega,?_⟩
  by_cases E:(ndU t.nodes i).1=1
  ·have:¬t.states<=k:=fun e=>U ⟨E,e⟩
   omega
  ·have:¬(i:Int)<=k:=fun e=>J ⟨by omega,.inl e⟩
   omega
 ·obtain⟨Q,U,J⟩:=z k u
  have c1:¬(i:Int)<=k:=fun e=>J ⟨E,.inl e⟩
  have c2:levAt t.nodes k=(ndU t.nodes i).1-1:=Aiu fun e=>J ⟨E,.inr e⟩
  rw[VF]at c2
  exact⟨Q,by omega,by omega⟩
theorem Adg (h:Ri es):Lt es:=fun e E=>by
 obtain⟨x,z,J,u,_⟩:=h e E
 exact⟨x,z,J,u⟩
theorem AcY (k:Nat)(H:Hp):∀es:LT,Ah (fun e=>Ah (view (k+1) H) e) (Bn es)=some es
 | []=>rfl
 | e::r=>by
  show Option.bind (Ah (view (k+1) H) (e.map .m)) _=_
  have h:∀x:List I,Ah (view (k+1) H) (x.map .m)=some x:=fun x=>by
   induction x with
   | nil=>rfl
   | cons a t u =>
    show Option.bind (view (k+1) H (.m a)) _=_
    have:view (k+1) H (.m a)=some a:=rfl
    rw[this,Ahp,u]
    rfl
  rw[h,Ahp]
  show Option.bind (Ah _ (Bn r)) _=_
  rw[AcY k H r]
  rfl
variable {o:V}
theorem L2.view (h:L2 es o H)(u:es≠[])(k:Nat):Mx.view (k+2) H o=some (.sl es):=by
 have z:=h.elems
 rcases h with ⟨rfl,rfl⟩|⟨_,r,rfl,E⟩
 ·exact absurd rfl u
 ·show Option.bind (Mx.elems H (.sl r es.length 2 0 es.length false)) _=_
  rw[z]
  show Option.bind (Ah (fun e=>Ah (Mx.view (k+1) H) e) (Bn es)) _=_
  rw[AcY]
  rfl
variable {h:I}
set_option maxHeartbeats 4000000 in
theorem KQ (u:TreeV t h n es)(N:∀H,Gives G 104 [.m (.ag [J4 t.states,h,n])] H (.m (.b (AY t))) H)(Q:V->Hp->Prop) 
  (hQ:AY t=true -> ∀z J E H',nth H' z=some (.cs 43 2 (Bn (Az t.hood)) 0 false)->L2 J E H'->Lt J->J.map dNd=Yq t.nodes->H.length<=H'.length->(∀r,r<H.length->nth H' r=nth H r)->H.length<=z->(∀r,AH E=some r->H.length<=r)->Q (.ag [J0 t.states,.sl z t.hood.length 2 0 t.hood.length false,E]) H')
  (h0:AY t=false->Q (.m (.ag [J4 0,.nl 4,.nl 4])) H):Ret G 164 [.m (.ag [J4 t.states,h,n])] H Q:=by
 refine Bg mono rfl rfl rfl rfl rfl ?_
 have oi:∀x:Int,BM (J0 x)=true:=fun _=>rfl
 have a3:BM (.m (.nl 4))=true:=rfl
 cases hok:AY t with
 | false =>
  rw[hok]at N
  have W:=h0 hok
  simp (disch:=omega) [Ab,cl (N _),BF,oi,a3]
  exact W
 | true =>
  rw[hok]at N
  obtain⟨_,h3,⟨h4,h4'⟩,_,_⟩:=DY hok
  have hh:=FI h3
  have hl:=CK u
  simp (disch:=omega) [cl (N _),BF]
  rw[Ao]
  have a2:t.hood≠[]:=fun e=>by rw[e]at hh;simp at hh
  have hr:=Agl hok
  rw[u.eq]at hr
  refine US u.nd (Adg u.ok) hr (by omega) (by omega) u.hd a2 (by omega) _ fun z J E H' k1 k2 k3 k4 k5 k6 k7 k8=>?_
  have W:=hQ hok z J E H' k1 k2 k3 (by rw[k4,u.eq]) k5 k6 k7 k8
  have U:=k2.nf
  have Z:∀l,Ay (.ag l)=some l:=fun _=>rfl
  have a1:∀(a b c d e:Nat) (f:Bool),BM (.sl a b c d e f)=true:=fun _ _ _ _ _ _=>rfl
  have a0:∀(a b c d e:Nat) (f:Bool) (l:List V),BF (.sl a b c d e f::l)=none:=fun _ _ _ _ _ _ _=>rfl
  have Y:∀(x:I) (l:List V),BF (.m x::l)=(BF l).bind fun r=>some (x::r):=fun _ _=>rfl
  simp (disch:=omega) [Ab,Z,a1,oi,U.2.2.1,a0,Y]
  exact W
def atZ (l:List Int)(k:Int):Option Int:=match k with
 | .ofNat n=>nth l n
 | .negSucc _=>none
def ndZ (l:List Nd)(k:Int):Option Nd:=match k with
 | .ofNat n=>nth l n
 | .negSucc _=>none
def Adw (k:Int):Bool:=leI (-1000000000) k&&leI k 1000000000
def innZ (ns:List Nd)(to:List Int)(up:Int)(s:Nat)(o:Int):Option Int:=(ndZ ns o).bind fun y=>(nth y.2 s).bind fun w=>match ltI 2 up with
 | true=>atZ to w
 | false=>some w
def swEl (ns:List Nd)(to:List Int)(up:Int)(x:Nd)(bl:List Nd)(s:Nat)(kid:Int):Option (List Nd×Int):=match eqI x.1 up with
 | true=>(Ah (innZ ns to up s) x.2).bind fun inn=>gd (inn.all Adw&&Nat.ble bl.length 100000) (some ((EP bl (up-1,inn)).1,(((EP bl (up-1,inn)).2:Nat):Int)))
 | false=>match ltI 1 x.1 with
  | true=>(atZ to kid).bind fun w=>some (bl,w)
  | false=>some (bl,kid)
def Qb (ns:List Nd)(to:List Int)(up:Int)(x:Nd):List Nd->Nat->List Int->List Int->Option (List Nd×List Int)
 | bl,_,[],acc=>some (bl,acc)
 | bl,s,kid::r,acc=>(swEl ns to up x bl s kid).bind fun p=>Qb ns to up x p.1 (s+1) r (acc++[p.2])
def MP (ns:List Nd)(up:Int)(k:Nat)(x:Nd)(bl:List Nd)(to:List Int):Option (List Nd×List Int):=match eqI x.1 (up-1) with
 | true=>some (bl,to)
 | false=>(Qb ns to up x bl 0 x.2 []).bind fun p=>gd (p.2.all Adw&&Nat.ble p.1.length 100000) (some ((EP p.1 (x.1,p.2)).1,to.set k (((EP p.1 (x.1,p.2)).2:Nat):Int)))
def RV (ns:List Nd)(up:Int):Nat->List Nd->List Nd->List Int->Option (List Nd×List Int)
 | _,[],bl,to=>some (bl,to)
 | k,x::r,bl,to=>(MP ns up k x bl to).bind fun p=>RV ns up (k+1) r p.1 p.2
def shpZ (S:Nat)(ns:List Nd):Bool:=ns.all fun x=>Nat.beq x.2.length S&&(leI 0 x.1&&leI x.1 1000&&x.2.all Adw)
variable {k:Int}
theorem Rd {l:List Int}{v:Int}(h:atZ l k=some v):∃n:Nat,k=(n:Int)/\l[n]? = some v:=by
 cases k with
 | ofNat n=>exact⟨n,rfl,by rw[<-AL];exact h⟩
 | negSucc n=>cases h
theorem Qx {v:Nd}(h:ndZ l k=some v):∃n:Nat,k=(n:Int)/\l[n]? = some v:=by
 cases k with
 | ofNat n=>exact⟨n,rfl,by rw[<-AL];exact h⟩
 | negSucc n=>cases h
theorem Aab {d:Nat}{p:V}(h:AB p=true):nf1 d p=true:=by
 cases p with
 | fa k o=>cases h
 | _=>rfl
theorem HO:Adw k=true ↔ -1000000000<=k/\k<=1000000000:=by
 unfold Adw
 rw[Ahi,Hc,Hc]
 simp
theorem optMap_get {α β:Type}{f:α->Option β}:∀ {l:List α} {m:List β},Ah f l=some m->m.length=l.length /\ ∀(i:Nat) a,l[i]? = some a -> ∃b,m[i]? = some b/\f a=some b
 | [],m,h=>by
  cases h
  exact⟨rfl,fun i a h=>by simp at h⟩
 | x::r,m,h=>by
  simp only[Ah,Ahd,Ahe]at h
  obtain⟨y,z,t,J,rfl⟩:=h
  obtain⟨N,E⟩:=optMap_get J
  refine⟨by simp[N],fun i a u=>?_⟩
  cases i with
  | zero=>simp at u;subst u;exact⟨y,by simp,z⟩
  | succ i=>simpa using E i a (by simpa using u)
structure SwQ (H:Hp)(es:LT)(nv:V)(to:List Int)(eb:LT)(ob:V)(Hi:Hp):Prop where
 bld:BldQ (H.length+1) H.length eb ob Hi
 tor:∃b,b<=es.length/\nth Hi (H.length+2)=some (.cs 3 1 (onV (iI to)) b false)
 tl:to.length=es.length
 nd:L2 es nv Hi
 nr:∀r,AH nv=some r->r<H.length
 len:H.length+3<=Hi.length
 old:∀r,r<H.length->nth Hi r=nth H r
 ro:∀r,AH ob=some r->H.length+3<=r
variable {nv:V} {to:List Int}
theorem SwQ.keep {W:LT}{U:V}{E H':Hp}(h:SwQ H es nv to W U E)(hl:E.length<=H'.length)(u:∀r,r<E.length->(r<H.length+3\/AH U=some r)->nth H' r=nth E r):SwQ H es nv to W U H':=by
 obtain⟨⟨⟨b,Q,Y⟩,hm,hn,ok⟩,⟨bt,J,Z⟩,tl,nd,nr,len,N,ro⟩:=h
 exact⟨⟨⟨b,Q,by rw[u _ (AQ Y) (.inl (by omega))];exact Y⟩,by rw[u _ (AQ hm) (.inl (by omega))];exact hm,hn.keep fun r e z=>u r z (.inr e),ok⟩,⟨bt,J,by rw[u _ (AQ Z) (.inl (by omega))];exact Z⟩,tl,nd.keep fun r e z=>u r z (.inl (by have:=nr r e;omega)),nr,by omega,fun r z=>by rw[u r (by omega) (.inl (by omega))];exact N r z,ro⟩
theorem SwQ.node {eb:LT}{Y:V}{Q E:Hp}(h:SwQ H es nv to eb Y Q){z:LT}{u Z:V}(hb:BldQ (H.length+1) H.length z u E)(hk:KpB (H.length+1) H.length Y Q u E Z)(hx:∀r,AH Z=some r->H.length+3<=r):SwQ H es nv to z u E:=by
 obtain⟨_,⟨bt,J,ht⟩,tl,nd,nr,len,N,W⟩:=h
 obtain⟨k1,k2,k3⟩:=hk
 have U:∀r,r<H.length+3->r≠H.length+1->r≠H.length->nth E r=nth Q r:=fun r h1 h2 h3=>k2 r (by omega) h2 h3 (fun e=>by have:=W r e;omega) fun e=>by have:=hx r e;omega
 exact⟨hb,⟨bt,J,(U _ (by omega) (by omega) (by omega)).trans ht⟩,tl,nd.keep fun r e _=>by have:=nr r e;exact U r (by omega) (by omega) (by omega),nr,by omega,fun r h=>(U r (by omega) (by omega) (by omega)).trans (N r h),fun r e=>by
  rcases k3 r e with h|h
  ·exact W r h
  ·omega⟩
set_option maxHeartbeats 8000000 in
theorem Uv {S:Nat}(hv:Lt es)(hnv:L2 es nv H)(hS:1<=S/\S<=20)(hsh:shpZ S (es.map dNd)=true)(hl:1<=es.length/\es.length<=100000){rh n:Nat}(hi:i<n/\n<=1000){bl:List Nd}(hsw:RV (es.map dNd) ((n:Int)-i) 0 (es.map dNd) [] (List.replicate es.length 0)=some (bl,to)) 
  (hbl:OkN bl) (hbn:bl.length<=1000000) {m:Nat} (hm:to[es.length-1]? = some (m:Int)) (hmb:m<bl.length) (Q:V->Hp->Prop)
  (hQ:∀eo oo H',L2 eo oo H'->Lt eo->eo.map dNd=(HL bl 1000 m (List.replicate bl.length 0,[])).1.2->H.length<=H'.length->(∀r,r<H.length->nth H' r=nth H r)->(∀r,AH oo=some r->H.length<=r)->Q (.ag [J0 S,.sl rh n 2 0 n false,oo]) H') :
  Ret G 165 [.ag [J0 S,.sl rh n 2 0 n false,nv],J0 i] H Q:=by
 have hon:=hnv.nf
 have am:∀r,BF [V.mp r]=none:=fun _=>rfl
 have cva:∀l,Ay (.ag l)=some l:=fun _=>rfl
 have omp:∀r,BM (.mp r)=true:=fun _=>rfl
 have onl:BM (.m (.nl 4))=true:=rfl
 have w1:∀x y z w:V,BS 2 [[x,y]] 0 0 [z,w]=some [[z,w]]:=fun _ _ _ _=>rfl
 have nfa:AB (.ag [J0 S,.sl rh n 2 0 n false,nv])=true:=rfl
 have wu:=J2 ((n:Int)-i) (by omega)
 have hb1:es.length*8<=281474976710656:=by omega
 refine Bg mono rfl rfl rfl rfl rfl ?_
 simp (disch:=omega) [Ac,Ab,cva,nu1,su1,w1,am,omp,onl,wu,hon.2.2.2,Al hon.1,hb1]
 have hrep:=VM es.length
 rw[hrep]
 refine(?key:∀(k:Nat) (J:List Int) (eb:LT) (ob:V) (B:LE) (Hi:Hp),k<=es.length->getB B 2=some [J0 S,.sl rh n 2 0 n false,nv]->getB B 4=some [J0 0,.m (.nl 4),.m (.nl 4)]->SwQ H es nv J eb ob Hi ->
  RV (es.map dNd) ((n:Int)-i) k ((es.map dNd).drop k) (eb.map dNd) J=some (bl,to) ->
  Run G c165_B2 (S165_2 (.fa 2 0) (.fa 4 0) (.m (.i .i64 ((n:Int)-i))) (.pt (H.length+1) 1 0 0) (.sl (H.length+2) es.length 1 0 es.length true) nv (.m (.i .i64 (es.length:Int))) (.m (.i .i64 (k:Int))) B Hi) _) 0 _ [] (.m (.nl 4)) _ _ (Aho _) rfl rfl ⟨⟨⟨1,Ahk _,nu1 ..⟩,AC ..,.inl ⟨rfl,rfl⟩,fun e h=>(by simp at h)⟩,⟨0,Aho _,nu2 ..⟩,by simp,hnv.keep fun r _ hr=>BK _ _ _ hr,fun r e=>hnv.row_lt e,by simp,fun r hr=>BK _ _ _ hr,fun r h=>(by cases h)⟩ hsw
 have hup:((n:Int)-i)<=1000/\1<=(n:Int)-i:=by omega
 generalize (n:Int)-i=up at hsw hup ⊢
 refine Bl (fun k:Nat=>es.length-k) fun k ih J eb ob B Hi hk N Y hq hR=>?_
 unfold c165_B2
 by_cases hke:k<es.length
 ·have hke':(k:Int)<es.length:=by omega
  obtain⟨e,he⟩:∃e,es[k]? = some e:=⟨es[k],Ahh hke⟩
  obtain⟨x,z,rfl,hz⟩:=hv e (Ahm he)
  have hdr:(es.map dNd).drop k=(x,dIn z)::(es.map dNd).drop (k+1):=by
   have e1:(es.map dNd)[k]? = some (x,dIn z):=by rw[AhD,he];rfl
   obtain⟨hlt,e2⟩:=Ahg.1 e1
   rw[AiC hlt,e2]
  have hx:=Ahu.1 hsh (x,dIn z) (by
   rw[AhE]
   exact⟨_,Ahm he,rfl⟩)
  simp only[Ahi,Hc,Aht]at hx
  obtain⟨x1,⟨x2,x3⟩,x4⟩:=hx
  have x1:(dIn z).length=S:=Ahy x1
  generalize hc:dIn z=cc at *
  rw[hdr]at hR
  have hR:(MP (es.map dNd) up k (x,cc) (eb.map dNd) J).bind (fun p=>RV (es.map dNd) up (k+1) ((es.map dNd).drop (k+1)) p.1 p.2)=some (bl,to):=hR
  obtain⟨p,pq,p1,p2,p3,⟨p0,p4,p5,p6⟩,p7,p8,p9⟩:=hq.nd.rd he
  have oz:=Cv hz
  have wu1:=J2 (up-1) (by omega)
  have wk:=J1 k (by omega)
  by_cases hx1:x=up-1
  ·have hs:MP (es.map dNd) up k (x,cc) (eb.map dNd) J=some (eb.map dNd,J):=by
    unfold MP
    rw[DW,hx1]
    simp
   rw[hs]at hR
   have kk:=fun B=>ih (k+1) (by omega) J eb ob B Hi (by omega)
   simp (disch:=omega) [Ab,hke',p1,Aab p2,p3,oz,wu1,hx1,wk]
   exact kk _ (by rw[AN];simpa using N) (by rw[AN];simpa using Y) hq hR
  ·have hxe:eqI x (up-1)=false:=by rw[DW];simpa using hx1
   unfold MP at hR
   simp only[hxe]at hR
   have hSb:S*8<=281474976710656:=by omega
   have rz:=hz.rules
   simp (disch:=omega) [Ac,Ab,hke',p1,Aab p2,p3,oz,N,wu1,hx1,hSb,rz,x1,Bo]
   have hrS:=VM S
   rw[hrS]
   obtain⟨pr,hpr,hR⟩:=Ahd.1 hR
   simp only[Ahd,Ag,Ahi,Ahe]at hpr
   obtain⟨qr,hkd,⟨hqb,hql⟩,hpr⟩:=hpr
   have hqb:∀k,k∈qr.2 -> -1000000000<=k/\k<=1000000000:=fun k hk=>HO.1 (Ahu.1 hqb k hk)
   have hql:qr.1.length<=100000:=Aiz hql
   refine(?key1:∀(s:Nat) (u:List Int) (W:LT) (ob1:V) (B:LE) (b:Nat) (H1:Hp),s<=S->u.length=s->b<=S->getB B 2=some [J0 S,.sl rh n 2 0 n false,nv]->getB B 4=some [J0 0,.m (.nl 4),.m (.nl 4)]->getB B 9=some [J0 x,.m z]->SwQ H es nv J W ob1 H1 ->
    nth H1 Hi.length=some (.cs 3 1 (onV (iI (u++List.replicate (S-s) 0))) b false)->Qb (es.map dNd) J up (x,cc) (W.map dNd) s (cc.drop s) u=some qr ->
    Run G c165_B1 (S165_1 (.fa 2 0) (.fa 4 0) (J0 up) (.pt (H.length+1) 1 0 0) (.sl (H.length+2) es.length 1 0 es.length true) (J0 (k:Int)) (.fa 9 0) (.sl Hi.length S 1 0 S true) nv (J0 (es.length:Int)) (J0 (k:Int)) (.m z) (J0 (S:Int)) (J0 (s:Int)) B H1) _) 0 [] eb ob _ 0 _ (Aho _) rfl (Aho _) (by rw[AN];simpa using N) (by rw[AN];simpa using Y) (by rw[AN];simp) (hq.keep (by simp) fun r hr _=>BK _ _ _ hr) (CU Hi _ 0) hkd
   clear N Y p3 p5 p6 p9 p8 p2 p1 p4 p7 pq p0 p B
   refine Bl (fun s:Nat=>S-s) fun s ihs u W ob1 B b H1 hs hac hb N Y a0 hq1 Z hR1=>?_
   unfold c165_B1
   have hHi:=hq.len
   have hgt:Hi.length<H1.length:=AQ Z
   have hob1:∀r,AH ob1=some r->r≠Hi.length:=fun r e1 e2=>by
    subst e2
    have q:=hq1.bld.hn.row e1
    rw[Z]at q
    simp at q
   by_cases hsS:s<S
   ·have hsS':(s:Int)<S:=by omega
    obtain⟨kd,hkd2⟩:∃kd,cc[s]? = some kd:=⟨cc[s]'(by omega),Ahh (by omega)⟩
    have hcd:cc.drop s=kd::cc.drop (s+1):=by
     rw[AiC (by omega)]
     have:=(Ahg.1 hkd2).2
     rw[this]
    rw[hcd]at hR1
    have hR1:(swEl (es.map dNd) J up (x,cc) (W.map dNd) s kd).bind (fun p=>Qb (es.map dNd) J up (x,cc) p.1 (s+1) (cc.drop (s+1)) (u++[p.2]))=some qr:=hR1
    obtain⟨pe,U,hR1⟩:=Ahd.1 hR1
    have hkn:nth (BT cc) s=some [J4 kd]:=by rw[AL];simp[BT,hkd2]
    have ws:=J1 s (by omega)
    have hal:(u++List.replicate (S-s) 0).length=S:=by rw[Ahv,List.length_replicate];omega
    have hset:∀v:Int,AO (onV (iI (u++List.replicate (S-s) 0))) s [J0 v]=some (onV (iI (u++v::List.replicate (S-(s+1)) 0))):=fun v=>by
     rw[Em (by rw[Dp,hal];exact hsS),Hh]
     congr 3
     rw[AiF _ _ (by omega),hac,Nat.sub_self,show S-s=(S-(s+1))+1 by omega,List.replicate_succ]
     simp
    have hn0:nth (onV (iI (u++List.replicate (S-s) 0))) s=some [J0 0]:=Ci (Dq (by
     rw[AhP (by omega),hac,Nat.sub_self,List.getElem?_replicate,Ahl (by omega)]))
    have hkk:∀(v:Int) (eb2:LT) (ob2:V) (B:LE) (H2:Hp),getB B 2=some [J0 S,.sl rh n 2 0 n false,nv]->getB B 4=some [J0 0,.m (.nl 4),.m (.nl 4)]->getB B 9=some [J0 x,.m z]->SwQ H es nv J eb2 ob2 H2->pe=(eb2.map dNd,v)->(∃b,nth H2 Hi.length=some (.cs 3 1 (onV (iI (u++List.replicate (S-s) 0))) b false))->(∀r,AH ob2=some r->r≠Hi.length)->_:=fun v eb2 ob2 B H2 h2 h4 h9 hq2 U ⟨b2,hrow2⟩ hob2=>ihs (s+1) (by omega) (u++[v]) eb2 ob2 B S (H2.set Hi.length (.cs 3 1 (onV (iI (u++v::List.replicate (S-(s+1)) 0))) S false)) (by omega) (by simp[hac]) (Ahk _) h2 h4 h9 (hq2.keep (by simp) fun r hr h=>AF fun e=>by
      subst e
      rcases h with h|h
      ·omega
      ·exact hob2 _ h rfl) (by rw[Aip];exact Be (AQ hrow2)) (by rw[U]at hR1;exact hR1)
    by_cases hxu:x=up
    ·have hxf:eqI x up=true:=by rw[DW];simpa using hxu
     unfold swEl at U
     simp only[hxf,Ahd,Ag,Ahi,Ahe]at U
     obtain⟨E,hinn,⟨hib,hie⟩,U⟩:=U
     have hib:∀k,k∈E -> -1000000000<=k/\k<=1000000000:=fun k hk=>HO.1 (Ahu.1 hib k hk)
     have hie:(W.map dNd).length<=100000:=Aiz hie
     rw[Ahr]at hie
     obtain⟨hil,hig⟩:=optMap_get hinn
     have hzl:(List.replicate S (0:Int)).length=S:=by simp
     have hSb2:S*8<=281474976710656:=by omega
     simp (disch:=omega) [Ac,Ab,hsS',rz,x1,hkn,a0,hxu,N,Bo,hSb2]
     rw[hrS]
     refine(?key0:∀(r:Nat) (B:LE) (b0:Nat),r<=S->b0<=S->getB B 2=some [J0 S,.sl rh n 2 0 n false,nv]->getB B 4=some [J0 0,.m (.nl 4),.m (.nl 4)]->getB B 9=some [J0 x,.m z] ->
      Run G c165_B0 (S165_0 (.fa 2 0) (.fa 4 0) (J0 up) (.pt (H.length+1) 1 0 0) (.sl (H.length+2) es.length 1 0 es.length true) (J0 (k:Int)) (.fa 9 0) (.sl Hi.length S 1 0 S true) (J0 (s:Int)) (.sl H1.length S 1 0 S true) nv (J0 (es.length:Int)) (J0 (k:Int)) (.m z) (J0 (S:Int)) (J0 (s:Int)) (.m z) (J0 (S:Int)) (J0 (r:Int)) B (H1++[.cs 3 1 (onV (iI (E.take r++List.replicate (S-r) 0))) b0 false])) _) 0 B 0 (Aho _) (Aho _) N Y a0
     clear N Y a0 B
     refine Bl (fun r:Nat=>S-r) fun r ihr B b0 hr hb0 N Y a0=>?_
     unfold c165_B0
     have hml:=Vz E (List.replicate S 0) r (by rw[hil,hzl,x1])
     rw[hzl,List.drop_replicate]at hml
     have hqr:SwQ H es nv J W ob1 (H1++[.cs 3 1 (onV (iI (E.take r++List.replicate (S-r) 0))) b0 false]):=hq1.keep (by simp) fun q hq _=>BK _ _ _ hq
     have hq1l:=hq1.len
     by_cases hrS2:r<S
     ·have hrS2':(r:Int)<S:=by omega
      obtain⟨oth,hoth⟩:∃oth,cc[r]? = some oth:=⟨cc[r]'(by omega),Ahh (by omega)⟩
      obtain⟨iv,hiv,hin⟩:=hig r oth hoth
      unfold innZ at hin
      simp only[Ahd]at hin
      obtain⟨y,hy,w,hw,hin⟩:=hin
      obtain⟨on,rfl,hy1⟩:=Qx hy
      rw[AhD]at hy1
      obtain⟨ey,hey,hy2⟩:=AhM.1 hy1
      clear hy hy1
      obtain⟨yl,zy,rfl,hzy⟩:=hv ey (Ahm hey)
      have hyy:y=(yl,dIn zy):=hy2.symm
      subst hyy
      have hyl:(dIn zy).length=S:=by
       have:=Ahu.1 hsh (yl,dIn zy) (by rw[AhE];exact⟨_,Ahm hey,rfl⟩)
       simp only[Ahi]at this
       exact Ahy this.1
      have hwn:nth (BT (dIn zy)) s=some [J4 w]:=by
       rw[AL]at hw ⊢
       simp only at hw
       simp[BT,hw]
      have rzy:=hzy.rules
      have hon2:nth (BT cc) r=some [J4 (on:Int)]:=by rw[AL];simp[BT,hoth]
      obtain⟨p,q,p1,p2,p3,_,p7,p8,p9⟩:=hqr.nd.rd hey
      have wr1:=J1 r (by omega)
      have hmg:=OD E (List.replicate S 0) r (by rw[hil,hzl,x1])
      rw[List.getElem?_replicate,Ahl hrS2,List.drop_replicate]at hmg
      have hn1:=Ci (Dq hmg)
      have hms:=OC E (List.replicate S 0) r iv (by rw[hil,hzl,x1]) hiv
      rw[List.drop_replicate,List.drop_replicate]at hms
      have kk:=fun B b1 h=>ihr (r+1) (by omega) B b1 (by omega) h
      by_cases hu2:2<up
      ·have hlt:ltI 2 up=true:=by rw[CT];simpa using hu2
       simp only[hlt]at hin
       obtain⟨wn,rfl,hin2⟩:=Rd hin
       obtain⟨bt,ht0,ht⟩:=hqr.tor
       have hwl:wn<es.length:=by rw[<-hq1.tl];exact(Ahg.1 hin2).1
       have hwl':(wn:Int)<es.length:=by omega
       have hnt:=Ci (Dq hin2)
       have ht2:∀row:Row,nth (H1++[row]) (H.length+2)=some (.cs 3 1 (onV (iI J)) bt false):=fun row=>by
        rw[BK _ _ _ (by omega)]
        rwa[BK _ _ _ (by omega)]at ht
       have hs1:AO (onV (iI (E.take r++List.replicate (S-r) 0))) r [J0 (wn:Int)]=some (onV (iI ((E.take r++List.replicate (S-r) 0).set r (wn:Int)))):=by rw[Em (by rw[Dp,hml];exact hrS2),Hh]
       have hs2:AO (onV (iI ((E.take r++List.replicate (S-r) 0).set r (wn:Int)))) r [J0 iv]=some (onV (iI (E.take (r+1)++List.replicate (S-(r+1)) 0))):=by rw[Em (by rw[Dp,Aib,hml];exact hrS2),Hh,List.set_set,hms]
       have hn2:nth (onV (iI ((E.take r++List.replicate (S-r) 0).set r (wn:Int)))) r=some [J0 (wn:Int)]:=Ci (Dq (AiM (by rw[hml];exact hrS2)))
       have hl3:((E.take r++List.replicate (S-r) 0).set r (wn:Int)).length=S:=by rw[Aib,hml]
       generalize E.take r++List.replicate (S-r) 0=D at hml hn1 hs1 hs2 hn2 hl3 p3 p9 ⊢
       generalize D.set r (wn:Int)=D1 at hs1 hs2 hn2 hl3
       simp (disch:=omega) [Ab,hrS2',rz,x1,hon2,N,p1,p7,p9,rzy,hyl,hwn,AC,Au,hn1,hs1,hml,hu2,hn2,hl3,ht2,ht0,hnt,hs2,wr1,Bo]
       exact kk _ S (Ahk _) N Y a0
      ·have hlt:ltI 2 up=false:=by rw[CT];simpa using hu2
       simp only[hlt,Ahe]at hin
       subst hin
       have hs1:AO (onV (iI (E.take r++List.replicate (S-r) 0))) r [J0 w]=some (onV (iI (E.take (r+1)++List.replicate (S-(r+1)) 0))):=by rw[Em (by rw[Dp,hml];exact hrS2),Hh,hms]
       generalize E.take r++List.replicate (S-r) 0=D at hml hn1 hs1 p3 p9 ⊢
       simp (disch:=omega) [Ab,hrS2',rz,x1,hon2,N,p1,p7,p9,rzy,hyl,hwn,AC,Au,hn1,hs1,hml,hu2,wr1,Bo]
       exact kk _ S (Ahk _) N Y a0
     ·have:r=S:=by omega
      subst this
      have hrS2':¬(r:Int)<r:=by omega
      have hdM:E.take r++List.replicate (r-r) 0=E:=by rw[Nat.sub_self,List.replicate_zero,Aid,Ahz (by omega)]
      rw[hdM]at hqr ⊢
      generalize hHs:H1++[.cs 3 1 (onV (iI E)) b0 false]=Hs at hqr
      have hrow3:nth Hs H1.length=some (.cs 3 1 (onV (iI E)) b0 false):=by rw[<-hHs];exact CU H1 _ 0
      have hold3:∀q,q<H1.length->nth Hs q=nth H1 q:=fun q hq=>by rw[<-hHs];exact BK _ _ _ hq
      have hIR:IR E (.sl H1.length r 1 0 r true) Hs:=⟨H1.length,b0,true,by rw[hil,x1],hrow3,by omega⟩
      simp (disch:=omega) [hrS2',wu1]
      rw[Ao]
      refine Vp hqr.bld hIR (by omega) hib (by omega) (by omega) _ fun eb2 ob2 H2 hb2 he2 hk2=>?_
      have hq2:=hqr.node hb2 hk2 (fun q e=>by have e:_=q:=Aik e;omega)
      have hlenS:Hs.length=H1.length+1:=by rw[<-hHs];simp
      have hrow4:nth H2 Hi.length=some (.cs 3 1 (onV (iI (u++List.replicate (r-s) 0))) b false):=by
       rw[hk2.2.1 _ (by omega) (by omega) (by omega) (fun e=>hob1 _ e rfl) (fun e=>by have e:H1.length=Hi.length:=Aik e;omega),hold3 _ hgt]
       exact Z
      have hob2:∀q,AH ob2=some q->q≠Hi.length:=fun q e1 e2=>by
       rcases hk2.2.2 q e1 with h|h
       ·exact hob1 q h e2
       ·omega
      have hse:AO H2 Hi.length (.cs 3 1 (onV (iI (u++(((EP (W.map dNd) (up-1,E)).2:Nat):Int)::List.replicate (r-(s+1)) 0))) r false)=some (H2.set Hi.length (.cs 3 1 (onV (iI (u++(((EP (W.map dNd) (up-1,E)).2:Nat):Int)::List.replicate (r-(s+1)) 0))) r false)):=AA _ _ _ (AQ hrow4)
      have kk:=fun B h2 h4 h9=>hkk (((EP (W.map dNd) (up-1,E)).2:Nat):Int) eb2 ob2 B H2 h2 h4 h9 hq2 (by rw[he2];exact U.symm) ⟨b,hrow4⟩ hob2
      simp (disch:=omega) [Ab,hrow4,hn0,hset,hal,hse,ws]
      exact kk _ N Y a0
    ·have hxf:eqI x up=false:=by rw[DW];simpa using hxu
     unfold swEl at U
     simp only[hxf]at U
     by_cases hx2:1<x
     ·have hlt:ltI 1 x=true:=by rw[CT];simpa using hx2
      simp only[hlt,Ahd,Ahe]at U
      obtain⟨w,hw,U⟩:=U
      obtain⟨kn,rfl,hw2⟩:=Rd hw
      obtain⟨bt,ht0,ht⟩:=hq1.tor
      have hkl:kn<es.length:=by rw[<-hq1.tl];exact(Ahg.1 hw2).1
      have hkl':(kn:Int)<es.length:=by omega
      have hnt:=Ci (Dq hw2)
      have hse:AO H1 Hi.length (.cs 3 1 (onV (iI (u++w::List.replicate (S-(s+1)) 0))) S false)=some (H1.set Hi.length (.cs 3 1 (onV (iI (u++w::List.replicate (S-(s+1)) 0))) S false)):=AA _ _ _ hgt
      have kk:=fun B h2 h4 h9=>hkk w W ob1 B H1 h2 h4 h9 hq1 U.symm ⟨b,Z⟩ hob1
      simp (disch:=omega) [Ab,hsS',rz,x1,hkn,a0,hxu,hx2,ht,ht0,hnt,Z,hn0,hset,hal,hse,ws,Bo]
      exact kk _ N Y a0
     ·have hlt:ltI 1 x=false:=by rw[CT];simpa using hx2
      simp only[hlt,Ahe]at U
      have hse:AO H1 Hi.length (.cs 3 1 (onV (iI (u++kd::List.replicate (S-(s+1)) 0))) S false)=some (H1.set Hi.length (.cs 3 1 (onV (iI (u++kd::List.replicate (S-(s+1)) 0))) S false)):=AA _ _ _ hgt
      have kk:=fun B h2 h4 h9=>hkk kd W ob1 B H1 h2 h4 h9 hq1 U.symm ⟨b,Z⟩ hob1
      simp (disch:=omega) [Ab,hsS',rz,x1,hkn,a0,hxu,hx2,Z,hn0,hset,hal,hse,ws,Bo]
      exact kk _ N Y a0
   ·have:s=S:=by omega
    subst this
    have hsS':¬(s:Int)<s:=by omega
    have hcd:cc.drop s=[]:=by rw[<-x1];exact Aia
    rw[hcd]at hR1
    have hR1:some (W.map dNd,u)=some qr:=hR1
    cases hR1
    rw[Nat.sub_self,List.replicate_zero,Aid]at Z
    rw[Ahr]at hql
    have hIR:IR u (.sl Hi.length s 1 0 s true) H1:=⟨Hi.length,b,true,by rw[hac],Z,by omega⟩
    simp (disch:=omega) [hsS',a0]
    rw[Ao]
    refine Vp hq1.bld hIR (by omega) hqb (by omega) (by omega) _ fun eb2 ob2 H2 hb2 he2 hk2=>?_
    have hq2:=hq1.node hb2 hk2 (fun q e=>by have e:_=q:=Aik e;omega)
    obtain⟨bt,ht0,ht⟩:=hq2.tor
    have htl:=hq2.tl
    obtain⟨v0,hv0⟩:∃v0,J[k]? = some v0:=⟨J[k]'(by omega),Ahh (by omega)⟩
    have hn3:=Ci (Dq hv0)
    have hs3:AO (onV (iI J)) k [J0 (((EP (W.map dNd) (x,u)).2:Nat):Int)]=some (onV (iI (J.set k (((EP (W.map dNd) (x,u)).2:Nat):Int)))):=by rw[Em (by rw[Dp];omega),Hh]
    generalize hto2:J.set k (((EP (W.map dNd) (x,u)).2:Nat):Int)=to2 at hs3
    have htl2:to2.length=es.length:=by rw[<-hto2,Aib];exact htl
    have hse:AO H2 (H.length+2) (.cs 3 1 (onV (iI to2)) es.length false)=some (H2.set (H.length+2) (.cs 3 1 (onV (iI to2)) es.length false)):=AA _ _ _ (AQ ht)
    have hq3:SwQ H es nv to2 eb2 ob2 (H2.set (H.length+2) (.cs 3 1 (onV (iI to2)) es.length false)):=by
     obtain⟨⟨⟨b5,hb50,hb5⟩,hm5,hn5,ok5⟩,_,_,nd5,nr5,len5,old5,ro5⟩:=hq2
     exact⟨⟨⟨b5,hb50,by rw[AF (by omega)];exact hb5⟩,by rw[AF (by omega)];exact hm5,hn5.keep fun q e _=>AF (by have:=ro5 q e;omega),ok5⟩,⟨es.length,Ahk _,Be (AQ ht)⟩,htl2,nd5.keep fun q e _=>AF (by have:=nr5 q e;omega),nr5,by simpa using len5,fun q hq=>by rw[AF (by omega)];exact old5 q hq,ro5⟩
    have hpr2:pr=(eb2.map dNd,to2):=by rw[<-hpr,he2,<-hto2]
    rw[hpr2]at hR
    have kk:=fun B h2 h4=>ih (k+1) (by omega) to2 eb2 ob2 B _ (by omega) h2 h4 hq3 hR
    simp (disch:=omega) [Ab,ht,hn3,hs3,htl,hse,wk]
    exact kk _ N Y
 ·have:k=es.length:=by omega
  subst this
  have hke':¬(es.length:Int)<es.length:=by omega
  have hdr:(es.map dNd).drop es.length=[]:=List.drop_eq_nil_of_le (by simp)
  rw[hdr]at hR
  have hR:some (eb.map dNd,J)=some (bl,to):=hR
  cases hR
  obtain⟨bb,hb0,hbb⟩:=hq.bld.hb
  obtain⟨bt,ht0,ht⟩:=hq.tor
  have htl:=hq.tl
  have hnm:=Ci (Dq hm)
  have hno:=hq.bld.hn.nf
  rw[Ahr]at hmb hbn
  have wl:wr .i64 ((es.length:Int)-1)=((es.length-1:Nat):Int):=by rw[Aa (by omega) (by omega)];omega
  have hlt:es.length-1<es.length:=by omega
  have hlt':((es.length-1:Nat):Int)<es.length:=by omega
  simp (disch:=omega) [Ab,hke',N,hbb,hb0,AcL,wl,ht,ht0,hnm]
  rw[Ao]
  have hlev:(ndU (eb.map dNd) m).1<=((1000:Nat):Int):=(hbl m (by rw[Ahr];exact hmb)).2.1
  refine MV (n:=1000) hq.bld.ok hbl (by omega) hq.bld.hn hmb hlev _ fun eo oo H2 h2l h2n h2e h2len h2k h2r=>?_
  have hon2:=h2l.nf
  have hql:=hq.len
  have kk:=hQ eo oo H2 h2l h2n (by rw[h2e,Ahr]) (by omega) (fun r hr=>by rw[h2k r (by omega)];exact hq.old r hr) fun r hr=>by have:=h2r r hr;omega
  have ams:∀(a b c d e:Nat) (f:Bool) (l:List V),BF (.sl a b c d e f::l)=none:=fun _ _ _ _ _ _ _=>rfl
  have amm:∀(x:I) (l:List V),BF (.m x::l)=(BF l).bind fun r=>some (x::r):=fun _ _=>rfl
  have osl:∀(a b c d e:Nat) (f:Bool),BM (.sl a b c d e f)=true:=fun _ _ _ _ _ _=>rfl
  have oi:BM (J0 (S:Int))=true:=rfl
  simp (disch:=omega) [Ab,hon2.2.1,hon2.2.2.1,ams,amm,Y,cva,osl,oi]
  exact kk
def okX (l:List Nd)(x:Nd):Bool:=leI 1 x.1&&(leI x.1 1000&&(!x.2.isEmpty&&(Nat.ble x.2.length 100&&(x.2.all Adw&&(!ltI 1 x.1||x.2.all fun k=>match ndZ l k with
 | some y=>ltI y.1 x.1
 | none=>false)))))
def okNb (l:List Nd):Bool:=l.all (okX l)
theorem okN_b (h:okNb l=true):OkN l:=fun i N=>by
 have hg:l[i]? = some (ndU l i):=by
  unfold ndU
  rw[Ahh N]
  rfl
 have z:=Ahu.1 h _ (Ahm hg)
 unfold okX at z
 simp only[Ahi,Hc,Aht,Aix,AhQ,Ahu,CT,decide_eq_false_iff_not]at z
 obtain⟨a1,Y,J,W,Z,Q⟩:=z
 refine⟨a1,Y,fun e=>by rw[e]at J;simp at J,Aiz W,fun k u=>HO.1 (Z k u),fun U k u=>?_⟩
 rcases Q with h|h
 ·exact absurd U h
 ·have:=h k u
  cases hy:ndZ l k with
  | none=>rw[hy]at this;cases this
  | some y =>
   rw[hy]at this
   simp only[Aht]at this
   obtain⟨n,rfl,E⟩:=Qx hy
   refine⟨by omega,?_,?_⟩
   ·show n<l.length
    exact(Ahg.1 E).1
   ·show (ndU l n).1<_
    rw[Vs E]
    exact this
def swZ (S:Nat)(ns:List Nd)(up:Int):Option (List Nd):=gd (shpZ S ns&&(Nat.ble 1 ns.length&&Nat.ble ns.length 100000)) ((RV ns up 0 ns [] (List.replicate ns.length 0)).bind fun p=>(nth p.2 (ns.length-1)).bind fun v=>(Abt v).bind fun m =>
 gd (okNb p.1&&(Nat.ble p.1.length 1000000&&Nat.blt m p.1.length)) (some (HL p.1 1000 m (List.replicate p.1.length 0,[])).1.2))
abbrev Hd:=List (Int×Int)
def inT (S:Nat):Nat->Nat->Hd->List Nd->Bool->Option (Hd×List Nd×Bool)
 | 0,_,hd,ns,srt=>some (hd,ns,srt)
 | r+1,j,hd,ns,srt=>(nth hd j).bind fun a=>(nth hd (j+1)).bind fun b=>match ltI 0 (HN a.1 a.2 b.1 b.2) with
  | true=>(swZ S ns ((hd.length:Int)-j)).bind fun ns2=>inT S r (j+1) ((hd.set j b).set (j+1) a) ns2 false
  | false=>inT S r (j+1) hd ns srt
def Aec (S:Nat):Nat->Hd->List Nd->Option (Hd×List Nd)
 | 0,_,_=>none
 | f+1,hd,ns=>(inT S (hd.length-1) 0 hd ns true).bind fun q=>match q.2.2 with
  | true=>some (q.1,q.2.1)
  | false=>Aec S f q.1 q.2.1
def Jk (k:Int)(hd:Hd):Hd:=hd.map fun p=>CD (CP k) p.1 p.2
def IG (k:Int)(S:Nat)(hd:Hd)(ns:List Nd):Option (Hd×List Nd):=Aec S 64 (Jk k hd) (Yq ns)
variable {ns:List Nd}
theorem Yb {S:Nat}{r:List Nd}{J:Int}(h:swZ S ns J=some r):shpZ S ns=true/\(1<=ns.length/\ns.length<=100000) /\ ∃(u:List Nd) (to:List Int) (m:Nat),RV ns J 0 ns [] (List.replicate ns.length 0)=some (u,to)/\OkN u/\u.length<=1000000/\to[ns.length-1]? = some (m:Int)/\m<u.length/\r=(HL u 1000 m (List.replicate u.length 0,[])).1.2:=by
 unfold swZ at h
 simp only[Ag,Ahi,Ahd,Ahe]at h
 obtain⟨⟨Q,Y,h3⟩,⟨u,to⟩,N,v,Z,m,E,⟨U,W,h9⟩,z⟩:=h
 refine⟨Q,⟨Aiz Y,Aiz h3⟩,u,to,m,N,okN_b U,Aiz W,?_,Aiz h9,z.symm⟩
 rw[<-AL]
 cases v with
 | ofNat n=>cases E;exact Z
 | negSucc n=>cases E
theorem QB {α:Type}:∀(M c:List α) (s:Nat) (m:α),M.length=c.length->M[s]? = some m->(M.take s++c.drop s).set s m=M.take (s+1)++c.drop (s+1)
 | [],_,_,_,_,h=>by simp at h
 | a::M,[],_,_,h,_=>by simp at h
 | a::M,b::c,0,m,_,h=>by simp at h;subst h;simp
 | a::M,b::c,s+1,m,hl,h=>by
  have:=QB M c s m (by simpa using hl) (by simpa using h)
  simp only[List.take_succ_cons,List.drop_succ_cons,Aig,List.set_cons_succ,this]
theorem QC {α:Type}:∀(M c:List α) (s:Nat),M.length=c.length->(M.take s++c.drop s)[s]? = c[s]?
 | [],[],_,_=>by simp
 | [],_::_,_,h=>by simp at h
 | a::M,[],_,h=>by simp at h
 | a::M,b::c,0,_=>by simp
 | a::M,b::c,s+1,hl=>by
  have:=QC M c s (by simpa using hl)
  simpa using this
theorem YD (M c:List α)(s:Nat)(h:M.length=c.length):(M.take s++c.drop s).length=c.length:=by
 rw[Ahv,Ahx,AhT]
 omega
def AZ (l:Hd):L0:=l.map fun p=>[.m (.i .i64 p.1),.m (.i .i64 p.2)]
@[simp] theorem Aea (l:Hd):(AZ l).length=l.length:=by simp[AZ]
theorem VJ (l:Hd):Bn (Az l)=AZ l:=by
 unfold Bn Az AZ
 rw[Aim]
 rfl
variable {p:Int×Int}
theorem Fb {l:Hd}(h:l[i]? = some p):nth (AZ l) i=some [J0 p.1,J0 p.2]:=by
 rw[AL]
 simp[AZ,h]
theorem IQ {l:Hd}(h:i<l.length):AO (AZ l) i [J0 p.1,J0 p.2]=some (AZ (l.set i p)):=by
 rw[AA _ _ _ (by simpa using h)]
 simp[AZ,List.map_set]
theorem wrP {es:L0}{a b x y:V}(h:nth es i=some [a,b]):BS 2 es i 0 [x,y]=AO es i [x,y]:=by
 show Option.bind (nth es (i+0)) _=_
 rw[Nat.add_zero,h]
 rfl
theorem Jd {l:Hd}{r b k:Nat}{fz:Bool}(h:nth H r=some (.cs 43 2 (AZ l) b fz))(u:b<=l.length):Mx.view (k+2) H (.sl r l.length 2 0 l.length false)=some (.sl (Az l)):=by
 show Option.bind (Mx.elems H (.sl r l.length 2 0 l.length false)) _=_
 rw[DX,h]
 show Option.bind (gd (Nat.ble b l.length&&Nat.beq 2 2) (some (((AZ l).drop 0).take l.length))) _=_
 rw[Bh,Ahq u,Aio,Ahz (by simp),<-VJ]
 show Option.bind (Ah (fun e=>Ah (Mx.view (k+1) H) e) (Bn (Az l))) _=_
 rw[AcY]
 rfl
theorem Acz {S:Int}{hs:LT}(hl:es.length<=4096)(H:Hp):Gives G 166 [.m (.ag [J4 S,.sl hs,.sl es])] H (.tu [.m (.ag [J4 S,.sl hs,.sl es]),J0 0]) H:=by
 refine Ae rfl rfl rfl rfl rfl ?_
 have E:¬(4096:Int)<es.length:=by omega
 have z:∀(x:I) (l:List V),BF (.m x::l)=(BF l).bind fun r=>some (x::r):=fun _ _=>rfl
 have N:∀x:Int,BM (J0 x)=true:=fun _=>rfl
 have J:∀x,BM (.m (.sl x))=true:=fun _=>rfl
 have u:BF []=some []:=rfl
 simp (disch:=omega) [Ab,E,z,N,J,u]
set_option maxHeartbeats 1000000 in
theorem Acj (hT:TreeV t h n es)(gt:∀H,Gives G 104 [.m (.ag [J4 t.states,h,n])] H (.m (.b (AY t))) H)(hok:AY t=true){hd:Hd}(hZ:IG k t.states.toNat t.hood t.nodes=some (hd,ns))(hlen:1<=ns.length/\ns.length<=4096)(H:Hp):
  ∃eo,eo.map dNd=ns/\Lt eo/\Gives G 132 [J0 k,.m (.ag [J4 t.states,h,n])] H (.tu [.m (.ag [J4 t.states,.sl (Az hd),.sl eo]),J0 0]) H:=by
 have key:Ret G 132 [J0 k,.m (.ag [J4 t.states,h,n])] H (fun v H'=>H'=H /\ ∃eo,eo.map dNd=ns/\Lt eo/\v=.tu [.m (.ag [J4 t.states,.sl (Az hd),.sl eo]),J0 0]):=by
  have gt0:=gt
  rw[hok]at gt
  obtain⟨⟨hS1,hS2⟩,hho,_,_,_⟩:=DY hok
  have hh:=FI hho
  have amm:∀(x:I) (l:List V),BF (.m x::l)=(BF l).bind fun r=>some (x::r):=fun _ _=>rfl
  have am0:BF []=some []:=rfl
  have oi:∀x:Int,BM (J0 x)=true:=fun _=>rfl
  have onl:BM (.m (.nl 4))=true:=rfl
  have oh:=Cv hT.hd
  have on:=Cv hT.nd
  refine Cs rfl rfl rfl rfl rfl ?_
  simp (disch:=omega) [cl (gt _),amm,am0]
  rw[Ao]
  refine KQ hT gt0 _ (fun _ E eo oo H1 k1 k2 k3 k4 k5 k6 k7 k8=>?_) (fun e=>by rw[hok]at e;cases e)
  have hon:=k2.nf
  have osl:∀(a b c d e:Nat) (f:Bool),BM (.sl a b c d e f)=true:=fun _ _ _ _ _ _=>rfl
  have cva:∀l,Ay (.ag l)=some l:=fun _=>rfl
  rw[VJ]at k1
  simp (disch:=omega) [Ab,cva,osl,oi,hon.2.2.1]
  obtain⟨S,hSe⟩:=AhA (show 0<=t.states by omega)
  rw[hSe]at hZ hS1 hS2 ⊢
  simp only[Int.toNat_natCast]at hZ
  have hZ:Aec S 64 (Jk k t.hood) (Yq t.nodes)=some (hd,ns):=hZ
  generalize hN:t.hood.length=N at *
  have hrl:(Jk k t.hood).length=t.hood.length:=by unfold Jk;simp
  refine(?key1:∀(i:Nat) (B:LE) (U:Hp) (b:Nat),i<=N->getB B 4=some [J0 0,.m (.nl 4),.m (.nl 4)]->getB B 6=some [J0 (S:Int),.sl E N 2 0 N false,oo]->b<=N->nth U E=some (.cs 43 2 (AZ ((Jk k t.hood).take i++t.hood.drop i)) b false)->L2 eo oo U ->
   Run G c132_B0 (S132_0 (J0 k) (.fa 4 0) (.fa 6 0) (.sl E N 2 0 N false) (J0 (N:Int)) (J0 (i:Int)) B U) _) 0 _ H1 0 (Aho _) rfl rfl (Aho _) k1 k2
  refine Bl (fun i:Nat=>N-i) fun i ih B U b hi a0 W hb u J=>?_
  unfold c132_B0
  have hml:=YD (Jk k t.hood) t.hood i hrl
  by_cases hiN:i<N
  ·have hiN':(i:Int)<N:=by omega
   obtain⟨p,hp⟩:∃p,t.hood[i]? = some p:=⟨t.hood[i]'(by omega),Ahh (by omega)⟩
   have hmg:=QC (Jk k t.hood) t.hood i hrl
   rw[hp]at hmg
   have hn1:=Fb hmg
   have hpo:GU p=true:=by
    have h0:=hho
    unfold BR at h0
    simp only[Ahi]at h0
    exact Lq t.hood none h0.2 p (Ahm hp)
   unfold GU at hpo
   simp only[Aht]at hpo
   have ga:=fun H=>Wq k p.1 p.2 (by omega) (by omega) H
   have hq:(Jk k t.hood)[i]? = some (CD (CP k) p.1 p.2):=by
    unfold Jk
    rw[AhD,hp]
    rfl
   have hms:=QB (Jk k t.hood) t.hood i (CD (CP k) p.1 p.2) hrl hq
   have hst:AO (AZ ((Jk k t.hood).take i++t.hood.drop i)) i [J0 (CD (CP k) p.1 p.2).1,J0 (CD (CP k) p.1 p.2).2]=some (AZ ((Jk k t.hood).take (i+1)++t.hood.drop (i+1))):=by rw[IQ (by omega),hms]
   have hse:AO U E (.cs 43 2 (AZ ((Jk k t.hood).take (i+1)++t.hood.drop (i+1))) N false)=some (U.set E (.cs 43 2 (AZ ((Jk k t.hood).take (i+1)++t.hood.drop (i+1))) N false)):=AA _ _ _ (AQ u)
   have wi:=J1 i (by omega)
   have hnd2:L2 eo oo (U.set E (.cs 43 2 (AZ ((Jk k t.hood).take (i+1)++t.hood.drop (i+1))) N false)):=J.keep fun r e _=>AF fun e2=>by
    subst e2
    have q:=J.row e
    rw[u]at q
    simp at q
   have kk:=fun B h4 h6=>ih (i+1) (by omega) B _ N (by omega) h4 h6 (Ahk _) (Be (AQ u)) hnd2
   have hml2:((Jk k t.hood).take i++t.hood.drop i).length=N:=by rw[hml,hN]
   generalize (Jk k t.hood).take i++t.hood.drop i=D at u hn1 hst hml2
   generalize (Jk k t.hood).take (i+1)++t.hood.drop (i+1)=D1 at hst hse kk
   simp (disch:=omega) [Ab,hiN',u,hb,rd2 hn1,wrP hn1,amm,am0,oi,W,cl (ga _),hst,hse,hml2,wi]
   exact kk _ (by rw[AN];simpa using a0) (by rw[AN];simpa using W)
  ·have:i=N:=by omega
   subst this
   have hiN':¬(i:Int)<i:=by omega
   have hD:(Jk k t.hood).take i++t.hood.drop i=Jk k t.hood:=by
    rw[List.drop_eq_nil_of_le (by omega),Aid,Ahz (by omega)]
   rw[hD]at u
   simp (disch:=omega) [hiN']
   clear ih hml hD k1 k2
   refine(?key2:∀(f:Nat) (Z:Bool) (z:Hd) (Q:LT) (nv:V) (B:LE) (U:Hp) (b:Nat),(match Z with
     | true=>some (z,Q.map dNd)
     | false=>Aec S f z (Q.map dNd))=some (hd,ns)->z.length=i->getB B 4=some [.m (.i .i64 0),.m (.nl 4),.m (.nl 4)]->getB B 6=some [.m (.i .i64 (S:Int)),.sl E i 2 0 i false,nv]->b<=i->nth U E=some (.cs 43 2 (AZ z) b false)->L2 Q nv U->Lt Q ->
    Run G c132_B2 (S132_2 (.fa 4 0) (.fa 6 0) (.m (.b Z)) B U) _) 64 false (Jk k t.hood) eo oo B U b (by rw[k4];exact hZ) (by omega) a0 W hb u J k3
   clear a0 W u J hb b U B
   refine Bl (fun f:Nat=>f) fun f ihf Z z Q nv B U b hR Y a0 W hb u J a2=>?_
   unfold c132_B2
   have hnvn:=J.nf
   cases Z with
   | true =>
    have hR:some (z,Q.map dNd)=some (hd,ns):=hR
    cases hR
    rw[Ahr]at hlen
    have hne:Q≠[]:=fun e=>by rw[e]at hlen;simp at hlen
    have gz:=Acz (S:=(S:Int)) (hs:=Az hd) (es:=Q) (by omega) []
    have hvh:=Jd (k:=17) u (by rw[Y];exact hb)
    rw[Y]at hvh
    have hvn:=J.view hne 17
    have ams:∀(a b c d e:Nat) (f:Bool) (l:List V),BF (.sl a b c d e f::l)=none:=fun _ _ _ _ _ _ _=>rfl
    have hvs:Ah (view 20 U) [V.ag [J0 (S:Int),.sl E i 2 0 i false,nv]]=some [.ag [J4 (S:Int),.sl (Az hd),.sl Q]]:=by
     show Option.bind (Option.bind (Ah (view 19 U) [J0 (S:Int),.sl E i 2 0 i false,nv]) _) _=_
     have e0:Ah (view 19 U) [J0 (S:Int),.sl E i 2 0 i false,nv]=some [J4 (S:Int),.sl (Az hd),.sl Q]:=by
      simp only[Ah]
      rw[hvh,hvn]
      rfl
     rw[e0]
     rfl
    obtain⟨rn,rfl⟩:∃rn,nv=.sl rn Q.length 2 0 Q.length false:=by
     rcases J with ⟨h1,_⟩|⟨_,r,h1,_⟩
     ·exact absurd h1 hne
     ·exact⟨r,h1⟩
    obtain⟨bn,hrn⟩:∃bn,nth U rn=some (.cs 65 2 (Bn Q) bn false):=⟨0,J.row rfl⟩
    have hall1:((AZ hd).all fun e=>e.all isM)=true:=by
     rw[Ahu]
     intro e he
     obtain⟨q,_,rfl⟩:=AhE.1 he
     rfl
    have hall2:((Bn Q).all fun e=>e.all isM)=true:=by
     rw[Ahu]
     intro e he
     obtain⟨q,_,rfl⟩:=AhE.1 he
     rw[Ahu]
     intro x hx
     obtain⟨y,_,rfl⟩:=AhE.1 hx
     rfl
    have hrne:E≠rn:=fun e=>by
     subst e
     rw[u]at hrn
     simp at hrn
    obtain⟨H2,hfz⟩:∃H2,AX [E,rn] U=some H2:=by
     refine⟨(U.set E (.cs 43 2 (AZ hd) b true)).set rn (.cs 65 2 (Bn Q) bn true),?_⟩
     show Option.bind (nth U E) _=_
     rw[u]
     show Option.bind (gd ((AZ hd).all fun e=>e.all isM) (some (Row.cs 43 2 (AZ hd) b true))) _=_
     rw[hall1]
     show Option.bind (AO U E _) _=_
     rw[AA _ _ _ (AQ u)]
     show Option.bind (nth (U.set E _) rn) _=_
     rw[AF hrne,hrn]
     show Option.bind (gd ((Bn Q).all fun e=>e.all isM) (some (Row.cs 65 2 (Bn Q) bn true))) _=_
     rw[hall2]
     show Option.bind (AO _ rn _) _=_
     rw[AA _ _ _ (by rw[Aib];exact AQ hrn)]
     rfl
    have gF:=BW (vs:=[V.ag [J0 (S:Int),.sl E i 2 0 i false,.sl rn Q.length 2 0 Q.length false]]) (is:=[.ag [J4 (S:Int),.sl (Az hd),.sl Q]]) rfl rfl gz hvs (by simp[Du,Fp]) rfl rfl hfz
    have os:∀x,BM (.m (.sl x))=true:=fun _=>rfl
    simp (disch:=omega) [Ab,W,a0,amm,ams,am0,cl gF,oi,os]
    exact a2
   | false =>
    have hR:Aec S f z (Q.map dNd)=some (hd,ns):=hR
    cases f with
    | zero=>cases hR
    | succ f =>
     have hR:(inT S (z.length-1) 0 z (Q.map dNd) true).bind (fun q=>match q.2.2 with
      | true=>some (q.1,q.2.1)
      | false=>Aec S f q.1 q.2.1)=some (hd,ns):=hR
     obtain⟨q,hq,hR⟩:=Ahd.1 hR
     simp (disch:=omega) []
     refine(?key3:∀(r j:Nat) (Z:Bool) (z:Hd) (Q:LT) (nv:V) (B:LE) (U:Hp) (b:Nat),inT S r j z (Q.map dNd) Z=some q->r+j+1=i->z.length=i->getB B 4=some [J0 0,.m (.nl 4),.m (.nl 4)]->getB B 6=some [J0 (S:Int),.sl E i 2 0 i false,nv]->b<=i->nth U E=some (.cs 43 2 (AZ z) b false)->L2 Q nv U->Lt Q ->
      Run G c132_B1 (S132_1 (.fa 4 0) (.fa 6 0) (.m (.b Z)) (J0 ((j:Int)+1)) B U) _) (z.length-1) 0 true z Q nv B U b hq (by omega) Y a0 W hb u J a2
     clear hq Y a0 W hb u J a2
     refine Bl (fun r:Nat=>r) fun r ihr j Z z Q nv B U b hq hrj Y a0 W hb u J a2=>?_
     unfold c132_B1
     cases r with
     | zero =>
      have hq:some (z,Q.map dNd,Z)=some q:=hq
      cases hq
      have hji:¬((j:Int)+1<i):=by omega
      have kk:=fun B h4 h6=>ihf f (by omega) Z z Q nv B U b hR Y h4 h6 hb u J a2
      simp (disch:=omega) [W,hji]
      exact kk _ a0 W
     | succ r =>
      have hji:(j:Int)+1<i:=by omega
      have hji2:j+1<i:=by omega
      have hji3:(j:Int)<i:=by omega
      have hji4:j<i:=by omega
      have hq:(nth z j).bind (fun a=>(nth z (j+1)).bind fun b=>match ltI 0 (HN a.1 a.2 b.1 b.2) with
       | true=>(swZ S (Q.map dNd) ((z.length:Int)-j)).bind fun ns2=>inT S r (j+1) ((z.set j b).set (j+1) a) ns2 false
       | false=>inT S r (j+1) z (Q.map dNd) Z)=some q:=hq
      obtain⟨pa,ha,hq⟩:=Ahd.1 hq
      obtain⟨pb,hpb,hq⟩:=Ahd.1 hq
      rw[AL]at ha hpb
      have hna:=Fb ha
      have hnb:=Fb hpb
      have gc:=fun H=>UV pa.1 pa.2 pb.1 pb.2 H
      have wj:wr .i64 ((j:Int)+1+1)=((j+1:Nat):Int)+1:=by rw[Aa (by omega) (by omega)];omega
      have wj0:wr .i64 (j:Int)=(j:Int):=Aa (by omega) (by omega)
      by_cases hg:0<HN pa.1 pa.2 pb.1 pb.2
      ·have hgt:ltI 0 (HN pa.1 pa.2 pb.1 pb.2)=true:=by rw[CT];simpa using hg
       simp only[hgt]at hq
       obtain⟨ns2,hsw,hq⟩:=Ahd.1 hq
       obtain⟨z1,z2,bl,to,m,z3,z4,z5,z6,z7,rfl⟩:=Yb hsw
       rw[Ahr]at z2 z3 z6
       rw[Y]at z3
       have hnvn:=J.nf
       have ams:∀(a b c d e:Nat) (f:Bool) (l:List V),BF (.sl a b c d e f::l)=none:=fun _ _ _ _ _ _ _=>rfl
       simp (disch:=omega) [Ab,W,hji,u,hb,Y,rd2 hna,rd2 hnb,amm,ams,am0,cl (gc _),hg,wj0]
       rw[Ao]
       refine Uv a2 J (by omega) z1 z2 (by omega) z3 z4 z5 z6 z7 _ fun eo2 oo2 H2 m1 m2 m3 m4 m5 m6=>?_
       have hon2:=m1.nf
       have a1:nth H2 E=some (.cs 43 2 (AZ z) b false):=by rw[m5 E (AQ u)];exact u
       have hs1:AO (AZ z) j [J0 pb.1,J0 pb.2]=some (AZ (z.set j pb)):=IQ (by omega)
       have hs2:AO (AZ (z.set j pb)) (j+1) [J0 pa.1,J0 pa.2]=some (AZ ((z.set j pb).set (j+1) pa)):=IQ (by rw[Aib];omega)
       have hnb2:nth (AZ (z.set j pb)) (j+1)=some [J0 pb.1,J0 pb.2]:=Fb (by rw[Aij (by omega)];exact hpb)
       have hl2:(z.set j pb).length=i:=by rw[Aib];exact Y
       have hl3:((z.set j pb).set (j+1) pa).length=i:=by rw[Aib,Aib];exact Y
       generalize z.set j pb=D1 at hs1 hs2 hnb2 hl2 hl3 hq
       generalize D1.set (j+1) pa=D2 at hs2 hl3 hq
       have se1:AO H2 E (.cs 43 2 (AZ D1) i false)=some (H2.set E (.cs 43 2 (AZ D1) i false)):=AA _ _ _ (AQ a1)
       have hr3:nth (H2.set E (.cs 43 2 (AZ D1) i false)) E=some (.cs 43 2 (AZ D1) i false):=Be (AQ a1)
       have se2:AO (H2.set E (.cs 43 2 (AZ D1) i false)) E (.cs 43 2 (AZ D2) i false)=some ((H2.set E (.cs 43 2 (AZ D1) i false)).set E (.cs 43 2 (AZ D2) i false)):=AA _ _ _ (AQ hr3)
       have hrow3:nth (H2.set E (.cs 43 2 (AZ D2) i false)) E=some (.cs 43 2 (AZ D2) i false):=Be (AQ a1)
       have hnd3:L2 eo2 oo2 (H2.set E (.cs 43 2 (AZ D2) i false)):=m1.keep fun r e _=>by
        have hne:E≠r:=fun e2=>by
         subst e2
         have q:=m1.row e
         rw[a1]at q
         simp at q
        rw[AF hne]
       have kk:=fun B h4 h6=>ihr r (by omega) (j+1) false D2 eo2 oo2 B _ i (by rw[m3];exact hq) (by omega) hl3 h4 h6 (Ahk _) hrow3 hnd3 m2
       have cva:∀l,Ay (.ag l)=some l:=fun _=>rfl
       simp (disch:=omega) [Ab,W,cva,osl,oi,hon2.2.2.1,a1,hb,rd2 hna,rd2 hnb,amm,am0,Y,wj0,wrP hna,hs1,se1,hr3,wrP hnb2,hs2,se2,hl2,wj]
       have ej:((j:Int)+1+1)=((j+1:Nat):Int)+1:=by omega
       rw[ej]
       exact kk _ (by rw[AN];simpa using a0) (by rw[AN];simp)
      ·have hgt:ltI 0 (HN pa.1 pa.2 pb.1 pb.2)=false:=by rw[CT];simpa using hg
       simp only[hgt]at hq
       have kk:=fun B h4 h6=>ihr r (by omega) (j+1) Z z Q nv B U b hq (by omega) Y h4 h6 hb u J a2
       simp (disch:=omega) [Ab,W,hji,u,hb,Y,rd2 hna,rd2 hnb,amm,am0,cl (gc _),hg,wj,wj0]
       exact kk _ a0 W
 obtain⟨v,H',g,rfl,eo,h1,h2,rfl⟩:=AJ key
 exact⟨eo,h1,h2,g⟩
def bdN (ns:List Nd):Bool:=ns.all fun x=>x.2.all Adw&&Nat.ble x.2.length 1000
theorem Vo (h:Lt es)(Q:bdN (es.map dNd)=true):Ri es:=fun e E=>by
 obtain⟨x,z,rfl,J⟩:=h e E
 have u:=Ahu.1 Q (x,dIn z) (by rw[AhE];exact⟨_,E,rfl⟩)
 simp only[Ahi]at u
 have U:=Aiz u.2
 exact⟨x,z,rfl,J,by omega,fun k N=>by have:=HO.1 (Ahu.1 u.1 k N);omega⟩
theorem Zd (hT:TreeV t (.sl (Az t.hood)) (.sl es) es)(gt:∀H,Gives G 104 [.m (.ag [J4 t.states,.sl (Az t.hood),.sl es])] H (.m (.b (AY t))) H) 
  (gh:∀H,Gives G 167 [.m (.sl (Az t.hood)),.m (.sl (Az t.hood))] H (.m (.b true)) H)
  (gs:Gives G 168 [.m (.ag [J4 t.states,.sl (Az t.hood),.sl es]),.m (.ag [J4 t.states,.sl (Az t.hood),.sl es])] [] (.m (.b true)) [])
  (z:AY t=true) (Y:Yq t.nodes=t.nodes) (he:∀W,Lt W->W.map dNd=t.nodes->W=es) (H:Hp) :
  Gives G 133 [.m (.ag [J4 t.states,.sl (Az t.hood),.sl es]),.m (.ag [J4 t.states,.sl (Az t.hood),.sl es])] H (.m (.b true)) H:=by
 have ga:=gt
 rw[z]at ga
 have amm:∀(x:I) (l:List V),BF (.m x::l)=(BF l).bind fun r=>some (x::r):=fun _ _=>rfl
 have am0:BF []=some []:=rfl
 have oi:∀x:Int,BM (J0 x)=true:=fun _=>rfl
 have oh:=Cv hT.hd
 have on:=Cv hT.nd
 obtain⟨_,_,⟨Z,_⟩,_,_⟩:=DY z
 have hne:t.nodes≠[]:=fun e=>by rw[e]at Z;simp at Z
 refine Ae rfl rfl rfl rfl rfl ?_
 simp (disch:=omega) [Ad,cl (ga _),cl (gh _),amm,am0]
 rw[Ao]
 refine KQ hT gt _ (fun _ U W oo H1 k1 k2 k3 k4 k5 k6 k7 k8=>?_) (fun e=>by rw[z]at e;cases e)
 simp (disch:=omega) [Ad]
 rw[Ao]
 refine KQ hT gt _ (fun _ N u Q E m1 m2 m3 m4 m5 m6 m7 m8=>?_) (fun e=>by rw[z]at e;cases e)
 obtain rfl:=he W k3 (k4.trans Y)
 obtain rfl:=he u m3 (m4.trans Y)
 have J:u≠[]:=fun e=>hne (by rw[<-k4.trans Y,e];rfl)
 rw[VJ]at k1 m1
 have q1:nth E U=some (.cs 43 2 (AZ t.hood) 0 false):=by rw[m6 U (AQ k1)];exact k1
 have q2:L2 u oo E:=k2.keep fun r _ Y=>m6 r Y
 have v1:=Jd (k:=17) q1 (Aho _)
 have v2:=Jd (k:=17) m1 (Aho _)
 have v3:=q2.view J 17
 have v4:=m2.view J 17
 have hvs:Ah (view 20 E) [V.ag [J0 t.states,.sl U t.hood.length 2 0 t.hood.length false,oo],V.ag [J0 t.states,.sl N t.hood.length 2 0 t.hood.length false,Q]]=some [.ag [J4 t.states,.sl (Az t.hood),.sl u],.ag [J4 t.states,.sl (Az t.hood),.sl u]]:=by
  have e0:Ah (view 19 E) [J0 t.states,.sl U t.hood.length 2 0 t.hood.length false,oo]=some [J4 t.states,.sl (Az t.hood),.sl u]:=by
   simp only[Ah]
   rw[v1,v3]
   rfl
  have e1:Ah (view 19 E) [J0 t.states,.sl N t.hood.length 2 0 t.hood.length false,Q]=some [J4 t.states,.sl (Az t.hood),.sl u]:=by
   simp only[Ah]
   rw[v2,v4]
   rfl
  show Option.bind (Option.bind (Ah (view 19 E) [J0 t.states,.sl U t.hood.length 2 0 t.hood.length false,oo]) _) _=_
  rw[e0]
  show Option.bind (Option.bind (Option.bind (Ah (view 19 E) [J0 t.states,.sl N t.hood.length 2 0 t.hood.length false,Q]) _) _) _=_
  rw[e1]
  rfl
 have gF:=AU (H:=E) rfl rfl gs hvs (.inr ⟨by simp[Du,Fp],rfl⟩)
 simp (disch:=omega) [Ad,cl gF]
def Sw (k:Nat):List Int:=(List.range k).map fun j:Nat=>(j:Int)
theorem Uq (k:Nat):Sw (k+1)=Sw k++[(k:Int)]:=by simp[Sw,List.range_succ]
theorem AfO (Q:TreeV t (.sl (Az t.hood)) (.sl es) es)(gt:∀H,Gives G 104 [.m (.ag [J4 t.states,.sl (Az t.hood),.sl es])] H (.m (.b (AY t))) H) 
  (gh:∀H,Gives G 167 [.m (.sl (Az t.hood)),.m (.sl (Az t.hood))] H (.m (.b true)) H)
  (gs:Gives G 168 [.m (.ag [J4 t.states,.sl (Az t.hood),.sl es]),.m (.ag [J4 t.states,.sl (Az t.hood),.sl es])] [] (.m (.b true)) [])
  (he:∀N,Lt N->N.map dNd=t.nodes->N=es) (u:AY t=true) (hr:Yq t.nodes=t.nodes) (hZ:∀k:Nat,k<8->IG (k:Int) t.states.toNat t.hood t.nodes=some (t.hood,t.nodes)) (H:Hp) :
  Gives G 190 [.m (.ag [J4 t.states,.sl (Az t.hood),.sl es])] H (.m (.sl (BT (Sw 8)))) H:=by
 obtain⟨_,hho,⟨z,Y⟩,_,_⟩:=DY u
 have a4:∀(x:I) (l:List V),BF (.m x::l)=(BF l).bind fun r=>some (x::r):=fun _ _=>rfl
 have W:BF []=some []:=rfl
 have oi:∀x:Int,BM (J0 x)=true:=fun _=>rfl
 have os:∀x,BM (.m (.sl x))=true:=fun _=>rfl
 have oh:=Cv Q.hd
 have on:=Cv Q.nd
 have hne:t.nodes≠[]:=fun e=>by rw[e]at z;simp at z
 refine Ae rfl rfl rfl rfl rfl ?_
 simp (disch:=omega) []
 refine(?key:∀(k:Nat) (o:V) (B:LE) (U:Hp),k<=8->getB B 1=some [J0 t.states,.m (.sl (Az t.hood)),.m (.sl es)]->LR 3 (iI (Sw k)) o U HQ ->
  Run G c190_B0 (S190_0 (.fa 1 0) o (J0 (k:Int)) B U) _) 0 (.m (.nl 4)) _ _ (by omega) rfl (.inl ⟨rfl,rfl⟩)
 refine Bl (fun k:Nat=>8-k) fun k ih o B U hk hB Z=>?_
 unfold c190_B0
 have E:=Z.nf
 by_cases a0:k<8
 ·have J:(k:Int)<8:=by omega
  obtain⟨N,a5,a6,gu⟩:=Acj Q gt u (hZ k a0) ⟨z,Y⟩ U
  obtain rfl:=he N a6 a5
  have ge:=Zd Q gt gh gs u hr he
  obtain⟨o1,H1,a1,a2,a3,_,_⟩:=Z.push1 (b:=8) (by omega) (y:=.i .i64 (k:Int)) (by unfold Sw;simp;omega) rfl
  have e1:iI (Sw k)++[J4 (k:Int)]=iI (Sw (k+1)):=by rw[Uq];simp[iI]
  rw[e1]at a3
  have wk:=J1 k (by omega)
  have kk:=fun B h=>ih (k+1) (by omega) o1 B H1 (by omega) h a3
  simp (disch:=omega) [Ab,J,hB,a4,W,oi,os,cl gu,cl (ge _),Ad,a1,Al a2,wk]
  exact kk _ (by rw[AN];simpa using hB)
 ·have:k=8:=by omega
  subst this
  have hv:=Z.viewR
  have hz:zL (iI (Sw 8))=.sl (BT (Sw 8)):=by
   unfold zL
   rw[Ahj (by simp[iI,Sw]),MX]
  rw[hz]at hv
  simp (disch:=omega) [Al E.1,E.1,hv]
open Go.Proofs
def Hv (cl:List Int)(x:Nd):List Int:=if 1<x.1 then x.2.map (fun k=>(cl[k.toNat]?).getD 0) else x.2
def VS (l:List Nd)(nx:List (List Int))(a:Int)(c:List Int)(i k:Nat):Nat:=((List.range' k (i-k)).find? fun j=>decide (((l[j]?).getD (0,[])).1=a/\(nx[j]?).getD []=c)).getD i
def Jf (l:List Nd):Nat->List Int×List (List Int)
 | 0=>([],[])
 | i+1=>((Jf l i).1++[(VS l (Jf l i).2 ((l[i]?).getD (0,[])).1 (Hv (Jf l i).1 ((l[i]?).getD (0,[]))) i 0:Int)],(Jf l i).2++[Hv (Jf l i).1 ((l[i]?).getD (0,[]))])
theorem Lp (l:List Nd):∀i,(Jf l i).1.length=i/\(Jf l i).2.length=i
 | 0=>⟨rfl,rfl⟩
 | i+1=>by
  obtain⟨u,z⟩:=Lp l i
  simp[Jf,u,z]
theorem YV (l:List Nd)(u:List (List Int))(a:Int)(c:List Int)(i:Nat):VS l u a c i i=i:=by simp[VS]
theorem VR (l:List Nd)(u:List (List Int))(a:Int)(c:List Int){k:Nat}(h:k<i):VS l u a c i k=if ((l[k]?).getD (0,[])).1=a/\(u[k]?).getD []=c then k else VS l u a c i (k+1):=by
 unfold VS
 obtain⟨m,z⟩:∃m,i-k=m+1:=⟨i-k-1,by omega⟩
 rw[z,List.range'_succ,List.find?_cons,show i-(k+1)=m from by omega]
 by_cases e:((l[k]?).getD (0,[])).1=a/\(u[k]?).getD []=c
 ·rw[Ahl e,Ahq e]
  rfl
 ·rw[Ahj e,Ahs e]
variable {ty:Nat} {xs:List I} {ok:Nat->Prop}
theorem LR.call2 (h:LR ty xs o H ok){F:Nat}{w:I}{v:V}{H0:Hp}(u:G.prim F=none)(hs:G.sh F=false)(N:Gives G F [.m w,.m (zL xs)] H0 v H0)(J:FD v=true):Gives G F [.m w,o] H v H:=by
 have E:Ah (Mx.view 20 H) [.m w,o]=some [w,zL xs]:=by
  show (Mx.view 20 H (.m w)).bind _=_
  rw[show Mx.view 20 H (.m w)=some w from rfl,Ahp]
  show ((Mx.view 20 H o).bind _).bind _=_
  rw[h.view 18]
  rfl
 refine AU (is:=[w,zL xs]) u hs N E ?_
 rcases h with ⟨rfl,rfl⟩|⟨z,r,Q,rfl,U⟩
 ·exact .inl ⟨by simp[Du,Fp],by simp[BO,CV]⟩
 ·exact .inr ⟨by simp[Du,Fp],J⟩
theorem LR.keepO {H':Hp}(h:LR ty xs o H ok)(J:∀r,AH o=some r->r<H.length->nth H' r=nth H r):LR ty xs o H' ok:=by
 rcases h with h|⟨u,r,E,e,z⟩
 ·exact .inl h
 ·subst e
  exact .inr ⟨u,r,E,rfl,by rw[J r rfl (AQ z)];exact z⟩
theorem LR.okr (h:LR ty xs o H ok){r:Nat}(e:AH o=some r):ok r:=by
 rcases h with ⟨_,rfl⟩|⟨z,q,u,rfl,E⟩
 ·cases e
 ·cases e
  exact u
theorem LR.bsf1 (h:LR ty xs o H ok):∃z u,(∀B,An (fun _ _ _=>none) ⟨B,H⟩ (.bsf 1 [.m (.nl 4)] 1 [0]) [o]=some (.ls [[z]],⟨B,u⟩))/\IsSl z (on1 xs)/\BM (.m z)=true/\u.length=H.length /\ ∀r,AH o≠some r->nth u r=nth H r:=by
 have Q:=h.view 18
 rcases h with ⟨rfl,rfl⟩|⟨E,r,W,rfl,J⟩
 ·exact⟨.nl 4,H,fun B=>rfl,.inr ⟨rfl,rfl⟩,rfl,rfl,fun _ _=>rfl⟩
 ·refine⟨zL xs,H.set r (.cs ty 1 (onV xs) 0 true),fun B=>?_,MJ xs,Afr xs,by simp,fun q U=>AF fun e=>U (by rw[<-e];rfl)⟩
  have e:An (fun _ _ _=>none) ⟨B,H⟩ (.bsf 1 [.m (.nl 4)] 1 [0]) [.sl r xs.length 1 0 xs.length false]=((Ah (fun e=>Ah (Mx.view 20 H) e) [[V.sl r xs.length 1 0 xs.length false]]).bind fun l=>(AX [r] H).bind fun N=>some (.ls l,⟨B,N⟩)):=rfl
  rw[e,OG J]
  simp only[Ah,Q,Ahp]
theorem Yz (cl:List Int)(x:Nd):(Hv cl x).length=x.2.length:=by unfold Hv;split <;> simp
theorem QV {l:List Nd}:∀(i j:Nat) (c:List Int),(Jf l i).2[j]? = some c -> ∃cl,c=Hv cl ((l[j]?).getD (0,[]))
 | 0,j,c,h=>by simp[Jf]at h
 | i+1,j,c,h=>by
  obtain⟨_,u⟩:=Lp l i
  by_cases e:j<i
  ·refine QV i j c ?_
   simp only[Jf]at h
   rwa[AhC (by omega)]at h
  ·simp only[Jf]at h
   rw[AhP (by omega),u]at h
   cases hk:j-i with
   | zero =>
    rw[hk]at h
    have:j=i:=by omega
    subst this
    simp at h
    exact⟨_,h.symm⟩
   | succ k =>
    rw[hk]at h
    simp at h
def WsOk (ws:List I)(nx:List (List Int)):Prop:=ws.length=nx.length /\ ∀(j:Nat) (c:List Int),nx[j]? = some c -> ∃w,ws[j]? = some w/\IsSl w (BT c)
theorem WsOk.snoc {E:List I}{z:List (List Int)}{c:List Int}{w:I}(h:WsOk E z)(J:IsSl w (BT c)):WsOk (E++[w]) (z++[c]):=by
 refine⟨by simp[h.1],fun j d u=>?_⟩
 by_cases e:j<z.length
 ·rw[AhC e]at u
  rw[AhC (by rw[h.1];exact e)]
  exact h.2 j d u
 ·rw[AhP (by omega)]at u
  rw[AhP (by rw[h.1];omega),h.1]
  cases hk:j-z.length with
  | zero =>
   rw[hk]at u
   simp at u
   subst u
   exact⟨w,by simp,J⟩
  | succ k =>
   rw[hk]at u
   simp at u
set_option maxHeartbeats 8000000 in
theorem cls_r (hT:TreeV t h n es)(hle:es.length<=4096)(h20:∀x,x∈t.nodes->x.2.length<=100)(hv:∀(i:Nat) (x:Nd),t.nodes[i]? = some x->1<x.1 -> ∀k,k∈x.2->0<=k/\k<(i:Int))(HH:Hp):Gives G 182 [.m n] HH (.m (zI (Jf t.nodes es.length).1)) HH:=by
 have rn:=hT.nd.rules
 have hln:=CK hT
 refine Ae rfl rfl rfl rfl rfl ?_
 simp (disch:=omega) []
 refine(?key2:∀(i:Nat) (N U:V) (ws:List I) (B:LE) (H:Hp),i<=es.length->LR 3 (iI (Jf t.nodes i).1) N H HQ->LR 63 ws U H HQ->WsOk ws (Jf t.nodes i).2 ->
  Run G c182_B2 (S182_2 (.m n) N U (J0 (i:Int)) B H) _) 0 _ _ [] _ _ (Aho _) (.inl ⟨rfl,rfl⟩) (.inl ⟨rfl,rfl⟩) ⟨rfl,fun j c h=>by simp[Jf]at h⟩
 refine Bl (fun i:Nat=>es.length-i) fun i ih N U ws B H hi Y h4 hw=>?_
 unfold c182_B2
 obtain⟨a1,a2,a3,a4⟩:=Y.nf
 obtain⟨b1,b2,b3,b4⟩:=h4.nf
 obtain⟨l1,l2⟩:=Lp t.nodes i
 cases hx:t.nodes[i]? with
 | none =>
  have:i=es.length:=by have:=Ahn.1 hx;omega
  subst this
  have v1:=Y.viewR
  rcases Y with ⟨e,rfl⟩|⟨hne,r,hr9,rfl,h5⟩
  ·have e':(Jf t.nodes es.length).1=[]:=by simpa[iI]using e
   simp (disch:=omega) [rn,e']
   rfl
  ·simp only[Dp]at v1
   simp (disch:=omega) [rn,v1]
   rfl
 | some x =>
  have hlt:i<es.length:=by rw[<-hln];exact(Ahg.1 hx).1
  have hlt':(i:Int)<es.length:=by omega
  obtain⟨zx,x1,x2,x3,_⟩:=Ch hT hx
  have rx:=x2.rules
  simp only[Bo]at rx
  have wi:=J1 i (by omega)
  simp (disch:=omega) [rn,hlt']
  have h3':LR 3 (iI (Jf t.nodes i).1) N H (· < H.length):=Y.keep (fun _ _=>rfl) (fun r _ h=>h)
  have h4':LR 63 ws U H (· < H.length):=h4.keep (fun _ _=>rfl) (fun r _ h=>h)
  generalize hn0:H.length=n0 at h3' h4'
  have hx20:=h20 x (Ahm hx)
  generalize hcl:(Jf t.nodes i).1=ks at *
  generalize hnx:(Jf t.nodes i).2=nx at *
  have hnl:(Hv ks x).length=x.2.length:=by unfold Hv;split <;> simp
  have ih:=fun N U ws B H=>ih (i+1) (by omega) N U ws B H (by omega)
  have hxi:(t.nodes[i]?).getD (0,[])=x:=by rw[hx];rfl
  simp only[Jf,hcl,hnx,hxi]at ih
  refine(?key0:∀(s:Nat) (o6:V) (B:LE) (H:Hp),s<=x.2.length->n0<=H.length->LR 3 (iI ks) N H (· < n0)->LR 63 ws U H (· < n0)->LR 3 (iI ((Hv ks x).take s)) o6 H (n0 <= ·) ->
   Run G c182_B0 (S182_0 (.m n) N U (J0 (i:Int)) o6 (J0 (s:Int)) B H) _) 0 _ _ _ (Aho _) (by omega) h3' h4' (.inl ⟨rfl,rfl⟩)
  clear Y h4 h3' h4' hn0 H B
  refine Bl (fun s:Nat=>x.2.length-s) fun s ihs o6 B H hs hn Y h4 h6=>?_
  unfold c182_B0
  obtain⟨c1,c2,c3,c4⟩:=h6.nf
  cases hk:x.2[s]? with
  | some k =>
   have hlts:=(Ahg.1 hk).1
   have W:(s:Int)<x.2.length:=by omega
   have m1:=Cg hk
   have ws1:=J1 s (by omega)
   have push:∀w:Int,(Hv ks x)[s]? = some w -> ∃E Q,(∀B,An (fun _ _ _=>none) ⟨B,H⟩ (.app 3 1 8) [o6,.ls [[J4 w]]]=some (E,⟨B,Q⟩))/\AB E=true/\n0<=Q.length/\LR 3 (iI ks) N Q (· < n0)/\LR 63 ws U Q (· < n0)/\LR 3 (iI ((Hv ks x).take (s+1))) E Q (n0 <= ·):=fun w hw=>by
    obtain⟨E,Q,p1,p2,p3,p4,p5,p6⟩:=h6.push (b:=8) (ys:=[J4 w]) hn (by omega) (by simp;omega) (fun u hu=>by rw[AhH]at hu;subst hu;rfl)
    refine⟨E,Q,fun B=>(Cl rfl).trans (p1 B),p2,p4,Y.keep (fun r z=>p6 r z) (fun r z _=>z),h4.keep (fun r z=>p6 r z) (fun r z _=>z),?_⟩
    rw[As hw,show iI ((Hv ks x).take s++[w])=iI ((Hv ks x).take s)++[J4 w] from (VN _ [w]).symm]
    exact p3
   by_cases Z:1<x.1
   ·obtain⟨k0,k1⟩:=hv i x hx Z k (Ahm hk)
    obtain⟨m,rfl⟩:∃m:Nat,k=(m:Int):=⟨k.toNat,by omega⟩
    have hml:m<ks.length:=by omega
    have hml':(m:Int)<ks.length:=by omega
    obtain⟨cw,hcw⟩:∃cw,ks[m]? = some cw:=⟨ks[m],Ahh hml⟩
    obtain⟨q,e1,e2,e3⟩:=Y.rd (Dq hcw)
    have hw:(Hv ks x)[s]? = some cw:=by
     unfold Hv
     rw[Ahl Z,AhD,hk]
     simp[hcw]
    obtain⟨E,Q,p1,p2,p3,p4,p5,p6⟩:=push cw hw
    have k:=fun B=>ihs (s+1) (by omega) E B Q (by omega) p3 p4 p5 p6
    simp (disch:=omega) [rn,x1,rx,W,m1,Z,e1,e3,-Dz,p1,Al p2,ws1,-Int.natCast_add]
    exact k _
   ·have hw:(Hv ks x)[s]? = some k:=by
     unfold Hv
     rw[Ahj Z]
     exact hk
    obtain⟨E,Q,p1,p2,p3,p4,p5,p6⟩:=push k hw
    have kk:=fun B=>ihs (s+1) (by omega) E B Q (by omega) p3 p4 p5 p6
    simp (disch:=omega) [rn,x1,rx,W,m1,Z,-Dz,p1,Al p2,ws1,-Int.natCast_add]
    exact kk _
  | none =>
  have:s=x.2.length:=by have:=Ahn.1 hk;omega
  subst this
  rw[<-hnl,AhI]at h6
  have w1:=J2 ((i:Int)-1) (by omega)
  simp (disch:=omega) [rn,x1,rx,w1]
  have e0:(i:Int)=(VS t.nodes nx x.1 (Hv ks x) i i:Int):=by rw[YV]
  refine(?key1:∀(k:Nat) (f:Int) (B:LE),k<=i->f=(VS t.nodes nx x.1 (Hv ks x) i k:Int) ->
   Run G c182_B1 (S182_1 (.m n) N U (J0 (i:Int)) o6 (J0 f) (J0 ((k:Int)-1)) B H) _) i i _ (Ahk _) e0
  clear ihs e0 B
  refine Bl (fun k:Nat=>k) fun k ihk f B hk hf=>?_
  unfold c182_B1
  cases k with
  | zero =>
   subst hf
   have hl3:AH N=none \/ ∃r,AH N=some r:=by cases AH N <;> simp
   obtain⟨o3',Q,p1,p2,p3,p4,p5,p6⟩:=(Y.keep (H':=H) (ok':=HQ) (fun _ _=>rfl) (fun _ _ _=>AhY)).push1 (b:=8) (by omega) (y:=.i .i64 (VS t.nodes nx x.1 (Hv ks x) i 0:Int)) (by simp;omega) rfl
   have d34:∀r,AH U=some r->AH N≠some r:=fun r z e=>by
    have:=(h4.row z).symm.trans (Y.row e)
    cases this
   have d36:∀r,AH o6=some r->AH N≠some r:=fun r z e=>by
    have a:n0<=r:=h6.okr z
    have b:r<n0:=Y.okr e
    omega
   have h4b:=h4.keepO (H':=Q) fun r z hl=>p5 r hl (d34 r z)
   have h6b:=h6.keepO (H':=Q) fun r z hl=>p5 r hl (d36 r z)
   obtain⟨zz,H3,q1,q2,q3,q4,q5⟩:=h6b.bsf1
   rw[MX]at q2
   have d46:∀r,AH U=some r->AH o6≠some r:=fun r z e=>by
    have:=(h4.row z).symm.trans (h6.row e)
    cases this
   have d3'6:∀r,AH o3'=some r->AH o6≠some r:=fun r z e=>by
    rcases p6 r z with h|⟨h,_⟩
    ·exact d36 r e h
    ·have:=h6.row_lt e
     omega
   have h4c:=h4b.keepO (H':=H3) fun r z _=>q5 r (d46 r z)
   have h3c:=p3.keepO (H':=H3) fun r z _=>q5 r (d3'6 r z)
   obtain⟨o4',H5,s1,s2,s3,s4,s5,s6⟩:=(h4c.keep (H':=H3) (ok':=HQ) (fun _ _=>rfl) (fun _ _ _=>AhY)).push1 (b:=24) (by omega) (y:=zz) (by have:=hw.1;omega) q3
   have h3d:=h3c.keepO (H':=H5) fun r z hl=>s5 r hl fun e=>by
    have:=(h3c.row z).symm.trans (h4c.row e)
    cases this
   have kk:=fun B=>ih o3' o4' (ws++[zz]) B H5 (by rw[show iI (ks++[(VS t.nodes nx x.1 (Hv ks x) i 0:Int)])=iI ks++[J4 (VS t.nodes nx x.1 (Hv ks x) i 0:Int)] from (VN _ _).symm];exact h3d) s3 (hw.snoc q2)
   have hm:¬(0:Int)<=((0:Nat):Int)-1:=by omega
   simp (disch:=omega) [-Dz,p1,q1,s1,Al p2,Al s2,wi,-Int.natCast_add]
   exact kk _
  | succ k =>
   have hki:k<i:=by omega
   have hkl:k<es.length:=by omega
   have hkl':(k:Int)<es.length:=by omega
   have wk:((k+1:Nat):Int)-1=(k:Int):=by omega
   have wk2:=J2 ((k:Int)-1) (by omega)
   obtain⟨y,hy⟩:∃y,t.nodes[k]? = some y:=⟨t.nodes[k],Ahh (by omega)⟩
   obtain⟨zy,y1,y2,y3,_⟩:=Ch hT hy
   obtain⟨d,hd⟩:∃d,nx[k]? = some d:=⟨nx[k],Ahh (by omega)⟩
   obtain⟨w,hw1,hw2⟩:=hw.2 k d hd
   obtain⟨q,e1,e2,e3⟩:=h4.rd hw1
   have J:=VR t.nodes nx x.1 (Hv ks x) hki
   rw[hy,hd]at J
   have hdl:d.length<=9223372036854775807:=by
    obtain⟨cl',e⟩:=QV (l:=t.nodes) i k d (by rw[hnx];exact hd)
    rw[e,Yz,hy]
    have:=h20 y (Ahm hy)
    simp only[AiJ]
    omega
   simp only[AiJ]at J
   rw[wk]
   by_cases u1:y.1=x.1
   ·have gs:=h6.call2 (F:=210) (w:=w) (v:=.m (.b (decide (d=Hv ks x)))) (H0:=[]) rfl rfl (Yl hw2 (zI_sl (Hv ks x)) hdl []) rfl
    by_cases u2:d=Hv ks x
    ·rw[Ahq u2]at gs
     rw[Ahl ⟨u1,u2⟩]at J
     have kk:=fun B=>ihk k (by omega) k B (by omega) (by rw[J])
     simp (disch:=omega) [Ad,rn,x1,y1,u1,e1,e3,cl gs,wk2,-Int.natCast_add]
     exact kk _
    ·rw[Ahs u2]at gs
     rw[Ahj fun e=>u2 e.2]at J
     have kk:=fun B=>ihk k (by omega) f B (by omega) (by rw[hf,J])
     simp (disch:=omega) [Ad,rn,x1,y1,u1,e1,e3,cl gs,wk2,-Int.natCast_add]
     exact kk _
   ·rw[Ahj fun e=>u1 e.1]at J
    have kk:=fun B=>ihk k (by omega) f B (by omega) (by rw[hf,J])
    simp (disch:=omega) [Ad,rn,x1,y1,u1,wk2,-Int.natCast_add]
    exact kk _
end Go.Mx.Tryz
set_option maxRecDepth 1000000
namespace Go.Mx.Tryz
open Go.Proofs
def iE (n:Int):I:=.i .i64 n
def allE:I:=.sl [[iE 0],[iE 1],[iE 2],[iE 3],[iE 4],[iE 5],[iE 6],[iE 7]]
def lifeE:I:=.ag [iE 2,.sl [[iE (-1),iE (-1)],[iE 0,iE (-1)],[iE 1,iE (-1)],[iE (-1),iE 0],[iE 0,iE 0],[iE 1,iE 0],[iE (-1),iE 1],[iE 0,iE 1],[iE 1,iE 1]],.sl [[iE 1,.sl [[iE 0],[iE 0]]],[iE 2,.sl [[iE 0],[iE 0]]],[iE 1,.sl [[iE 0],[iE 1]]],[iE 2,.sl [[iE 0],[iE 2]]],[iE 3,.sl [[iE 1],[iE 3]]],[iE 1,.sl [[iE 1],[iE 0]]],[iE 2,.sl [[iE 2],[iE 5]]],[iE 3,.sl [[iE 3],[iE 6]]],[iE 4,.sl [[iE 4],[iE 7]]],[iE 1,.sl [[iE 1],[iE 1]]],[iE 2,.sl [[iE 2],[iE 9]]],[iE 3,.sl [[iE 3],[iE 10]]],[iE 2,.sl [[iE 9],[iE 5]]],[iE 3,.sl [[iE 10],[iE 12]]],[iE 4,.sl [[iE 11],[iE 13]]],[iE 5,.sl [[iE 8],[iE 14]]],[iE 2,.sl [[iE 5],[iE 0]]],[iE 3,.sl [[iE 6],[iE 16]]],[iE 4,.sl [[iE 7],[iE 17]]],[iE 3,.sl [[iE 12],[iE 16]]],[iE 4,.sl [[iE 13],[iE 19]]],[iE 5,.sl [[iE 18],[iE 20]]],[iE 6,.sl [[iE 15],[iE 21]]],[iE 3,.sl [[iE 16],[iE 1]]],[iE 4,.sl [[iE 17],[iE 23]]],[iE 4,.sl [[iE 19],[iE 23]]],[iE 5,.sl [[iE 24],[iE 25]]],[iE 6,.sl [[iE 21],[iE 26]]],[iE 7,.sl [[iE 22],[iE 27]]],[iE 3,.sl [[iE 1],[iE 1]]],[iE 4,.sl [[iE 23],[iE 29]]],[iE 5,.sl [[iE 30],[iE 30]]],[iE 6,.sl [[iE 26],[iE 31]]],[iE 7,.sl [[iE 27],[iE 32]]],[iE 8,.sl [[iE 28],[iE 33]]],[iE 4,.sl [[iE 29],[iE 29]]],[iE 5,.sl [[iE 35],[iE 35]]],[iE 6,.sl [[iE 31],[iE 36]]],[iE 7,.sl [[iE 32],[iE 37]]],[iE 8,.sl [[iE 33],[iE 38]]],[iE 9,.sl [[iE 34],[iE 39]]]]]
def ndI (x:Nd):List I:=[.i .i64 x.1,.sl (BT x.2)]
theorem Wd (x:Nd):dNd (ndI x)=x:=by
 obtain⟨a,l⟩:=x
 show (a,(BT l).map dEn)=(a,l)
 rw[show (BT l).map dEn=l from by unfold BT;rw[Aim];exact List.map_id'' (fun _=>rfl) l]
theorem dNds (l:List Nd):(l.map ndI).map dNd=l:=by rw[Aim];exact List.map_id'' (fun x=>Wd x) l
variable {ns:List Nd}
theorem PX {S:Int}{u:Hd}(N:bdN ns=true)(J:u.length<=1000)(z:ns.length<=1000000):TreeV ⟨S,u,ns⟩ (.sl (Az u)) (.sl (ns.map ndI)) (ns.map ndI):=by
 refine⟨Bf _,Bf _,Vo (fun e E=>?_) (by rw[dNds];exact N),(dNds ns).symm,AiB J (by omega),AiB (by rw[Ahr];exact z) (by omega:1000000<=9223372036854775807)⟩
 obtain⟨x,_,rfl⟩:=AhE.1 E
 refine⟨x.1,_,rfl,?_⟩
 rw[show dIn (.sl (BT x.2))=x.2 from AiE Prod.snd (Wd x)]
 exact Bf _
theorem Ags {u:LT}(W:Lt u)(Q:u.map dNd=ns)(N:∀x,x∈ns->x.2≠[]):u=ns.map ndI:=by
 subst Q
 rw[Aim]
 refine((List.map_congr_left fun e E=>?_).trans (List.map_id'' (fun _=>rfl) u)).symm
 obtain⟨x,z,rfl,U⟩:=W e E
 have J:dIn z≠[]:=N (x,dIn z) (AhE.2 ⟨_,E,rfl⟩)
 rcases U with h|⟨_,h⟩
 ·show [I.i .i64 x,.sl (BT (dIn z))]=[J4 x,z]
  rw[<-h]
 ·exact absurd (List.map_eq_nil_iff.1 h) J
def hdL:Hd:=[(-1,-1),(0,-1),(1,-1),(-1,0),(0,0),(1,0),(-1,1),(0,1),(1,1)]
def nsL:List Nd:=[(1,[0,0]),(2,[0,0]),(1,[0,1]),(2,[0,2]),(3,[1,3]),(1,[1,0]),(2,[2,5]),(3,[3,6]),(4,[4,7]),(1,[1,1]),(2,[2,9]),(3,[3,10]),(2,[9,5]),(3,[10,12]),(4,[11,13]),(5,[8,14]),(2,[5,0]),(3,[6,16]),(4,[7,17]),(3,[12,16]),(4,[13,19]),(5,[18,20]),(6,[15,21]),(3,[16,1]),(4,[17,23]),(4,[19,23]),(5,[24,25]),(6,[21,26]),(7,[22,27]),(3,[1,1]),(4,[23,29]),(5,[30,30]),(6,[26,31]),(7,[27,32]),(8,[28,33]),(4,[29,29]),(5,[35,35]),(6,[31,36]),(7,[32,37]),(8,[33,38]),(9,[34,39])]
def nsP:List Nd:=[(1,[0,0]),(1,[0,0]),(1,[0,0]),(1,[0,1]),(1,[0,1]),(1,[1,1]),(1,[1,0]),(1,[1,0]),(1,[0,0]),(1,[0,0]),(1,[0,0]),(1,[0,0]),(1,[0,0]),(1,[0,0]),(1,[0,0]),(1,[0,0]),(1,[0,0]),(1,[0,0]),(2,[0,2]),(2,[1,3]),(2,[2,4]),(2,[3,5]),(2,[4,6]),(2,[5,7]),(2,[6,8]),(2,[7,9]),(2,[8,10]),(2,[9,11]),(2,[10,12]),(2,[11,13]),(2,[12,14]),(2,[13,15]),(2,[14,16]),(2,[15,17]),(3,[18,20]),(3,[19,21]),(3,[20,22]),(3,[21,23]),(3,[22,24]),(3,[23,25]),(3,[24,26]),(3,[25,27]),(3,[26,28]),(3,[27,29]),(3,[28,30]),(3,[29,31]),(3,[30,32]),(3,[31,33]),(4,[34,36]),(4,[35,37]),(4,[36,38]),(4,[37,39]),(4,[38,40]),(4,[39,41]),(4,[40,42]),(4,[41,43]),(4,[42,44]),(4,[43,45]),(4,[44,46]),(4,[45,47]),(5,[48,49]),(5,[48,49]),(5,[50,51]),(5,[50,51]),(5,[52,53]),(5,[52,53]),(5,[54,55]),(5,[54,55]),(5,[56,57]),(5,[56,57]),(6,[60,62]),(6,[61,63]),(6,[62,64]),(6,[63,65]),(6,[64,66]),(6,[65,67]),(6,[66,68]),(6,[67,69]),(7,[70,72]),(7,[71,73]),(7,[72,74]),(7,[73,75]),(7,[74,76]),(7,[75,77]),(8,[78,80]),(8,[79,81]),(8,[80,82]),(8,[81,83]),(9,[84,86])]
theorem Ld:lifeE=.ag [J4 2,.sl (Az hdL),.sl (nsL.map ndI)]:=by kernel_rfl
theorem Aaa:AY ⟨2,hdL,nsL⟩=true:=by kernel_rfl
theorem Add:Yq nsL=nsL:=by kernel_rfl
def preE:I:=.ag [iE 2,.sl (Az hdL),.sl (nsP.map ndI)]
theorem preV:TreeV ⟨2,hdL,nsP⟩ (.sl (Az hdL)) (.sl (nsP.map ndI)) (nsP.map ndI):=PX (by kernel_rfl) (by decide) (by decide)
def T13:List Ent:=⟨70,[preE],.m (.b true)⟩   :: []
theorem AfN:BB G T13:=Fw mono (SK G) (n:=100000) (by kernel_rfl)
def clP:List Int:=(Jf nsP 89).1
def T14:List Ent:=⟨182,[.sl (nsP.map ndI)],.m (.sl (BT clP))⟩::T13
theorem AfM:BB G T14:=Gt mono AfN (by
 have N:nsP.all (fun x=>Nat.ble x.2.length 100)=true:=by kernel_rfl
 have E:(nsP.zipIdx).all (fun p=>decide (p.1.1<=1)||p.1.2.all fun k=>decide (0<=k/\k<(p.2:Int)))=true:=by kernel_rfl
 have g:=cls_r preV (by decide) (fun x z=>Aiz (Ahu.1 N x z)) (fun i x z h k J=>by
  have u:=Ahu.1 E (x,i) (List.mk_mem_zipIdx_iff_getElem?.2 z)
  simp only[Aix,Aht,Ahu]at u
  rcases u with u|u
  ·omega
  ·exact u k J) []
 have e:zI (Jf nsP (nsP.map ndI).length).1=.sl (BT clP):=by kernel_rfl
 rw[<-e]
 exact g)
def T15:List Ent:=⟨158,[.sl (nsP.map ndI)],.m (.sl (nsL.map ndI))⟩::T14
theorem AfL:BB G T15:=Fw mono AfM (n:=100000) (by kernel_rfl)
def T16:List Ent:=⟨126,[preE],.m lifeE⟩::T15
theorem AfK:BB G T16:=Fw mono AfL (n:=100000) (by kernel_rfl)
def T17:List Ent:=⟨104,[lifeE],.m (.b true)⟩::T16
theorem AfJ:BB G T17:=Fw mono AfK (n:=100000) (by kernel_rfl)
def T18:List Ent:=⟨167,[.sl (Az hdL),.sl (Az hdL)],.m (.b true)⟩::T17
theorem AfI:BB G T18:=Fw mono AfJ (n:=100000) (by kernel_rfl)
def T19:List Ent:=⟨168,[lifeE,lifeE],.m (.b true)⟩::T18
theorem Qa:BB G T19:=Fw mono AfI (n:=100000) (by kernel_rfl)
theorem trn0:IG 0 2 hdL nsL=some (hdL,nsL):=by kernel_rfl
theorem trn1:IG 1 2 hdL nsL=some (hdL,nsL):=by kernel_rfl
theorem trn2:IG 2 2 hdL nsL=some (hdL,nsL):=by kernel_rfl
theorem trn3:IG 3 2 hdL nsL=some (hdL,nsL):=by kernel_rfl
theorem trn4:IG 4 2 hdL nsL=some (hdL,nsL):=by kernel_rfl
theorem trn5:IG 5 2 hdL nsL=some (hdL,nsL):=by kernel_rfl
theorem trn6:IG 6 2 hdL nsL=some (hdL,nsL):=by kernel_rfl
theorem trn7:IG 7 2 hdL nsL=some (hdL,nsL):=by kernel_rfl
theorem Acl (k:Nat)(u:k<8):IG (k:Int) 2 hdL nsL=some (hdL,nsL):=by
 match k,u with
 | 0,_=>exact trn0
 | 1,_=>exact trn1
 | 2,_=>exact trn2
 | 3,_=>exact trn3
 | 4,_=>exact trn4
 | 5,_=>exact trn5
 | 6,_=>exact trn6
 | 7,_=>exact trn7
def T20:List Ent:=⟨190,[lifeE],.m allE⟩::T19
theorem AfH:BB G T20:=Gt mono Qa (by
 have z:TreeV ⟨2,hdL,nsL⟩ (.sl (Az hdL)) (.sl (nsL.map ndI)) (nsL.map ndI):=PX (by kernel_rfl) (by decide) (by decide)
 have N:∀H,Gives G 104 [.m (.ag [J4 2,.sl (Az hdL),.sl (nsL.map ndI)])] H (.m (.b (AY ⟨2,hdL,nsL⟩))) H:=fun H=>by
  rw[Aaa,<-Ld]
  exact Ks mono Qa (n:=10) (by kernel_rfl)
 have J:Gives G 168 [.m (.ag [J4 2,.sl (Az hdL),.sl (nsL.map ndI)]),.m (.ag [J4 2,.sl (Az hdL),.sl (nsL.map ndI)])] [] (.m (.b true)) []:=by
  rw[<-Ld]
  exact Ks mono Qa (n:=10) (by kernel_rfl)
 show Gives G 190 [.m lifeE] [] (.m (.sl (BT (Sw 8)))) []
 rw[Ld]
 exact AfO z N (fun H=>Ks mono Qa (n:=10) (by kernel_rfl)) J (fun Q E u=>Ags E u (by decide)) Aaa Add Acl [])
end Go.Mx.Tryz
