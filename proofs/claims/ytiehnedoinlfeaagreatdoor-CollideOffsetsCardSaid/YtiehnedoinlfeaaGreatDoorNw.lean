/- The law CollideOffsets at every argument. -/
import Derived.Test.YtiehnedoinlfeaaGreatDoorUl
import Derived.Test.YtiehnedoinlfeaaGreatDoorNh
import Derived.Test.YtiehnedoinlfeaaGreatDoorEg
import Derived.Test.YtiehnedoinlfeaaGreatDoorSeav
set_option linter.unusedSimpArgs false
set_option linter.unusedVariables false
set_option linter.unusedSectionVars false
set_option maxRecDepth 100000
namespace Go.Mx.Tryz
open Go.Lib
theorem Qz {u:Type}:∀(M c:List u) (s:Nat) (m:u),M.length=c.length->M[s]? = some m->(M.take s++c.drop s).set s m=M.take (s+1)++c.drop (s+1)
 | [],_,_,_,_,h=>by simp at h
 | a::M,[],_,_,h,_=>by simp at h
 | a::M,b::c,0,m,_,h=>by simp at h;subst h;simp
 | a::M,b::c,s+1,m,hl,h=>by
  have:=Qz M c s m (by simpa using hl) (by simpa using h)
  simp only[List.take_succ_cons,List.drop_succ_cons,Aiq,List.set_cons_succ,this]
theorem QA {u:Type}:∀(M c:List u) (s:Nat),M.length=c.length->(M.take s++c.drop s)[s]? = c[s]?
 | [],[],_,_=>by simp
 | [],_::_,_,h=>by simp at h
 | a::M,[],_,h=>by simp at h
 | a::M,b::c,0,_=>by simp
 | a::M,b::c,s+1,hl=>by
  have:=QA M c s (by simpa using hl)
  simpa using this
theorem Yy {u:Type}(M c:List u)(s:Nat)(h:M.length=c.length):(M.take s++c.drop s).length=c.length:=by
 rw[AhF,AhH,Aie]
 omega
def Ba (l:Hd):L0:=l.map fun p=>[.m (.i .i64 p.1),.m (.i .i64 p.2)]
@[simp] theorem Aeg (l:Hd):(Ba l).length=l.length:=by simp[Ba]
theorem VG (l:Hd):Bn (Au l)=Ba l:=by
 unfold Bn Au Ba
 rw[Aiy]
 rfl
variable {l:Hd} {i:Nat} {p:Int×Int}
theorem Ff (h:l[i]? = some p):nth (Ba l) i=some [J0 p.1,J0 p.2]:=by
 rw[AL]
 simp[Ba,h]
theorem IS (h:i<l.length):AN (Ba l) i [J0 p.1,J0 p.2]=some (Ba (l.set i p)):=by
 rw[AB _ _ _ (by simpa using h)]
 simp[Ba,List.map_set]
theorem wrP {es:L0}{a b x y:V}(h:nth es i=some [a,b]):BQ 2 es i 0 [x,y]=AN es i [x,y]:=by
 show Option.bind (nth es (i+0)) _=_
 rw[Nat.add_zero,h]
 rfl
theorem Jb {r b k:Nat}{fz:Bool}{H:Hp}(h:nth H r=some (.cs 64 2 (Ba l) b fz))(u:b<=l.length):Mx.view (k+2) H (.sl r l.length 2 0 l.length false)=some (.sl (Au l)):=by
 show Option.bind (Mx.elems H (.sl r l.length 2 0 l.length false)) _=_
 rw[DZ,h]
 show Option.bind (gd (Nat.ble b l.length&&Nat.beq 2 2) (some (((Ba l).drop 0).take l.length))) _=_
 rw[Bg,AhA u,AiA,AhJ (by simp),<-VG]
 show Option.bind (Ah (fun e=>Ah (Mx.view (k+1) H) e) (Bn (Au l))) _=_
 rw[Add]
 rfl
theorem AcG {S:Int}{hs es:LT}(hl:es.length<=4096)(H:Hp):Gives G 185 [.m (.ag [J4 S,.sl hs,.sl es])] H (.tu [.m (.ag [J4 S,.sl hs,.sl es]),J0 0]) H:=by
 refine Af rfl rfl rfl rfl rfl ?_
 have u:¬(4096:Int)<es.length:=by omega
 have z:∀(x:I) (l:List V),BF (.m x::l)=(BF l).bind fun r=>some (x::r):=fun _ _=>rfl
 have N:∀x:Int,BL (J0 x)=true:=fun _=>rfl
 have J:∀x,BL (.m (.sl x))=true:=fun _=>rfl
 have E:BF []=some []:=rfl
 simp (maxSteps:=2000000) (disch:=omega) [Ab,u,z,N,J,E]
set_option maxHeartbeats 1000000 in
theorem Aco {k:Int}{t:TreeC}{h n:I}{es:LT}(hT:TreeV t h n es)(gt:∀H,Gives G 46 [.m (.ag [J4 t.states,h,n])] H (.m (.b (AZ t))) H)(hok:AZ t=true){hd:Hd}{ns:List Nd}(hZ:IJ k t.states.toNat t.hood t.nodes=some (hd,ns))(hlen:1<=ns.length/\ns.length<=4096)(H:Hp):
  ∃eo,eo.map dNd=ns/\Li eo/\Gives G 161 [J0 k,.m (.ag [J4 t.states,h,n])] H (.tu [.m (.ag [J4 t.states,.sl (Au hd),.sl eo]),J0 0]) H:=by
 have key:Ret G 161 [J0 k,.m (.ag [J4 t.states,h,n])] H (fun v H'=>H'=H /\ ∃eo,eo.map dNd=ns/\Li eo/\v=.tu [.m (.ag [J4 t.states,.sl (Au hd),.sl eo]),J0 0]):=by
  have gt0:=gt
  rw[hok]at gt
  obtain⟨⟨hS1,hS2⟩,hho,_,_,_⟩:=Ea hok
  have hh:=FL hho
  have amm:∀(x:I) (l:List V),BF (.m x::l)=(BF l).bind fun r=>some (x::r):=fun _ _=>rfl
  have am0:BF []=some []:=rfl
  have oi:∀x:Int,BL (J0 x)=true:=fun _=>rfl
  have onl:BL (.m (.nl 4))=true:=rfl
  have oh:=Cx hT.hd
  have on:=Cx hT.nd
  refine Cs rfl rfl rfl rfl rfl ?_
  simp (maxSteps:=2000000) (disch:=omega) [cl (gt _),amm,am0]
  rw[Ao]
  refine KM hT gt0 _ (fun _ E eo oo H1 k1 k2 k3 k4 k5 k6 k7 k8=>?_) (fun e=>by rw[hok]at e;cases e)
  have hon:=k2.nf
  have osl:∀(a b c d e:Nat) (f:Bool),BL (.sl a b c d e f)=true:=fun _ _ _ _ _ _=>rfl
  have cva:∀l,AA (.ag l)=some l:=fun _=>rfl
  rw[VG]at k1
  simp (maxSteps:=2000000) (disch:=omega) [Ab,cva,osl,oi,hon.2.2.1]
  obtain⟨S,hSe⟩:=AhK (show 0<=t.states by omega)
  rw[hSe]at hZ hS1 hS2 ⊢
  simp only[Int.toNat_natCast]at hZ
  have hZ:Aei S 64 (Jh k t.hood) (Yk t.nodes)=some (hd,ns):=hZ
  generalize hN:t.hood.length=N at *
  have hrl:(Jh k t.hood).length=t.hood.length:=by unfold Jh;simp
  refine(?key1:∀(i:Nat) (B:LE) (W:Hp) (b:Nat),i<=N->getB B 4=some [J0 0,.m (.nl 4),.m (.nl 4)]->getB B 6=some [J0 (S:Int),.sl E N 2 0 N false,oo]->b<=N->nth W E=some (.cs 64 2 (Ba ((Jh k t.hood).take i++t.hood.drop i)) b false)->L2 eo oo W ->
   Run G c161_B0 (S161_0 (J0 k) (.fa 4 0) (.fa 6 0) (.sl E N 2 0 N false) (J0 (N:Int)) (J0 (i:Int)) B W) _) 0 _ H1 0 (Ahy _) rfl rfl (Ahy _) k1 k2
  refine Bj (fun i:Nat=>N-i) fun i ih B W b hi a0 U hb u J=>?_
  unfold c161_B0
  have hml:=Yy (Jh k t.hood) t.hood i hrl
  by_cases hiN:i<N
  ·have hiN':(i:Int)<N:=by omega
   obtain⟨p,hp⟩:∃p,t.hood[i]? = some p:=⟨t.hood[i]'(by omega),Ahr (by omega)⟩
   have hmg:=QA (Jh k t.hood) t.hood i hrl
   rw[hp]at hmg
   have hn1:=Ff hmg
   have hpo:GW p=true:=by
    have h0:=hho
    unfold BP at h0
    simp only[Ahs]at h0
    exact Lg t.hood none h0.2 p (Ahw hp)
   unfold GW at hpo
   simp only[AhC]at hpo
   have ga:=fun H=>Wm k p.1 p.2 (by omega) (by omega) H
   have hq:(Jh k t.hood)[i]? = some (CF (CS k) p.1 p.2):=by
    unfold Jh
    rw[AhN,hp]
    rfl
   have hms:=Qz (Jh k t.hood) t.hood i (CF (CS k) p.1 p.2) hrl hq
   have hst:AN (Ba ((Jh k t.hood).take i++t.hood.drop i)) i [J0 (CF (CS k) p.1 p.2).1,J0 (CF (CS k) p.1 p.2).2]=some (Ba ((Jh k t.hood).take (i+1)++t.hood.drop (i+1))):=by rw[IS (by omega),hms]
   have hse:AN W E (.cs 64 2 (Ba ((Jh k t.hood).take (i+1)++t.hood.drop (i+1))) N false)=some (W.set E (.cs 64 2 (Ba ((Jh k t.hood).take (i+1)++t.hood.drop (i+1))) N false)):=AB _ _ _ (AO u)
   have wi:=J1 i (by omega)
   have hnd2:L2 eo oo (W.set E (.cs 64 2 (Ba ((Jh k t.hood).take (i+1)++t.hood.drop (i+1))) N false)):=J.keep fun r e _=>AF fun e2=>by
    subst e2
    have q:=J.row e
    rw[u]at q
    simp at q
   have kk:=fun B h4 h6=>ih (i+1) (by omega) B _ N (by omega) h4 h6 (Ahu _) (Bc (AO u)) hnd2
   have hml2:((Jh k t.hood).take i++t.hood.drop i).length=N:=by rw[hml,hN]
   generalize (Jh k t.hood).take i++t.hood.drop i=D at u hn1 hst hml2
   generalize (Jh k t.hood).take (i+1)++t.hood.drop (i+1)=D1 at hst hse kk
   simp (maxSteps:=2000000) (disch:=omega) [Ab,hiN',u,hb,rd2 hn1,wrP hn1,amm,am0,oi,U,cl (ga _),hst,hse,hml2,wi]
   exact kk _ (by rw[AM];simpa using a0) (by rw[AM];simpa using U)
  ·have:i=N:=by omega
   subst this
   have hiN':¬(i:Int)<i:=by omega
   have hD:(Jh k t.hood).take i++t.hood.drop i=Jh k t.hood:=by
    rw[List.drop_eq_nil_of_le (by omega),Ail,AhJ (by omega)]
   rw[hD]at u
   simp (maxSteps:=2000000) (disch:=omega) [hiN']
   clear ih hml hD k1 k2
   refine(?key2:∀(f:Nat) (Z:Bool) (z:Hd) (Q:LT) (nv:V) (B:LE) (W:Hp) (b:Nat),(match Z with
     | true=>some (z,Q.map dNd)
     | false=>Aei S f z (Q.map dNd))=some (hd,ns)->z.length=i->getB B 4=some [.m (.i .i64 0),.m (.nl 4),.m (.nl 4)]->getB B 6=some [.m (.i .i64 (S:Int)),.sl E i 2 0 i false,nv]->b<=i->nth W E=some (.cs 64 2 (Ba z) b false)->L2 Q nv W->Li Q ->
    Run G c161_B2 (S161_2 (.fa 4 0) (.fa 6 0) (.m (.b Z)) B W) _) 64 false (Jh k t.hood) eo oo B W b (by rw[k4];exact hZ) (by omega) a0 U hb u J k3
   clear a0 U u J hb b W B
   refine Bj (fun f:Nat=>f) fun f ihf Z z Q nv B W b hR Y a0 U hb u J a1=>?_
   unfold c161_B2
   have hnvn:=J.nf
   cases Z with
   | true =>
    have hR:some (z,Q.map dNd)=some (hd,ns):=hR
    cases hR
    rw[AhD]at hlen
    have hne:Q≠[]:=fun e=>by rw[e]at hlen;simp at hlen
    have gz:=AcG (S:=(S:Int)) (hs:=Au hd) (es:=Q) (by omega) []
    have hvh:=Jb (k:=17) u (by rw[Y];exact hb)
    rw[Y]at hvh
    have hvn:=J.view hne 17
    have ams:∀(a b c d e:Nat) (f:Bool) (l:List V),BF (.sl a b c d e f::l)=none:=fun _ _ _ _ _ _ _=>rfl
    have hvs:Ah (view 20 W) [V.ag [J0 (S:Int),.sl E i 2 0 i false,nv]]=some [.ag [J4 (S:Int),.sl (Au hd),.sl Q]]:=by
     show Option.bind (Option.bind (Ah (view 19 W) [J0 (S:Int),.sl E i 2 0 i false,nv]) _) _=_
     have e0:Ah (view 19 W) [J0 (S:Int),.sl E i 2 0 i false,nv]=some [J4 (S:Int),.sl (Au hd),.sl Q]:=by
      simp only[Ah]
      rw[hvh,hvn]
      rfl
     rw[e0]
     rfl
    obtain⟨rn,rfl⟩:∃rn,nv=.sl rn Q.length 2 0 Q.length false:=by
     rcases J with ⟨h1,_⟩|⟨_,r,h1,_⟩
     ·exact absurd h1 hne
     ·exact⟨r,h1⟩
    obtain⟨bn,hrn⟩:∃bn,nth W rn=some (.cs 67 2 (Bn Q) bn false):=⟨0,J.row rfl⟩
    have hall1:((Ba hd).all fun e=>e.all isM)=true:=by
     rw[AhE]
     intro e he
     obtain⟨q,_,rfl⟩:=AhP.1 he
     rfl
    have hall2:((Bn Q).all fun e=>e.all isM)=true:=by
     rw[AhE]
     intro e he
     obtain⟨q,_,rfl⟩:=AhP.1 he
     rw[AhE]
     intro x hx
     obtain⟨y,_,rfl⟩:=AhP.1 hx
     rfl
    have hrne:E≠rn:=fun e=>by
     subst e
     rw[u]at hrn
     simp at hrn
    obtain⟨H2,hfz⟩:∃H2,AY [E,rn] W=some H2:=by
     refine⟨(W.set E (.cs 64 2 (Ba hd) b true)).set rn (.cs 67 2 (Bn Q) bn true),?_⟩
     show Option.bind (nth W E) _=_
     rw[u]
     show Option.bind (gd ((Ba hd).all fun e=>e.all isM) (some (Row.cs 64 2 (Ba hd) b true))) _=_
     rw[hall1]
     show Option.bind (AN W E _) _=_
     rw[AB _ _ _ (AO u)]
     show Option.bind (nth (W.set E _) rn) _=_
     rw[AF hrne,hrn]
     show Option.bind (gd ((Bn Q).all fun e=>e.all isM) (some (Row.cs 67 2 (Bn Q) bn true))) _=_
     rw[hall2]
     show Option.bind (AN _ rn _) _=_
     rw[AB _ _ _ (by rw[Aim];exact AO hrn)]
     rfl
    have gF:=BV (vs:=[V.ag [J0 (S:Int),.sl E i 2 0 i false,.sl rn Q.length 2 0 Q.length false]]) (is:=[.ag [J4 (S:Int),.sl (Au hd),.sl Q]]) rfl rfl gz hvs (by simp[Dv,Fs]) rfl rfl hfz
    have os:∀x,BL (.m (.sl x))=true:=fun _=>rfl
    simp (maxSteps:=2000000) (disch:=omega) [Ab,U,a0,amm,ams,am0,cl gF,oi,os]
    exact a1
   | false =>
    have hR:Aei S f z (Q.map dNd)=some (hd,ns):=hR
    cases f with
    | zero=>cases hR
    | succ f =>
     have hR:(inT S (z.length-1) 0 z (Q.map dNd) true).bind (fun q=>match q.2.2 with
      | true=>some (q.1,q.2.1)
      | false=>Aei S f q.1 q.2.1)=some (hd,ns):=hR
     obtain⟨q,hq,hR⟩:=Ahn.1 hR
     simp (maxSteps:=2000000) (disch:=omega) []
     refine(?key3:∀(r j:Nat) (Z:Bool) (z:Hd) (Q:LT) (nv:V) (B:LE) (W:Hp) (b:Nat),inT S r j z (Q.map dNd) Z=some q->r+j+1=i->z.length=i->getB B 4=some [J0 0,.m (.nl 4),.m (.nl 4)]->getB B 6=some [J0 (S:Int),.sl E i 2 0 i false,nv]->b<=i->nth W E=some (.cs 64 2 (Ba z) b false)->L2 Q nv W->Li Q ->
      Run G c161_B1 (S161_1 (.fa 4 0) (.fa 6 0) (.m (.b Z)) (J0 ((j:Int)+1)) B W) _) (z.length-1) 0 true z Q nv B W b hq (by omega) Y a0 U hb u J a1
     clear hq Y a0 U hb u J a1
     refine Bj (fun r:Nat=>r) fun r ihr j Z z Q nv B W b hq hrj Y a0 U hb u J a1=>?_
     unfold c161_B1
     cases r with
     | zero =>
      have hq:some (z,Q.map dNd,Z)=some q:=hq
      cases hq
      have hji:¬((j:Int)+1<i):=by omega
      have kk:=fun B h4 h6=>ihf f (by omega) Z z Q nv B W b hR Y h4 h6 hb u J a1
      simp (maxSteps:=2000000) (disch:=omega) [U,hji]
      exact kk _ a0 U
     | succ r =>
      have hji:(j:Int)+1<i:=by omega
      have hji2:j+1<i:=by omega
      have hji3:(j:Int)<i:=by omega
      have hji4:j<i:=by omega
      have hq:(nth z j).bind (fun a=>(nth z (j+1)).bind fun b=>match ltI 0 (HQ a.1 a.2 b.1 b.2) with
       | true=>(swZ S (Q.map dNd) ((z.length:Int)-j)).bind fun ns2=>inT S r (j+1) ((z.set j b).set (j+1) a) ns2 false
       | false=>inT S r (j+1) z (Q.map dNd) Z)=some q:=hq
      obtain⟨pa,ha,hq⟩:=Ahn.1 hq
      obtain⟨pb,hpb,hq⟩:=Ahn.1 hq
      rw[AL]at ha hpb
      have hna:=Ff ha
      have hnb:=Ff hpb
      have gc:=fun H=>UU pa.1 pa.2 pb.1 pb.2 H
      have wj:wr .i64 ((j:Int)+1+1)=((j+1:Nat):Int)+1:=by rw[Aa (by omega) (by omega)];omega
      have wj0:wr .i64 (j:Int)=(j:Int):=Aa (by omega) (by omega)
      by_cases hg:0<HQ pa.1 pa.2 pb.1 pb.2
      ·have hgt:ltI 0 (HQ pa.1 pa.2 pb.1 pb.2)=true:=by rw[CX];simpa using hg
       simp only[hgt]at hq
       obtain⟨ns2,hsw,hq⟩:=Ahn.1 hq
       obtain⟨z1,z2,bl,to,m,z3,z4,z5,z6,z7,rfl⟩:=XZ hsw
       rw[AhD]at z2 z3 z6
       rw[Y]at z3
       have hnvn:=J.nf
       have ams:∀(a b c d e:Nat) (f:Bool) (l:List V),BF (.sl a b c d e f::l)=none:=fun _ _ _ _ _ _ _=>rfl
       simp (maxSteps:=2000000) (disch:=omega) [Ab,U,hji,u,hb,Y,rd2 hna,rd2 hnb,amm,ams,am0,cl (gc _),hg,wj0]
       rw[Ao]
       refine Uv a1 J (by omega) z1 z2 (by omega) z3 z4 z5 z6 z7 _ fun eo2 oo2 H2 m1 m2 m3 m4 m5 m6=>?_
       have hon2:=m1.nf
       have a2:nth H2 E=some (.cs 64 2 (Ba z) b false):=by rw[m5 E (AO u)];exact u
       have hs1:AN (Ba z) j [J0 pb.1,J0 pb.2]=some (Ba (z.set j pb)):=IS (by omega)
       have hs2:AN (Ba (z.set j pb)) (j+1) [J0 pa.1,J0 pa.2]=some (Ba ((z.set j pb).set (j+1) pa)):=IS (by rw[Aim];omega)
       have hnb2:nth (Ba (z.set j pb)) (j+1)=some [J0 pb.1,J0 pb.2]:=Ff (by rw[Ait (by omega)];exact hpb)
       have hl2:(z.set j pb).length=i:=by rw[Aim];exact Y
       have hl3:((z.set j pb).set (j+1) pa).length=i:=by rw[Aim,Aim];exact Y
       generalize z.set j pb=D1 at hs1 hs2 hnb2 hl2 hl3 hq
       generalize D1.set (j+1) pa=D2 at hs2 hl3 hq
       have se1:AN H2 E (.cs 64 2 (Ba D1) i false)=some (H2.set E (.cs 64 2 (Ba D1) i false)):=AB _ _ _ (AO a2)
       have hr3:nth (H2.set E (.cs 64 2 (Ba D1) i false)) E=some (.cs 64 2 (Ba D1) i false):=Bc (AO a2)
       have se2:AN (H2.set E (.cs 64 2 (Ba D1) i false)) E (.cs 64 2 (Ba D2) i false)=some ((H2.set E (.cs 64 2 (Ba D1) i false)).set E (.cs 64 2 (Ba D2) i false)):=AB _ _ _ (AO hr3)
       have hrow3:nth (H2.set E (.cs 64 2 (Ba D2) i false)) E=some (.cs 64 2 (Ba D2) i false):=Bc (AO a2)
       have hnd3:L2 eo2 oo2 (H2.set E (.cs 64 2 (Ba D2) i false)):=m1.keep fun r e _=>by
        have hne:E≠r:=fun e2=>by
         subst e2
         have q:=m1.row e
         rw[a2]at q
         simp at q
        rw[AF hne]
       have kk:=fun B h4 h6=>ihr r (by omega) (j+1) false D2 eo2 oo2 B _ i (by rw[m3];exact hq) (by omega) hl3 h4 h6 (Ahu _) hrow3 hnd3 m2
       have cva:∀l,AA (.ag l)=some l:=fun _=>rfl
       simp (maxSteps:=2000000) (disch:=omega) [Ab,U,cva,osl,oi,hon2.2.2.1,a2,hb,rd2 hna,rd2 hnb,amm,am0,Y,wj0,wrP hna,hs1,se1,hr3,wrP hnb2,hs2,se2,hl2,wj]
       have ej:((j:Int)+1+1)=((j+1:Nat):Int)+1:=by omega
       rw[ej]
       exact kk _ (by rw[AM];simpa using a0) (by rw[AM];simp)
      ·have hgt:ltI 0 (HQ pa.1 pa.2 pb.1 pb.2)=false:=by rw[CX];simpa using hg
       simp only[hgt]at hq
       have kk:=fun B h4 h6=>ihr r (by omega) (j+1) Z z Q nv B W b hq (by omega) Y h4 h6 hb u J a1
       simp (maxSteps:=2000000) (disch:=omega) [Ab,U,hji,u,hb,Y,rd2 hna,rd2 hnb,amm,am0,cl (gc _),hg,wj,wj0]
       exact kk _ a0 U
 obtain⟨v,H',g,rfl,eo,h1,h2,rfl⟩:=AJ key
 exact⟨eo,h1,h2,g⟩
end Go.Mx.Tryz
set_option maxHeartbeats 4000000
namespace Go.Mx.Tryz
open Go.Lib
def bdN (ns:List Nd):Bool:=ns.all fun x=>x.2.all AdC&&Nat.ble x.2.length 1000
variable {es:LT}
theorem Vp (h:Li es)(J:bdN (es.map dNd)=true):Rg es:=fun e E=>by
 obtain⟨x,z,rfl,N⟩:=h e E
 have u:=AhE.1 J (x,dIn z) (by rw[AhP];exact⟨_,E,rfl⟩)
 simp only[Ahs]at u
 have U:=AiK u.2
 exact⟨x,z,rfl,N,by omega,fun k Q=>by have:=HR.1 (AhE.1 u.1 k Q);omega⟩
variable {t:TreeC}
theorem YZ (hT:TreeV t (.sl (Au t.hood)) (.sl es) es)(gt:∀H,Gives G 46 [.m (.ag [J4 t.states,.sl (Au t.hood),.sl es])] H (.m (.b (AZ t))) H) 
  (gh:∀H,Gives G 186 [.m (.sl (Au t.hood)),.m (.sl (Au t.hood))] H (.m (.b true)) H)
  (gs:Gives G 187 [.m (.ag [J4 t.states,.sl (Au t.hood),.sl es]),.m (.ag [J4 t.states,.sl (Au t.hood),.sl es])] [] (.m (.b true)) [])
  (z:AZ t=true) (Z:Yk t.nodes=t.nodes) (he:∀U,Li U->U.map dNd=t.nodes->U=es) (H:Hp) :
  Gives G 162 [.m (.ag [J4 t.states,.sl (Au t.hood),.sl es]),.m (.ag [J4 t.states,.sl (Au t.hood),.sl es])] H (.m (.b true)) H:=by
 have ga:=gt
 rw[z]at ga
 have amm:∀(x:I) (l:List V),BF (.m x::l)=(BF l).bind fun r=>some (x::r):=fun _ _=>rfl
 have am0:BF []=some []:=rfl
 have oi:∀x:Int,BL (J0 x)=true:=fun _=>rfl
 have oh:=Cx hT.hd
 have on:=Cx hT.nd
 obtain⟨_,_,⟨Y,_⟩,_,_⟩:=Ea z
 have hne:t.nodes≠[]:=fun e=>by rw[e]at Y;simp at Y
 refine Af rfl rfl rfl rfl rfl ?_
 simp (maxSteps:=2000000) (disch:=omega) [Ad,cl (ga _),cl (gh _),amm,am0]
 rw[Ao]
 refine KM hT gt _ (fun _ W U oo H1 k1 k2 k3 k4 k5 k6 k7 k8=>?_) (fun e=>by rw[z]at e;cases e)
 simp (maxSteps:=2000000) (disch:=omega) [Ad]
 rw[Ao]
 refine KM hT gt _ (fun _ Q u N J m1 m2 m3 m4 m5 m6 m7 m8=>?_) (fun e=>by rw[z]at e;cases e)
 obtain rfl:=he U k3 (k4.trans Z)
 obtain rfl:=he u m3 (m4.trans Z)
 have E:u≠[]:=fun e=>hne (by rw[<-k4.trans Z,e];rfl)
 rw[VG]at k1 m1
 have q1:nth J W=some (.cs 64 2 (Ba t.hood) 0 false):=by rw[m6 W (AO k1)];exact k1
 have q2:L2 u oo J:=k2.keep fun r _ Z=>m6 r Z
 have v1:=Jb (k:=17) q1 (Ahy _)
 have v2:=Jb (k:=17) m1 (Ahy _)
 have v3:=q2.view E 17
 have v4:=m2.view E 17
 have hvs:Ah (view 20 J) [V.ag [J0 t.states,.sl W t.hood.length 2 0 t.hood.length false,oo],V.ag [J0 t.states,.sl Q t.hood.length 2 0 t.hood.length false,N]]=some [.ag [J4 t.states,.sl (Au t.hood),.sl u],.ag [J4 t.states,.sl (Au t.hood),.sl u]]:=by
  have e0:Ah (view 19 J) [J0 t.states,.sl W t.hood.length 2 0 t.hood.length false,oo]=some [J4 t.states,.sl (Au t.hood),.sl u]:=by
   simp only[Ah]
   rw[v1,v3]
   rfl
  have e1:Ah (view 19 J) [J0 t.states,.sl Q t.hood.length 2 0 t.hood.length false,N]=some [J4 t.states,.sl (Au t.hood),.sl u]:=by
   simp only[Ah]
   rw[v2,v4]
   rfl
  show Option.bind (Option.bind (Ah (view 19 J) [J0 t.states,.sl W t.hood.length 2 0 t.hood.length false,oo]) _) _=_
  rw[e0]
  show Option.bind (Option.bind (Option.bind (Ah (view 19 J) [J0 t.states,.sl Q t.hood.length 2 0 t.hood.length false,N]) _) _) _=_
  rw[e1]
  rfl
 have gF:=AQ (H:=J) rfl rfl gs hvs (.inr ⟨by simp[Dv,Fs],rfl⟩)
 simp (maxSteps:=2000000) (disch:=omega) [Ad,cl gF]
def Sw (k:Nat):List Int:=(List.range k).map fun j:Nat=>(j:Int)
theorem Ur (k:Nat):Sw (k+1)=Sw k++[(k:Int)]:=by simp[Sw,List.range_succ]
theorem AfV (Q:TreeV t (.sl (Au t.hood)) (.sl es) es)(gt:∀H,Gives G 46 [.m (.ag [J4 t.states,.sl (Au t.hood),.sl es])] H (.m (.b (AZ t))) H) 
  (gh:∀H,Gives G 186 [.m (.sl (Au t.hood)),.m (.sl (Au t.hood))] H (.m (.b true)) H)
  (gs:Gives G 187 [.m (.ag [J4 t.states,.sl (Au t.hood),.sl es]),.m (.ag [J4 t.states,.sl (Au t.hood),.sl es])] [] (.m (.b true)) [])
  (he:∀E,Li E->E.map dNd=t.nodes->E=es) (z:AZ t=true) (hr:Yk t.nodes=t.nodes) (hZ:∀k:Nat,k<8->IJ (k:Int) t.states.toNat t.hood t.nodes=some (t.hood,t.nodes)) (H:Hp) :
  Gives G 122 [.m (.ag [J4 t.states,.sl (Au t.hood),.sl es])] H (.m (.sl (BR (Sw 8)))) H:=by
 obtain⟨_,hho,⟨u,hn2⟩,_,_⟩:=Ea z
 have amm:∀(x:I) (l:List V),BF (.m x::l)=(BF l).bind fun r=>some (x::r):=fun _ _=>rfl
 have Z:BF []=some []:=rfl
 have oi:∀x:Int,BL (J0 x)=true:=fun _=>rfl
 have os:∀x,BL (.m (.sl x))=true:=fun _=>rfl
 have oh:=Cx Q.hd
 have on:=Cx Q.nd
 have hne:t.nodes≠[]:=fun e=>by rw[e]at u;simp at u
 refine Af rfl rfl rfl rfl rfl ?_
 simp (maxSteps:=2000000) (disch:=omega) []
 refine(?key:∀(k:Nat) (o:V) (B:LE) (U:Hp),k<=8->getB B 1=some [J0 t.states,.m (.sl (Au t.hood)),.m (.sl es)]->LR 3 (iI (Sw k)) o U HT ->
  Run G c122_B0 (S122_0 (.fa 1 0) o (J0 (k:Int)) B U) _) 0 (.m (.nl 4)) _ _ (by omega) rfl (.inl ⟨rfl,rfl⟩)
 refine Bj (fun k:Nat=>8-k) fun k ih o B U hk hB hl=>?_
 unfold c122_B0
 have J:=hl.nf
 by_cases hk8:k<8
 ·have N:(k:Int)<8:=by omega
  obtain⟨E,W,Y,gu⟩:=Aco Q gt z (hZ k hk8) ⟨u,hn2⟩ U
  obtain rfl:=he E Y W
  have ge:=YZ Q gt gh gs z hr he
  obtain⟨o1,H1,a1,a2,a3,_,_⟩:=hl.push1 (b:=8) (by omega) (y:=.i .i64 (k:Int)) (by unfold Sw;simp;omega) rfl
  have e1:iI (Sw k)++[J4 (k:Int)]=iI (Sw (k+1)):=by rw[Ur];simp[iI]
  rw[e1]at a3
  have wk:=J1 k (by omega)
  have kk:=fun B h=>ih (k+1) (by omega) o1 B H1 (by omega) h a3
  simp (maxSteps:=2000000) (disch:=omega) [Ab,N,hB,amm,Z,oi,os,cl gu,cl (ge _),Ad,a1,Al a2,wk]
  exact kk _ (by rw[AM];simpa using hB)
 ·have:k=8:=by omega
  subst this
  have hv:=hl.viewR
  have hz:zL (iI (Sw 8))=.sl (BR (Sw 8)):=by
   unfold zL
   rw[Aht (by simp[iI,Sw]),MQ]
  rw[hz]at hv
  simp (maxSteps:=2000000) (disch:=omega) [Al J.1,J.1,hv]
open Go.Proofs
def Hy (cl:List Int)(x:Nd):List Int:=if 1<x.1 then x.2.map (fun k=>(cl[k.toNat]?).getD 0) else x.2
def VN (l:List Nd)(nx:List (List Int))(a:Int)(c:List Int)(i k:Nat):Nat:=((List.range' k (i-k)).find? fun j=>decide (((l[j]?).getD (0,[])).1=a/\(nx[j]?).getD []=c)).getD i
def Jd (l:List Nd):Nat->List Int×List (List Int)
 | 0=>([],[])
 | i+1=>((Jd l i).1++[(VN l (Jd l i).2 ((l[i]?).getD (0,[])).1 (Hy (Jd l i).1 ((l[i]?).getD (0,[]))) i 0:Int)],(Jd l i).2++[Hy (Jd l i).1 ((l[i]?).getD (0,[]))])
theorem Lf (l:List Nd):∀i,(Jd l i).1.length=i/\(Jd l i).2.length=i
 | 0=>⟨rfl,rfl⟩
 | i+1=>by
  obtain⟨z,u⟩:=Lf l i
  simp[Jd,z,u]
theorem YQ (l:List Nd)(u:List (List Int))(a:Int)(c:List Int)(i:Nat):VN l u a c i i=i:=by simp[VN]
theorem VM (l:List Nd)(u:List (List Int))(a:Int)(c:List Int){i k:Nat}(h:k<i):VN l u a c i k=if ((l[k]?).getD (0,[])).1=a/\(u[k]?).getD []=c then k else VN l u a c i (k+1):=by
 unfold VN
 obtain⟨m,z⟩:∃m,i-k=m+1:=⟨i-k-1,by omega⟩
 rw[z,List.range'_succ,List.find?_cons,show i-(k+1)=m from by omega]
 by_cases e:((l[k]?).getD (0,[])).1=a/\(u[k]?).getD []=c
 ·rw[Ahv e,AhA e]
  rfl
 ·rw[Aht e,AhB e]
variable {ty:Nat} {xs:List I} {o:V} {H:Hp} {ok:Nat->Prop}
theorem LR.call2 (h:LR ty xs o H ok){F:Nat}{w:I}{v:V}{H0:Hp}(J:G.prim F=none)(hs:G.sh F=false)(z:Gives G F [.m w,.m (zL xs)] H0 v H0)(N:FG v=true):Gives G F [.m w,o] H v H:=by
 have E:Ah (Mx.view 20 H) [.m w,o]=some [w,zL xs]:=by
  show (Mx.view 20 H (.m w)).bind _=_
  rw[show Mx.view 20 H (.m w)=some w from rfl,Ahz]
  show ((Mx.view 20 H o).bind _).bind _=_
  rw[h.view 18]
  rfl
 refine AQ (is:=[w,zL xs]) J hs z E ?_
 rcases h with ⟨rfl,rfl⟩|⟨u,r,Q,rfl,U⟩
 ·exact .inl ⟨by simp[Dv,Fs],by simp[BN,CY]⟩
 ·exact .inr ⟨by simp[Dv,Fs],N⟩
theorem LR.keepO {H':Hp}(h:LR ty xs o H ok)(E:∀r,AG o=some r->r<H.length->nth H' r=nth H r):LR ty xs o H' ok:=by
 rcases h with h|⟨u,r,J,e,z⟩
 ·exact .inl h
 ·subst e
  exact .inr ⟨u,r,J,rfl,by rw[E r rfl (AO z)];exact z⟩
theorem LR.okr (h:LR ty xs o H ok){r:Nat}(e:AG o=some r):ok r:=by
 rcases h with ⟨_,rfl⟩|⟨u,q,z,rfl,E⟩
 ·cases e
 ·cases e
  exact z
theorem LR.bsf1 (h:LR ty xs o H ok):∃z u,(∀B,An (fun _ _ _=>none) ⟨B,H⟩ (.bsf 1 [.m (.nl 4)] 1 [0]) [o]=some (.ls [[z]],⟨B,u⟩))/\IsSl z (on1 xs)/\BL (.m z)=true/\u.length=H.length /\ ∀r,AG o≠some r->nth u r=nth H r:=by
 have N:=h.view 18
 rcases h with ⟨rfl,rfl⟩|⟨E,r,W,rfl,Q⟩
 ·exact⟨.nl 4,H,fun B=>rfl,.inr ⟨rfl,rfl⟩,rfl,rfl,fun _ _=>rfl⟩
 ·refine⟨zL xs,H.set r (.cs ty 1 (onV xs) 0 true),fun B=>?_,Oj xs,Afx xs,by simp,fun q J=>AF fun e=>J (by rw[<-e];rfl)⟩
  have e:An (fun _ _ _=>none) ⟨B,H⟩ (.bsf 1 [.m (.nl 4)] 1 [0]) [.sl r xs.length 1 0 xs.length false]=((Ah (fun e=>Ah (Mx.view 20 H) e) [[V.sl r xs.length 1 0 xs.length false]]).bind fun l=>(AY [r] H).bind fun U=>some (.ls l,⟨B,U⟩)):=rfl
  rw[e,OH Q]
  simp only[Ah,N,Ahz]
theorem Yu (cl:List Int)(x:Nd):(Hy cl x).length=x.2.length:=by unfold Hy;split <;> simp
theorem QV {l:List Nd}:∀(i j:Nat) (c:List Int),(Jd l i).2[j]? = some c -> ∃cl,c=Hy cl ((l[j]?).getD (0,[]))
 | 0,j,c,h=>by simp[Jd]at h
 | i+1,j,c,h=>by
  obtain⟨_,u⟩:=Lf l i
  by_cases e:j<i
  ·refine QV i j c ?_
   simp only[Jd]at h
   rwa[AhM (by omega)]at h
  ·simp only[Jd]at h
   rw[AhZ (by omega),u]at h
   cases hk:j-i with
   | zero =>
    rw[hk]at h
    have:j=i:=by omega
    subst this
    simp at h
    exact⟨_,h.symm⟩
   | succ k =>
    rw[hk]at h
    simp at h
def WsOk (ws:List I)(nx:List (List Int)):Prop:=ws.length=nx.length /\ ∀(j:Nat) (c:List Int),nx[j]? = some c -> ∃w,ws[j]? = some w/\IsSl w (BR c)
theorem WsOk.snoc {E:List I}{z:List (List Int)}{c:List Int}{w:I}(h:WsOk E z)(J:IsSl w (BR c)):WsOk (E++[w]) (z++[c]):=by
 refine⟨by simp[h.1],fun j d u=>?_⟩
 by_cases e:j<z.length
 ·rw[AhM e]at u
  rw[AhM (by rw[h.1];exact e)]
  exact h.2 j d u
 ·rw[AhZ (by omega)]at u
  rw[AhZ (by rw[h.1];omega),h.1]
  cases hk:j-z.length with
  | zero =>
   rw[hk]at u
   simp at u
   subst u
   exact⟨w,by simp,J⟩
  | succ k =>
   rw[hk]at u
   simp at u
set_option maxHeartbeats 8000000 in
theorem cls_r {h n:I}(hT:TreeV t h n es)(hle:es.length<=4096)(h20:∀x,x∈t.nodes->x.2.length<=100)(hv:∀(i:Nat) (x:Nd),t.nodes[i]? = some x->1<x.1 -> ∀k,k∈x.2->0<=k/\k<(i:Int))(HH:Hp):Gives G 108 [.m n] HH (.m (zI (Jd t.nodes es.length).1)) HH:=by
 have rn:=hT.nd.rules
 have hln:=CN hT
 refine Af rfl rfl rfl rfl rfl ?_
 simp (maxSteps:=2000000) (disch:=omega) []
 refine(?key2:∀(i:Nat) (N U:V) (ws:List I) (B:LE) (H:Hp),i<=es.length->LR 3 (iI (Jd t.nodes i).1) N H HT->LR 65 ws U H HT->WsOk ws (Jd t.nodes i).2 ->
  Run G c108_B2 (S108_2 (.m n) N U (J0 (i:Int)) B H) _) 0 _ _ [] _ _ (Ahy _) (.inl ⟨rfl,rfl⟩) (.inl ⟨rfl,rfl⟩) ⟨rfl,fun j c h=>by simp[Jd]at h⟩
 refine Bj (fun i:Nat=>es.length-i) fun i ih N U ws B H hi Y h4 hw=>?_
 unfold c108_B2
 obtain⟨a1,a2,a3,a4⟩:=Y.nf
 obtain⟨b1,b2,b3,b4⟩:=h4.nf
 obtain⟨l1,l2⟩:=Lf t.nodes i
 cases hx:t.nodes[i]? with
 | none =>
  have:i=es.length:=by have:=Ahx.1 hx;omega
  subst this
  have v1:=Y.viewR
  rcases Y with ⟨e,rfl⟩|⟨hne,r,hr9,rfl,h5⟩
  ·have e':(Jd t.nodes es.length).1=[]:=by simpa[iI]using e
   simp (maxSteps:=2000000) (disch:=omega) [rn,e']
   rfl
  ·simp only[Dr]at v1
   simp (maxSteps:=2000000) (disch:=omega) [rn,v1]
   rfl
 | some x =>
  have hlt:i<es.length:=by rw[<-hln];exact(Ahq.1 hx).1
  have hlt':(i:Int)<es.length:=by omega
  obtain⟨zx,x1,x2,x3,_⟩:=Cg hT hx
  have rx:=x2.rules
  simp only[Bp]at rx
  have wi:=J1 i (by omega)
  simp (maxSteps:=2000000) (disch:=omega) [rn,hlt']
  have h3':LR 3 (iI (Jd t.nodes i).1) N H (· < H.length):=Y.keep (fun _ _=>rfl) (fun r _ h=>h)
  have h4':LR 65 ws U H (· < H.length):=h4.keep (fun _ _=>rfl) (fun r _ h=>h)
  generalize hn0:H.length=n0 at h3' h4'
  have hx20:=h20 x (Ahw hx)
  generalize hcl:(Jd t.nodes i).1=ks at *
  generalize hnx:(Jd t.nodes i).2=nx at *
  have hnl:(Hy ks x).length=x.2.length:=by unfold Hy;split <;> simp
  have ih:=fun N U ws B H=>ih (i+1) (by omega) N U ws B H (by omega)
  have hxi:(t.nodes[i]?).getD (0,[])=x:=by rw[hx];rfl
  simp only[Jd,hcl,hnx,hxi]at ih
  refine(?key0:∀(s:Nat) (o6:V) (B:LE) (H:Hp),s<=x.2.length->n0<=H.length->LR 3 (iI ks) N H (· < n0)->LR 65 ws U H (· < n0)->LR 3 (iI ((Hy ks x).take s)) o6 H (n0 <= ·) ->
   Run G c108_B0 (S108_0 (.m n) N U (J0 (i:Int)) o6 (J0 (s:Int)) B H) _) 0 _ _ _ (Ahy _) (by omega) h3' h4' (.inl ⟨rfl,rfl⟩)
  clear Y h4 h3' h4' hn0 H B
  refine Bj (fun s:Nat=>x.2.length-s) fun s ihs o6 B H hs hn Y h4 h6=>?_
  unfold c108_B0
  obtain⟨c1,c2,c3,c4⟩:=h6.nf
  cases hk:x.2[s]? with
  | some k =>
   have hlts:=(Ahq.1 hk).1
   have Z:(s:Int)<x.2.length:=by omega
   have m1:=Cf hk
   have ws1:=J1 s (by omega)
   have push:∀w:Int,(Hy ks x)[s]? = some w -> ∃E Q,(∀B,An (fun _ _ _=>none) ⟨B,H⟩ (.app 3 1 8) [o6,.ls [[J4 w]]]=some (E,⟨B,Q⟩))/\Az E=true/\n0<=Q.length/\LR 3 (iI ks) N Q (· < n0)/\LR 65 ws U Q (· < n0)/\LR 3 (iI ((Hy ks x).take (s+1))) E Q (n0 <= ·):=fun w hw=>by
    obtain⟨E,Q,p1,p2,p3,p4,p5,p6⟩:=h6.push (b:=8) (ys:=[J4 w]) hn (by omega) (by simp;omega) (fun u hu=>by rw[AhQ]at hu;subst hu;rfl)
    refine⟨E,Q,fun B=>(Cn rfl).trans (p1 B),p2,p4,Y.keep (fun r z=>p6 r z) (fun r z _=>z),h4.keep (fun r z=>p6 r z) (fun r z _=>z),?_⟩
    rw[As hw,show iI ((Hy ks x).take s++[w])=iI ((Hy ks x).take s)++[J4 w] from (VJ _ [w]).symm]
    exact p3
   by_cases W:1<x.1
   ·obtain⟨k0,k1⟩:=hv i x hx W k (Ahw hk)
    obtain⟨m,rfl⟩:∃m:Nat,k=(m:Int):=⟨k.toNat,by omega⟩
    have hml:m<ks.length:=by omega
    have hml':(m:Int)<ks.length:=by omega
    obtain⟨cw,hcw⟩:∃cw,ks[m]? = some cw:=⟨ks[m],Ahr hml⟩
    obtain⟨q,e1,e2,e3⟩:=Y.rd (Dt hcw)
    have hw:(Hy ks x)[s]? = some cw:=by
     unfold Hy
     rw[Ahv W,AhN,hk]
     simp[hcw]
    obtain⟨E,Q,p1,p2,p3,p4,p5,p6⟩:=push cw hw
    have k:=fun B=>ihs (s+1) (by omega) E B Q (by omega) p3 p4 p5 p6
    simp (maxSteps:=2000000) (disch:=omega) [rn,x1,rx,Z,m1,W,e1,e3,-DB,p1,Al p2,ws1,-Int.natCast_add]
    exact k _
   ·have hw:(Hy ks x)[s]? = some k:=by
     unfold Hy
     rw[Aht W]
     exact hk
    obtain⟨E,Q,p1,p2,p3,p4,p5,p6⟩:=push k hw
    have kk:=fun B=>ihs (s+1) (by omega) E B Q (by omega) p3 p4 p5 p6
    simp (maxSteps:=2000000) (disch:=omega) [rn,x1,rx,Z,m1,W,-DB,p1,Al p2,ws1,-Int.natCast_add]
    exact kk _
  | none =>
  have:s=x.2.length:=by have:=Ahx.1 hk;omega
  subst this
  rw[<-hnl,AhS]at h6
  have w1:=J2 ((i:Int)-1) (by omega)
  simp (maxSteps:=2000000) (disch:=omega) [rn,x1,rx,w1]
  have e0:(i:Int)=(VN t.nodes nx x.1 (Hy ks x) i i:Int):=by rw[YQ]
  refine(?key1:∀(k:Nat) (f:Int) (B:LE),k<=i->f=(VN t.nodes nx x.1 (Hy ks x) i k:Int) ->
   Run G c108_B1 (S108_1 (.m n) N U (J0 (i:Int)) o6 (J0 f) (J0 ((k:Int)-1)) B H) _) i i _ (Ahu _) e0
  clear ihs e0 B
  refine Bj (fun k:Nat=>k) fun k ihk f B hk hf=>?_
  unfold c108_B1
  cases k with
  | zero =>
   subst hf
   have hl3:AG N=none \/ ∃r,AG N=some r:=by cases AG N <;> simp
   obtain⟨o3',Q,p1,p2,p3,p4,p5,p6⟩:=(Y.keep (H':=H) (ok':=HT) (fun _ _=>rfl) (fun _ _ _=>Aii)).push1 (b:=8) (by omega) (y:=.i .i64 (VN t.nodes nx x.1 (Hy ks x) i 0:Int)) (by simp;omega) rfl
   have d34:∀r,AG U=some r->AG N≠some r:=fun r z e=>by
    have:=(h4.row z).symm.trans (Y.row e)
    cases this
   have d36:∀r,AG o6=some r->AG N≠some r:=fun r z e=>by
    have a:n0<=r:=h6.okr z
    have b:r<n0:=Y.okr e
    omega
   have h4b:=h4.keepO (H':=Q) fun r z hl=>p5 r hl (d34 r z)
   have h6b:=h6.keepO (H':=Q) fun r z hl=>p5 r hl (d36 r z)
   obtain⟨zz,H3,q1,q2,q3,q4,q5⟩:=h6b.bsf1
   rw[MQ]at q2
   have d46:∀r,AG U=some r->AG o6≠some r:=fun r z e=>by
    have:=(h4.row z).symm.trans (h6.row e)
    cases this
   have d3'6:∀r,AG o3'=some r->AG o6≠some r:=fun r z e=>by
    rcases p6 r z with h|⟨h,_⟩
    ·exact d36 r e h
    ·have:=h6.row_lt e
     omega
   have h4c:=h4b.keepO (H':=H3) fun r z _=>q5 r (d46 r z)
   have h3c:=p3.keepO (H':=H3) fun r z _=>q5 r (d3'6 r z)
   obtain⟨o4',H5,s1,s2,s3,s4,s5,s6⟩:=(h4c.keep (H':=H3) (ok':=HT) (fun _ _=>rfl) (fun _ _ _=>Aii)).push1 (b:=24) (by omega) (y:=zz) (by have:=hw.1;omega) q3
   have h3d:=h3c.keepO (H':=H5) fun r z hl=>s5 r hl fun e=>by
    have:=(h3c.row z).symm.trans (h4c.row e)
    cases this
   have kk:=fun B=>ih o3' o4' (ws++[zz]) B H5 (by rw[show iI (ks++[(VN t.nodes nx x.1 (Hy ks x) i 0:Int)])=iI ks++[J4 (VN t.nodes nx x.1 (Hy ks x) i 0:Int)] from (VJ _ _).symm];exact h3d) s3 (hw.snoc q2)
   have hm:¬(0:Int)<=((0:Nat):Int)-1:=by omega
   simp (maxSteps:=2000000) (disch:=omega) [-DB,p1,q1,s1,Al p2,Al s2,wi,-Int.natCast_add]
   exact kk _
  | succ k =>
   have hki:k<i:=by omega
   have hkl:k<es.length:=by omega
   have hkl':(k:Int)<es.length:=by omega
   have wk:((k+1:Nat):Int)-1=(k:Int):=by omega
   have wk2:=J2 ((k:Int)-1) (by omega)
   obtain⟨y,hy⟩:∃y,t.nodes[k]? = some y:=⟨t.nodes[k],Ahr (by omega)⟩
   obtain⟨zy,y1,y2,y3,_⟩:=Cg hT hy
   obtain⟨d,hd⟩:∃d,nx[k]? = some d:=⟨nx[k],Ahr (by omega)⟩
   obtain⟨w,hw1,hw2⟩:=hw.2 k d hd
   obtain⟨q,e1,e2,e3⟩:=h4.rd hw1
   have J:=VM t.nodes nx x.1 (Hy ks x) hki
   rw[hy,hd]at J
   have hdl:d.length<=9223372036854775807:=by
    obtain⟨cl',e⟩:=QV (l:=t.nodes) i k d (by rw[hnx];exact hd)
    rw[e,Yu,hy]
    have:=h20 y (Ahw hy)
    simp only[AiT]
    omega
   simp only[AiT]at J
   rw[wk]
   by_cases u1:y.1=x.1
   ·have gs:=h6.call2 (F:=142) (w:=w) (v:=.m (.b (decide (d=Hy ks x)))) (H0:=[]) rfl rfl (Yi hw2 (zI_sl (Hy ks x)) hdl []) rfl
    by_cases u2:d=Hy ks x
    ·rw[AhA u2]at gs
     rw[Ahv ⟨u1,u2⟩]at J
     have kk:=fun B=>ihk k (by omega) k B (by omega) (by rw[J])
     simp (maxSteps:=2000000) (disch:=omega) [Ad,rn,x1,y1,u1,e1,e3,cl gs,wk2,-Int.natCast_add]
     exact kk _
    ·rw[AhB u2]at gs
     rw[Aht fun e=>u2 e.2]at J
     have kk:=fun B=>ihk k (by omega) f B (by omega) (by rw[hf,J])
     simp (maxSteps:=2000000) (disch:=omega) [Ad,rn,x1,y1,u1,e1,e3,cl gs,wk2,-Int.natCast_add]
     exact kk _
   ·rw[Aht fun e=>u1 e.1]at J
    have kk:=fun B=>ihk k (by omega) f B (by omega) (by rw[hf,J])
    simp (maxSteps:=2000000) (disch:=omega) [Ad,rn,x1,y1,u1,wk2,-Int.natCast_add]
    exact kk _
end Go.Mx.Tryz
set_option maxRecDepth 1000000
namespace Go.Mx.Tryz
open Go.Proofs
def iE (n:Int):I:=.i .i64 n
def allE:I:=.sl [[iE 0],[iE 1],[iE 2],[iE 3],[iE 4],[iE 5],[iE 6],[iE 7]]
def lifeE:I:=.ag [iE 2,.sl [[iE (-1),iE (-1)],[iE 0,iE (-1)],[iE 1,iE (-1)],[iE (-1),iE 0],[iE 0,iE 0],[iE 1,iE 0],[iE (-1),iE 1],[iE 0,iE 1],[iE 1,iE 1]],.sl [[iE 1,.sl [[iE 0],[iE 0]]],[iE 2,.sl [[iE 0],[iE 0]]],[iE 1,.sl [[iE 0],[iE 1]]],[iE 2,.sl [[iE 0],[iE 2]]],[iE 3,.sl [[iE 1],[iE 3]]],[iE 1,.sl [[iE 1],[iE 0]]],[iE 2,.sl [[iE 2],[iE 5]]],[iE 3,.sl [[iE 3],[iE 6]]],[iE 4,.sl [[iE 4],[iE 7]]],[iE 1,.sl [[iE 1],[iE 1]]],[iE 2,.sl [[iE 2],[iE 9]]],[iE 3,.sl [[iE 3],[iE 10]]],[iE 2,.sl [[iE 9],[iE 5]]],[iE 3,.sl [[iE 10],[iE 12]]],[iE 4,.sl [[iE 11],[iE 13]]],[iE 5,.sl [[iE 8],[iE 14]]],[iE 2,.sl [[iE 5],[iE 0]]],[iE 3,.sl [[iE 6],[iE 16]]],[iE 4,.sl [[iE 7],[iE 17]]],[iE 3,.sl [[iE 12],[iE 16]]],[iE 4,.sl [[iE 13],[iE 19]]],[iE 5,.sl [[iE 18],[iE 20]]],[iE 6,.sl [[iE 15],[iE 21]]],[iE 3,.sl [[iE 16],[iE 1]]],[iE 4,.sl [[iE 17],[iE 23]]],[iE 4,.sl [[iE 19],[iE 23]]],[iE 5,.sl [[iE 24],[iE 25]]],[iE 6,.sl [[iE 21],[iE 26]]],[iE 7,.sl [[iE 22],[iE 27]]],[iE 3,.sl [[iE 1],[iE 1]]],[iE 4,.sl [[iE 23],[iE 29]]],[iE 5,.sl [[iE 30],[iE 30]]],[iE 6,.sl [[iE 26],[iE 31]]],[iE 7,.sl [[iE 27],[iE 32]]],[iE 8,.sl [[iE 28],[iE 33]]],[iE 4,.sl [[iE 29],[iE 29]]],[iE 5,.sl [[iE 35],[iE 35]]],[iE 6,.sl [[iE 31],[iE 36]]],[iE 7,.sl [[iE 32],[iE 37]]],[iE 8,.sl [[iE 33],[iE 38]]],[iE 9,.sl [[iE 34],[iE 39]]]]]
def ndI (x:Nd):List I:=[.i .i64 x.1,.sl (BR x.2)]
theorem VZ (x:Nd):dNd (ndI x)=x:=by
 obtain⟨a,l⟩:=x
 show (a,(BR l).map dEn)=(a,l)
 rw[show (BR l).map dEn=l from by unfold BR;rw[Aiy];exact List.map_id'' (fun _=>rfl) l]
theorem dNds (l:List Nd):(l.map ndI).map dNd=l:=by rw[Aiy];exact List.map_id'' (fun x=>VZ x) l
variable {ns:List Nd}
theorem PX {S:Int}{u:Hd}(z:bdN ns=true)(N:u.length<=1000)(J:ns.length<=1000000):TreeV ⟨S,u,ns⟩ (.sl (Au u)) (.sl (ns.map ndI)) (ns.map ndI):=by
 refine⟨AX _,AX _,Vp (fun e E=>?_) (by rw[dNds];exact z),(dNds ns).symm,AiF N (by omega),AiF (by rw[AhD];exact J) (by omega:1000000<=9223372036854775807)⟩
 obtain⟨x,_,rfl⟩:=AhP.1 E
 refine⟨x.1,_,rfl,?_⟩
 rw[show dIn (.sl (BR x.2))=x.2 from AiO Prod.snd (VZ x)]
 exact AX _
theorem AgC {u:LT}(W:Li u)(U:u.map dNd=ns)(J:∀x,x∈ns->x.2≠[]):u=ns.map ndI:=by
 subst U
 rw[Aiy]
 refine((List.map_congr_left fun e E=>?_).trans (List.map_id'' (fun _=>rfl) u)).symm
 obtain⟨x,z,rfl,N⟩:=W e E
 have Q:dIn z≠[]:=J (x,dIn z) (AhP.2 ⟨_,E,rfl⟩)
 rcases N with h|⟨_,h⟩
 ·show [I.i .i64 x,.sl (BR (dIn z))]=[J4 x,z]
  rw[<-h]
 ·exact absurd (List.map_eq_nil_iff.1 h) Q
def hdL:Hd:=[(-1,-1),(0,-1),(1,-1),(-1,0),(0,0),(1,0),(-1,1),(0,1),(1,1)]
def nsL:List Nd:=[(1,[0,0]),(2,[0,0]),(1,[0,1]),(2,[0,2]),(3,[1,3]),(1,[1,0]),(2,[2,5]),(3,[3,6]),(4,[4,7]),(1,[1,1]),(2,[2,9]),(3,[3,10]),(2,[9,5]),(3,[10,12]),(4,[11,13]),(5,[8,14]),(2,[5,0]),(3,[6,16]),(4,[7,17]),(3,[12,16]),(4,[13,19]),(5,[18,20]),(6,[15,21]),(3,[16,1]),(4,[17,23]),(4,[19,23]),(5,[24,25]),(6,[21,26]),(7,[22,27]),(3,[1,1]),(4,[23,29]),(5,[30,30]),(6,[26,31]),(7,[27,32]),(8,[28,33]),(4,[29,29]),(5,[35,35]),(6,[31,36]),(7,[32,37]),(8,[33,38]),(9,[34,39])]
def nsP:List Nd:=[(1,[0,0]),(1,[0,0]),(1,[0,0]),(1,[0,1]),(1,[0,1]),(1,[1,1]),(1,[1,0]),(1,[1,0]),(1,[0,0]),(1,[0,0]),(1,[0,0]),(1,[0,0]),(1,[0,0]),(1,[0,0]),(1,[0,0]),(1,[0,0]),(1,[0,0]),(1,[0,0]),(2,[0,2]),(2,[1,3]),(2,[2,4]),(2,[3,5]),(2,[4,6]),(2,[5,7]),(2,[6,8]),(2,[7,9]),(2,[8,10]),(2,[9,11]),(2,[10,12]),(2,[11,13]),(2,[12,14]),(2,[13,15]),(2,[14,16]),(2,[15,17]),(3,[18,20]),(3,[19,21]),(3,[20,22]),(3,[21,23]),(3,[22,24]),(3,[23,25]),(3,[24,26]),(3,[25,27]),(3,[26,28]),(3,[27,29]),(3,[28,30]),(3,[29,31]),(3,[30,32]),(3,[31,33]),(4,[34,36]),(4,[35,37]),(4,[36,38]),(4,[37,39]),(4,[38,40]),(4,[39,41]),(4,[40,42]),(4,[41,43]),(4,[42,44]),(4,[43,45]),(4,[44,46]),(4,[45,47]),(5,[48,49]),(5,[48,49]),(5,[50,51]),(5,[50,51]),(5,[52,53]),(5,[52,53]),(5,[54,55]),(5,[54,55]),(5,[56,57]),(5,[56,57]),(6,[60,62]),(6,[61,63]),(6,[62,64]),(6,[63,65]),(6,[64,66]),(6,[65,67]),(6,[66,68]),(6,[67,69]),(7,[70,72]),(7,[71,73]),(7,[72,74]),(7,[73,75]),(7,[74,76]),(7,[75,77]),(8,[78,80]),(8,[79,81]),(8,[80,82]),(8,[81,83]),(9,[84,86])]
theorem KX:lifeE=.ag [J4 2,.sl (Au hdL),.sl (nsL.map ndI)]:=by kernel_rfl
theorem Aaf:AZ ⟨2,hdL,nsL⟩=true:=by kernel_rfl
theorem Adi:Yk nsL=nsL:=by kernel_rfl
def preE:I:=.ag [iE 2,.sl (Au hdL),.sl (nsP.map ndI)]
theorem preV:TreeV ⟨2,hdL,nsP⟩ (.sl (Au hdL)) (.sl (nsP.map ndI)) (nsP.map ndI):=PX (by kernel_rfl) (by decide) (by decide)
def T13:List Ent:=⟨52,[preE],.m (.b true)⟩   :: []
theorem AfU:BB G T13:=Fz mono (SL G) (n:=100000) (by kernel_rfl)
def clP:List Int:=(Jd nsP 89).1
def T14:List Ent:=⟨108,[.sl (nsP.map ndI)],.m (.sl (BR clP))⟩::T13
theorem AfT:BB G T14:=Gv mono AfU (by
 have N:nsP.all (fun x=>Nat.ble x.2.length 100)=true:=by kernel_rfl
 have E:(nsP.zipIdx).all (fun p=>decide (p.1.1<=1)||p.1.2.all fun k=>decide (0<=k/\k<(p.2:Int)))=true:=by kernel_rfl
 have g:=cls_r preV (by decide) (fun x z=>AiK (AhE.1 N x z)) (fun i x z h k J=>by
  have u:=AhE.1 E (x,i) (List.mk_mem_zipIdx_iff_getElem?.2 z)
  simp only[AiI,AhC,AhE]at u
  rcases u with u|u
  ·omega
  ·exact u k J) []
 have e:zI (Jd nsP (nsP.map ndI).length).1=.sl (BR clP):=by kernel_rfl
 rw[<-e]
 exact g)
def T15:List Ent:=⟨68,[.sl (nsP.map ndI)],.m (.sl (nsL.map ndI))⟩::T14
theorem AfS:BB G T15:=Fz mono AfT (n:=100000) (by kernel_rfl)
def T16:List Ent:=⟨37,[preE],.m lifeE⟩::T15
theorem AfR:BB G T16:=Fz mono AfS (n:=100000) (by kernel_rfl)
def T17:List Ent:=⟨46,[lifeE],.m (.b true)⟩::T16
theorem AfQ:BB G T17:=Fz mono AfR (n:=100000) (by kernel_rfl)
def T18:List Ent:=⟨186,[.sl (Au hdL),.sl (Au hdL)],.m (.b true)⟩::T17
theorem AfP:BB G T18:=Fz mono AfQ (n:=100000) (by kernel_rfl)
def T19:List Ent:=⟨187,[lifeE,lifeE],.m (.b true)⟩::T18
theorem Qa:BB G T19:=Fz mono AfP (n:=100000) (by kernel_rfl)
theorem trn0:IJ 0 2 hdL nsL=some (hdL,nsL):=by kernel_rfl
theorem trn1:IJ 1 2 hdL nsL=some (hdL,nsL):=by kernel_rfl
theorem trn2:IJ 2 2 hdL nsL=some (hdL,nsL):=by kernel_rfl
theorem trn3:IJ 3 2 hdL nsL=some (hdL,nsL):=by kernel_rfl
theorem trn4:IJ 4 2 hdL nsL=some (hdL,nsL):=by kernel_rfl
theorem trn5:IJ 5 2 hdL nsL=some (hdL,nsL):=by kernel_rfl
theorem trn6:IJ 6 2 hdL nsL=some (hdL,nsL):=by kernel_rfl
theorem trn7:IJ 7 2 hdL nsL=some (hdL,nsL):=by kernel_rfl
theorem Acq (k:Nat)(u:k<8):IJ (k:Int) 2 hdL nsL=some (hdL,nsL):=by
 match k,u with
 | 0,_=>exact trn0
 | 1,_=>exact trn1
 | 2,_=>exact trn2
 | 3,_=>exact trn3
 | 4,_=>exact trn4
 | 5,_=>exact trn5
 | 6,_=>exact trn6
 | 7,_=>exact trn7
def T20:List Ent:=⟨122,[lifeE],.m allE⟩::T19
theorem AfO:BB G T20:=Gv mono Qa (by
 have J:TreeV ⟨2,hdL,nsL⟩ (.sl (Au hdL)) (.sl (nsL.map ndI)) (nsL.map ndI):=PX (by kernel_rfl) (by decide) (by decide)
 have z:∀H,Gives G 46 [.m (.ag [J4 2,.sl (Au hdL),.sl (nsL.map ndI)])] H (.m (.b (AZ ⟨2,hdL,nsL⟩))) H:=fun H=>by
  rw[Aaf,<-KX]
  exact Ko mono Qa (n:=10) (by kernel_rfl)
 have u:Gives G 187 [.m (.ag [J4 2,.sl (Au hdL),.sl (nsL.map ndI)]),.m (.ag [J4 2,.sl (Au hdL),.sl (nsL.map ndI)])] [] (.m (.b true)) []:=by
  rw[<-KX]
  exact Ko mono Qa (n:=10) (by kernel_rfl)
 show Gives G 122 [.m lifeE] [] (.m (.sl (BR (Sw 8)))) []
 rw[KX]
 exact AfV J z (fun H=>Ko mono Qa (n:=10) (by kernel_rfl)) u (fun Q E N=>AgC E N (by decide)) Aaf Adi Acq [])
def vE32:I:=.sl [[iE 0],[iE 1],[iE 2],[iE 3],[iE 4],[iE 5],[iE 6],[iE 7]]
def vE33:I:=.sl [[iE 0,iE 0,iE 0,iE 0,iE 0],[iE 1,iE 0,iE 0,iE 20,iE 0]]
def vE2:I:=.sl [[iE 0,iE 0,iE 1],[iE 1,iE 0,iE 1],[iE 0,iE 1,iE 1],[iE 1,iE 1,iE 1]]
def vE19:I:=.sl [[iE 1,iE 1,iE 1],[iE 2,iE 1,iE 1],[iE 1,iE 2,iE 1],[iE 2,iE 2,iE 1]]
def vE30:I:=.sl [[iE 1,iE 0,iE 1],[iE 2,iE 0,iE 1],[iE 1,iE 1,iE 1],[iE 2,iE 1,iE 1]]
def vE31:I:=.sl [[iE 0,iE 1,iE 1],[iE 1,iE 1,iE 1],[iE 0,iE 2,iE 1],[iE 1,iE 2,iE 1]]
def vE3:I:=.sl [[iE 20,iE 0,iE 1],[iE 21,iE 0,iE 1],[iE 20,iE 1,iE 1],[iE 21,iE 1,iE 1]]
def vE26:I:=.sl [[iE 1,iE (-1),iE 1],[iE 2,iE (-1),iE 1],[iE 1,iE 0,iE 1],[iE 2,iE 0,iE 1]]
def vE27:I:=.sl [[iE 0,iE (-1),iE 1],[iE 1,iE (-1),iE 1],[iE 0,iE 0,iE 1],[iE 1,iE 0,iE 1]]
def vE28:I:=.sl [[iE (-1),iE 1,iE 1],[iE 0,iE 1,iE 1],[iE (-1),iE 2,iE 1],[iE 0,iE 2,iE 1]]
def vE29:I:=.sl [[iE (-1),iE 0,iE 1],[iE 0,iE 0,iE 1],[iE (-1),iE 1,iE 1],[iE 0,iE 1,iE 1]]
def vE25:I:=.sl [[iE (-1),iE (-1),iE 1],[iE 0,iE (-1),iE 1],[iE (-1),iE 0,iE 1],[iE 0,iE 0,iE 1]]
def vE6:I:=.sl [[iE 1,iE 0,iE 1],[iE 2,iE 1,iE 1],[iE 0,iE 2,iE 1],[iE 1,iE 2,iE 1],[iE 2,iE 2,iE 1]]
def vE14:I:=.sl [[iE 2,iE 2,iE 1],[iE 3,iE 3,iE 1],[iE 4,iE 3,iE 1],[iE 2,iE 4,iE 1],[iE 3,iE 4,iE 1]]
def vE15:I:=.sl [[iE 2,iE 1,iE 1],[iE 3,iE 2,iE 1],[iE 1,iE 3,iE 1],[iE 2,iE 3,iE 1],[iE 3,iE 3,iE 1]]
def vE16:I:=.sl [[iE 2,iE 1,iE 1],[iE 0,iE 2,iE 1],[iE 2,iE 2,iE 1],[iE 1,iE 3,iE 1],[iE 2,iE 3,iE 1]]
def vE17:I:=.sl [[iE 1,iE 1,iE 1],[iE 2,iE 2,iE 1],[iE 3,iE 2,iE 1],[iE 1,iE 3,iE 1],[iE 2,iE 3,iE 1]]
def vE18:I:=.sl [[iE 0,iE 1,iE 1],[iE 2,iE 1,iE 1],[iE 1,iE 2,iE 1],[iE 2,iE 2,iE 1],[iE 1,iE 3,iE 1]]
def vE20:I:=.sl [[iE 3,iE 2,iE 1],[iE 4,iE 3,iE 1],[iE 2,iE 4,iE 1],[iE 3,iE 4,iE 1],[iE 4,iE 4,iE 1]]
def vE21:I:=.sl [[iE 3,iE 2,iE 1],[iE 1,iE 3,iE 1],[iE 3,iE 3,iE 1],[iE 2,iE 4,iE 1],[iE 3,iE 4,iE 1]]
def vE22:I:=.sl [[iE 1,iE 2,iE 1],[iE 3,iE 2,iE 1],[iE 2,iE 3,iE 1],[iE 3,iE 3,iE 1],[iE 2,iE 4,iE 1]]
def vE4:I:=.sl [[iE 20,iE 0,iE 1],[iE 21,iE 0,iE 1],[iE 2,iE 1,iE 1],[iE 20,iE 1,iE 1],[iE 21,iE 1,iE 1],[iE 3,iE 2,iE 1],[iE 1,iE 3,iE 1],[iE 2,iE 3,iE 1],[iE 3,iE 3,iE 1]]
def vE5:I:=.sl [[iE 20,iE 0,iE 1],[iE 21,iE 0,iE 1],[iE 1,iE 1,iE 1],[iE 20,iE 1,iE 1],[iE 21,iE 1,iE 1],[iE 2,iE 2,iE 1],[iE 3,iE 2,iE 1],[iE 1,iE 3,iE 1],[iE 2,iE 3,iE 1]]
def vE7:I:=.sl [[iE 20,iE 0,iE 1],[iE 21,iE 0,iE 1],[iE 20,iE 1,iE 1],[iE 21,iE 1,iE 1],[iE 3,iE 2,iE 1],[iE 1,iE 3,iE 1],[iE 3,iE 3,iE 1],[iE 2,iE 4,iE 1],[iE 3,iE 4,iE 1]]
def vE8:I:=.sl [[iE 20,iE 0,iE 1],[iE 21,iE 0,iE 1],[iE 20,iE 1,iE 1],[iE 21,iE 1,iE 1],[iE 2,iE 2,iE 1],[iE 3,iE 3,iE 1],[iE 4,iE 3,iE 1],[iE 2,iE 4,iE 1],[iE 3,iE 4,iE 1]]
def vE9:I:=.sl [[iE 20,iE 0,iE 1],[iE 21,iE 0,iE 1],[iE 20,iE 1,iE 1],[iE 21,iE 1,iE 1],[iE 1,iE 2,iE 1],[iE 3,iE 2,iE 1],[iE 2,iE 3,iE 1],[iE 3,iE 3,iE 1],[iE 2,iE 4,iE 1]]
def vE10:I:=.sl [[iE 20,iE 0,iE 1],[iE 21,iE 0,iE 1],[iE 20,iE 1,iE 1],[iE 21,iE 1,iE 1],[iE 3,iE 2,iE 1],[iE 4,iE 3,iE 1],[iE 2,iE 4,iE 1],[iE 3,iE 4,iE 1],[iE 4,iE 4,iE 1]]
def vE11:I:=.sl [[iE 20,iE 0,iE 1],[iE 21,iE 0,iE 1],[iE 2,iE 1,iE 1],[iE 20,iE 1,iE 1],[iE 21,iE 1,iE 1],[iE 0,iE 2,iE 1],[iE 2,iE 2,iE 1],[iE 1,iE 3,iE 1],[iE 2,iE 3,iE 1]]
def vE12:I:=.sl [[iE 20,iE 0,iE 1],[iE 21,iE 0,iE 1],[iE 0,iE 1,iE 1],[iE 2,iE 1,iE 1],[iE 20,iE 1,iE 1],[iE 21,iE 1,iE 1],[iE 1,iE 2,iE 1],[iE 2,iE 2,iE 1],[iE 1,iE 3,iE 1]]
def vE13:I:=.sl [[iE 1,iE 0,iE 1],[iE 20,iE 0,iE 1],[iE 21,iE 0,iE 1],[iE 2,iE 1,iE 1],[iE 20,iE 1,iE 1],[iE 21,iE 1,iE 1],[iE 0,iE 2,iE 1],[iE 1,iE 2,iE 1],[iE 2,iE 2,iE 1]]
def vE23:I:=.sl [[iE 20,iE 0,iE 1],[iE 21,iE 0,iE 1],[iE 20,iE 1,iE 1],[iE 21,iE 1,iE 1],[iE 4,iE 3,iE 1],[iE 2,iE 4,iE 1],[iE 4,iE 4,iE 1],[iE 3,iE 5,iE 1],[iE 4,iE 5,iE 1]]
def vE24:I:=.sl [[iE 20,iE 0,iE 1],[iE 21,iE 0,iE 1],[iE 20,iE 1,iE 1],[iE 21,iE 1,iE 1],[iE 2,iE 3,iE 1],[iE 4,iE 3,iE 1],[iE 3,iE 4,iE 1],[iE 4,iE 4,iE 1],[iE 3,iE 5,iE 1]]
def vE1:I:=.sl [[vE6,iE 4,iE 1,iE 1],[vE2,iE 1,iE 0,iE 0]]
theorem tE {T:List Ent}{e:Ent}(h:BB G T)(k:KG G T 100000 e.f (e.is.map .m) []=some (e.r,[])):BB G (e::T):=Fz mono h k
def T26:List Ent:=⟨69,[vE18],.m (.b true)⟩::⟨41,[lifeE,vE6],.tu [.m vE18,.m (iE 0)]⟩::⟨39,[.sl [[iE 2,iE 1,iE 1],[iE 0,iE 1,iE 1],[iE 2,iE 2,iE 1],[iE 1,iE 2,iE 1],[iE 1,iE 3,iE 1]]],.tu [.m vE18,.m (iE 0)]⟩::⟨69,[vE6],.m (.b true)⟩::⟨46,[lifeE],.m (.b true)⟩::⟨10,[],.tu [.m (lifeE),.m vE1]⟩::T20
theorem AfN:BB G T26:=tE (tE (tE (tE (tE (tE AfO (by kernel_rfl)) (by kernel_rfl)) (by kernel_rfl)) (by kernel_rfl)) (by kernel_rfl)) (by kernel_rfl)
def T32:List Ent:=⟨69,[vE17],.m (.b true)⟩::⟨41,[lifeE,vE16],.tu [.m vE17,.m (iE 0)]⟩::⟨39,[.sl [[iE 3,iE 2,iE 1],[iE 2,iE 2,iE 1],[iE 1,iE 1,iE 1],[iE 1,iE 3,iE 1],[iE 2,iE 3,iE 1]]],.tu [.m vE17,.m (iE 0)]⟩::⟨69,[vE16],.m (.b true)⟩::⟨41,[lifeE,vE18],.tu [.m vE16,.m (iE 0)]⟩::⟨39,[.sl [[iE 0,iE 2,iE 1],[iE 2,iE 2,iE 1],[iE 2,iE 1,iE 1],[iE 2,iE 3,iE 1],[iE 1,iE 3,iE 1]]],.tu [.m vE16,.m (iE 0)]⟩::T26
theorem AfM:BB G T32:=tE (tE (tE (tE (tE (tE AfN (by kernel_rfl)) (by kernel_rfl)) (by kernel_rfl)) (by kernel_rfl)) (by kernel_rfl)) (by kernel_rfl)
def T38:List Ent:=⟨28,[lifeE,vE1,.ag [iE 0,iE 0,iE 0,iE 0,iE 0]],.tu [.m vE6,.m (iE 0)]⟩::⟨49,[iE 0,vE6],.tu [.m vE6,.m (iE 0)]⟩::⟨48,[lifeE,.ag [vE6,iE 4,iE 1,iE 1],iE 0],.tu [.m vE6,.m (iE 0)]⟩::⟨79,[lifeE,vE6,iE 4],.tu [.m (.ag [iE 4,iE 1,iE 1]),.m (.b true),.m (iE 0)]⟩::⟨41,[lifeE,vE17],.tu [.m vE15,.m (iE 0)]⟩::⟨39,[.sl [[iE 2,iE 1,iE 1],[iE 3,iE 3,iE 1],[iE 2,iE 3,iE 1],[iE 1,iE 3,iE 1],[iE 3,iE 2,iE 1]]],.tu [.m vE15,.m (iE 0)]⟩::T32
theorem AfL:BB G T38:=tE (tE (tE (tE (tE (tE AfM (by kernel_rfl)) (by kernel_rfl)) (by kernel_rfl)) (by kernel_rfl)) (by kernel_rfl)) (by kernel_rfl)
def T44:List Ent:=⟨49,[iE 0,vE2],.tu [.m vE2,.m (iE 0)]⟩::⟨48,[lifeE,.ag [vE2,iE 1,iE 0,iE 0],iE 0],.tu [.m vE2,.m (iE 0)]⟩::⟨79,[lifeE,vE2,iE 1],.tu [.m (.ag [iE 1,iE 0,iE 0]),.m (.b true),.m (iE 0)]⟩::⟨41,[lifeE,vE2],.tu [.m vE2,.m (iE 0)]⟩::⟨39,[.sl [[iE 1,iE 1,iE 1],[iE 0,iE 1,iE 1],[iE 1,iE 0,iE 1],[iE 0,iE 0,iE 1]]],.tu [.m vE2,.m (iE 0)]⟩::⟨69,[vE2],.m (.b true)⟩::T38
theorem AfK:BB G T44:=tE (tE (tE (tE (tE (tE AfL (by kernel_rfl)) (by kernel_rfl)) (by kernel_rfl)) (by kernel_rfl)) (by kernel_rfl)) (by kernel_rfl)
def T50:List Ent:=⟨41,[lifeE,vE3],.tu [.m vE3,.m (iE 0)]⟩::⟨39,[.sl [[iE 21,iE 1,iE 1],[iE 20,iE 1,iE 1],[iE 21,iE 0,iE 1],[iE 20,iE 0,iE 1]]],.tu [.m vE3,.m (iE 0)]⟩::⟨39,[.sl [[iE 1,iE 0,iE 1],[iE 2,iE 1,iE 1],[iE 0,iE 2,iE 1],[iE 1,iE 2,iE 1],[iE 2,iE 2,iE 1],[iE 20,iE 0,iE 1],[iE 21,iE 0,iE 1],[iE 20,iE 1,iE 1],[iE 21,iE 1,iE 1]]],.tu [.m vE13,.m (iE 0)]⟩::⟨38,[vE3,vE6],.m (.b true)⟩::⟨69,[vE3],.m (.b true)⟩::⟨28,[lifeE,vE1,.ag [iE 1,iE 0,iE 0,iE 20,iE 0]],.tu [.m vE3,.m (iE 0)]⟩::T44
theorem AfJ:BB G T50:=tE (tE (tE (tE (tE (tE AfK (by kernel_rfl)) (by kernel_rfl)) (by kernel_rfl)) (by kernel_rfl)) (by kernel_rfl)) (by kernel_rfl)
def T56:List Ent:=⟨39,[.sl [[iE 21,iE 1,iE 1],[iE 20,iE 1,iE 1],[iE 21,iE 0,iE 1],[iE 20,iE 0,iE 1],[iE 3,iE 2,iE 1],[iE 2,iE 2,iE 1],[iE 1,iE 1,iE 1],[iE 1,iE 3,iE 1],[iE 2,iE 3,iE 1]]],.tu [.m vE5,.m (iE 0)]⟩::⟨41,[lifeE,vE12],.tu [.m vE11,.m (iE 0)]⟩::⟨39,[.sl [[iE 21,iE 1,iE 1],[iE 20,iE 1,iE 1],[iE 21,iE 0,iE 1],[iE 20,iE 0,iE 1],[iE 0,iE 2,iE 1],[iE 2,iE 2,iE 1],[iE 2,iE 1,iE 1],[iE 2,iE 3,iE 1],[iE 1,iE 3,iE 1]]],.tu [.m vE11,.m (iE 0)]⟩::⟨41,[lifeE,vE13],.tu [.m vE12,.m (iE 0)]⟩::⟨39,[.sl [[iE 2,iE 1,iE 1],[iE 0,iE 1,iE 1],[iE 21,iE 1,iE 1],[iE 20,iE 1,iE 1],[iE 21,iE 0,iE 1],[iE 20,iE 0,iE 1],[iE 2,iE 2,iE 1],[iE 1,iE 2,iE 1],[iE 1,iE 3,iE 1]]],.tu [.m vE12,.m (iE 0)]⟩::⟨69,[vE13],.m (.b true)⟩::T50
theorem AfI:BB G T56:=tE (tE (tE (tE (tE (tE AfJ (by kernel_rfl)) (by kernel_rfl)) (by kernel_rfl)) (by kernel_rfl)) (by kernel_rfl)) (by kernel_rfl)
def T62:List Ent:=⟨39,[.sl [[iE 2,iE 1,iE 1],[iE 3,iE 2,iE 1],[iE 1,iE 3,iE 1],[iE 2,iE 3,iE 1],[iE 3,iE 3,iE 1],[iE 20,iE 0,iE 1],[iE 21,iE 0,iE 1],[iE 20,iE 1,iE 1],[iE 21,iE 1,iE 1]]],.tu [.m vE4,.m (iE 0)]⟩::⟨69,[vE15],.m (.b true)⟩::⟨41,[lifeE,vE5],.tu [.m vE4,.m (iE 0)]⟩::⟨39,[.sl [[iE 21,iE 1,iE 1],[iE 20,iE 1,iE 1],[iE 21,iE 0,iE 1],[iE 20,iE 0,iE 1],[iE 2,iE 1,iE 1],[iE 3,iE 3,iE 1],[iE 2,iE 3,iE 1],[iE 1,iE 3,iE 1],[iE 3,iE 2,iE 1]]],.tu [.m vE4,.m (iE 0)]⟩::⟨69,[vE5],.m (.b true)⟩::⟨41,[lifeE,vE11],.tu [.m vE5,.m (iE 0)]⟩::T56
theorem AfH:BB G T62:=tE (tE (tE (tE (tE (tE AfI (by kernel_rfl)) (by kernel_rfl)) (by kernel_rfl)) (by kernel_rfl)) (by kernel_rfl)) (by kernel_rfl)
def T68:List Ent:=⟨39,[.sl [[iE 1,iE 2,iE 1],[iE 3,iE 2,iE 1],[iE 2,iE 3,iE 1],[iE 3,iE 3,iE 1],[iE 2,iE 4,iE 1],[iE 20,iE 0,iE 1],[iE 21,iE 0,iE 1],[iE 20,iE 1,iE 1],[iE 21,iE 1,iE 1]]],.tu [.m vE9,.m (iE 0)]⟩::⟨69,[vE22],.m (.b true)⟩::⟨41,[lifeE,vE4],.tu [.m vE9,.m (iE 0)]⟩::⟨39,[.sl [[iE 21,iE 1,iE 1],[iE 20,iE 1,iE 1],[iE 21,iE 0,iE 1],[iE 20,iE 0,iE 1],[iE 3,iE 2,iE 1],[iE 1,iE 2,iE 1],[iE 3,iE 3,iE 1],[iE 2,iE 3,iE 1],[iE 2,iE 4,iE 1]]],.tu [.m vE9,.m (iE 0)]⟩::⟨69,[vE4],.m (.b true)⟩::⟨22,[lifeE,vE15],.tu [.m vE22,.m (iE 0)]⟩::T62
theorem AfG:BB G T68:=tE (tE (tE (tE (tE (tE AfH (by kernel_rfl)) (by kernel_rfl)) (by kernel_rfl)) (by kernel_rfl)) (by kernel_rfl)) (by kernel_rfl)
def T74:List Ent:=⟨39,[.sl [[iE 3,iE 2,iE 1],[iE 1,iE 3,iE 1],[iE 3,iE 3,iE 1],[iE 2,iE 4,iE 1],[iE 3,iE 4,iE 1],[iE 20,iE 0,iE 1],[iE 21,iE 0,iE 1],[iE 20,iE 1,iE 1],[iE 21,iE 1,iE 1]]],.tu [.m vE7,.m (iE 0)]⟩::⟨69,[vE21],.m (.b true)⟩::⟨41,[lifeE,vE9],.tu [.m vE7,.m (iE 0)]⟩::⟨39,[.sl [[iE 21,iE 1,iE 1],[iE 20,iE 1,iE 1],[iE 21,iE 0,iE 1],[iE 20,iE 0,iE 1],[iE 1,iE 3,iE 1],[iE 3,iE 3,iE 1],[iE 3,iE 2,iE 1],[iE 3,iE 4,iE 1],[iE 2,iE 4,iE 1]]],.tu [.m vE7,.m (iE 0)]⟩::⟨69,[vE9],.m (.b true)⟩::⟨22,[lifeE,vE22],.tu [.m vE21,.m (iE 0)]⟩::T68
theorem AfF:BB G T74:=tE (tE (tE (tE (tE (tE AfG (by kernel_rfl)) (by kernel_rfl)) (by kernel_rfl)) (by kernel_rfl)) (by kernel_rfl)) (by kernel_rfl)
def T80:List Ent:=⟨20,[.sl [[vE14],[vE3]]],.m (.b true)⟩::⟨69,[vE14],.m (.b true)⟩::⟨41,[lifeE,vE7],.tu [.m vE8,.m (iE 0)]⟩::⟨39,[.sl [[iE 21,iE 1,iE 1],[iE 20,iE 1,iE 1],[iE 21,iE 0,iE 1],[iE 20,iE 0,iE 1],[iE 4,iE 3,iE 1],[iE 3,iE 3,iE 1],[iE 2,iE 2,iE 1],[iE 2,iE 4,iE 1],[iE 3,iE 4,iE 1]]],.tu [.m vE8,.m (iE 0)]⟩::⟨69,[vE7],.m (.b true)⟩::⟨22,[lifeE,vE21],.tu [.m vE14,.m (iE 0)]⟩::T74
theorem AfE:BB G T80:=tE (tE (tE (tE (tE (tE AfF (by kernel_rfl)) (by kernel_rfl)) (by kernel_rfl)) (by kernel_rfl)) (by kernel_rfl)) (by kernel_rfl)
def T86:List Ent:=⟨69,[vE20],.m (.b true)⟩::⟨41,[lifeE,vE8],.tu [.m vE10,.m (iE 0)]⟩::⟨39,[.sl [[iE 21,iE 1,iE 1],[iE 20,iE 1,iE 1],[iE 21,iE 0,iE 1],[iE 20,iE 0,iE 1],[iE 3,iE 2,iE 1],[iE 4,iE 4,iE 1],[iE 3,iE 4,iE 1],[iE 2,iE 4,iE 1],[iE 4,iE 3,iE 1]]],.tu [.m vE10,.m (iE 0)]⟩::⟨69,[vE8],.m (.b true)⟩::⟨22,[lifeE,vE14],.tu [.m vE20,.m (iE 0)]⟩::⟨39,[.sl [[iE 2,iE 2,iE 1],[iE 3,iE 3,iE 1],[iE 4,iE 3,iE 1],[iE 2,iE 4,iE 1],[iE 3,iE 4,iE 1],[iE 20,iE 0,iE 1],[iE 21,iE 0,iE 1],[iE 20,iE 1,iE 1],[iE 21,iE 1,iE 1]]],.tu [.m vE8,.m (iE 0)]⟩::T80
theorem AfD:BB G T86:=tE (tE (tE (tE (tE (tE AfE (by kernel_rfl)) (by kernel_rfl)) (by kernel_rfl)) (by kernel_rfl)) (by kernel_rfl)) (by kernel_rfl)
def T92:List Ent:=⟨12,[lifeE,vE1,vE33,iE 4],.tu [.m vE4,.m (iE 0)]⟩::⟨38,[vE19,vE6],.m (.b false)⟩::⟨69,[vE19],.m (.b true)⟩::⟨28,[lifeE,vE1,.ag [iE 1,iE 0,iE 0,iE 1,iE 1]],.tu [.m vE19,.m (iE 0)]⟩::⟨39,[.sl [[iE 3,iE 2,iE 1],[iE 4,iE 3,iE 1],[iE 2,iE 4,iE 1],[iE 3,iE 4,iE 1],[iE 4,iE 4,iE 1],[iE 20,iE 0,iE 1],[iE 21,iE 0,iE 1],[iE 20,iE 1,iE 1],[iE 21,iE 1,iE 1]]],.tu [.m vE10,.m (iE 0)]⟩::⟨20,[.sl [[vE20],[vE3]]],.m (.b true)⟩::T86
theorem AfC:BB G T92:=tE (tE (tE (tE (tE (tE AfD (by kernel_rfl)) (by kernel_rfl)) (by kernel_rfl)) (by kernel_rfl)) (by kernel_rfl)) (by kernel_rfl)
def T98:List Ent:=⟨69,[.sl [[iE (-21),iE (-1),iE 1],[iE (-20),iE (-1),iE 1],[iE (-21),iE 0,iE 1],[iE (-20),iE 0,iE 1]]],.m (.b true)⟩::⟨69,[.sl [[iE (-1),iE 20,iE 1],[iE 0,iE 20,iE 1],[iE (-1),iE 21,iE 1],[iE 0,iE 21,iE 1]]],.m (.b true)⟩::⟨167,[vE32],.m vE32⟩::⟨116,[vE3,iE 2],.tu [.m (.sl [[vE3]]),.m (iE 0)]⟩::⟨79,[lifeE,vE3,iE 1],.tu [.m (.ag [iE 1,iE 0,iE 0]),.m (.b true),.m (iE 0)]⟩::⟨12,[lifeE,vE1,.sl [[iE 1,iE 0,iE 0,iE 20,iE 0]],iE 3],.tu [.m vE3,.m (iE 0)]⟩::T92
theorem AfB:BB G T98:=tE (tE (tE (tE (tE (tE AfC (by kernel_rfl)) (by kernel_rfl)) (by kernel_rfl)) (by kernel_rfl)) (by kernel_rfl)) (by kernel_rfl)
def T104:List Ent:=⟨125,[vE3,vE32],.tu [.m vE2,.m (iE 0)]⟩::⟨69,[.sl [[iE 0,iE 20,iE 1],[iE 1,iE 20,iE 1],[iE 0,iE 21,iE 1],[iE 1,iE 21,iE 1]]],.m (.b true)⟩::⟨69,[.sl [[iE 20,iE (-1),iE 1],[iE 21,iE (-1),iE 1],[iE 20,iE 0,iE 1],[iE 21,iE 0,iE 1]]],.m (.b true)⟩::⟨69,[.sl [[iE (-1),iE (-21),iE 1],[iE 0,iE (-21),iE 1],[iE (-1),iE (-20),iE 1],[iE 0,iE (-20),iE 1]]],.m (.b true)⟩::⟨69,[.sl [[iE (-21),iE 0,iE 1],[iE (-20),iE 0,iE 1],[iE (-21),iE 1,iE 1],[iE (-20),iE 1,iE 1]]],.m (.b true)⟩::⟨69,[.sl [[iE 0,iE (-21),iE 1],[iE 1,iE (-21),iE 1],[iE 0,iE (-20),iE 1],[iE 1,iE (-20),iE 1]]],.m (.b true)⟩::T98
theorem Acx:BB G T104:=tE (tE (tE (tE (tE (tE AfB (by kernel_rfl)) (by kernel_rfl)) (by kernel_rfl)) (by kernel_rfl)) (by kernel_rfl)) (by kernel_rfl)
def T110:List Ent:=⟨79,[lifeE,vE5,iE 8],.tu [.m (.ag [iE 0,iE 0,iE 0]),.m (.b false),.m (iE 0)]⟩::⟨41,[lifeE,vE23],.tu [.m (.sl [[iE 20,iE 0,iE 1],[iE 21,iE 0,iE 1],[iE 20,iE 1,iE 1],[iE 21,iE 1,iE 1],[iE 3,iE 3,iE 1],[iE 4,iE 4,iE 1],[iE 5,iE 4,iE 1],[iE 3,iE 5,iE 1],[iE 4,iE 5,iE 1]]),.m (iE 0)]⟩::⟨41,[lifeE,vE24],.tu [.m vE23,.m (iE 0)]⟩::⟨41,[lifeE,vE10],.tu [.m vE24,.m (iE 0)]⟩::⟨12,[lifeE,vE1,vE33,iE 3],.tu [.m vE5,.m (iE 0)]⟩::⟨44,[lifeE,vE3,iE 1],.m (.s [115,32,50,65,36,50,65])⟩::T104
theorem Acw:BB G T110:=tE (tE (tE (tE (tE (tE Acx (by kernel_rfl)) (by kernel_rfl)) (by kernel_rfl)) (by kernel_rfl)) (by kernel_rfl)) (by kernel_rfl)
def T116:List Ent:=⟨69,[vE27],.m (.b true)⟩::⟨28,[lifeE,vE1,.ag [iE 1,iE 0,iE 0,iE 0,iE (-1)]],.tu [.m vE27,.m (iE 0)]⟩::⟨20,[.sl [[vE2],[vE25]]],.m (.b false)⟩::⟨69,[vE25],.m (.b true)⟩::⟨28,[lifeE,vE1,.ag [iE 1,iE 0,iE 0,iE (-1),iE (-1)]],.tu [.m vE25,.m (iE 0)]⟩::⟨28,[lifeE,vE1,.ag [iE 1,iE 0,iE 0,iE 0,iE 0]],.tu [.m vE2,.m (iE 0)]⟩::T110
theorem Acv:BB G T116:=tE (tE (tE (tE (tE (tE Acw (by kernel_rfl)) (by kernel_rfl)) (by kernel_rfl)) (by kernel_rfl)) (by kernel_rfl)) (by kernel_rfl)
def T122:List Ent:=⟨69,[vE29],.m (.b true)⟩::⟨28,[lifeE,vE1,.ag [iE 1,iE 0,iE 0,iE (-1),iE 0]],.tu [.m vE29,.m (iE 0)]⟩::⟨20,[.sl [[vE2],[vE26]]],.m (.b false)⟩::⟨69,[vE26],.m (.b true)⟩::⟨28,[lifeE,vE1,.ag [iE 1,iE 0,iE 0,iE 1,iE (-1)]],.tu [.m vE26,.m (iE 0)]⟩::⟨20,[.sl [[vE2],[vE27]]],.m (.b false)⟩::T116
theorem Acu:BB G T122:=tE (tE (tE (tE (tE (tE Acv (by kernel_rfl)) (by kernel_rfl)) (by kernel_rfl)) (by kernel_rfl)) (by kernel_rfl)) (by kernel_rfl)
def T128:List Ent:=⟨28,[lifeE,vE1,.ag [iE 1,iE 0,iE 0,iE (-1),iE 1]],.tu [.m vE28,.m (iE 0)]⟩::⟨20,[.sl [[vE2],[vE30]]],.m (.b false)⟩::⟨69,[vE30],.m (.b true)⟩::⟨28,[lifeE,vE1,.ag [iE 1,iE 0,iE 0,iE 1,iE 0]],.tu [.m vE30,.m (iE 0)]⟩::⟨20,[.sl [[vE2],[vE2]]],.m (.b false)⟩::⟨20,[.sl [[vE2],[vE29]]],.m (.b false)⟩::T122
theorem Acs:BB G T128:=tE (tE (tE (tE (tE (tE Acu (by kernel_rfl)) (by kernel_rfl)) (by kernel_rfl)) (by kernel_rfl)) (by kernel_rfl)) (by kernel_rfl)
def T134:List Ent:=⟨20,[.sl [[vE2],[vE19]]],.m (.b false)⟩::⟨20,[.sl [[vE2],[vE31]]],.m (.b false)⟩::⟨69,[vE31],.m (.b true)⟩::⟨28,[lifeE,vE1,.ag [iE 1,iE 0,iE 0,iE 0,iE 1]],.tu [.m vE31,.m (iE 0)]⟩::⟨20,[.sl [[vE2],[vE28]]],.m (.b false)⟩::⟨69,[vE28],.m (.b true)⟩::T128
theorem Acr:BB G T134:=tE (tE (tE (tE (tE (tE Acs (by kernel_rfl)) (by kernel_rfl)) (by kernel_rfl)) (by kernel_rfl)) (by kernel_rfl)) (by kernel_rfl)
theorem Adu:Gives G 5 [] [] (.m (.b true)) []:=Ko mono Acr (n:=100000) (by kernel_rfl)
open Go.Lib
theorem OJ (us:List V)(h:DE Go.Proofs.Tryz.prog maxLen 8 Go.Proofs.Tryz.f3.params.toList us):Gives G 3 us [] (.m (.b true)) []:=Jc Adu us h
end Go.Mx.Tryz
