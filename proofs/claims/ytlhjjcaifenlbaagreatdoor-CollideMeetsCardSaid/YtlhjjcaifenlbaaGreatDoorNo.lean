/- Shots that meet: Result of both. -/
import Derived.Test.YtlhjjcaifenlbaaGreatDoorYk
import Derived.Test.YtlhjjcaifenlbaaGreatDoorNa
import Derived.Test.YtlhjjcaifenlbaaGreatDoorItoa
import Derived.Test.YtlhjjcaifenlbaaGreatDoorDec
set_option linter.unusedSimpArgs false
set_option linter.unusedVariables false
set_option linter.unusedSectionVars false
set_option maxRecDepth 100000
namespace Go.Mx.Tryz
open Go.Lib Go.Proofs
def okE (w:Nat)(es:LT):Prop:=∀e,e∈es->e.length=w /\ ∀x,x∈e->BM (.m x)=true
@[simp] theorem Li (es:LT):(Bn es).length=es.length:=by simp[Bn]
theorem YO (xs ys:LT):Bn xs++Bn ys=Bn (xs++ys):=by simp[Bn]
variable {w:Nat} {es:LT}
theorem VL (h:okE w es):((Bn es).all fun e=>Nat.beq e.length w&&e.all BM)=true:=by
 rw[Ahu]
 intro e J
 obtain⟨x,N,rfl⟩:=AhE.1 J
 obtain⟨U,u⟩:=h x N
 rw[Ahi,Ahr,U,Ahu]
 refine⟨Nat.beq_refl _,fun v Q=>?_⟩
 obtain⟨y,E,rfl⟩:=AhE.1 Q
 exact u y E
theorem YN (es:LT):((Bn es).all fun e=>e.all isM)=true:=by
 rw[Ahu]
 intro e u
 obtain⟨x,N,rfl⟩:=AhE.1 u
 rw[Ahu]
 intro v E
 obtain⟨y,J,rfl⟩:=AhE.1 E
 rfl
def LK (ty w:Nat)(es:LT)(o:V)(H:Hp):Prop:=(es=[]/\o=.m (.nl 4))\/(es≠[] /\ ∃r,o=.sl r es.length w 0 es.length false/\nth H r=some (.cs ty w (Bn es) 0 false))
variable {ty:Nat} {H:Hp}
theorem LK.nil:LK ty w [] (.m (.nl 4)) H:=.inl ⟨rfl,rfl⟩
variable {o:V}
theorem LK.nf (h:LK ty w es o H):AB o=true/\Ay o=some [o]/\BM o=true/\Aq (.len false) [o]=some (J0 (es.length:Nat)):=by
 rcases h with ⟨rfl,rfl⟩|⟨u,r,rfl,E⟩
 ·exact⟨rfl,rfl,rfl,rfl⟩
 ·exact⟨rfl,rfl,rfl,rfl⟩
theorem LK.elems (h:LK ty w es o H):Mx.elems H o=some (Bn es):=by
 rcases h with ⟨rfl,rfl⟩|⟨E,r,rfl,u⟩
 ·rfl
 ·rw[DX,u]
  show gd (Nat.ble 0 es.length&&Nat.beq w w) (some (((Bn es).drop 0).take es.length))=_
  rw[Bh,Ahq (Aho _),Aio,Ahz (by simp),Nat.beq_refl]
  rfl
def zK (es:LT):I:=if es=[] then .nl 4 else .sl es
theorem zK_sl (es:LT):IsSl (zK es) es:=by
 unfold zK
 split
 ·rename_i h;subst h;exact AM
 ·exact Bf _
theorem optE (k:Nat)(H:Hp):∀e:List I,Ah (view (k+1) H) (e.map V.m)=some e
 | []=>rfl
 | x::r=>by
  show Option.bind (some x) _=_
  simp only[Ahp]
  show Option.bind (Ah _ (r.map V.m)) _=_
  rw[optE k H r]
  rfl
theorem optK (k:Nat)(H:Hp):∀es:LT,Ah (fun e=>Ah (view (k+1) H) e) (Bn es)=some es
 | []=>rfl
 | e::r=>by
  show Option.bind (Ah (view (k+1) H) (e.map V.m)) _=_
  rw[optE,Ahp]
  show Option.bind (Ah _ (Bn r)) _=_
  rw[optK k H r]
  rfl
theorem LK.view (h:LK ty w es o H)(k:Nat):Mx.view (k+2) H o=some (zK es):=by
 have E:=h.elems
 rcases h with ⟨rfl,rfl⟩|⟨u,r,rfl,J⟩
 ·rfl
 ·show Option.bind (Mx.elems H (.sl r es.length w 0 es.length false)) _=_
  rw[E]
  show Option.bind (Ah (fun e=>Ah (Mx.view (k+1) H) e) (Bn es)) _=_
  rw[optK]
  unfold zK
  rw[Ahj u]
  rfl
noncomputable def jnF (L:List Ce):List Ce×Int:=if 5000<L.length then ([],6) else (AP L,0)
theorem Adp {v:I}{L:List Ce}(Z:IsSl v (Af L))(hl:L.length<=1000000)(W:∀c,c∈L->Cz c=true)(N:L.Pairwise apart)(H:Hp):Gives G 35 [.m v] H (.tu [.m (zP (jnF L).1),J0 (jnF L).2]) H:=by
 rcases Aag Z hl H with ⟨e,Q,_⟩|⟨_,q,E,u,g⟩
 ·rw[HP W]at Q
  cases Q
 ·rw[QF W]at E
  have U:=Wp u (Fh E N)
  have e:q=AP L:=KV (CZ N) U (E.trans (Bp L).symm)
  have Y:tw q=false:=Aci U
  have el:q.length=L.length:=E.length_eq
  unfold Aeb at g
  rw[Y,Ahj (by simp),el,e]at g
  unfold jnF
  split at g
  ·rename_i J
   rw[Ahl J]
   exact g
  ·rename_i J
   rw[Ahj J]
   exact g
variable {ps:List (List Ce)}
theorem Ff (h:∀p,p∈ps->p.length<=5000):ps.flatten.length<=5000*ps.length:=by
 induction ps with
 | nil=>simp
 | cons p r u =>
  have N:=h p (AhG ..)
  have J:=u fun q E=>h q (AhZ _ E)
  simp only[Aic,Ahv,AhR]
  omega
theorem Nl {i:Nat}{q:List Ce}(h:ps[i]? = some q):(ps.take (i+1)).flatten=(ps.take i).flatten++q:=by
 rw[As h]
 simp
theorem YI (h:En ps):FH ps=jnF ps.flatten:=by
 unfold FH jnF
 rw[Ahl h]
variable {t:TreeC}
theorem Ym (J:Dr t){p:List Ce}(E:CB t p=0)(n:Nat):(BQ t n p).1.length<=5000:=by
 by_cases u:(BQ t n p).2=0
 ·exact(Aw (BU (UO J n p E u)).2.1).2.2
 ·rw[ZU n p u];simp
theorem AcK (u:Dr t)(p:List Ce)(n:Int):(rnE t p n).1.length<=5000:=by
 unfold rnE
 split
 ·rename_i E
  split
  ·exact Ym u E _
  ·simp
 ·simp
variable {B n:Nat} {l:List I}
theorem Sg (h:Fits Go.Proofs.Tryz.prog B (n+2) 67 l):∃m:Int×Int×Int,l=[J4 m.1,J4 m.2.1,J4 m.2.2]:=by
 unfold Fits at h
 rw[Go.Proofs.Tryz.underlying67]at h
 simp only[GZ]at h
 obtain⟨Z,Q,rfl,E,N,W,rfl,J,Y,U,rfl,u,rfl⟩:=h
 obtain⟨a,rfl,_⟩:=BI E
 obtain⟨b,rfl,_⟩:=BI J
 obtain⟨c,rfl,_⟩:=BI u
 exact⟨(a,b,c),rfl⟩
theorem YY (h:Fits Go.Proofs.Tryz.prog B (n+4) 69 l):∃(s:Sh) (v:I),l=shI v s/\IsSl v (Af s.c)/\s.c.length<=B:=by
 unfold Fits at h
 rw[Go.Proofs.Tryz.underlying69]at h
 simp only[GZ]at h
 obtain⟨Y,U,rfl,J,Q,W,rfl,N,rfl⟩:=h
 obtain⟨p,v,rfl,E,u⟩:=Adq J
 obtain⟨m,rfl⟩:=Sg N
 exact⟨⟨p,m⟩,v,rfl,E,u⟩
theorem YX (h:Fits Go.Proofs.Tryz.prog B (n+2) 57 l):∃x:St5,l=FL x:=by
 unfold Fits at h
 rw[Go.Proofs.Tryz.underlying57]at h
 simp only[GZ]at h
 obtain⟨W,y1,rfl,E,Z,Q,rfl,J,U,y3,rfl,N,x4,y4,rfl,u,x5,Y,rfl,k5,rfl⟩:=h
 obtain⟨a,rfl,_⟩:=BI E
 obtain⟨b,rfl,_⟩:=BI J
 obtain⟨c,rfl,_⟩:=BI N
 obtain⟨d,rfl,_⟩:=BI u
 obtain⟨e,rfl,_⟩:=BI k5
 exact⟨⟨a,b,c,d,e⟩,rfl⟩
theorem VU (h:∀x,x∈es -> ∃d:St5,x=FL d):∃p:List St5,es=Fl p:=by
 induction es with
 | nil=>exact⟨[],rfl⟩
 | cons x r u =>
  obtain⟨d,rfl⟩:=h x (by simp)
  obtain⟨p,rfl⟩:=u fun x E=>h x (by simp[E])
  exact⟨d::p,rfl⟩
theorem VV (h:∀x,x∈es -> ∃(s:Sh) (v:I),x=shI v s/\IsSl v (Af s.c)/\s.c.length<=B):∃l:List Sh,es.length=l.length /\ ∀(i:Nat) (s:Sh),l[i]? = some s->s.c.length<=B /\ ∃v,nth es i=some (shI v s)/\IsSl v (Af s.c):=by
 induction es with
 | nil=>exact⟨[],rfl,fun i s u=>by simp at u⟩
 | cons x r Q =>
  obtain⟨s,v,rfl,W,J⟩:=h x (by simp)
  obtain⟨l,Y,N⟩:=Q fun x U=>h x (by simp[U])
  refine⟨s::l,by simp[Y],fun i E u=>?_⟩
  cases i with
  | zero=>cases u;exact⟨J,v,rfl,W⟩
  | succ i=>exact N i E (by simpa using u)
end Go.Mx.Tryz
namespace Go.Mx.Tryz
open Go.Lib
def Kp (H:Hp)(o:V)(H1:Hp)(o1:V):Prop:=H.length<=H1.length/\(∀r,r<H.length->AH o≠some r->nth H1 r=nth H r) /\ ∀r,AH o1=some r->AH o=some r\/H.length<=r
theorem Kp.refl (H:Hp)(o:V):Kp H o H o:=⟨Ahk _,fun _ _ _=>rfl,fun _ h=>.inl h⟩
variable {H:Hp} {o:V}
theorem Kp.trans {N W:Hp}{U Q:V}(h:Kp H o N U)(k:Kp N U W Q):Kp H o W Q:=by
 obtain⟨a1,Y,J⟩:=h
 obtain⟨b1,b2,Z⟩:=k
 refine⟨by omega,fun r E u=>?_,fun r E=>?_⟩
 ·rw[b2 r (by omega) fun e=>?_,Y r E u]
  rcases J r e with h|h
  ·exact u h
  ·omega
 ·rcases Z r E with h|h
  ·exact J r h
  ·exact .inr (by omega)
theorem LR.pushN {ty b:Nat}{xs:List I}(h:LR ty xs o H HQ)(hb:b<=1000){ys:List I}(hl:xs.length+ys.length<=100000000)(Z:Aed ys):∃Q U,(∀B,EK ⟨B,H⟩ ty 1 b o (onV ys)=some (Q,⟨B,U⟩))/\AB Q=true/\LR ty (xs++ys) Q U HQ/\Kp H o U Q:=by
 have N:(xs.length+ys.length)*b<=100000000*1000:=Nat.mul_le_mul hl hb
 cases ys with
 | nil =>
  refine⟨o,H,fun B=>?_,h.nf.1,by rw[Aid];exact h,.refl _ _⟩
  rcases h with ⟨rfl,rfl⟩|⟨W,r,E,rfl,Y⟩ <;> rfl
 | cons y t =>
  rcases h with ⟨rfl,rfl⟩|⟨W,r,E,rfl,Y⟩
  ·refine⟨.sl H.length (y::t).length 1 0 (y::t).length false,H++[.cs ty 1 (onV (y::t)) 0 false],fun B=>?_,rfl,.inr ⟨by simp,H.length,AhY,rfl,CU H _ 0⟩,by simp,fun r E _=>BK _ _ _ E,fun r E=>.inr (by cases E;exact Ahk _)⟩
   show Bv ⟨B,H⟩ ty 1 b (onV (y::t))=_
   rw[Dj,IY Z,DL]
   have:Nat.ble ((y::t).length*b) 140737488355328=true:=by
    rw[Bh]
    refine Ahq ?_
    simp only[AhW,Aih]at N
    omega
   rw[this]
   rfl
  ·have u:=fun B=>CC (M:=⟨B,H⟩) (bytes:=b) (xs:=onV (y::t)) Y (by simp[onV]) (by simp only[DL];omega) (IY Z)
   simp only[DL,Oz]at u
   have el:xs.length+(y::t).length=(xs++y::t).length:=by simp
   rw[el]at u
   refine⟨_,_,u,rfl,.inr ⟨by simp,r,AhY,rfl,Be (AQ Y)⟩,by simp,fun q hq J=>AF fun e=>?_,fun q hq=>.inl hq⟩
   subst e
   exact J rfl
def bI (s:List Nat):List I:=s.map fun c:Nat=>.i .u8 (c:Int)
@[simp] theorem Rb (s:List Nat):(bI s).length=s.length:=by simp[bI]
theorem Rc (s t:List Nat):bI s++bI t=bI (s++t):=by simp[bI]
theorem KZ (s:List Nat):Aed (bI s):=fun x u=>by
 obtain⟨y,_,rfl⟩:=AhE.1 u
 rfl
theorem Agk (s:List Nat):(s.map fun c:Nat=>[V.m (.i .u8 (c:Int))])=onV (bI s):=by simp[onV,bI]
theorem Vi:∀(d:List UInt8),d.map RI=onV (bI (d.map UInt8.toNat))
 | []=>rfl
 | c::r=>by
  show RI c::r.map RI=_
  rw[Vi r]
  rfl
theorem QY:∀(s:List Nat),(∀c,c∈s->c<256)->Ft (onV (bI s))=some s
 | [],_=>rfl
 | c::r,h=>by
  show gd (Nat.blt c 256) ((Ft (onV (bI r))).bind fun l=>some (c::l))=_
  rw[Oj,Ahq (h c (by simp)),QY r fun x u=>h x (by simp[u])]
  rfl
theorem AfW (nd:Nat)(h:nd<=24):([[V.m (.i .u8 0)],[V.m (.i .u8 0)],[V.m (.i .u8 0)],[V.m (.i .u8 0)],[V.m (.i .u8 0)],[V.m (.i .u8 0)],[V.m (.i .u8 0)],[V.m (.i .u8 0)],[V.m (.i .u8 0)],[V.m (.i .u8 0)],[V.m (.i .u8 0)],[V.m (.i .u8 0)],[V.m (.i .u8 0)],[V.m (.i .u8 0)],[V.m (.i .u8 0)],[V.m (.i .u8 0)],[V.m (.i .u8 0)],[V.m (.i .u8 0)],[V.m (.i .u8 0)],[V.m (.i .u8 0)],[V.m (.i .u8 0)],[V.m (.i .u8 0)],[V.m (.i .u8 0)],[V.m (.i .u8 0)]]:L0)=Hq [] (Array.replicate nd 0) (List.replicate (24-nd) [.m (.i .u8 0)]):=by
 unfold Hq
 have:(Array.replicate nd (0:UInt8)).toList.map RI=List.replicate nd [.m (.i .u8 0)]:=by simp[RI]
 rw[this,List.replicate_append_replicate]
 rw[show nd+(24-nd)=24 by omega]
 rfl
variable {s:List Nat}
theorem AgX (h:LR 5 (bI s) o H HQ)(hl:s.length<=1000000)(u:Nat)(hu:u<18446744073709551616):
  ∃J N,Gives G 271 [o,.m (.i .u64 u),J0 10] H J N/\AB J=true/\LR 5 (bI (s++GL u)) J N HQ/\Kp H o N J:=by
 have hd:=Zg u hu
 have a0:=h.nf
 by_cases Z:u<100
 ·have g:=Yi u Z
  have E:(u:Int)<100:=by omega
  obtain⟨J,N,ha,n1,U,k1⟩:=h.pushN (b:=1) (by omega) (ys:=bI (GL u)) (by simp only[Rb];omega) (KZ _)
  rw[Rc]at U
  refine⟨J,N,?_,n1,U,k1⟩
  have w:wr .i64 (u:Int)=u:=Aaq u (by omega)
  rw[<-Agk]at ha
  refine .of_ret (Bg mono rfl rfl rfl ?_ rfl ?_)
  ·simp[a0.1]
  ·simp[E,w,cl (g _),ha,Al n1,n1]
 ·have E:¬(u:Int)<100:=by omega
  have hnd:=nDigits_le20 u (by omega)
  have hnp:=nDigits_pos u
  obtain⟨d',v',hi,g2⟩:=fmt10 [] (List.replicate (24-nDigits u) [.m (.i .u8 0)]) (Array.replicate (nDigits u) 0) u 24 295 0 false H [] (by simp;omega) (by simpa using lt_pow_nDigits u) (by omega) (by simpa using hnp) (by simp;omega) (by omega)
  simp only[Array.size_replicate,AhW]at hi g2
  have hf:=XA hi
  have Y:=hi.size
  generalize hN:nDigits u=nd at *
  have g1:=fun H=>Agm u (by omega) hu H
  simp only[hN]at g1
  have Q:=AfW nd (by omega)
  have hb:(Hq [] d' (List.replicate (24-nd) [.m (.i .u8 0)])).take nd=onV (bI (GL u)):=by
   have:=Rt [] d' (List.replicate (24-nd) [V.m (.i .u8 0)])
   simp only[AhW,Y,Aio]at this
   rw[this,Vi,hf]
  have h2:LR 5 (bI s) o (H++[Row.cs 295 1 (Hq [] d' (List.replicate (24-nd) [.m (.i .u8 0)])) 24 false]) HQ:=h.keepR fun r _ W=>BK _ _ _ W
  obtain⟨J,N,ha,n1,U,k1⟩:=h2.pushN (b:=1) (by omega) (ys:=bI (GL u)) (by simp only[Rb];omega) (KZ _)
  rw[Rc]at U
  refine⟨J,N,?_,n1,U,?_⟩
  ·have e1:¬nd=24:=by omega
   have e2:nd+(24-nd)=24:=by omega
   have e3:(nd:Int)<=24:=by omega
   refine .of_ret (Bg mono rfl rfl rfl ?_ rfl ?_)
   ·simp[a0.1]
   ·simp[E,cl (g1 _),Q,e1,e2,e3,cl g2,Y,hb,ha,DX,AC,Al n1,n1]
  ·obtain⟨a1,a2,a3⟩:=k1
   simp only[Ahv,Ais]at a1 a2 a3
   exact⟨by omega,fun r W hne=>by rw[a2 r (by omega) hne];exact BK _ _ _ W,fun r W=>(a3 r W).imp_right fun h=>by omega⟩
theorem AgY (h:LR 5 (bI s) o H HQ)(hl:s.length<=900000)(n:Int)(h0:-4611686018427387904<=n)(h1:n<=4611686018427387904):
  ∃u E,Gives G 229 [o,J0 n,J0 10] H u E/\AB u=true/\LR 5 (bI (s++CH n)) u E HQ/\Kp H o E u:=by
 have N:=h.nf
 have Y:∃u E,Gives G 251 [o,J0 n,J0 10] H u E/\AB u=true/\LR 5 (bI (s++CH n)) u E HQ/\Kp H o E u:=by
  by_cases hn:n<0
  ·have en:CH n=45::GL n.natAbs:=by
    have:=EG n.natAbs (by omega)
    rwa[show -((n.natAbs:Nat):Int)=n by omega]at this
   have W:wr .u64 (-wr .u64 n)=(n.natAbs:Int):=by rw[Gr,Gr];omega
   obtain⟨o2,H2,Z,n2,l2,k2⟩:=h.pushN (b:=1) (by omega) (ys:=bI [45]) (by simp only[Rb,Ais];omega) (KZ _)
   rw[Rc]at l2
   obtain⟨u,E,g,n1,J,Q⟩:=AgX l2 (by simp;omega) n.natAbs (by omega)
   rw[Aip,List.singleton_append,<-en]at J
   refine⟨u,E,?_,n1,J,k2.trans Q⟩
   refine .of_ret (Bg mono rfl rfl rfl ?_ rfl ?_)
   ·simp[N.1]
   ·have hb:onV (bI [45])=[[V.m (.i .u8 45)]]:=rfl
    rw[hb]at Z
    simp[hn,W,Z,cl g,Al n2,Al n1,n1]
  ·have ep:CH n=GL n.natAbs:=by
    have:=EF n.natAbs
    rwa[show ((n.natAbs:Nat):Int)=n by omega]at this
   have U:wr .u64 n=(n.natAbs:Int):=by rw[Gr];omega
   obtain⟨u,E,g,n1,J,Q⟩:=AgX h (by omega) n.natAbs (by omega)
   rw[<-ep]at J
   refine⟨u,E,?_,n1,J,Q⟩
   refine .of_ret (Bg mono rfl rfl rfl ?_ rfl ?_)
   ·simp[N.1]
   ·simp[hn,U,cl g,Al n1,n1]
 obtain⟨u,E,g,n1,J,Q⟩:=Y
 refine⟨u,E,?_,n1,J,Q⟩
 refine .of_ret (Bg mono rfl rfl rfl ?_ rfl ?_)
 ·simp[N.1]
 ·simp[cl g,Al n1,n1]
open Go.Proofs
theorem Yl {z y:I}{c d:List Int}(hz:IsSl z (BT c))(hy:IsSl y (BT d))(hc:c.length<=9223372036854775807)(H:Hp):Gives G 210 [.m z,.m y] H (.m (.b (decide (c=d)))) H:=by
 have N:=hz.rules
 have U:=hy.rules
 simp only[Bo]at N U
 refine Ae rfl rfl rfl rfl rfl ?_
 generalize hE:decide (c=d)=E
 have no:c≠d->E=false:=fun h=>by rw[<-hE];exact Ahs h
 by_cases Q:c.length=d.length
 case neg =>
  have k:=no fun e=>Q (by rw[e])
  have W:¬(c.length:Int)=d.length:=by omega
  simp (disch:=omega) [N,U,W,k]
 simp (disch:=omega) [N,U,Q]
 refine(?key:∀(j:Nat) (B:LE),j<=d.length->c.take j=d.take j->Run G c210_B0 (S210_0 (.m z) (.m y) (J0 (j:Int)) B []) _) 0 _ (Aho _) rfl
 refine Bl (fun j:Nat=>d.length-j) fun j ih B hj Y=>?_
 unfold c210_B0
 cases hv:d[j]? with
 | none =>
  have:j=d.length:=by have:=Ahn.1 hv;omega
  subst this
  rw[AhI,<-Q,AhI]at Y
  have k:E=true:=by rw[<-hE];exact Ahq Y
  simp (disch:=omega) [N,Q,k]
 | some w =>
  have hltj:=(Ahg.1 hv).1
  have u:(j:Int)<d.length:=by omega
  obtain⟨v,J⟩:∃v,c[j]? = some v:=⟨c[j],Ahh (by omega)⟩
  have Z:=Cg J
  have m2:=Cg hv
  have wj:=J1 j (by omega)
  by_cases e:v=w
  ·have k:=ih (j+1) (by omega) B (by omega) (PZ Y J hv e)
   subst e
   simp (disch:=omega) [N,U,Q,u,Z,m2,wj,-Int.natCast_add]
   exact k
  ·have k:=no fun h=>e (by have:=AiE (fun l=>l[j]?) h;simp only[J,hv]at this;exact Aik this)
   simp (disch:=omega) [N,U,Q,u,Z,m2,e,k,-Int.natCast_add]
end Go.Mx.Tryz
namespace Go.Mx.Tryz
def LW (ty:Nat)(xs:List I)(o:V)(H:Hp)(ok:Nat->Prop):Prop:=(xs=[]/\(o=.m (.nl 4)\/o=.ls [])) \/
 ∃(r:Nat) (es:List I) (base:Nat) (lim:Bool),ok r/\o=.sl r es.length 1 0 xs.length lim/\nth H r=some (.cs ty 1 (onV es) base false)/\base<=es.length/\xs.length<=es.length/\es.take xs.length=xs
variable {ty:Nat} {xs:List I} {o:V} {H:Hp} {ok:Nat->Prop}
theorem LW.nf (h:LW ty xs o H ok):AB o=true/\Ay o=some [o]/\BM o=true/\Aq (.len false) [o]=some (J0 (xs.length:Nat)):=by
 rcases h with ⟨rfl,rfl|rfl⟩|⟨r,es,u,E,N,rfl,Q,J⟩
 ·exact⟨rfl,rfl,rfl,rfl⟩
 ·exact⟨rfl,rfl,rfl,rfl⟩
 ·exact⟨rfl,rfl,rfl,rfl⟩
variable {i:Nat}
theorem Ya {es:List I}(h:es.take xs.length=xs){x:I}(E:xs[i]? = some x):es[i]? = some x:=by
 have u:=(Ahg.1 E).1
 have e:(es.take xs.length)[i]? = some x:=by rw[h];exact E
 rwa[AhN,Ahl u]at e
theorem LW.rd (h:LW ty xs o H ok){x:I}(J:xs[i]? = some x):∃p,Aq (.ixa 1) [o,J0 (i:Int)]=some p/\AB p=true /\ ∀B,readX ⟨B,H⟩ (.ld false 1) [p]=some (.m x):=by
 have E:=(Ahg.1 J).1
 rcases h with ⟨rfl,_⟩|⟨r,es,N,U,Z,rfl,Y,Q,h5,W⟩
 ·simp at E
 ·have u:=Ya W J
  refine⟨.pt r es.length i 0,?_,rfl,fun B=>?_⟩
  ·simp (disch:=omega) []
  ·have e:readX ⟨B,H⟩ (.ld false 1) [V.pt r es.length i 0]=(readA ⟨B,H⟩ 1 (V.pt r es.length i 0)).bind fun cs=>DD false cs:=rfl
   simp (disch:=omega) [Ab,Ci u,Y,Q]
theorem LW.elems (h:LW ty xs o H ok):Mx.elems H o=some (onV xs):=by
 rcases h with ⟨rfl,rfl|rfl⟩|⟨r,es,u,J,U,rfl,Q,E,W,N⟩
 ·rfl
 ·rfl
 ·rw[DX,Q]
  show gd (Nat.ble u es.length&&Nat.beq 1 1) (some (((onV es).drop 0).take xs.length))=_
  rw[Bh,Ahq E,AcZ,Aio,N]
  rfl
theorem LW.view (h:LW ty xs o H ok)(k:Nat):∃z,Mx.view (k+2) H o=some z/\IsSl z (on1 xs)/\BM (.m z)=true:=by
 have J:=h.elems
 rcases h with ⟨rfl,rfl|rfl⟩|⟨r,es,E,u,Q,rfl,Y,N,U,W⟩
 ·exact⟨_,rfl,AM,rfl⟩
 ·exact⟨_,rfl,Bf _,rfl⟩
 ·refine⟨.sl (on1 xs),?_,Bf _,rfl⟩
  show Option.bind (Mx.elems H (.sl r es.length 1 0 xs.length u)) _=_
  rw[J]
  show Option.bind (Ah (fun e=>Ah (Mx.view (k+1) H) e) (onV xs)) _=_
  rw[optV]
  rfl
theorem YM (xs:List I):Bn (on1 xs)=onV xs:=by
 unfold Bn on1 onV
 rw[Aim]
 rfl
open Go.Lib Go.Proofs
theorem LK.push2 {w b:Nat}{xs:LT}(h:LK ty w xs o H)(hw:1<=w)(hb:b<=1000){ys:LT}(hl:xs.length+ys.length<=100000000)(Z:okE w ys):∃Q N,(∀B,EK ⟨B,H⟩ ty w b o (Bn ys)=some (Q,⟨B,N⟩))/\AB Q=true/\LK ty w (xs++ys) Q N/\H.length<=N.length/\(∀r,¬AH o=some r->r<H.length->nth N r=nth H r) /\ ∀r,AH Q=some r->AH o=some r\/H.length<=r:=by
 have J:(xs.length+ys.length)*b<=100000000*1000:=Nat.mul_le_mul hl hb
 cases ys with
 | nil =>
  refine⟨o,H,fun B=>?_,h.nf.1,by rw[Aid];exact h,Ahk _,fun _ _ _=>rfl,fun r E=>.inl E⟩
  rcases h with ⟨rfl,rfl⟩|⟨W,r,rfl,Y⟩ <;> rfl
 | cons y t =>
  rcases h with ⟨rfl,rfl⟩|⟨W,r,rfl,Y⟩
  ·refine⟨.sl H.length (y::t).length w 0 (y::t).length false,H++[.cs ty w (Bn (y::t)) 0 false],fun B=>?_,rfl,.inr ⟨by simp,H.length,rfl,CU H _ 0⟩,by simp,fun r _ E=>BK _ _ _ E,fun r E=>.inr (by cases E;exact Ahk _)⟩
   show Bv ⟨B,H⟩ ty w b (Bn (y::t))=_
   rw[Dj,VL Z,Li]
   have h1:Nat.ble ((y::t).length*b) 140737488355328=true:=by
    rw[Bh]
    refine Ahq ?_
    simp only[AhW,Aih]at J
    omega
   have h2:Nat.ble 1 w=true:=by rw[Bh];exact Ahq hw
   rw[h1,h2]
   rfl
  ·have u:=fun B=>CC (M:=⟨B,H⟩) (bytes:=b) (xs:=Bn (y::t)) Y (by simp[Bn]) (by simp only[Li];omega) (VL Z)
   simp only[Li,YO]at u
   have el:xs.length+(y::t).length=(xs++y::t).length:=by simp
   rw[el]at u
   refine⟨_,_,u,rfl,.inr ⟨by simp,r,rfl,Be (AQ Y)⟩,by simp,fun q U _=>AF fun e=>U ?_,fun q U=>.inl U⟩
   rw[e]
   rfl
def LG (ty:Nat)(xs:List I)(o:V)(H:Hp):Prop:=(xs=[]/\o=.m (.nl 4)) \/ ∃(r:Nat) (base:Nat),o=.sl r xs.length 1 0 xs.length false/\nth H r=some (.cs ty 1 (onV xs) base false)/\base<=xs.length/\xs≠[]
theorem LG.toLW (h:LG ty xs o H):LW ty xs o H (fun _=>True):=by
 rcases h with ⟨N,E⟩|⟨r,u,rfl,Q,J,_⟩
 ·exact .inl ⟨N,.inl E⟩
 ·exact .inr ⟨r,xs,u,false,AhY,rfl,Q,J,Ahk _,AhI⟩
theorem LR.toLG (h:LR ty xs o H ok):LG ty xs o H:=by
 rcases h with ⟨rfl,rfl⟩|⟨u,r,J,rfl,E⟩
 ·exact .inl ⟨rfl,rfl⟩
 ·exact .inr ⟨r,0,rfl,E,Aho _,u⟩
theorem LK.callP {w:Nat}{es:LT}(h:LK ty w es o H)(Z:Ww w es=true){F:Nat}{x:V}(N:G.prim F=none)(hs:G.sh F=false)(J:∀H,Gives G F [.m (zK es)] H x H):∃E,Gives G F [o] H x E/\E.length=H.length /\ ∀r,¬AH o=some r->nth E r=nth H r:=by
 have Q:Ah (Mx.view 20 H) [o]=some [zK es]:=by
  simp only[Ah,h.view 18,Ahp]
 rcases h with ⟨rfl,rfl⟩|⟨Y,r,rfl,U⟩
 ·exact⟨H,J H,rfl,fun _ _=>rfl⟩
 ·cases hf:FD x with
  | true=>exact⟨_,AU (is:=[zK es]) N hs (J []) Q (.inr ⟨by simp[Du,Fp],hf⟩),rfl,fun _ _=>rfl⟩
  | false =>
   have u:AX ([V.sl r es.length w 0 es.length false].flatMap Du) H=some (H.set r (.cs ty w (Bn es) 0 true)):=by
    show Option.bind (nth H r) _=_
    rw[U]
    show Option.bind (gd ((Bn es).all fun e=>e.all isM) (some (Row.cs ty w (Bn es) 0 true))) _=_
    rw[YN]
    show Option.bind (AO H r _) _=_
    rw[AA _ _ _ (AQ U)]
    rfl
   exact⟨_,BW (is:=[zK es]) N hs (J []) Q (by simp[Du,Fp]) hf rfl u,by simp,fun q W=>AF fun e=>W (by rw[e];rfl)⟩
variable {us:List I} {ps:List (List Ce)}
set_option maxHeartbeats 4000000 in
theorem Lg (hL:LG 29 us o H)(hP:Gq us ps)(E:∀p,p∈ps->right p=true)(hd:En ps)(hl:us.length<=16):∃v H',Gives G 55 [o] H v H'/\(H.length<=H'.length/\(∀r,r<H.length->nth H' r=nth H r)/\v=.tu [.m (zP (FH ps).1),J0 (FH ps).2]):=by
 have hpl:ps.length<=16:=by rw[<-hP.1];exact hl
 have hgd:=VT E
 have hap:=(GY E).2 hd
 have a4:∀L:List Ce,(Af L).length=L.length:=fun L=>by simp[Af]
 have hW:=hL.toLW
 obtain⟨W,hcel0,hone0,Z⟩:=hW.nf
 have hfl:=Ff (ps:=ps) fun p hp=>(Aw (E p hp)).2.2
 have hrlt:∀r,AH o=some r->r<H.length:=fun r N=>by
  rcases hL with ⟨_,rfl⟩|⟨q,Y,rfl,h3,_,_⟩
  ·cases N
  ·cases N;exact AQ h3
 rw[YI hd]
 refine AJ ?_
 refine Bg mono rfl rfl rfl (by simp[W]) rfl ?_
 generalize hQ:(fun(v:V) (H':Hp)=>H.length<=H'.length/\(∀r,r<H.length->nth H' r=nth H r)/\v=.tu [.m (zP (jnF ps.flatten).1),J0 (jnF ps.flatten).2])=Q
 have qk:∀H',H.length<=H'.length->(∀r,r<H.length->nth H' r=nth H r)->Q (.tu [.m (zP (jnF ps.flatten).1),J0 (jnF ps.flatten).2]) H':=fun H' h1 h2=>by rw[<-hQ];exact⟨h1,h2,rfl⟩
 clear hQ
 simp (disch:=omega) [Z,Al W]
 refine(?key:∀(i:Nat) (c:V) (B:LE) (U:Hp),i<=us.length->LK 73 3 (Af (ps.take i).flatten) c U->(∀r,AH c=some r->H.length<=r)->H.length<=U.length->(∀r,r<H.length->nth U r=nth H r)->Run G c55_B0 (S55_0 c o (.m (.i .i64 (us.length:Int))) (.m (.i .i64 (i:Int))) B U) _) 0 _ _ H (Aho _) LK.nil (fun r N=>by cases N) (Ahk _) (fun _ _=>rfl)
 refine Bl (fun i:Nat=>us.length-i) fun i ih c B U hi hc a0 hlen1 J=>?_
 unfold c55_B0
 obtain⟨n1,n2,n3,n4⟩:=hc.nf
 have hW1:LW 29 us o U (fun _=>True):=by
  rcases hL with h|⟨q,Y,h2,h3,h4,h5⟩
  ·exact LG.toLW (.inl h)
  ·exact LG.toLW (.inr ⟨q,Y,h2,by rw[J q (AQ h3)];exact h3,h4,h5⟩)
 by_cases hil:i<us.length
 ·have a5:(i:Int)<us.length:=by omega
  have wi:=J1 i (by omega)
  obtain⟨u,hu⟩:∃u,us[i]? = some u:=⟨_,Ahh hil⟩
  obtain⟨q,hq⟩:∃q,ps[i]? = some q:=⟨_,Ahh (by have:=hP.1;omega)⟩
  have hsq:=hP.2 i u q hu hq
  obtain⟨pp,a1,a2,a3⟩:=hW1.rd hu
  have hru:=hsq.rules
  have hfi:=Ff (ps:=ps.take i) fun p hp=>(Aw (E p (Ain hp))).2.2
  rw[Ahx]at hfi
  have hql:=(Aw (E q (Ahm hq))).2.2
  obtain⟨c1,H2,ha,hn1,a9,hlen2,a8,a6⟩:=hc.push2 (by omega) (b:=24) (by omega) (ys:=Af q) (by rw[a4,a4];omega) (fun e he=>by
   unfold Af at he
   obtain⟨x,_,rfl⟩:=AhE.1 he
   exact⟨rfl,fun y hy=>by unfold Ce.i at hy;simp only[AhF,List.not_mem_nil,or_false]at hy;rcases hy with rfl|rfl|rfl <;> rfl⟩)
  have e1:Af (ps.take i).flatten++Af q=Af (ps.take (i+1)).flatten:=by rw[Nl hq];unfold Af;rw[List.map_append]
  rw[e1]at a9
  have ha2:∀B,An (fun _ _ _=>none) ⟨B,U⟩ (.app 73 3 24) [c,.m u]=some (c1,⟨B,H2⟩):=fun B=>by
   rw[Cl (hru.2.2 U)]
   exact ha B
  have a7:∀r,AH c1=some r->H.length<=r:=fun r N=>by
   rcases a6 r N with h|h
   ·exact a0 r h
   ·omega
  have k2:=fun B'=>ih (i+1) (by omega) c1 B' H2 (by omega) a9 a7 (by omega) (fun r N=>by rw[a8 r (fun h=>by have:=a0 r h;omega) (by omega)];exact J r N)
  simp (disch:=omega) [a5,a1,a3,-Dz,ha2,wi,Al hn1,-Int.natCast_add]
  exact k2 _
 ·have:i=us.length:=by omega
  subst this
  rw[Ahz (by have:=hP.1;omega)]at hc
  have gF:=fun H=>Adp (zK_sl (Af ps.flatten)) (by omega) hgd hap H
  obtain⟨H2,gG,hl2,hk2⟩:=hc.callP (by cases ps.flatten <;> rfl) rfl rfl gF
  have k2:=qk H2 (by omega) (fun r N=>by rw[hk2 r (fun h=>by have:=a0 r h;omega)];exact J r N)
  generalize jnF ps.flatten=r at *
  generalize zP r.1=zz at *
  simp (disch:=omega) [cl gG]
  exact k2
def SfC (L:List Ce)(o:V)(H:Hp):Prop:=(L=[]/\o=.m (.nl 4)) \/ ∃(r:Nat) (F:List Ce) (k:Nat),o=.sl r F.length 3 k L.length false/\nth H r=some (.cs 73 3 (AE F) 0 false)/\F.drop k=L
variable {L:List Ce}
theorem SfC.keep {H':Hp}(h:SfC L o H)(J:∀r,r<H.length->nth H' r=nth H r):SfC L o H':=by
 rcases h with h|⟨r,F,k,rfl,u,E⟩
 ·exact .inl h
 ·exact .inr ⟨r,F,k,rfl,by rw[J r (AQ u)];exact u,E⟩
theorem LK.toSf (h:LK 73 3 (Af L) o H):SfC L o H:=by
 rcases h with ⟨E,u⟩|⟨_,r,rfl,J⟩
 ·exact .inl ⟨by simpa[Af]using E,u⟩
 ·refine .inr ⟨r,L,0,by simp[Af],?_,rfl⟩
  rw[J,QK]
theorem SfC.nf (h:SfC L o H):AB o=true/\Aq (.len false) [o]=some (J0 (L.length:Nat)):=by
 rcases h with ⟨rfl,rfl⟩|⟨r,F,k,rfl,_,_⟩ <;> exact⟨rfl,rfl⟩
theorem SfC.cons {c:Ce}{s:List Ce}(h:SfC (c::s) o H):∃(r:Nat) (F:List Ce) (k:Nat),o=.sl r F.length 3 k (s.length+1) false/\nth H r=some (.cs 73 3 (AE F) 0 false)/\CW 3 (AE F) k 0 1=some [J0 c.x]/\CW 3 (AE F) k 1 1=some [J0 c.y]/\CW 3 (AE F) k 0 3=some [J0 c.x,J0 c.y,J0 c.s]/\Aq (.slc 3 true false false) [.sl r F.length 3 k (s.length+1) false,J0 1]=some (.sl r F.length 3 (k+1) s.length false)/\SfC s (.sl r F.length 3 (k+1) s.length false) H:=by
 rcases h with ⟨N,_⟩|⟨r,F,k,rfl,J,E⟩
 ·cases N
 ·have u:F[k]? = some c:=by
   have:=AiI (xs:=F) (i:=k) (j:=0)
   rw[E]at this
   simpa using this.symm
  have Q:F.drop (k+1)=s:=by
   have:=(Am u).2
   rw[E]at this
   exact(List.cons.inj this).2.symm
  refine⟨r,F,k,rfl,J,r3_x u,r3_y u,?_,?_,.inr ⟨r,F,k+1,rfl,J,Q⟩⟩
  ·rw[KR,CM u]
   rfl
  ·simp (disch:=omega) []
theorem zK_c3 (p:List Ce):zK (Af p)=zP p:=by cases p <;> rfl
theorem UG {q:List Ce}(h:ps[i]? = some q)(u:∀p,p∈ps->right p=true)(J:En (ps.take (i+1))):AP (AP (ps.take i).flatten++q)=AP (ps.take (i+1)).flatten:=by
 refine IL ?_ ((GY fun p E=>u p (Ain E)).2 J)
 rw[Nl h]
 exact(Bp _).append_right q
set_option maxHeartbeats 8000000 in
theorem Oo {v:I}(hv:IsSl v (on1 us))(hP:Gq us ps)(hpr:∀p,p∈ps->right p=true)(hl:us.length<=1000)(H:Hp):Gives G 30 [.m v] H (.tu [.m (zP (unF ps).1),.m (.b (unF ps).2)]) H:=by
 have hr:=hv.rules
 rw[OA]at hr
 have hul:=hP.1
 refine Ae rfl rfl rfl rfl rfl ?_
 generalize hR:unF ps=R
 unfold unF at hR
 generalize hQ:(fun(v':V) (x:Hp)=>v'=.tu [.m (zP R.1),.m (.b R.2)])=Q
 have q1:∀(a:List Ce) (b:Bool) H',R=(a,b)->Q (.tu [.m (zP a),.m (.b b)]) H':=fun a b H' e=>by rw[<-hQ,e]
 clear hQ
 simp (disch:=omega) []
 refine(?key:∀(i:Nat) (o:V) (B:LE) (H1:Hp),i<=us.length->LK 73 3 (Af (AP (ps.take i).flatten)) o H1->En (ps.take i)->Run G c30_B1 (S30_1 (.m v) o (J0 (i:Int)) B H1) _) 0 _ _ _ (Aho _) LK.nil List.Pairwise.nil
 refine Bl (fun i:Nat=>us.length-i) fun i ih o B H1 hi hL hd=>?_
 unfold c30_B1
 obtain⟨hnf,_,_,_⟩:=hL.nf
 by_cases hil:i<us.length
 ·have hil':(i:Int)<us.length:=by omega
  have wi:=J1 i (by omega)
  obtain⟨u,hu⟩:∃u,us[i]? = some u:=⟨_,Ahh hil⟩
  obtain⟨q,hq⟩:∃q,ps[i]? = some q:=⟨_,Ahh (by omega)⟩
  have hsq:=hP.2 i u q hu hq
  have hn:=Vj hu
  have hqr:=Aw (hpr q (Ahm hq))
  have hfi:=Ff (ps:=ps.take i) fun p hp=>(Aw (hpr p (Ain hp))).2.2
  rw[Ahx]at hfi
  have hap:=(GY fun p hp=>hpr p (Ain hp)).2 hd
  have hI:=UnI.init (CZ hap) hqr.1
  have hol:(AP (ps.take i).flatten).length<=5000000:=by rw[Bs];omega
  simp (disch:=omega) [hr,hil',hn,Al hnf]
  refine(?key2:∀(k:Nat) (a b next:List Ce) (oa on:V) (w:I) (B:LE) (H2:Hp),a.length+b.length=k->UnI (AP (ps.take i).flatten) q a b next->SfC a oa H1->IsSl w (Af b)->LK 73 3 (Af next) on H2->(∀r,AH on=some r->H1.length<=r)->H1.length<=H2.length->(∀r,r<H1.length->nth H2 r=nth H1 r)->next.length+k<=5010000->Run G c30_B0 (S30_0 (.m v) (.m (.i .i64 (i:Int))) on oa (.m w) B H2) _) _ _ q [] o _ u _ H1 rfl hI hL.toSf hsq LK.nil (fun r hr=>by cases hr) (Ahk _) (fun _ _=>rfl) (by simp;omega)
  clear hI hol hap hfi hsq hn hu hnf hL B
  refine Bl (fun k:Nat=>k) fun k ihk a b next oa on w B H2 hk hI hA hw hN hrow hlen2 hkp hsz=>?_
  unfold c30_B0
  have E:=hw.rules
  simp only[J3]at E
  obtain⟨n1,_,_,_⟩:=hN.nf
  obtain⟨a1,a2⟩:=hA.nf
  have hA2:=hA.keep hkp
  have psh:∀c:Ce,∃o1 Z,(∀B,EK ⟨B,H2⟩ 73 3 24 on [[J0 c.x,J0 c.y,J0 c.s]]=some (o1,⟨B,Z⟩))/\AB o1=true/\LK 73 3 (Af (next++[c])) o1 Z/\H1.length<=Z.length/\(∀r,AH o1=some r->H1.length<=r) /\ ∀r,r<H1.length->nth Z r=nth H1 r:=fun c=>by
   obtain⟨o1,Z,ha,hn1,hL1,hl3,hk3,hr3⟩:=hN.push2 (by omega) (b:=24) (by omega) (ys:=Af [c]) (by simp[Af];omega) (fun e he=>by
    unfold Af at he
    obtain⟨x,_,rfl⟩:=AhE.1 he
    exact⟨rfl,fun y hy=>by unfold Ce.i at hy;simp only[AhF,List.not_mem_nil,or_false]at hy;rcases hy with rfl|rfl|rfl <;> rfl⟩)
   refine⟨o1,Z,ha,hn1,by have e:Af next++Af [c]=Af (next++[c]):=by { simp[Af] };rw[<-e];exact hL1,by omega,fun r hr=>?_,fun r hr=>?_⟩
   ·rcases hr3 r hr with h|h
    ·exact hrow r h
    ·omega
   ·rw[hk3 r (fun h=>by have:=hrow r h;omega) (by omega),hkp r hr]
  cases hae:a with
  | nil =>
   subst hae
   rcases hA2 with ⟨_,rfl⟩|⟨r0,F,k0,rfl,_,_⟩
   all_goals
    cases hbe:b with
    | nil =>
     subst hbe
     obtain⟨e1,rfl⟩:=hI.done
     have hd2:=(Kb hq).2 ⟨hd,e1⟩
     rw[UG hq hpr hd2]at hN
     have U:=fun B'=>ih (i+1) (by omega) on B' H2 (by omega) hN hd2
     simp (disch:=omega) [E,wi,Al n1,-Int.natCast_add]
     exact U _
    | cons d s =>
     have J:=Ap (show b[0]? = some d by rw[hbe];rfl)
     have lb:b.length=s.length+1:=by rw[hbe];rfl
     rw[hbe]at hw hI
     obtain⟨u2,hu2,ht2⟩:=IJ hw
     obtain⟨o1,Z,p1,p2,p3,p4,p5,p6⟩:=psh d
     have U:=fun B'=>ihk s.length (by simp at hk;omega) [] s (next++[d]) _ o1 u2 B' Z (by simp) (hI.right fun c hc=>by cases hc) hA hu2 p3 p5 p4 p6 (by simp at hk ⊢;omega)
     simp (disch:=omega) [E,lb,J,show ¬((s.length:Int)+1=0) from by omega,show (0:Int)<(s.length:Int)+1 from by omega,Al p2,p1,ht2]
     exact U _
  | cons c W =>
   subst hae
   obtain⟨r,F,k0,rfl,h3a,rx,ry,rz,Y,hA4⟩:=hA.cons
   have h3:nth H2 r=some (.cs 73 3 (AE F) 0 false):=by rw[hkp r (AQ h3a)];exact h3a
   cases hbe:b with
   | nil =>
    subst hbe
    obtain⟨o1,Z,p1,p2,p3,p4,p5,p6⟩:=psh c
    have U:=fun B'=>ihk W.length (by simp at hk;omega) W [] (next++[c]) _ o1 w B' Z (by simp) (hI.left fun c hc=>by cases hc) hA4 hw p3 p5 p4 p6 (by simp at hk ⊢;omega)
    simp (disch:=omega) [Ab,E,h3,rz,Y,show ¬((W.length:Int)+1=0) from by omega,show (0:Int)<(W.length:Int)+1 from by omega,Al p2,p1]
    exact U _
   | cons d s =>
    have J:=Ap (show b[0]? = some d by rw[hbe];rfl)
    have lb:b.length=s.length+1:=by rw[hbe];rfl
    rw[hbe]at hw hI
    obtain⟨u2,hu2,ht2⟩:=IJ hw
    have hb2:=AhK.1 hI.pb
    have ha2:=AhK.1 hI.pa
    simp only[AhR]at hk
    by_cases hxy:c.x=d.x/\c.y=d.y
    ·have hnd:=hI.meet hxy.1 hxy.2
     have hnd2:¬En ps:=fun hh=>hnd ((Kb hq).1 (Zf _ hh)).2
     rw[Ahj hnd2]at hR
     have U:=q1 _ _ H hR.symm
     simp (disch:=omega) [Ab,E,lb,J,h3,rx,ry,show ¬((s.length:Int)+1=0) from by omega,show (0:Int)<(s.length:Int)+1 from by omega,show (0:Int)<(W.length:Int)+1 from by omega,hxy.1,hxy.2]
     exact U
    ·by_cases N:Ba c d=true
     ·obtain⟨o1,Z,p1,p2,p3,p4,p5,p6⟩:=psh c
      have hlc:∀e,e∈d::s->Ba c e=true:=fun e he=>by
       rcases AhF.1 he with rfl|he
       ·exact N
       ·exact De N (hb2.1 e he)
      have U:=fun B'=>ihk (W.length+b.length) (by omega) W b (next++[c]) _ o1 w B' Z rfl (by rw[hbe];exact hI.left hlc) hA4 (by rw[hbe];exact hw) p3 p5 p4 p6 (by simp;omega)
      unfold Ba at N
      simp only[Aht]at N
      by_cases hy:c.y<d.y
      ·by_cases hx:c.x=d.x
       ·simp only[hx]at p1
        simp (maxSteps:=2000000) (disch:=omega) [Ab,E,lb,J,h3,rx,ry,rz,Y,show ¬((s.length:Int)+1=0) from by omega,show (0:Int)<(s.length:Int)+1 from by omega,show (0:Int)<(W.length:Int)+1 from by omega,hx,hy,show ¬c.y=d.y from by omega,Al p2,p1]
        exact U _
       ·simp (maxSteps:=2000000) (disch:=omega) [Ab,E,lb,J,h3,rx,ry,rz,Y,show ¬((s.length:Int)+1=0) from by omega,show (0:Int)<(s.length:Int)+1 from by omega,show (0:Int)<(W.length:Int)+1 from by omega,hx,hy,show ¬c.y=d.y from by omega,Al p2,p1]
        exact U _
      ·have hy2:c.y=d.y:=by omega
       have hx2:c.x<d.x:=by omega
       simp only[hy2]at p1
       simp (maxSteps:=2000000) (disch:=omega) [Ab,E,lb,J,h3,rx,ry,rz,Y,show ¬((s.length:Int)+1=0) from by omega,show (0:Int)<(s.length:Int)+1 from by omega,show (0:Int)<(W.length:Int)+1 from by omega,hy2,hx2,show ¬c.x=d.x from by omega,Al p2,p1]
       exact U _
     ·have hgt:Ba d c=true:=by
       unfold Ba at N ⊢
       simp only[Aht]at N ⊢
       omega
      obtain⟨o1,Z,p1,p2,p3,p4,p5,p6⟩:=psh d
      have hlc:∀e,e∈c::W->Ba d e=true:=fun e he=>by
       rcases AhF.1 he with rfl|he
       ·exact hgt
       ·exact De hgt (ha2.1 e he)
      have U:=fun B'=>ihk (W.length+1+s.length) (by omega) (c::W) s (next++[d]) _ o1 u2 B' Z rfl (hI.right hlc) hA hu2 p3 p5 p4 p6 (by simp;omega)
      unfold Ba at N hgt
      simp only[Aht]at N hgt
      by_cases hy:d.y<c.y
      ·by_cases hx:c.x=d.x
       ·simp (maxSteps:=2000000) (disch:=omega) [Ab,E,lb,J,h3,rx,ry,ht2,show ¬((s.length:Int)+1=0) from by omega,show (0:Int)<(s.length:Int)+1 from by omega,show (0:Int)<(W.length:Int)+1 from by omega,hx,show ¬c.y<d.y from by omega,show ¬c.y=d.y from by omega,Al p2,p1]
        exact U _
       ·simp (maxSteps:=2000000) (disch:=omega) [Ab,E,lb,J,h3,rx,ry,ht2,show ¬((s.length:Int)+1=0) from by omega,show (0:Int)<(s.length:Int)+1 from by omega,show (0:Int)<(W.length:Int)+1 from by omega,hx,show ¬c.y<d.y from by omega,show ¬c.y=d.y from by omega,Al p2,p1]
        exact U _
      ·have hy2:c.y=d.y:=by omega
       simp (maxSteps:=2000000) (disch:=omega) [Ab,E,lb,J,h3,rx,ry,ht2,show ¬((s.length:Int)+1=0) from by omega,show (0:Int)<(s.length:Int)+1 from by omega,show (0:Int)<(W.length:Int)+1 from by omega,hy2,show ¬c.x<d.x from by omega,show ¬c.x=d.x from by omega,Al p2,p1]
       exact U _
 ·have:i=us.length:=by omega
  subst this
  rw[Ahz (by omega)]at hL hd
  rw[Ahl hd]at hR
  have U:=q1 _ _ H hR.symm
  have hvw:=hL.view 18
  rw[zK_c3]at hvw
  generalize zP (AP ps.flatten)=z at *
  simp (disch:=omega) [hr,hvw,Al hnf]
  exact⟨hnf,U⟩
end Go.Mx.Tryz
namespace Go.Mx.Tryz
open Go.Lib
theorem Ln (u:Nat):∀c,c∈GL u->48<=c/\c<=57:=by
 refine Bl (P:=fun u=>∀c,c∈GL u->48<=c/\c<=57) (fun u:Nat=>u) (fun u N c E=>?_) u
 by_cases h:u<10
 ·rw[KG h]at E
  simp at E
  omega
 ·rw[PK h]at E
  rcases AhV.1 E with J|J
  ·exact N (u / 10) (by omega) c J
  ·simp at J
   omega
def valU (s:List Nat):Nat:=s.foldl (fun a c=>10*a+(c-48)) 0
theorem HM (u:Nat):valU (GL u)=u:=by
 refine Bl (P:=fun u=>valU (GL u)=u) (fun u:Nat=>u) (fun u E=>?_) u
 by_cases h:u<10
 ·rw[KG h]
  show 10*0+(48+u-48)=u
  omega
 ·rw[PK h]
  have:=E (u / 10) (by omega)
  unfold valU at this ⊢
  rw[List.foldl_append,this]
  show 10*(u / 10)+(48+u%10-48)=u
  omega
variable {x:Int}
theorem Nf {y:Int}(h:CH x=CH y):x=y:=by
 have J:∀u v:Nat,1<=v->GL u≠45::GL v:=fun u v _ e=>by
  have:=Ln u 45 (by rw[e];simp)
  omega
 by_cases N:0<=x
 ·obtain⟨u,rfl⟩:=AhA N
  rw[EF]at h
  by_cases E:0<=y
  ·obtain⟨v,rfl⟩:=AhA E
   rw[EF]at h
   rw[<-HM u,h,HM]
  ·obtain⟨v,Q⟩:=AhA (show 0 <= -y by omega)
   have:y=-(v:Int):=by omega
   subst this
   rw[EG v (by omega)]at h
   exact absurd h (J u v (by omega))
 ·obtain⟨u,U⟩:=AhA (show 0 <= -x by omega)
  have:x=-(u:Int):=by omega
  subst this
  rw[EG u (by omega)]at h
  by_cases E:0<=y
  ·obtain⟨v,rfl⟩:=AhA E
   rw[EF]at h
   exact absurd h.symm (J v u (by omega))
  ·obtain⟨v,Q⟩:=AhA (show 0 <= -y by omega)
   have:y=-(v:Int):=by omega
   subst this
   rw[EG v (by omega)]at h
   have h:=(List.cons.inj h).2
   rw[<-HM u,h,HM]
theorem Fe (x:Int):∀c,c∈CH x->c≠32/\c<256:=fun c E=>by
 by_cases h:0<=x
 ·obtain⟨u,rfl⟩:=AhA h
  rw[EF]at E
  have:=Ln u c E
  omega
 ·obtain⟨u,J⟩:=AhA (show 0 <= -x by omega)
  have:x=-(u:Int):=by omega
  subst this
  rw[EG u (by omega)]at E
  rcases AhF.1 E with h|h
  ·omega
  ·have:=Ln u c h
   omega
def Cy (c:List Int):List Nat:=c.flatMap fun k=>32::CH k
def Jl (x:Nd):List Nat:=CH x.1++Cy x.2
theorem KL:∀ {a b s t:List Nat},(∀c,c∈a->c≠32)->(∀c,c∈b->c≠32)->s.take 1≠[]/\s.take 1=[32]\/s=[]->t.take 1≠[]/\t.take 1=[32]\/t=[]->a++s=b++t->a=b/\s=t
 | [],[],s,t,_,_,_,_,h=>⟨rfl,h⟩
 | x::a,y::b,s,t,ha,hb,hs,ht,h=>by
  simp only[Aig,List.cons.injEq]at h
  obtain⟨Q,J⟩:=KL (fun c u=>ha c (AhZ _ u)) (fun c u=>hb c (AhZ _ u)) hs ht h.2
  exact⟨by rw[h.1,Q],J⟩
 | [],y::b,s,t,_,hb,hs,_,h=>by
  have E:=hb y (AhG ..)
  simp only[List.nil_append,Aig]at h
  subst h
  rcases hs with ⟨_,h⟩|h
  ·simp at h
   exact absurd h E
  ·cases h
 | x::a,[],s,t,ha,_,_,ht,h=>by
  have N:=ha x (AhG ..)
  simp only[List.nil_append,Aig]at h
  subst h
  rcases ht with ⟨_,h⟩|h
  ·simp at h
   exact absurd h N
  ·cases h
theorem HB (c:List Int):(Cy c).take 1≠[]/\(Cy c).take 1=[32]\/Cy c=[]:=by
 cases c with
 | nil=>exact .inr rfl
 | cons k r=>exact .inl ⟨by simp[Cy],by simp[Cy]⟩
theorem MO:∀ {c d:List Int},Cy c=Cy d->c=d
 | [],[],_=>rfl
 | [],k::r,h=>by simp[Cy]at h
 | k::r,[],h=>by simp[Cy]at h
 | k::r,j::s,h=>by
  have h:CH k++Cy r=CH j++Cy s:=by
   have h:32::(CH k++Cy r)=32::(CH j++Cy s):=h
   exact(List.cons.inj h).2
  obtain⟨J,E⟩:=KL (fun c u=>(Fe _ c u).1) (fun c u=>(Fe _ c u).1) (HB r) (HB s) h
  rw[Nf J,MO E]
theorem YG {x y:Nd}(h:Jl x=Jl y):x=y:=by
 obtain⟨J,E⟩:=KL (fun c u=>(Fe _ c u).1) (fun c u=>(Fe _ c u).1) (HB x.2) (HB y.2) h
 exact Prod.ext (Nf J) (MO E)
theorem Uu (c:List Int):∀y,y∈Cy c->y<256:=fun y u=>by
 obtain⟨k,_,h⟩:=List.mem_flatMap.1 u
 rcases AhF.1 h with h|h
 ·omega
 ·exact(Fe k y h).2
theorem YH (x:Nd):∀y,y∈Jl x->y<256:=fun y u=>by
 rcases AhV.1 u with h|h
 ·exact(Fe x.1 y h).2
 ·exact Uu x.2 y h
def knw:List Nd->Nat->List (List Nat×Int)
 | [],_=>[]
 | x::r,i=>(Jl x,(i:Int))::knw r (i+1)
theorem Lf:∀(l:List Nd) (i:Nat) (x:Nd),CG (knw l i) (Jl x)=((l.idxOf? x).map fun k=>((i+k:Nat):Int))
 | [],i,x=>rfl
 | y::r,i,x=>by
  have e:CG (knw (y::r) i) (Jl x)=if Jl y=Jl x then some (i:Int) else CG (knw r (i+1)) (Jl x):=rfl
  rw[e,List.idxOf?_cons]
  by_cases h:y=x
  ·subst h
   rw[Ahl rfl,Ahl (by simp)]
   rfl
  ·rw[Ahj fun k=>h (YG k),Ahj (by simpa using h),Lf r (i+1) x]
   cases r.idxOf? x with
   | none=>rfl
   | some k =>
    show some _=some _
    congr 1
    simp only
    omega
theorem QH:∀(l:List Nd) (i:Nat) (x:Nd),knw (l++[x]) i=knw l i++[(Jl x,((i+l.length:Nat):Int))]
 | [],i,x=>rfl
 | y::r,i,x=>by
  show (Jl y,(i:Int))::knw (r++[x]) (i+1)=_
  rw[QH r (i+1) x]
  simp only[AhR,knw,Aig]
  rw[show i+1+r.length=i+(r.length+1) by omega]
theorem Adn {l:List Nd}{x:Nd}(h:l.idxOf? x=none):NP (knw l 0) (Jl x) ((l.length:Nat):Int)=knw (l++[x]) 0:=by
 rw[QH,Kn,Aih]
 rw[<-RD,Lf,h]
 rfl
def EP (l:List Nd)(x:Nd):List Nd×Nat:=match l.idxOf? x with
 | some k=>(l,k)
 | none=>(l++[x],l.length)
theorem Rg (l:List Nd)(x:Nd):l.length<=(EP l x).1.length/\(EP l x).1.length<=l.length+1:=by
 unfold EP
 split <;> simp
def L2 (es:LT)(o:V)(H:Hp):Prop:=(es=[]/\o=.m (.nl 4))\/(es≠[] /\ ∃r,o=.sl r es.length 2 0 es.length false/\nth H r=some (.cs 65 2 (Bn es) 0 false))
theorem immS_len (es:LT):(Bn es).length=es.length:=by simp[Bn]
variable {es:LT} {o:V} {H:Hp}
theorem L2.nf (h:L2 es o H):AB o=true/\Ay o=some [o]/\BM o=true/\Aq (.len false) [o]=some (J0 (es.length:Nat)):=by
 rcases h with ⟨rfl,rfl⟩|⟨u,r,rfl,E⟩
 ·exact⟨rfl,rfl,rfl,rfl⟩
 ·exact⟨rfl,rfl,rfl,rfl⟩
variable {H':Hp}
theorem L2.keep (h:L2 es o H)(J:∀r,AH o=some r->r<H.length->nth H' r=nth H r):L2 es o H':=by
 rcases h with h|⟨u,r,rfl,E⟩
 ·exact .inl h
 ·exact .inr ⟨u,r,rfl,by rw[J r rfl (AQ E)];exact E⟩
variable {r:Nat}
theorem L2.row_lt (h:L2 es o H)(e:AH o=some r):r<H.length:=by
 rcases h with ⟨_,rfl⟩|⟨E,q,rfl,u⟩
 ·cases e
 ·cases e
  exact AQ u
theorem L2.row (h:L2 es o H)(e:AH o=some r):nth H r=some (.cs 65 2 (Bn es) 0 false):=by
 rcases h with ⟨_,rfl⟩|⟨E,q,rfl,u⟩
 ·cases e
 ·cases e
  exact u
variable {z:I}
theorem L2.push (h:L2 es o H){l:Int}(hz:BM (.m z)=true)(hl:es.length<=100000000):∃N Q,(∀B,An (fun _ _ _=>none) ⟨B,H⟩ (.app 65 2 32) [o,.ls [[J4 l,z]]]=some (N,⟨B,Q⟩))/\AB N=true/\L2 (es++[[J4 l,z]]) N Q/\Kp H o Q N:=by
 have J:((Bn [[J4 l,z]]).all fun e=>Nat.beq e.length 2&&e.all BM)=true:=by
  have Z:BM (J0 l)=true:=rfl
  simp[Bn,hz,Z]
 rcases h with ⟨rfl,rfl⟩|⟨a0,r,rfl,Y⟩
 ·refine⟨.sl H.length 1 2 0 1 false,H++[.cs 65 2 (Bn [[.i .i64 l,z]]) 0 false],fun B=>(Cl rfl).trans ?_,rfl,.inr ⟨by simp,H.length,rfl,CU H _ 0⟩,by simp,fun r U _=>BK _ _ _ U,fun r U=>.inr (by cases U;exact Ahk _)⟩
  show Bv ⟨B,H⟩ 65 2 32 (Bn [[J4 l,z]])=_
  rw[Dj,J]
  rfl
 ·have u:=fun B=>CC (M:=⟨B,H⟩) (bytes:=32) (xs:=Bn [[J4 l,z]]) Y (by simp[Bn]) (by simp only[immS_len,Ais];omega) J
  have e2:Bn es++Bn [[J4 l,z]]=Bn (es++[[J4 l,z]]):=by simp[Bn]
  simp only[immS_len,e2]at u
  have el:es.length+[[I.i .i64 l,z]].length=(es++[[J4 l,z]]).length:=by simp
  rw[el]at u
  refine⟨_,_,fun B=>(Cl rfl).trans (u B),rfl,.inr ⟨by simp,r,rfl,Be (AQ Y)⟩,by simp,fun q W E=>AF fun e=>?_,fun q W=>.inl W⟩
  subst e
  exact E rfl
theorem L2.elems (h:L2 es o H):Mx.elems H o=some (Bn es):=by
 rcases h with ⟨rfl,rfl⟩|⟨E,r,rfl,u⟩
 ·rfl
 ·rw[DX,u]
  show gd (Nat.ble 0 es.length&&Nat.beq 2 2) (some (((Bn es).drop 0).take es.length))=_
  rw[Bh,Ahq (Aho _),Aio,Ahz (by rw[immS_len];exact Ahk _)]
  rfl
variable {i:Nat}
theorem rd2 {es:L0}{a b:V}(h:nth es i=some [a,b]):CW 2 es i 0 2=some [a,b]/\CW 2 es i 0 1=some [a]/\CW 2 es i 1 1=some [b]:=by
 refine⟨?_,?_,?_⟩ <;>
 ·show Option.bind (nth es (i+0)) _=_
  rw[Nat.add_zero,h]
  rfl
theorem L2.rd (h:L2 es o H)(Q:es[i]? = some [J4 x,z]):∃p q,Aq (.ixa 2) [o,J0 (i:Int)]=some p/\AB p=true/\(∀B,readX ⟨B,H⟩ (.ld true 2) [p]=some (.m (.ag [J4 x,z])))/\(∃E,Aq (.fad 0) [p]=some E/\AB E=true /\ ∀B,readX ⟨B,H⟩ (.ld false 1) [E]=some (J0 x))/\Aq (.fad 1) [p]=some q/\AB q=true /\ ∀B,readX ⟨B,H⟩ (.ld false 1) [q]=some (.m z):=by
 have N:=(Ahg.1 Q).1
 have u:nth (Bn es) i=some [J0 x,.m z]:=by
  rw[AL]
  simp[Bn,Q]
 rcases h with ⟨rfl,rfl⟩|⟨U,r,rfl,J⟩
 ·simp at N
 ·refine⟨.pt r es.length i 0,.pt r es.length i 1,?_,rfl,fun B=>?_,⟨.pt r es.length i 0,rfl,rfl,fun B=>?_⟩,rfl,rfl,fun B=>?_⟩
  ·simp (disch:=omega) []
  ·simp (disch:=omega) [Ab,rd2 u,J,BF]
  ·simp (disch:=omega) [Ab,rd2 u,J]
  ·simp (disch:=omega) [Ab,rd2 u,J]
def IR (c:List Int)(o:V)(H:Hp):Prop:=∃r base lim,o=.sl r c.length 1 0 c.length lim/\nth H r=some (.cs 3 1 (onV (iI c)) base false)/\base<=c.length
variable {c:List Int}
theorem IR.toLW (h:IR c o H):LW 3 (iI c) o H HQ:=by
 obtain⟨r,u,E,rfl,N,J⟩:=h
 exact .inr ⟨r,iI c,u,E,AhY,by rw[Dp],N,by rw[Dp];exact J,Ahk _,AhI⟩
theorem IR.keep (h:IR c o H)(Q:∀r,AH o=some r->r<H.length->nth H' r=nth H r):IR c o H':=by
 obtain⟨r,u,E,rfl,J,N⟩:=h
 exact⟨r,u,E,rfl,by rw[Q r rfl (AQ J)];exact J,N⟩
theorem IR.bsf (h:IR c o H)(l:Int):∃z Q,(∀B,An (fun _ _ _=>none) ⟨B,H⟩ (.bsf 2 [J0 0,.m (.nl 4)] 1 [0]) [.ag [J0 l,o]]=some (.ls [[J4 l,z]],⟨B,Q⟩))/\IsSl z (BT c)/\BM (.m z)=true/\Q.length=H.length /\ ∀r,AH o≠some r->nth Q r=nth H r:=by
 obtain⟨z,Z,U,N⟩:=h.toLW.view 18
 obtain⟨r,E,u,rfl,W,h4⟩:=h
 rw[MX]at U
 refine⟨z,H.set r (.cs 3 1 (onV (iI c)) E true),fun B=>?_,U,N,by simp,fun q Y=>AF fun e=>Y (by rw[e];rfl)⟩
 have e:An (fun _ _ _=>none) ⟨B,H⟩ (.bsf 2 [J0 0,.m (.nl 4)] 1 [0]) [.ag [J0 l,.sl r c.length 1 0 c.length u]]=((Ah (fun e=>Ah (Mx.view 20 H) e) [[V.m (J4 l),V.sl r c.length 1 0 c.length u]]).bind fun l=>(AX [r] H).bind fun H'=>some (.ls l,⟨B,H'⟩)):=rfl
 have J:Mx.view 20 H (J0 l)=some (J4 l):=rfl
 rw[e,OG W]
 simp only[Ah,Z,J,Ahp]
theorem IR.nf (h:IR c o H):AB o=true/\Ay o=some [o]/\Aq (.len false) [o]=some (J0 (c.length:Nat)):=by
 obtain⟨r,u,E,rfl,N,J⟩:=h
 exact⟨rfl,rfl,rfl⟩
theorem IR.row (h:IR c o H)(e:AH o=some r):∃base,nth H r=some (.cs 3 1 (onV (iI c)) base false):=by
 obtain⟨q,base,u,rfl,E,J⟩:=h
 cases e
 exact⟨base,E⟩
def Lt (es:LT):Prop:=∀e,e∈es -> ∃(x:Int) (z:I),e=[.i .i64 x,z]/\IsSl z (BT (dIn z))
structure BldQ (rb rm:Nat)(es:LT)(o:V)(H:Hp):Prop where
 hb:∃base,base<=1/\nth H rb=some (.cs 230 2 [[o,.mp rm]] base false)
 hm:nth H rm=some (mpR ekS evI (knw (es.map dNd) 0))
 hn:L2 es o H
 ok:Lt es
def KpB (rb rm:Nat)(o:V)(H:Hp)(o':V)(H':Hp)(nx:V):Prop:=H.length<=H'.length/\(∀r,r<H.length->r≠rb->r≠rm->AH o≠some r->AH nx≠some r->nth H' r=nth H r) /\ ∀r,AH o'=some r->AH o=some r\/H.length<=r
variable {rb rm:Nat}
theorem BldQ.keep (h:BldQ rb rm es o H)(E:∀r,r<H.length->nth H' r=nth H r):BldQ rb rm es o H':=by
 obtain⟨⟨b,u,N⟩,J,U,ok⟩:=h
 exact⟨⟨b,u,by rw[E _ (AQ N)];exact N⟩,by rw[E _ (AQ J)];exact J,U.keep fun r _ Q=>E r Q,ok⟩
theorem MN:∀(c:List Int),(∀k,k∈c -> -1000000000<=k/\k<=1000000000)->(Cy c).length<=22*c.length
 | [],_=>by simp[Cy]
 | k::r,h=>by
  have J:=h k (AhG ..)
  have E:=MN r fun x u=>h x (AhZ _ u)
  have N:=Ng k (by omega) (by omega)
  have e:Cy (k::r)=(32::CH k)++Cy r:=rfl
  rw[e,Ahv,AhR,AhR]
  omega
theorem RU {k:Int}(h:c[i]? = some k):Cy (c.take (i+1))=Cy (c.take i)++(32::CH k):=by
 have:c.take (i+1)=c.take i++[k]:=by rw[List.take_add_one,h];rfl
 rw[this]
 unfold Cy
 rw[List.flatMap_append]
 simp
theorem AcL (a b:V):CW 2 [[a,b]] 0 0 1=some [a]:=rfl
theorem AfY (a b:V):CW 2 [[a,b]] 0 1 1=some [b]:=rfl
theorem We (h:IsSl z (BT c)):dNd [J4 x,z]=(x,c):=by
 have:dIn z=c:=by
  rcases h with rfl|⟨rfl,u⟩
  ·show (BT c).map dEn=c
   unfold BT
   rw[Aim]
   exact List.map_id'' (fun _=>rfl) c
  ·have:c=[]:=by simpa[BT]using u
   subst this
   rfl
 show (x,dIn z)=_
 rw[this]
set_option maxHeartbeats 4000000 in
theorem Vp (hB:BldQ rb rm es o H){l:Int}{nx:V}(hx:IR c nx H)(hl:-1000000000<=l/\l<=1000000000)(hc:∀k,k∈c -> -1000000000<=k/\k<=1000000000)(hcl:c.length<=100)(hel:es.length<=100000000) 
  (Q:V->Hp->Prop) (hQ:∀es' o' H',BldQ rb rm es' o' H'->es'.map dNd=(EP (es.map dNd) (l,c)).1->KpB rb rm o H o' H' nx->Q (J0 ((EP (es.map dNd) (l,c)).2:Nat)) H') :
  Ret G 202 [.pt rb 1 0 0,J0 l,nx] H Q:=by
 have hxn:=hx.nf
 refine Bg mono rfl rfl rfl (by simp[hxn.1]) rfl ?_
 obtain⟨o0,H0,g0,n0,l0,k0⟩:=AgY (H:=H) (s:=[]) (o:=.m (.nl 4)) .nil (by simp) l (by omega) (by omega)
 rw[List.nil_append]at l0
 simp (disch:=omega) [cl g0,Al n0,Al hxn.1,hxn.2.2]
 refine(?key:∀(i:Nat) (oi:V) (B:LE) (Hi:Hp),i<=c.length->LR 5 (bI (CH l++Cy (c.take i))) oi Hi HQ->Kp H (.m (.nl 4)) Hi oi ->
  Run G c202_B0 (S202_0 (.pt rb 1 0 0) (J0 l) nx oi nx (J0 (c.length:Int)) (J0 (i:Int)) B Hi) _) 0 o0 [] H0 (Aho _) (by simpa[Cy]using l0) k0
 clear g0 n0 l0 k0 o0 H0
 refine Bl (fun i:Nat=>c.length-i) fun i ih oi B Hi hi li ki=>?_
 unfold c202_B0
 have N:IR c nx Hi:=hx.keep fun r _ E=>ki.2.1 r E (by simp[AH])
 have hil:=Ng l (by omega) (by omega)
 have htl:=MN (c.take i) fun k hk=>hc k (Ain hk)
 have htk:(c.take i).length<=c.length:=by rw[Ahx];omega
 have hoi:=li.nf
 cases hk:c[i]? with
 | some k =>
  have hlt:i<c.length:=(Ahg.1 hk).1
  have Y:(i:Int)<c.length:=by omega
  have hkb:=hc k (Ahm hk)
  obtain⟨p,p1,p2,p3⟩:=N.toLW.rd (Dq hk)
  obtain⟨o1,H1,ha,n1,l1,k1⟩:=li.pushN (b:=1) (by omega) (ys:=bI [32]) (by simp only[Rb,Ahv,Ais];omega) (KZ _)
  rw[Rc]at l1
  obtain⟨o2,H2,g2,n2,l2,k2⟩:=AgY l1 (by simp only[Ahv,Ais];omega) k (by omega) (by omega)
  have W:CH l++Cy (c.take i)++[32]++CH k=CH l++Cy (c.take (i+1)):=by rw[RU hk];simp
  rw[W]at l2
  have kk:=fun B=>ih (i+1) (by omega) o2 B H2 (by omega) l2 ((ki.trans k1).trans k2)
  have Z:onV (bI [32])=[[V.m (.i .u8 32)]]:=rfl
  rw[Z]at ha
  have wi:=J1 i (by omega)
  simp (disch:=omega) [Y,p1,p3,ha,cl g2,Al n2,wi]
  exact kk _
 | none =>
  have:i=c.length:=by have:=Ahn.1 hk;omega
  subst this
  have Y:¬(c.length:Int)<c.length:=by omega
  rw[AhI]at li
  have ek:CH l++Cy c=Jl (l,c):=rfl
  rw[ek]at li
  have hB2:BldQ rb rm es o Hi:=hB.keep fun r E=>ki.2.1 r E (by simp[AH])
  have hb2:∀(H:Hp) B,LR 5 (bI (Jl (l,c))) oi H HQ->readX ⟨B,H⟩ .b2s [oi]=some (.m (.s (Jl (l,c)))):=fun H B li=>by rw[AfT,li.elems];simp only[Ahp];rw[QY _ (YH _)];rfl
  have hb3:=fun B=>hb2 Hi B li
  obtain⟨⟨b,hb0,Z⟩,hm,hn,hok⟩:=id hB2
  have u:=Lf (es.map dNd) 0 (l,c)
  cases hf:(es.map dNd).idxOf? (l,c) with
  | some k =>
   have ha:EP (es.map dNd) (l,c)=(es.map dNd,k):=by unfold EP;rw[hf]
   rw[hf]at u
   simp only[Ail,Aih]at u
   have kk:=hQ es o Hi hB2 (by rw[ha]) ⟨ki.1,fun r E _ _ _ _=>ki.2.1 r E (by simp[AH]),fun r E=>.inl E⟩
   rw[ha]at kk
   simp (disch:=omega) [Ab,Y,Z,hb0,hm,AfY,hb3,u]
   exact kk
  | none =>
   have ha:EP (es.map dNd) (l,c)=(es.map dNd++[(l,c)],es.length):=by unfold EP;rw[hf];simp
   rw[hf]at u
   simp only[Option.map_none]at u
   have hon:=hn.nf
   have d1:∀r,AH nx=some r->AH o=some r->False:=fun r U W=>by
    obtain⟨_,q1⟩:=N.row U
    have q2:=hn.row W
    rw[q1]at q2
    simp at q2
   have d2:AH nx≠some rb:=fun U=>by
    obtain⟨_,q1⟩:=N.row U
    rw[q1]at Z
    simp at Z
   have d3:AH nx≠some rm:=fun U=>by
    obtain⟨_,q1⟩:=N.row U
    rw[q1]at hm
    simp[mpR]at hm
   have d4:AH o≠some rb:=fun U=>by
    have q2:=hn.row U
    rw[q2]at Z
    simp at Z
   have d5:AH o≠some rm:=fun U=>by
    have q2:=hn.row U
    rw[q2]at hm
    simp[mpR]at hm
   have d6:rb≠rm:=fun U=>by
    subst U
    rw[Z]at hm
    simp[mpR]at hm
   have d7:∀r,AH oi=some r->AH nx≠some r/\AH o≠some r/\r≠rb/\r≠rm:=fun r U=>by
    have q:=li.row U
    refine⟨fun W=>?_,fun W=>?_,fun W=>?_,fun W=>?_⟩
    ·obtain⟨_,q1⟩:=N.row W
     rw[q1]at q
     simp at q
    ·have q2:=hn.row W
     rw[q2]at q
     simp at q
    ·subst W
     rw[Z]at q
     simp at q
    ·subst W
     rw[hm]at q
     simp[mpR]at q
   obtain⟨z,H2,f1,f2,f3,f4,f5⟩:=N.bsf l
   have hn2:L2 es o H2:=hn.keep fun r E _=>f5 r fun e=>d1 r e E
   obtain⟨o1,H3,g1,g2,g3,g4⟩:=hn2.push (l:=l) f3 hel
   have hb4:nth H3 rb=some (.cs 230 2 [[o,.mp rm]] b false):=by
    rw[g4.2.1 rb (by rw[f4];exact AQ Z) d4,f5 rb d2]
    exact Z
   have hm4:nth H3 rm=some (mpR ekS evI (knw (es.map dNd) 0)):=by
    rw[g4.2.1 rm (by rw[f4];exact AQ hm) d5,f5 rm d3]
    exact hm
   have l4:LR 5 (bI (Jl (l,c))) oi H3 HQ:=li.keepR fun r E hlt=>by
    obtain⟨q1,q2,_,_⟩:=d7 r E
    rw[g4.2.1 r (by rw[f4];exact hlt) q2,f5 r q1]
   generalize J:H3.set rb (.cs 230 2 [[o1,.mp rm]] 1 false)=H4
   have hb5:nth H4 rb=some (.cs 230 2 [[o1,.mp rm]] 1 false):=by rw[<-J];exact Be (AQ hb4)
   have hm5:nth H4 rm=some (mpR ekS evI (knw (es.map dNd) 0)):=by rw[<-J,AF d6];exact hm4
   have l5:LR 5 (bI (Jl (l,c))) oi H4 HQ:=l4.keepR fun r E _=>by
    obtain⟨_,_,q3,_⟩:=d7 r E
    rw[<-J,AF (Air q3)]
   have hb6:=fun B=>hb2 H4 B l5
   have l4len:H4.length=H3.length:=by rw[<-J];simp
   have hset4:AO H3 rb (.cs 230 2 [[o1,.mp rm]] 1 false)=some H4:=by rw[AA _ _ _ (AQ hb4),J]
   have hset5:AO H4 rm (mpR ekS evI (NP (knw (es.map dNd) 0) (Jl (l,c)) ((es.length:Nat):Int)))=some (H4.set rm (mpR ekS evI (NP (knw (es.map dNd) 0) (Jl (l,c)) ((es.length:Nat):Int)))):=AA _ _ _ (AQ hm5)
   have hwr:BS 2 [[o,.mp rm]] 0 0 [o1]=some [[o1,.mp rm]]:=rfl
   have g3n:=g3.nf
   have U:(es++[[I.i .i64 l,z]]).length=es.length+1:=by simp
   rw[U]at g3n
   have wl:wr .i64 (((es.length+1:Nat):Int)-1)=((es.length:Nat):Int):=by rw[Aa (by omega) (by omega)];omega
   have hd5:∀r,AH o1=some r->r≠rb/\r≠rm:=fun r e=>by
    have q:=g3.row e
    refine⟨fun W=>?_,fun W=>?_⟩
    ·subst W
     rw[hb4]at q
     simp at q
    ·subst W
     rw[hm4]at q
     simp[mpR]at q
   have kk:=hQ (es++[[J4 l,z]]) o1 (H4.set rm (mpR ekS evI (NP (knw (es.map dNd) 0) (Jl (l,c)) ((es.length:Nat):Int)))) ⟨⟨1,Ahk _,by rw[AF (Air d6)];exact hb5⟩,by
     rw[Be (AQ hm5),List.map_append]
     have:=Adn hf
     rw[Ahr]at this
     rw[this]
     simp[We f2],g3.keep fun r E _=>by
     obtain⟨q1,q2⟩:=hd5 r E
     rw[AF (Air q2),<-J,AF (Air q1)],fun e he=>by
     rcases AhV.1 he with h|h
     ·exact hok e h
     ·rw[AhH]at h
      subst h
      refine⟨l,z,rfl,?_⟩
      have:=We (x:=l) f2
      have:dIn z=c:=(Prod.mk.inj this).2
      rw[this]
      exact f2⟩ (by rw[ha,List.map_append];simp[We f2]) ⟨by rw[Aib,l4len];have:=g4.1;have:=ki.1;omega,fun r E n1 n2 n3 n4=>by
     rw[AF (Air n2),<-J,AF (Air n1),g4.2.1 r (by rw[f4];have:=ki.1;omega) n3,f5 r n4]
     exact ki.2.1 r E (by simp[AH]),fun r E=>(g4.2.2 r E).imp_right fun h=>by rw[f4]at h;have:=ki.1;omega⟩
   rw[ha]at kk
   have hb7:nth (H4.set rm (mpR ekS evI (NP (knw (es.map dNd) 0) (Jl (l,c)) ((es.length:Nat):Int)))) rb=some (.cs 230 2 [[o1,.mp rm]] 1 false):=by rw[AF (Air d6)];exact hb5
   clear hB2 hQ ih d1 d2 d3 d4 d5 d6 d7 hd5
   obtain⟨rx,bx,limx,rfl,hrx,hbx⟩:=id N
   simp (disch:=omega) [Ab,Aa,Y,Z,hb0,hm,AcL,AfY,hb3,u,BF,f1,g1,hb4,hset4,hwr,g3n.2.1,g3n.2.2.1,hb5,hm5,hb6,hset5,g3n.2.2.2,hb7]
   exact kk
theorem Wj (U:IsSl z (BT c))(E:c≠[])(W:c.length<=1000000)(H:Hp):Gives G 227 [.m z] H (.sl H.length c.length 1 0 c.length false) (H++[.cs 3 1 (onV (iI c)) 0 false]):=by
 rcases U with rfl|⟨rfl,N⟩
 ·have Q:elems H (.m (.sl (BT c)))=some (onV (iI c)):=by
   show some (Bn (BT c))=_
   rw[<-MX,YM]
  have u:FC 4 (.m (.sl (BT c)))=some false:=rfl
  obtain⟨x,t,rfl⟩:=AiL E
  refine .of_ret (Bg mono rfl rfl rfl rfl rfl ?_)
  have J:∀B,An (fun _ _ _=>none) ⟨B,H⟩ (.app 3 1 8) [.ls [],.m (.sl (BT (x::t)))]=some (.sl H.length (x::t).length 1 0 (x::t).length false,⟨B,H++[.cs 3 1 (onV (iI (x::t))) 0 false]⟩):=fun B=>by
   rw[Cl Q]
   show Bv ⟨B,H⟩ 3 1 8 (onV (iI (x::t)))=_
   rw[Dj,IY (Vq _),DL,Dp]
   have:Nat.ble ((x::t).length*8) 140737488355328=true:=by rw[Bh];exact Ahq (by omega)
   rw[this]
   rfl
  simp[u,-Dz,J]
 ·exact absurd (by simpa[BT]using N) E
theorem Em {xs:List I}{x:I}(h:i<xs.length):AO (onV xs) i [.m x]=some (onV (xs.set i x)):=by
 rw[AA _ _ _ (by simpa using h)]
 simp[onV,List.map_set]
theorem Hh (c:List Int)(i:Nat)(v:Int):(iI c).set i (J4 v)=iI (c.set i v):=by simp[iI,List.map_set]
structure RwS where
 r0:Nat
 r1:Nat
 r2:Nat
 r3:Nat
 r4:Nat
def fnW (R:RwS):V:=.fn 230 [.pt R.r2 1 0 0,.pt R.r0 1 0 0,.pt R.r4 1 0 0,.pt R.r3 1 0 0]
structure OrdQ (R:RwS)(es:LT)(o:V)(dn:List Int)(eo:LT)(oo:V)(H:Hp):Prop where
 h0:∃b,b<=1/\nth H R.r0=some (.cs 23 1 [[o]] b false)
 hn:L2 es o H
 h2:∃b,b<=1/\nth H R.r2=some (.cs 63 1 [[.sl R.r1 es.length 1 0 es.length true]] b false)
 h1:∃b,b<=es.length/\nth H R.r1=some (.cs 3 1 (onV (iI dn)) b false)
 h3:∃b,b<=1/\nth H R.r3=some (.cs 23 1 [[oo]] b false)
 ho:L2 eo oo H
 h4:∃b,b<=1/\nth H R.r4=some (.cs 208 1 [[fnW R]] b false)
 dl:dn.length=es.length
 d1:R.r0≠R.r3
 d2:∀r,AH o=some r->AH oo≠some r
 oe:Lt eo
def KpW (R:RwS)(oo:V)(H:Hp)(oo':V)(H':Hp):Prop:=H.length<=H'.length/\(∀r,r<H.length->r≠R.r1->r≠R.r3->AH oo≠some r->nth H' r=nth H r) /\ ∀r,AH oo'=some r->AH oo=some r\/H.length<=r
theorem KpW.refl (R:RwS)(H:Hp)(o:V):KpW R o H o H:=⟨Ahk _,fun _ _ _ _ _=>rfl,fun _ h=>.inl h⟩
variable {R:RwS}
theorem KpW.trans {N J:Hp}{W U:V}(h:KpW R o H W N)(k:KpW R W N U J):KpW R o H U J:=by
 obtain⟨a1,a2,Q⟩:=h
 obtain⟨b1,Z,b3⟩:=k
 refine⟨by omega,fun r E n1 Y u=>?_,fun r E=>?_⟩
 ·rw[Z r (by omega) n1 Y fun e=>?_,a2 r E n1 Y u]
  rcases Q r e with h|h
  ·exact u h
  ·omega
 ·rcases b3 r E with h|h
  ·exact Q r h
  ·exact .inr (by omega)
variable {dn:List Int}
theorem OrdQ.keep {U:LT}{J:V}(h:OrdQ R es o dn U J H)(u:∀r,r<H.length->(r=R.r0\/r=R.r1\/r=R.r2\/r=R.r3\/r=R.r4\/AH o=some r\/AH J=some r)->nth H' r=nth H r):OrdQ R es o dn U J H':=by
 obtain⟨⟨b0,x0,N⟩,hn,⟨b2,x2,Q⟩,⟨b1,x1,W⟩,⟨b3,x3,Y⟩,ho,⟨b4,x4,Z⟩,dl,d1,d2,oe⟩:=h
 exact⟨⟨b0,x0,by rw[u _ (AQ N) (by simp)];exact N⟩,hn.keep fun r e E=>u r E (by simp[e]),⟨b2,x2,by rw[u _ (AQ Q) (by simp)];exact Q⟩,⟨b1,x1,by rw[u _ (AQ W) (by simp)];exact W⟩,⟨b3,x3,by rw[u _ (AQ Y) (by simp)];exact Y⟩,ho.keep fun r e E=>u r E (by simp[e]),⟨b4,x4,by rw[u _ (AQ Z) (by simp)];exact Z⟩,dl,d1,d2,oe⟩
theorem OrdQ.lt {J:LT}{W:V}(h:OrdQ R es o dn J W H):R.r0<H.length/\R.r1<H.length/\R.r2<H.length/\R.r3<H.length/\R.r4<H.length:=by
 obtain⟨⟨b0,x0,u⟩,hn,⟨Z,x2,E⟩,⟨Y,x1,N⟩,⟨b3,x3,Q⟩,ho,⟨b4,x4,U⟩,dl,d1,d2,oe⟩:=h
 exact⟨AQ u,AQ N,AQ E,AQ Q,AQ U⟩
theorem Qh:∀(d:List Int) (i:Nat) (v:Int),i<d.length->(d.set i v).take (i+1)=d.take i++[v]
 | [],_,_,h=>by simp at h
 | a::r,0,v,_=>by simp
 | a::r,i+1,v,h=>by
  have:=Qh r i v (by simpa using h)
  simp[this]
theorem Qi:∀(d:List Int) (i:Nat) (v:Int),(d.set i v).drop (i+1)=d.drop (i+1)
 | [],_,_=>by simp
 | a::r,0,v=>by simp
 | a::r,i+1,v=>by
  have:=Qi r i v
  simpa using this
theorem RZ (a:V):CW 1 [[a]] 0 0 1=some [a]:=rfl
set_option maxHeartbeats 4000000 in
theorem ZO {R:RwS}{es:LT}{o:V}(hv:Lt es)(hk:OkN (es.map dNd))(hel:es.length<=10000000):∀(n k:Nat) (dn:List Int) (eo:LT) (oo:V) (H:Hp),OrdQ R es o dn eo oo H->InvW (es.map dNd) (dn,eo.map dNd)->k<es.length->(ndU (es.map dNd) k).1<=(n:Int) ->
  ∀Q:V->Hp->Prop,(∀dn' eo' oo' H',OrdQ R es o dn' eo' oo' H'->(HL (es.map dNd) n k (dn,eo.map dNd)).1=(dn',eo'.map dNd)->KpW R oo H oo' H'->Q (J0 (HL (es.map dNd) n k (dn,eo.map dNd)).2) H') ->
  Ret G 230 [J0 (k:Int),.pt R.r2 1 0 0,.pt R.r0 1 0 0,.pt R.r4 1 0 0,.pt R.r3 1 0 0] H Q
 | 0,k,dn,eo,oo,H,_,_,hlt,hn=>by
  have:=(hk k (by simpa using hlt)).1
  omega
 | n+1,k,dn,eo,oo,H,hO,hI,hlt,hn=>fun Q hQ=>by
  have hlm:(es.map dNd).length=es.length:=Ahr ..
  obtain⟨q1,q2,q3,q4,q5,q6⟩:=hk k (by omega)
  have e0:HL (es.map dNd) (n+1) k (dn,eo.map dNd)=if 0<(dn[k]?).getD 0 then ((dn,eo.map dNd),(dn[k]?).getD 0-1)
   else Aee (ndU (es.map dNd) k) k (if 1<(ndU (es.map dNd) k).1 then Gl (HL (es.map dNd) n) (ndU (es.map dNd) k).2 (dn,eo.map dNd) [] else ((dn,eo.map dNd),(ndU (es.map dNd) k).2)):=rfl
  obtain⟨v,hv0⟩:∃v,dn[k]? = some v:=⟨dn[k]'(by rw[hO.dl];exact hlt),Ahh (by rw[hO.dl];exact hlt)⟩
  have hvb:=hI.val v (Ahm hv0)
  have hvo:=hI.out_le
  rw[e0,hv0]at hQ
  simp only[AiJ]at hQ
  obtain⟨b0,hb0,h0⟩:=hO.h0
  obtain⟨b1,hb1,h1⟩:=hO.h1
  obtain⟨b2,hb2,h2⟩:=hO.h2
  obtain⟨b3,hb3,h3⟩:=hO.h3
  obtain⟨b4,hb4,h4⟩:=hO.h4
  have hlt':(k:Int)<es.length:=by omega
  have hn1:=Ci (Dq hv0)
  refine Bg mono rfl rfl rfl rfl rfl ?_
  by_cases hp:0<v
  ·rw[Ahl hp]at hQ
   have kk:=hQ dn eo oo H hO rfl (.refl ..)
   have wv:wr .i64 (v-1)=v-1:=by
    simp only[Ahr]at hvo hvb
    exact Aa (by omega) (by omega)
   simp (disch:=omega) [Ab,h2,hb2,h1,hb1,hn1,hp,wv]
   exact kk
  ·rw[Ahj hp]at hQ
   have hp':¬(0<v):=hp
   obtain⟨e,he⟩:∃e,es[k]? = some e:=⟨es[k],Ahh hlt⟩
   obtain⟨x,z,rfl,hz⟩:=hv e (Ahm he)
   have hnd:ndU (es.map dNd) k=(x,dIn z):=by
    unfold ndU
    rw[AhD,he]
    rfl
   rw[hnd]at hQ q1 q2 q3 q4 q5 q6 hn e0
   simp only at hQ q1 q2 q3 q4 q5 q6 hn
   generalize hc:dIn z=c at *
   obtain⟨p,pq,p1,p2,p3,⟨p0,p4,p5,p6⟩,p7,p8,p9⟩:=hO.hn.rd he
   have gc:=Wj hz q3 (by omega) H
   generalize hRES:(if 1<x then Gl (HL (es.map dNd) n) c (dn,eo.map dNd) [] else ((dn,eo.map dNd),c))=RES at hQ
   have hon:=hO.hn.nf
   simp (disch:=omega) [Ab,h2,hb2,h1,hb1,hn1,hp',h0,hb0,p1,p4,p6,p7,p9,cl gc,Al hon.1,Al p2]
   refine(?key:∀(i:Nat) (d:List Int) (E:List Int) (u:LT) (U:V) (B:LE) (Hi:Hp),i<=c.length->getB B 7=some [J0 x,.sl H.length c.length 1 0 c.length false]->OrdQ R es o E u U Hi->InvW (es.map dNd) (E,u.map dNd) ->
    KpW R oo H U Hi->(∃b,b<=c.length/\nth Hi H.length=some (.cs 3 1 (onV (iI d)) b false))->d.length=c.length->d.drop i=c.drop i->(if 1<x then Gl (HL (es.map dNd) n) (c.drop i) (E,u.map dNd) (d.take i) else ((E,u.map dNd),d))=RES ->
    Run G c230_B0 (S230_0 (J0 (k:Int)) (.pt R.r2 1 0 0) (.pt R.r4 1 0 0) (.pt R.r3 1 0 0) (.fa 7 0) (.sl H.length c.length 1 0 c.length false) (J0 (c.length:Int)) (J0 (i:Int)) B Hi) _) 0 c dn eo oo _ _ (Aho _) rfl ?_ hI ⟨by simp,fun r Y _ _ _=>BK _ _ _ Y,fun r h=>.inl h⟩ ⟨0,Aho _,CU H _ 0⟩ rfl rfl (by simpa using hRES)
   case key =>
    refine Bl (fun i:Nat=>c.length-i) fun i ih d E u U B Hi hi hB J hI1 hK hX hdl hdd hR=>?_
    unfold c230_B0
    obtain⟨bx,hbx,hX⟩:=hX
    have hlts:=hO.lt
    have hi1:=J.lt
    have hgt:H.length<Hi.length:=AQ hX
    have hon1:=J.ho.nf
    have hoc:∀r,AH U=some r->r≠H.length:=fun r e1 e2=>by
     subst e2
     have q:=J.ho.row e1
     rw[hX]at q
     simp at q
    have hoc0:∀r,AH o=some r->r≠H.length:=fun r e1 e2=>by
     subst e2
     have q:=J.hn.row e1
     rw[hX]at q
     simp at q
    obtain⟨a0,ha0,h0⟩:=J.h0
    obtain⟨a1,ha1,h1⟩:=J.h1
    obtain⟨a2,ha2,h2⟩:=J.h2
    obtain⟨a3,ha3,h3⟩:=J.h3
    obtain⟨a4,ha4,h4⟩:=J.h4
    by_cases hic:i<c.length
    ·have Z:(i:Int)<c.length:=by omega
     have hdi:d[i]? = c[i]?:=by
      have:=AiE (fun l=>l[0]?) hdd
      simpa using this
     obtain⟨kd,hkd⟩:∃kd,c[i]? = some kd:=⟨c[i],Ahh hic⟩
     rw[hkd]at hdi
     have hn2:=Ci (Dq hdi)
     have wi:=J1 i (by omega)
     have hcd:c.drop i=kd::c.drop (i+1):=by
      rw[AiC hic]
      have:=(Ahg.1 hkd).2
      rw[this]
     by_cases W:1<x
     ·obtain⟨s1,s2,s3⟩:=q6 W kd (Ahm hkd)
      obtain⟨kn,rfl⟩:=AhA s1
      rw[Ahl W,hcd]at hR
      have hR:Gl (HL (es.map dNd) n) (c.drop (i+1)) (HL (es.map dNd) n kn (E,u.map dNd)).1 (d.take i++[(HL (es.map dNd) n kn (E,u.map dNd)).2])=RES:=hR
      have hgr:=(Wc hk n kn (E,u.map dNd) hI1 s2 (by simp only[Int.toNat_natCast]at s3;omega))
      simp (disch:=omega) [Ab,Z,hn2,hX,hbx,W,hB,h4,ha4,fnW]
      rw[Ao]
      refine ZO hv hk hel n kn E u U Hi J hI1 (by simpa using s2) (by simp only[Int.toNat_natCast]at s3;omega) _ fun dn2 eo2 oo2 H2 N hr2 hK2=>?_
      rw[hr2]at hR hgr
      generalize (HL (es.map dNd) n kn (E,u.map dNd)).2=v2 at hR hgr ⊢
      have hX2:nth H2 H.length=some (.cs 3 1 (onV (iI d)) bx false):=by
       rw[hK2.2.1 H.length hgt (by omega) (by omega) fun e=>hoc _ e rfl]
       exact hX
      have hst:AO (onV (iI d)) i [J0 v2]=some (onV (iI (d.set i v2))):=by rw[Em (by simp;omega),Hh]
      have hlen2:H.length<H2.length:=AQ hX2
      have hoc2:∀r,AH oo2=some r->r≠H.length:=fun r e1 e2=>by
       subst e2
       have q:=N.ho.row e1
       rw[hX2]at q
       simp at q
      have kk:=fun B hB=>ih (i+1) (by omega) (d.set i v2) dn2 eo2 oo2 B (H2.set H.length (.cs 3 1 (onV (iI (d.set i v2))) c.length false)) (by omega) hB (N.keep fun r Y h=>AF fun e=>by
        subst e
        rcases h with h|h|h|h|h|h|h
        ·omega
        ·omega
        ·omega
        ·omega
        ·omega
        ·exact hoc0 _ h rfl
        ·exact hoc2 _ h rfl) hgr.1.1 (by
        obtain⟨k1,k2,k3⟩:=hK.trans hK2
        exact⟨by simpa using k1,fun r Y n1 n2 n3=>by rw[AF (by omega)];exact k2 r Y n1 n2 n3,k3⟩) ⟨c.length,Ahk _,Be hlen2⟩ (by simpa using hdl) (by rw[Qi,<-Aiw,hdd,Aiw]) (by rw[Ahl W,Qh _ _ _ (by omega)];exact hR)
      have hse:AO H2 H.length (.cs 3 1 (onV (iI (d.set i v2))) c.length false)=some (H2.set H.length (.cs 3 1 (onV (iI (d.set i v2))) c.length false)):=AA _ _ _ hlen2
      simp (disch:=omega) [Ab,hX2,hn2,hst,hse,hdl,wi]
      exact kk _ hB
     ·rw[Ahj W]at hR
      have kk:=fun B hB=>ih (i+1) (by omega) d E u U B Hi (by omega) hB J hI1 hK ⟨bx,hbx,hX⟩ hdl (by rw[<-Aiw,hdd,Aiw]) (by rw[Ahj W];exact hR)
      simp (disch:=omega) [Ab,Z,hn2,hX,hbx,W,hB,wi]
      exact kk _ hB
    ·have:i=c.length:=by omega
     subst this
     have Z:¬(c.length:Int)<c.length:=by omega
     have hdt:d.take c.length=d:=Ahz (by omega)
     have hRE:RES=((E,u.map dNd),d):=by
      rw[<-hR,Aia,hdt]
      by_cases W:1<x
      ·rw[Ahl W];rfl
      ·rw[Ahj W]
     rw[hRE]at hQ
     have hIR:IR d (.sl H.length c.length 1 0 c.length false) Hi:=⟨H.length,bx,false,by rw[hdl],hX,by omega⟩
     obtain⟨z2,H2,f1,f2,f3,f4,f5⟩:=hIR.bsf x
     have f5:∀r,r≠H.length->nth H2 r=nth Hi r:=fun r Y=>f5 r fun e=>Y (by cases e;rfl)
     have N:OrdQ R es o E u U H2:=J.keep fun r Y h=>f5 r fun e=>by
      subst e
      rcases h with h|h|h|h|h|h|h
      ·omega
      ·omega
      ·omega
      ·omega
      ·omega
      ·exact hoc0 _ h rfl
      ·exact hoc _ h rfl
     have hout:=hI1.out_le
     simp only[Ahr]at hout
     obtain⟨o3,H3,g1,g2,g3,g4⟩:=N.ho.push (l:=x) f3 (by omega)
     have l2:=N.lt
     have hoo2:L2 u U H2:=N.ho
     have hon2:L2 es o H2:=N.hn
     obtain⟨c0,hc0,i0⟩:=N.h0
     obtain⟨c1,hc1,i1⟩:=N.h1
     obtain⟨c2,hc2,i2⟩:=N.h2
     obtain⟨c3,hc3,i3⟩:=N.h3
     obtain⟨c4,hc4,i4⟩:=N.h4
     have hno:∀r (w:Row),nth H2 r=some w->(∀es b fz,w ≠ .cs 65 2 es b fz)->AH U≠some r:=fun r w h1 h2 e1=>by
      have q:=hoo2.row e1
      rw[h1]at q
      exact h2 _ _ _ (Aik q)
     have u0:=hno _ _ i0 (fun _ _ _ h=>by simp at h)
     have u1:=hno _ _ i1 (fun _ _ _ h=>by simp at h)
     have u2:=hno _ _ i2 (fun _ _ _ h=>by simp at h)
     have u3:=hno _ _ i3 (fun _ _ _ h=>by simp at h)
     have u4:=hno _ _ i4 (fun _ _ _ h=>by simp at h)
     have j0:=(g4.2.1 _ l2.1 u0).trans i0
     have j1:=(g4.2.1 _ l2.2.1 u1).trans i1
     have j2:=(g4.2.1 _ l2.2.2.1 u2).trans i2
     have j3:=(g4.2.1 _ l2.2.2.2.1 u3).trans i3
     have j4:=(g4.2.1 _ l2.2.2.2.2 u4).trans i4
     have m3:=g4.1
     have jn:L2 es o H3:=hon2.keep fun r e Y=>g4.2.1 r Y (N.d2 r e)
     have df:∀ {r q:Nat} {a b:Row},nth H3 r=some a->nth H3 q=some b->a≠b->r≠q:=fun h1 h2 hne e=>by
      subst e
      rw[h1]at h2
      exact hne (Aik h2)
     have n31:R.r3≠R.r1:=df j3 j1 (fun h=>by simp at h)
     have n32:R.r3≠R.r2:=df j3 j2 (fun h=>by simp at h)
     have n34:R.r3≠R.r4:=df j3 j4 (fun h=>by simp at h)
     have n10:R.r1≠R.r0:=df j1 j0 (fun h=>by simp at h)
     have n12:R.r1≠R.r2:=df j1 j2 (fun h=>by simp at h)
     have n14:R.r1≠R.r4:=df j1 j4 (fun h=>by simp at h)
     have n30:R.r3≠R.r0:=Air N.d1
     have v3:∀r,(AH o=some r\/AH o3=some r)->r≠R.r3/\r≠R.r1:=fun r h=>by
      have q:∃q,nth H3 r=some (.cs 65 2 q 0 false):=by
       rcases h with h|h
       ·exact⟨_,jn.row h⟩
       ·exact⟨_,g3.row h⟩
      obtain⟨q,hq⟩:=q
      exact⟨df hq j3 (fun h=>by simp at h),df hq j1 (fun h=>by simp at h)⟩
     generalize hH4:H3.set R.r3 (.cs 23 1 [[o3]] 1 false)=H4
     have t4:∀r,r≠R.r3->nth H4 r=nth H3 r:=fun r Y=>by rw[<-hH4,AF (Air Y)]
     have t43:nth H4 R.r3=some (.cs 23 1 [[o3]] 1 false):=by rw[<-hH4];exact Be (AQ j3)
     have t4l:H4.length=H3.length:=by rw[<-hH4];simp
     have k1:=(t4 _ (Air n31)).trans j1
     have k2:=(t4 _ (Air n32)).trans j2
     generalize hH5:H4.set R.r1 (.cs 3 1 (onV (iI (E.set k ((u.length+1:Nat):Int)))) es.length false)=H5
     have t5:∀r,r≠R.r1->nth H5 r=nth H4 r:=fun r Y=>by rw[<-hH5,AF (Air Y)]
     have t51:nth H5 R.r1=some (.cs 3 1 (onV (iI (E.set k ((u.length+1:Nat):Int)))) es.length false):=by rw[<-hH5];exact Be (AQ k1)
     have t5l:H5.length=H3.length:=by rw[<-hH5];simp[t4l]
     have t53:=(t5 _ n31).trans t43
     have s4:AO H3 R.r3 (.cs 23 1 [[o3]] 1 false)=some H4:=by rw[AA _ _ _ (AQ j3),hH4]
     have s5:AO H4 R.r1 (.cs 3 1 (onV (iI (E.set k ((u.length+1:Nat):Int)))) es.length false)=some H5:=by rw[AA _ _ _ (AQ k1),hH5]
     have hkl:k<(iI E).length:=by rw[Dp,J.dl];exact hlt
     obtain⟨v1,hv1⟩:∃v1,E[k]? = some v1:=⟨E[k]'(by rw[J.dl];exact hlt),Ahh (by rw[J.dl];exact hlt)⟩
     have hn3:=Ci (Dq hv1)
     have hs1:AO (onV (iI E)) k [J0 ((u.length+1:Nat):Int)]=some (onV (iI (E.set k ((u.length+1:Nat):Int)))):=by rw[Em hkl,Hh]
     have g3n:=g3.nf
     have e1:(u++[[I.i .i64 x,z2]]).length=u.length+1:=by simp
     rw[e1]at g3n
     have wl:wr .i64 (((u.length+1:Nat):Int)-1)=((u.length:Nat):Int):=by rw[Aa (by omega) (by omega)];omega
     have hw1:BS 1 [[U]] 0 0 [o3]=some [[o3]]:=rfl
     have kk:=hQ (E.set k ((u.length+1:Nat):Int)) (u++[[J4 x,z2]]) o3 H5 ⟨⟨c0,hc0,by rw[t5 _ (Air n10),t4 _ (Air n30)];exact j0⟩,jn.keep fun r e _=>by
       obtain⟨w1,w2⟩:=v3 r (.inl e)
       rw[t5 _ w2,t4 _ w1],⟨c2,hc2,by rw[t5 _ (Air n12)];exact k2⟩,⟨es.length,Ahk _,t51⟩,⟨1,Ahk _,t53⟩,g3.keep fun r e _=>by
       obtain⟨w1,w2⟩:=v3 r (.inr e)
       rw[t5 _ w2,t4 _ w1],⟨c4,hc4,by rw[t5 _ (Air n14),t4 _ (Air n34)];exact j4⟩,by rw[Aib];exact J.dl,J.d1,fun r e1 e2=>by
       rcases g4.2.2 r e2 with h|h
       ·exact J.d2 r e1 h
       ·have:=hon2.row_lt e1
        omega,fun e he=>by
       rcases AhV.1 he with h|h
       ·exact J.oe e h
       ·rw[AhH]at h
        subst h
        refine⟨x,z2,rfl,?_⟩
        have:=(Prod.mk.inj (We (x:=x) f2)).2
        rw[this]
        exact f2⟩ (by unfold Aee;simp[We f2]) ⟨by rw[t5l];omega,fun r Y n1 n3 n4=>by
       have hrH:r≠H.length:=by omega
       have hr1:AH U≠some r:=fun e=>by
        rcases hK.2.2 r e with h|h
        ·exact n4 h
        ·omega
       rw[t5 _ n1,t4 _ n3,g4.2.1 r (by omega) hr1,f5 r hrH]
       exact hK.2.1 r Y n1 n3 n4,fun r Y=>by
       rcases g4.2.2 r Y with h|h
       ·exact hK.2.2 r h
       ·exact .inr (by omega)⟩
     have hfin:(Aee (x,c) k ((E,u.map dNd),d)).2=((u.length:Nat):Int):=by unfold Aee;simp
     rw[hfin]at kk
     clear ih hQ df hno
     simp only[Int.natCast_add,Int.natCast_one]at hs1 s5
     simp (disch:=omega) [Ab,Aa,Z,J.dl,h3,ha3,hB,BF,f1,g1,j3,hw1,s4,k2,hc2,t43,g3n.2.1,g3n.2.2.1,g3n.2.2.2,k1,hn3,hs1,s5,t53]
     exact kk
   exact hO.keep fun r Y _=>BK _ _ _ Y
open Go.Proofs
variable {ty:Nat} {us:List I}
theorem LG.set (h:LG ty us o H)(hi:i<us.length){x:I}(Z:Ay (.m x)=some [.m x])(E:BM (.m x)=true):∃p u,Aq (.ixa 1) [o,J0 (i:Int)]=some p/\AB p=true/\(∀B,An (fun _ _ _=>none) ⟨B,H⟩ (.st 1) [p,.m x]=some (.un,⟨B,u⟩))/\LG ty (us.set i x) o u/\u.length=H.length /\ ∀r,¬AH o=some r->nth u r=nth H r:=by
 rcases h with ⟨rfl,_⟩|⟨r,N,rfl,J,h4,Y⟩
 ·simp at hi
 ·refine⟨.pt r us.length i 0,H.set r (.cs ty 1 (onV (us.set i x)) us.length false),?_,rfl,fun B=>?_,.inr ⟨r,us.length,by rw[Aib],Be (AQ J),by simp,fun e=>Y (by have:=AiE List.length e;simpa using this)⟩,by simp,fun q U=>AF fun e=>U (by rw[e];rfl)⟩
  ·simp (disch:=omega) []
  ·have W:nth (onV us) i=some [.m (us[i]'hi)]:=Ci (Ahh hi)
   show Option.bind (Ay (.m x)) _=_
   rw[Z,Ahp]
   show gd (Nat.beq 1 1&&[V.m x].all BM) _=_
   rw[show (Nat.beq 1 1&&[V.m x].all BM)=true from by simp[E]]
   show Option.bind (Option.bind (nth H r) _) _=_
   rw[J]
   show Option.bind (gd (!false&&Nat.beq us.length (onV us).length) (Option.bind (BS 1 (onV us) i 0 [.m x]) _)) _=_
   have Q:BS 1 (onV us) i 0 [.m x]=some (onV (us.set i x)):=by
    show Option.bind (nth (onV us) i) _=_
    rw[W]
    show AO (onV us) i [.m x]=_
    exact Em hi
   rw[Q,show (onV us).length=us.length from by simp]
   rw[show (!false&&Nat.beq us.length us.length)=true from by simp]
   show Option.bind (Option.bind (AO H r _) _) _=_
   rw[AA _ _ _ (AQ J)]
   rfl
theorem LG.keep (h:LG ty us o H)(J:∀r,AH o=some r->nth H' r=nth H r):LG ty us o H':=by
 rcases h with h|⟨r,u,rfl,N,E⟩
 ·exact .inl h
 ·exact .inr ⟨r,u,rfl,by rw[J r rfl];exact N,E⟩
theorem LG.lt (h:LG ty us o H)(e:AH o=some r):r<H.length:=by
 rcases h with ⟨_,rfl⟩|⟨q,u,rfl,E,J⟩
 ·cases e
 ·cases e;exact AQ E
variable {ps:List (List Ce)}
theorem OI (hL:LG 29 us o H)(Q:Gq us ps)(E:∀p,p∈ps->right p=true)(hl:us.length<=1000000):∃b:Bool,(b=true↔En ps)/\Gives G 54 [o] H (.m (.b b)) H:=by
 obtain⟨b,hb,g⟩:=Wb Q E hl []
 refine⟨b,hb,?_⟩
 rcases hL with ⟨rfl,rfl⟩|⟨r,u,rfl,W,U,Z⟩
 ·obtain⟨Y,hb2,g2⟩:=Wb Q E hl H
  have:Y=b:=by
   cases b <;> cases Y <;> simp_all
  rw[<-this]
  exact g2
 ·have hz:zL us=.sl (on1 us):=by unfold zL;rw[Ahj Z]
  refine AU (is:=[zL us]) rfl rfl g ?_ (.inr ⟨?_,rfl⟩)
  ·simp only[Ah,Ahp,Ahd]
   refine⟨zL us,?_,rfl⟩
   have he:Mx.elems H (.sl r us.length 1 0 us.length false)=some (onV us):=LW.elems (ok:=fun _=>True) (.inr ⟨r,us,u,false,AhY,rfl,W,U,Ahk _,AhI⟩)
   obtain⟨z,N,J,_⟩:=LW.view (ok:=fun _=>True) (.inr ⟨r,us,u,false,AhY,rfl,W,U,Ahk _,AhI⟩:LW 29 us (.sl r us.length 1 0 us.length false) H _) 18
   rw[N]
   rcases J with rfl|⟨rfl,h0⟩
   ·rw[hz]
   ·exact absurd (by simpa[on1]using h0) Z
  ·simp[Du,Fp]
theorem Yx (h:Gq us ps)(i:Nat){u:I}{q:List Ce}(N:IsSl u (Af q)):Gq (us.set i u) (ps.set i q):=by
 refine⟨by rw[Aib,Aib];exact h.1,fun k v p J E=>?_⟩
 rw[List.getElem?_set]at J E
 by_cases e:i=k
 ·subst e
  rw[Ahl rfl]at J E
  split at J
  ·cases J
   split at E
   ·cases E;exact N
   ·cases E
  ·cases J
 ·rw[Ahj e]at J E
  exact h.2 k v p J E
noncomputable def Wy (t:TreeC)(ps:List (List Ce))(i:Nat):List (List Ce):=(DI t ps).take i++ps.drop i
theorem Agu (t:TreeC)(ps:List (List Ce)):Wy t ps 0=ps:=by simp[Wy]
theorem Agt (t:TreeC)(ps:List (List Ce)):Wy t ps ps.length=DI t ps:=by
 unfold Wy DI
 rw[Ahz (by simp),Aia,Aid]
variable {t:TreeC} {p:List Ce}
theorem YC (h:ps[i]? = some p):(Wy t ps i)[i]? = some p:=by
 have u:=(Ahg.1 h).1
 have E:((DI t ps).take i).length=i:=by unfold DI;rw[Ahx,Ahr];omega
 unfold Wy
 rw[AhP (by omega),E,Nat.sub_self,AiI]
 exact h
theorem YB (h:ps[i]? = some p):(Wy t ps i).set i (Ca t p).1=Wy t ps (i+1):=by
 have E:=(Ahg.1 h).1
 have J:((DI t ps).take i).length=i:=by unfold DI;rw[Ahx,Ahr];omega
 have u:(DI t ps)[i]? = some (Ca t p).1:=by unfold DI;rw[AhD,h];rfl
 unfold Wy
 rw[AiF _ _ (by omega),J,Nat.sub_self,(Am h).2,List.set_cons_zero,As u,Aip]
 rfl
variable {l:List Sh} {xs:List St5}
theorem KW (h:ptE t l xs=0):l.length<=8/\xs.length<=16:=by
 unfold ptE at h
 by_cases u:Bd t=true
 ·rw[Ahl u]at h
  by_cases E:l.length<=8/\xs.length<=16
  ·exact E
  ·rw[Ahj E]at h;cases h
 ·rw[Ahj u]at h;cases h
theorem Lh (u:En ps)(h:¬5000<ps.flatten.length):FH ps=(AP ps.flatten,0):=by
 unfold FH
 rw[Ahl u,Ahj h]
theorem Jc (u:En ps)(h:5000<ps.flatten.length):FH ps=([],6):=by
 unfold FH
 rw[Ahl u,Ahl h]
variable {h n zs zx:I} {fs:LT}
set_option maxHeartbeats 8000000 in
theorem Agv (hT:TreeV t h n es)(hs:IsSl zs fs)(sv:Et fs l)(hx:IsSl zx (Fl xs))(ll:l.length<=1000000)(lx:xs.length<=1000000)(J:Int)(H:Hp):Gives G 23 [.m (.ag [J4 t.states,h,n]),.m zs,.m zx,J0 J] H (.tu [J0 (Lb t l xs J).1,J0 (Lb t l xs J).2]) H:=by
 have hS:=Cb hT
 obtain⟨v,H1,gP,-,-,hcase⟩:=Qn hT hs sv hx ll lx []
 generalize N:Lb t l xs J=R
 unfold Lb at N
 refine Ae rfl rfl rfl rfl rfl ?_
 generalize hQ:(fun(v':V) (x:Hp)=>v'=.tu [J0 R.1,J0 R.2])=Q
 have q1:∀a b H',R=(a,b)->Q (.tu [J0 a,J0 b]) H':=fun a b H' e=>by rw[<-hQ,e]
 clear hQ
 rcases hcase with ⟨hE,rfl⟩|⟨hE,us,o,rfl,Z,hP⟩
 ·rw[Ahj hE]at N
  have W:=q1 _ _ H N.symm
  generalize ptE t l xs=E at *
  simp (disch:=omega) [cl gP,hE]
  exact W
 rw[Ahl hE]at N
 have hx16:=(KW hE).2
 have hpr:=Gh hS (l:=l) (xs:=xs)
 have hpl:(plP t l xs).length<=16:=by unfold plP;rw[Ahr];exact hx16
 replace Z:=Z.toLG
 obtain⟨a4,-,-,-⟩:=Z.toLW.nf
 by_cases hg:0<=J/\J<=10000
 rotate_left
 ·rw[Ahj hg]at N
  have W:=q1 _ _ H N.symm
  by_cases h1:J<0
  ·simp (disch:=omega) [cl gP,Al a4,h1]
   exact W
  ·simp (disch:=omega) [cl gP,Al a4,h1,show 10000<J from by omega]
   exact W
 rw[Ahl hg]at N
 have g1:¬J<0:=by omega
 have g2:¬10000<J:=by omega
 generalize plP t l xs=ps at *
 have hul:us.length<=16:=by rw[hP.1];exact hpl
 obtain⟨b,hb,gD⟩:=OI Z hP hpr (by omega)
 by_cases hd:En ps
 rotate_left
 ·rw[Ahj hd]at N
  have W:=q1 _ _ H N.symm
  have:b=false:=by rw[<-Bool.not_eq_true];exact fun hh=>hd (hb.1 hh)
  subst this
  simp (disch:=omega) [cl gP,Al a4,g1,g2,cl gD]
  exact W
 rw[Ahl hd]at N
 have:=hb.2 hd
 subst this
 obtain⟨v,H2,gJ,hl2,hk2,rfl⟩:=Lg Z hP hpr hd hul
 by_cases U:5000<ps.flatten.length
 ·rw[Ahl U]at N
  rw[Jc hd U]at gJ
  have W:=q1 _ _ H N.symm
  simp (disch:=omega) [cl gP,Al a4,g1,g2,cl gD,cl gJ]
  exact W
 rw[Ahj U]at N
 rw[Lh hd U]at gJ
 have hwl:(AP ps.flatten).length<=5000:=by rw[Bs];omega
 have hL2:LG 29 us o H2:=Z.keep fun r hr=>hk2 r (Z.lt hr)
 simp (disch:=omega) [cl gP,Al a4,g1,g2,cl gD,cl gJ]
 refine(?key:∀(k:Nat) (g:Int) (us:List I) (ps:List (List Ce)) (w:List Ce) (B:LE) (H1:Hp),1<=g->g+k=J+1->LG 29 us o H1->Gq us ps->(∀p,p∈ps->right p=true)->us.length<=16->w.length<=5000->GW t k g ps w=R->getB B 4=some [J0 t.states,.m h,.m n]->Run G c23_B1 (S23_1 (J0 J) (.fa 4 0) o (.m (zP w)) (J0 (-1)) (J0 g) B H1) _) J.toNat 1 us ps _ _ H2 (by omega) (by omega) hL2 hP hpr hul hwl N rfl
 clear N hL2 hwl gJ hk2 hl2 U gD hb hd hul hpl hpr hP Z H2 H1 gP us ps g1 g2 hx16 hE hx sv hs ll lx
 refine Bl (fun k:Nat=>k) fun k ih g us ps w B H1 hg1 hgk Z hP hpr hul hwl N hB=>?_
 unfold c23_B1
 obtain⟨-,-,-,hlen⟩:=Z.toLW.nf
 cases k with
 | zero =>
  have W:=q1 _ _ H N.symm
  simp (disch:=omega) [show ¬g<=J from by omega]
  exact W
 | succ k =>
  have hle:g<=J:=by omega
  have hpl:ps.length=us.length:=hP.1.symm
  simp (disch:=omega) [hle,hlen]
  refine(?key2:∀(i:Nat) (us:List I) (B:LE) (H1:Hp),i<=ps.length->us.length=ps.length->LG 29 us o H1->Gq us (Wy t ps i)->KN t ps=KN t (ps.drop i)->getB B 4=some [J0 t.states,.m h,.m n]->Run G c23_B0 (S23_0 (J0 J) (.fa 4 0) o (.m (zP w)) (J0 (-1)) (J0 g) (J0 (us.length:Int)) (J0 (i:Int)) B H1) _) 0 us _ H1 (Aho _) hpl.symm Z (by rw[Agu];exact hP) rfl hB
  clear Z hP hlen hB H1 B
  replace hul:ps.length<=16:=by omega
  clear hpl us
  refine Bl (fun i:Nat=>ps.length-i) fun i ihi us B H1 hi hus Z hP hst hB=>?_
  unfold c23_B0
  obtain⟨-,-,-,hlen⟩:=Z.toLW.nf
  by_cases hil:i<ps.length
  ·have hil':(i:Int)<us.length:=by omega
   have hil2:i<us.length:=by omega
   have wi:=J1 i (by omega)
   obtain⟨u,hu⟩:∃u,us[i]? = some u:=⟨_,Ahh hil2⟩
   obtain⟨q,hq⟩:∃q,ps[i]? = some q:=⟨_,Ahh hil⟩
   have hsq:=hP.2 i u q hu (YC hq)
   have hql:=(Aw (hpr q (Ahm hq))).2.2
   have gS:=fun H=>Ou hT hsq (by omega) H
   obtain⟨pp,a1,a2,a3⟩:=Z.toLW.rd hu
   obtain⟨pq,H2,b1,b2,b3,hL2,hl2,hk2⟩:=Z.set hil2 (Aae (BY (Ca t q).1)) (Cv (BY (Ca t q).1))
   have:pq=pp:=by rw[a1]at b1;cases b1;rfl
   subst this
   have hP2:=Yx hP i (BY (Ca t q).1)
   rw[YB hq]at hP2
   have a0:=MQ (t:=t) hq
   by_cases he:(Ca t q).2=0
   ·rw[Ahl he]at a0
    have W:=fun B'=>ihi (i+1) (by omega) (us.set i (zP (Ca t q).1)) B' H2 (by omega) (by rw[Aib];exact hus) hL2 hP2 (by rw[hst,a0])
    rw[Aib]at W
    rw[he]at gS
    generalize zP (Ca t q).1=zz at *
    simp (disch:=omega) [hil',a1,a3,hB,cl (gS _),b3,wi,-Int.natCast_add]
    exact W _ (by simpa using hB)
   ·rw[Ahj he]at a0
    rw[VC (by rw[hst,a0];exact he),hst,a0]at N
    have W:=q1 _ _ H N.symm
    generalize zP (Ca t q).1=zz at *
    generalize (Ca t q).2=e at *
    simp (disch:=omega) [hil',a1,a3,hB,cl (gS _),b3,he]
    exact W
  ·have:i=ps.length:=by omega
   subst this
   rw[Agt]at hP
   rw[Aia]at hst
   have Y:KN t ps=0:=hst
   have gW:=fun H=>Ou hT (BY w) (by omega) H
   by_cases he:(Ca t w).2=0
   rotate_left
   ·rw[VA Y he]at N
    have W:=q1 _ _ H N.symm
    generalize zP (Ca t w).1=zz at *
    generalize (Ca t w).2=e at *
    simp (disch:=omega) [hus,hB,cl (gW _),he]
    exact W
   rw[he]at gW
   have hpr2:=JT hS Y
   have hw2:=(Aw (GT hS he)).2.2
   obtain⟨b,hb,gD⟩:=OI Z hP hpr2 (by omega)
   by_cases hd:En (DI t ps)
   rotate_left
   ·have:b=false:=by rw[<-Bool.not_eq_true];exact fun hh=>hd (hb.1 hh)
    subst this
    rw[Jb Y he fun hh=>hd hh.1]at N
    have W:=q1 _ _ H N.symm
    generalize zP (Ca t w).1=zz at *
    simp (disch:=omega) [hus,hB,cl (gW _),cl gD]
    exact W
   have:=hb.2 hd
   subst this
   obtain⟨v,H2,gJ,hl2,hk2,rfl⟩:=Lg Z hP hpr2 hd (by omega)
   have hL2:LG 29 us o H2:=Z.keep fun r hr=>hk2 r (Z.lt hr)
   by_cases U:5000<(DI t ps).flatten.length
   ·rw[Jc hd U]at gJ
    have hne:¬AP (DI t ps).flatten=(Ca t w).1:=fun hh=>by
     have:=AiE List.length hh
     rw[Bs]at this
     omega
    rw[Jb Y he fun hh=>hne hh.2]at N
    have W:=q1 _ _ H N.symm
    generalize zP (Ca t w).1=zz at *
    simp (disch:=omega) [hus,hB,cl (gW _),cl gD,cl gJ,Ad]
    exact W
   rw[Lh hd U]at gJ
   have gE:=fun H=>AfS (BY (AP (DI t ps).flatten)) (BY (Ca t w).1) (by rw[Bs];omega) (by omega) H
   by_cases heq:AP (DI t ps).flatten=(Ca t w).1
   ·rw[Ahq (Gn.2 heq)]at gE
    rw[VB Y he hd heq]at N
    have wg:=J2 (g+1) (by omega)
    have W:=fun B'=>ih k (by omega) (g+1) us (DI t ps) (Ca t w).1 B' H2 (by omega) (by omega) hL2 hP hpr2 (by omega) (by omega) N
    generalize zP (AP (DI t ps).flatten)=z1 at *
    generalize zP (Ca t w).1=zz at *
    simp (disch:=omega) [hus,hB,cl (gW _),cl gD,cl gJ,Ad,cl (gE _),wg]
    exact W _ (by simpa using hB)
   ·rw[Ahs (fun hh=>heq (Gn.1 hh))]at gE
    rw[Jb Y he fun hh=>heq hh.2]at N
    have W:=q1 _ _ H N.symm
    generalize zP (AP (DI t ps).flatten)=z1 at *
    generalize zP (Ca t w).1=zz at *
    simp (disch:=omega) [hus,hB,cl (gW _),cl gD,cl gJ,Ad,cl (gE _)]
    exact W
def NL (us:List I)(o:V)(H:Hp):Prop:=o=.m (zL us)\/(us=[]/\o=.m (.nl 4)) \/ ∃(r:Nat) (fz:Bool),o=.sl r us.length 1 0 us.length false/\nth H r=some (.cs 29 1 (onV us) 0 fz)
theorem NL.keep (h:NL us o H)(J:∀r,r<H.length->nth H' r=nth H r):NL us o H':=by
 rcases h with h|h|⟨r,E,rfl,u⟩
 ·exact .inl h
 ·exact .inr (.inl h)
 ·exact .inr (.inr ⟨r,E,rfl,by rw[J r (AQ u)];exact u⟩)
theorem NL.nf (h:NL us o H):AB o=true/\Aq (.len false) [o]=some (J0 (us.length:Nat)):=by
 rcases h with rfl|⟨rfl,rfl⟩|⟨r,u,rfl,E⟩
 ·have:=(MJ us).rules
  rw[OA]at this
  refine⟨rfl,?_⟩
  simp (maxSteps:=2000000) (disch:=omega) [this]
 ·exact⟨rfl,rfl⟩
 ·exact⟨rfl,rfl⟩
theorem NL.rd (h:NL us o H){x:I}(u:us[i]? = some x):∃p,Aq (.ixa 1) [o,J0 (i:Int)]=some p/\AB p=true /\ ∀B,readX ⟨B,H⟩ (.ld false 1) [p]=some (.m x):=by
 have E:=(Ahg.1 u).1
 have J:(i:Int)<us.length:=by omega
 rcases h with rfl|⟨rfl,_⟩|⟨r,W,rfl,U⟩
 ·have N:=(MJ us).rules
  rw[OA]at N
  have Q:=Vj u
  refine⟨.m (.pt [x]),?_,rfl,fun B=>rfl⟩
  simp (maxSteps:=2000000) (disch:=omega) [N,Q]
 ·simp at E
 ·refine⟨.pt r us.length i 0,?_,rfl,fun B=>?_⟩
  ·simp (maxSteps:=2000000) (disch:=omega) []
  ·simp (maxSteps:=2000000) (disch:=omega) [Ab,Ci u,U]
theorem LR.callF {ok:Nat->Prop}(h:LR 29 us o H ok){F:Nat}{x:V}(J:G.prim F=none)(hs:G.sh F=false)(E:∀H,Gives G F [.m (zL us)] H x H):∃Q,Gives G F [o] H x Q/\NL us o Q:=by
 have N:Ah (Mx.view 20 H) [o]=some [zL us]:=by
  simp only[Ah,h.view 18,Ahp]
 rcases h with ⟨rfl,rfl⟩|⟨U,r,W,rfl,u⟩
 ·exact⟨H,E H,.inr (.inl ⟨rfl,rfl⟩)⟩
 ·cases hf:FD x with
  | true=>exact⟨_,AU (is:=[zL us]) J hs (E []) N (.inr ⟨by simp[Du,Fp],hf⟩),.inr (.inr ⟨r,false,rfl,u⟩)⟩
  | false=>exact⟨_,BW (is:=[zL us]) J hs (E []) N (by simp[Du,Fp]) hf rfl (OG u),.inr (.inr ⟨r,true,rfl,Be (AQ u)⟩)⟩
set_option maxHeartbeats 4000000 in
theorem Qq (hT:TreeV t h n es)(hs:IsSl zs fs)(sv:Et fs l)(hx:IsSl zx (Fl xs))(ll:l.length<=1000000)(lx:xs.length<=1000000):∃z,(¬ptE t l xs=0->z=.nl 4)/\(ptE t l xs=0 -> ∃us,z=zL us/\Gq us (plP t l xs)) /\ ∀H,Gives G 57 [.m (.ag [J4 t.states,h,n]),.m zs,.m zx] H (.tu [.m z,J0 (ptE t l xs)]) H:=by
 have hS:=Cb hT
 have gq:=fun H=>KU hT H
 have W:=hs.rules
 rw[sv.1]at W
 have J:=hx.rules
 rw[Jh]at J
 generalize Y:ptE t l xs=E
 unfold ptE at Y
 have key:∃x H',Gives G 57 [.m (.ag [J4 t.states,h,n]),.m zs,.m zx] [] x H'/\(H'=[] /\ ∃z,x=.tu [.m z,J0 E]/\(¬E=0->z=.nl 4)/\(E=0 -> ∃us,z=zL us/\Gq us (plP t l xs))):=by
  refine AJ ?_
  refine Cs rfl rfl rfl rfl rfl ?_
  generalize hQ:(fun(x:V) (H':Hp)=>H'=[] /\ ∃z,x=.tu [.m z,J0 E]/\(¬E=0->z=.nl 4)/\(E=0 -> ∃us,z=zL us/\Gq us (plP t l xs)))=Q
  have qe:∀e,E=e -> ¬e=0->Q (.tu [.m (.nl 4),J0 e]) []:=fun e h1 h2=>by rw[<-hQ];exact⟨rfl,_,by rw[h1],fun _=>rfl,fun h3=>absurd (h1 ▸ h3) h2⟩
  have qk:∀us,E=0->Gq us (plP t l xs)->Q (.tu [.m (zL us),J0 0]) []:=fun us h1 h2=>by rw[<-hQ];exact⟨rfl,_,by rw[h1],fun h=>absurd h1 h,fun _=>⟨us,rfl,h2⟩⟩
  clear hQ
  by_cases hq:Bd t=true
  rotate_left
  ·rw[Ahj hq]at Y
   have N:=qe 11 Y.symm (by decide)
   rw[Bool.not_eq_true]at hq
   rw[hq]at gq
   simp (maxSteps:=2000000) (disch:=omega) [cl (gq _)]
   exact N
  rw[Ahl hq]at Y
  rw[hq]at gq
  by_cases hsz:l.length<=8/\xs.length<=16
  rotate_left
  ·rw[Ahj hsz]at Y
   have N:=qe 6 Y.symm (by decide)
   by_cases h1:8<l.length
   ·simp (maxSteps:=2000000) (disch:=omega) [cl (gq _),W,show (8:Int)<l.length from by omega]
    exact N
   ·have h2:16<xs.length:=by omega
    simp (maxSteps:=2000000) (disch:=omega) [cl (gq _),W,J,show ¬(8:Int)<l.length from by omega,show (16:Int)<xs.length from by omega]
    exact N
  rw[Ahl hsz]at Y
  have s1:¬8<l.length:=by omega
  have s2:¬(8:Int)<l.length:=by omega
  have s3:¬16<xs.length:=by omega
  have s4:¬(16:Int)<xs.length:=by omega
  simp (maxSteps:=2000000) (disch:=omega) [cl (gq _),W,J,s2,s4]
  refine(?key2:∀(i:Nat) (us:List I) (o:V) (B:LE) (H1:Hp),i<=xs.length->plE t l xs=plE t l (xs.drop i)->Gq us (plP t l (xs.take i))->LR 29 us o H1 (0 <= ·)->getB B 3=some [J0 t.states,.m h,.m n]->Run G c57_B0 (S57_0 (.m zs) (.m zx) (.fa 3 0) o (J0 (i:Int)) B H1) _) 0 [] _ _ [] (Aho _) rfl ⟨rfl,fun i u q hi=>by simp at hi⟩ (.inl ⟨rfl,rfl⟩) rfl
  refine Bl (fun i:Nat=>xs.length-i) fun i ih us o B H1 hi a1 hP hL a0=>?_
  unfold c57_B0
  obtain⟨hnf,hcel,hone,hlen⟩:=hL.nf
  cases hx2:xs[i]? with
  | some x =>
   have hlt:=(Ahg.1 hx2).1
   have Z:(i:Int)<xs.length:=by omega
   have hn:=Jg hx2
   have gp:=fun H=>AcO hT hs sv x H
   have wi:=J1 i (by omega)
   have U:=Qp (t:=t) (l:=l) hx2
   have hu:=BY (plF t l x).1
   simp only[FL]at gp
   by_cases he:(plF t l x).2=0
   ·rw[Ahl he]at U
    rw[he]at gp
    have hul:us.length=i:=by rw[hP.1];unfold plP;rw[Ahr,Ahx];omega
    generalize zP (plF t l x).1=u at *
    obtain⟨o1,H2,ha,hn1,hL2,_⟩:=hL.push (Aho _) (b:=24) (by omega) (ys:=[u]) (by simp;omega) (fun y hy=>by rw[AhH.1 hy];exact Cv hu)
    have ha:∀B,EK ⟨B,H1⟩ 29 1 24 o [[.m u]]=some (o1,⟨B,H2⟩):=ha
    have hb1:=fun c B H=>Wn hu c B H
    have hP2:Gq (us++[u]) (plP t l (xs.take (i+1))):=by rw[Qo hx2];exact Gi hP hu
    have N:=fun B'=>ih (i+1) (by omega) (us++[u]) o1 B' H2 (by omega) (by rw[a1,U]) hP2 hL2
    simp (maxSteps:=2000000) (disch:=omega) [J,Z,hn,a0,cl (gp _),hb1,ha,wi,Al hn1,-Int.natCast_add]
    exact N _ (by simpa using a0)
   ·rw[Ahj he]at U
    have N:=qe (plF t l x).2 (by rw[<-Y,a1,U]) he
    generalize (plF t l x).2=e at *
    generalize zP (plF t l x).1=u at *
    simp (maxSteps:=2000000) (disch:=omega) [J,Z,hn,a0,cl (gp _),he]
    exact N
  | none =>
   have:i=xs.length:=by have:=Ahn.1 hx2;omega
   subst this
   clear ih hx2 hi
   rw[AhI]at hP
   have hpe0:plE t l xs=0:=by rw[a1,Aia];rfl
   have N:=qk us (by rw[<-Y,hpe0]) hP
   have hvw:=hL.view 18
   generalize zL us=z at *
   simp (maxSteps:=2000000) (disch:=omega) [J,hvw,Al hnf]
   exact⟨hnf,N⟩
 obtain⟨x,H',g,rfl,z,rfl,z1,z2⟩:=key
 exact⟨z,z1,z2,fun H=>AU (H:=H) (is:=[.ag [J4 t.states,h,n],zs,zx]) rfl rfl g rfl (.inl ⟨rfl,rfl⟩)⟩
theorem Ur (h:En ps):unF ps=(AP ps.flatten,true):=by unfold unF;rw[Ahl h]
theorem Us (h:¬En ps):unF ps=([],false):=by unfold unF;rw[Ahj h]
set_option maxHeartbeats 8000000 in
theorem Agw (hT:TreeV t h n es)(hs:IsSl zs fs)(sv:Et fs l)(hx:IsSl zx (Fl xs))(ll:l.length<=1000000)(lx:xs.length<=1000000)(J:Int)(H:Hp):Gives G 24 [.m (.ag [J4 t.states,h,n]),.m zs,.m zx,J0 J] H (.tu [J0 (Lb t l xs J).1,J0 (Lb t l xs J).2]) H:=by
 have hS:=Cb hT
 obtain⟨z,z1,z2,gP⟩:=Qq hT hs sv hx ll lx
 generalize U:Lb t l xs J=R
 unfold Lb at U
 refine Ae rfl rfl rfl rfl rfl ?_
 generalize hQ:(fun(v':V) (x:Hp)=>v'=.tu [J0 R.1,J0 R.2])=Q
 have q1:∀a b H',R=(a,b)->Q (.tu [J0 a,J0 b]) H':=fun a b H' e=>by rw[<-hQ,e]
 clear hQ
 by_cases hE:ptE t l xs=0
 rotate_left
 ·rw[Ahj hE]at U
  have W:=q1 _ _ H U.symm
  have:=z1 hE
  subst this
  generalize ptE t l xs=E at *
  simp (disch:=omega) [cl (gP _),hE]
  exact W
 obtain⟨us,rfl,hP⟩:=z2 hE
 rw[Ahl hE]at U
 rw[hE]at gP
 have hx16:=(KW hE).2
 have a5:=Gh hS (l:=l) (xs:=xs)
 have hpl:(plP t l xs).length<=16:=by unfold plP;rw[Ahr];exact hx16
 by_cases hg:0<=J/\J<=10000
 rotate_left
 ·rw[Ahj hg]at U
  have W:=q1 _ _ H U.symm
  generalize zL us=z at *
  by_cases h1:J<0
  ·simp (disch:=omega) [cl (gP _),h1]
   exact W
  ·simp (disch:=omega) [cl (gP _),h1,show 10000<J from by omega]
   exact W
 rw[Ahl hg]at U
 have g1:¬J<0:=by omega
 have g2:¬10000<J:=by omega
 generalize plP t l xs=ps at *
 have hul:us.length<=16:=by rw[hP.1];exact hpl
 have gU:=fun H=>Oo (MJ us) hP a5 (by omega) H
 by_cases hd:En ps
 rotate_left
 ·rw[Ahj hd]at U
  rw[Us hd]at gU
  have W:=q1 _ _ H U.symm
  generalize zL us=z at *
  simp (disch:=omega) [cl (gP _),g1,g2,cl (gU _)]
  exact W
 rw[Ahl hd]at U
 rw[Ur hd]at gU
 have hrw:=(BY (AP ps.flatten)).rules
 simp only[show (Af (AP ps.flatten)).length=ps.flatten.length from by simp[Af,Bs]]at hrw
 generalize hN:ps.flatten.length=N at hrw
 have hflb:=Ff (ps:=ps) fun p hp=>(Aw (a5 p hp)).2.2
 by_cases hbig:5000<ps.flatten.length
 ·rw[Ahl hbig]at U
  have W:=q1 _ _ H U.symm
  generalize zL us=z at *
  generalize zP (AP ps.flatten)=zw at *
  simp (disch:=omega) [cl (gP _),g1,g2,cl (gU _),hrw,show (5000:Int)<N from by omega]
  exact W
 rw[Ahj hbig]at U
 have hwl:(AP ps.flatten).length<=5000:=by rw[Bs];omega
 have hnl:NL us (.m (zL us)) []:=.inl rfl
 generalize AP ps.flatten=w at *
 generalize hzu:(V.m (zL us))=a4 at hnl
 simp only[hzu]at gP gU
 generalize hzw:zP w=zw at *
 simp (disch:=omega) [cl (gP _),g1,g2,cl (gU _),hrw,show ¬5000<N from by omega,show ¬(5000:Int)<N from by omega,Al hnl.nf.1]
 subst hzw
 refine(?key:∀(k:Nat) (g:Int) (us:List I) (a4:V) (ps:List (List Ce)) (w:List Ce) (B:LE) (H1:Hp),1<=g->g+k=J+1->NL us a4 H1->Gq us ps->(∀p,p∈ps->right p=true)->us.length<=16->w.length<=5000->GW t k g ps w=R->getB B 4=some [J0 t.states,.m h,.m n]->Run G c24_B1 (S24_1 (J0 J) (.fa 4 0) a4 (.m (zP w)) (J0 g) B H1) _) J.toNat 1 us a4 ps w [(4,[J0 t.states,.m h,.m n])] [] (by omega) (by omega) hnl hP a5 hul hwl U rfl
 clear hN U hnl hwl gU hbig hrw hflb hd hul hpl a5 hP gP hzu a4 z1 z2 us ps w g1 g2 hx16 hE hx sv hs ll lx
 refine Bl (fun k:Nat=>k) fun k ih g us a4 ps w B H1 hg1 hgk hN hP a5 hul hwl U hB=>?_
 unfold c24_B1
 obtain⟨hnf0,Y⟩:=hN.nf
 cases k with
 | zero =>
  have W:=q1 _ _ H U.symm
  simp (disch:=omega) [show ¬g<=J from by omega]
  exact W
 | succ k =>
  have hle:g<=J:=by omega
  have hpl:ps.length=us.length:=hP.1.symm
  simp (disch:=omega) [hle]
  refine(?key2:∀(i:Nat) (vs:List I) (nx:V) (B:LE) (H2:Hp),i<=ps.length->LR 29 vs nx H2 (H1.length <= ·)->H1.length<=H2.length->(∀r,r<H1.length->nth H2 r=nth H1 r)->Gq vs ((DI t ps).take i)->KN t ps=KN t (ps.drop i)->getB B 4=some [J0 t.states,.m h,.m n]->Run G c24_B0 (S24_0 (J0 J) (.fa 4 0) a4 (.m (zP w)) (J0 g) nx (J0 (i:Int)) B H2) _) 0 [] _ _ H1 (Aho _) (.inl ⟨rfl,rfl⟩) (Ahk _) (fun _ _=>rfl) ⟨rfl,fun i u q hi=>by simp at hi⟩ rfl hB
  clear hB B
  refine Bl (fun i:Nat=>ps.length-i) fun i ihi vs nx B H2 hi hL hl2 hk2 a6 hst hB=>?_
  unfold c24_B0
  obtain⟨hnf,_,_,_⟩:=hL.nf
  by_cases hil:i<ps.length
  ·have hil':(i:Int)<us.length:=by omega
   have hil2:i<us.length:=by omega
   have wi:=J1 i (by omega)
   obtain⟨u,hu⟩:∃u,us[i]? = some u:=⟨_,Ahh hil2⟩
   obtain⟨q,hq⟩:∃q,ps[i]? = some q:=⟨_,Ahh hil⟩
   have hsq:=hP.2 i u q hu hq
   have hql:=(Aw (a5 q (Ahm hq))).2.2
   have gS:=fun H=>Ov hT hsq (by omega) H
   obtain⟨pp,a1,a2,a3⟩:=(hN.keep hk2).rd hu
   have Z:=MQ (t:=t) hq
   have hz:=BY (Ca t q).1
   by_cases he:(Ca t q).2=0
   ·rw[Ahl he]at Z
    rw[he]at gS
    have hgq:(DI t ps)[i]? = some (Ca t q).1:=by unfold DI;rw[AhD,hq];rfl
    have hvl:vs.length=i:=by rw[a6.1,Ahx];unfold DI;rw[Ahr];omega
    generalize zP (Ca t q).1=zz at *
    obtain⟨o1,H3,ha,hn1,hL3,hq1,hl3,hk3⟩:=hL.push hl2 (b:=24) (by omega) (ys:=[zz]) (by simp;omega) (fun y hy=>by rw[AhH.1 hy];exact Cv hz)
    have ha:∀B,EK ⟨B,H2⟩ 29 1 24 nx [[.m zz]]=some (o1,⟨B,H3⟩):=ha
    have hb1:=fun c B H=>Wn hz c B H
    have hP2:Gq (vs++[zz]) ((DI t ps).take (i+1)):=by rw[As hgq];exact Gi a6 hz
    have W:=fun B'=>ihi (i+1) (by omega) (vs++[zz]) o1 B' H3 (by omega) hL3 (by omega) (fun r hr=>by rw[hk3 r hr];exact hk2 r hr) hP2 (by rw[hst,Z])
    simp (disch:=omega) [hil',Y,a1,a3,hB,Al hn1,cl (gS _),hb1,ha,wi,-Int.natCast_add]
    exact W _ (by simpa using hB)
   ·rw[Ahj he]at Z
    rw[VC (by rw[hst,Z];exact he),hst,Z]at U
    have W:=q1 _ _ H U.symm
    generalize zP (Ca t q).1=zz at *
    generalize (Ca t q).2=e at *
    simp (disch:=omega) [hil',Y,a1,a3,hB,cl (gS _),he]
    exact W
  ·have:i=ps.length:=by omega
   subst this
   have a0:KN t ps=0:=by rw[hst,Aia];rfl
   rw[Ahz (Nat.le_of_eq (by unfold DI;rw[Ahr]))]at a6
   have gW:=fun H=>Ov hT (BY w) (by omega) H
   have hn1:¬ps.length<us.length:=by omega
   have hn2:¬(ps.length:Int)<us.length:=by omega
   by_cases he:(Ca t w).2=0
   rotate_left
   ·rw[VA a0 he]at U
    have W:=q1 _ _ H U.symm
    generalize zP (Ca t w).1=zz at *
    generalize (Ca t w).2=e at *
    simp (disch:=omega) [Y,hn2,hB,cl (gW _),he]
    exact W
   rw[he]at gW
   have hpr2:=JT hS a0
   have hw2:=(Aw (GT hS he)).2.2
   have hvl:vs.length=ps.length:=by rw[a6.1];unfold DI;rw[Ahr]
   have gU:=fun H=>Oo (MJ vs) a6 hpr2 (by omega) H
   have hflb:=Ff (ps:=DI t ps) fun p hp=>(Aw (hpr2 p hp)).2.2
   obtain⟨H3,gV,hN3⟩:=hL.callF rfl rfl gU
   by_cases hd:En (DI t ps)
   rotate_left
   ·rw[Jb a0 he fun hh=>hd hh.1]at U
    rw[Us hd]at gV
    have W:=q1 _ _ H U.symm
    generalize zP (Ca t w).1=zz at *
    simp (disch:=omega) [Y,hn2,hB,cl (gW _),cl gV,Ad]
    exact W
   rw[Ur hd]at gV
   have hflc:(DI t ps).flatten.length<=1000000:=by rw[show (DI t ps).length=ps.length from by unfold DI;rw[Ahr]]at hflb;omega
   have gE:=fun H=>IV (BY (AP (DI t ps).flatten)) (BY (Ca t w).1) (by rw[Bs];exact hflc) (by omega) H
   by_cases heq:AP (DI t ps).flatten=(Ca t w).1
   ·rw[Ahq (Gn.2 heq)]at gE
    rw[VB a0 he hd heq]at U
    have wg:=J2 (g+1) (by omega)
    have W:=fun B'=>ih k (by omega) (g+1) vs nx (DI t ps) (Ca t w).1 B' H3 (by omega) (by omega) hN3 a6 hpr2 (by omega) (by omega) U
    generalize zP (AP (DI t ps).flatten)=z1 at *
    generalize zP (Ca t w).1=zz at *
    simp (disch:=omega) [Y,hn2,hB,Al hnf,cl (gW _),cl gV,Ad,cl (gE _),wg]
    exact W _ (by simpa using hB)
   ·rw[Ahs (fun hh=>heq (Gn.1 hh))]at gE
    rw[Jb a0 he fun hh=>heq hh.2]at U
    have W:=q1 _ _ H U.symm
    generalize zP (AP (DI t ps).flatten)=z1 at *
    generalize zP (Ca t w).1=zz at *
    simp (disch:=omega) [Y,hn2,hB,cl (gW _),cl gV,Ad,cl (gE _)]
    exact W
end Go.Mx.Tryz
set_option maxHeartbeats 4000000
namespace Go.Mx.Tryz
open Go.Lib Go.Proofs
noncomputable def UC (t:TreeC)(l:List Sh)(xs:List St5):List Ce×Int:=if ptE t l xs=0 then FH (plP t l xs) else ([],ptE t l xs)
theorem Qk (t:TreeC)(l:List Sh)(xs:List St5)(u:Int):Yp t l xs u=if (UC t l xs).2=0 then rnE t (UC t l xs).1 u else ([],(UC t l xs).2):=by
 unfold Yp UC
 by_cases h:ptE t l xs=0
 ·rw[Ahl h,Ahl h]
 ·rw[Ahj h,Ahj h,Ahj h]
theorem QJ {ps:List (List Ce)}(h:¬En ps):FH ps=([],8):=by unfold FH;rw[Ahj h]
theorem Yd (t:TreeC)(l:List Sh)(xs:List St5):(UC t l xs).1.length<=5000:=by
 unfold UC
 split
 ·unfold FH
  split
  ·split
   ·simp
   ·rw[Bs];omega
  ·simp
 ·simp
variable {t:TreeC} {h n zs zx:I} {es fs:LT} {l:List Sh} {xs:List St5}
theorem sta_s (hT:TreeV t h n es)(hs:IsSl zs fs)(sv:Et fs l)(hx:IsSl zx (Fl xs))(ll:l.length<=1000000)(lx:xs.length<=1000000)(H:Hp):Gives G 59 [.m (.ag [J4 t.states,h,n]),.m zs,.m zx] H (.tu [.m (zP (UC t l xs).1),J0 (UC t l xs).2]) H:=by
 have hS:=Cb hT
 obtain⟨v,H1,gP,-,-,J⟩:=Qn hT hs sv hx ll lx []
 generalize N:UC t l xs=R
 unfold UC at N
 refine Ae rfl rfl rfl rfl rfl ?_
 generalize hQ:(fun(v':V) (x:Hp)=>v'=.tu [.m (zP R.1),J0 R.2])=Q
 have q1:∀a b H',R=(a,b)->Q (.tu [.m (zP a),J0 b]) H':=fun a b H' e=>by rw[<-hQ,e]
 clear hQ
 rcases J with ⟨hE,rfl⟩|⟨hE,us,o,rfl,Z,hP⟩
 ·rw[Ahj hE]at N
  have Y:=q1 _ _ H N.symm
  generalize ptE t l xs=E at *
  simp (disch:=omega) [cl gP,hE]
  exact Y
 rw[Ahl hE]at N
 have W:=(KW hE).2
 have U:=Gh hS (l:=l) (xs:=xs)
 have hpl:(plP t l xs).length<=16:=by unfold plP;rw[Ahr];exact W
 replace Z:=Z.toLG
 obtain⟨u,-,-,-⟩:=Z.toLW.nf
 generalize plP t l xs=ps at *
 have hul:us.length<=16:=by rw[hP.1];exact hpl
 obtain⟨b,hb,gD⟩:=OI Z hP U (by omega)
 by_cases hd:En ps
 rotate_left
 ·rw[QJ hd]at N
  have Y:=q1 _ _ H N.symm
  have:b=false:=by rw[<-Bool.not_eq_true];exact fun hh=>hd (hb.1 hh)
  subst this
  simp (disch:=omega) [cl gP,Al u,cl gD]
  exact Y
 have:=hb.2 hd
 subst this
 obtain⟨v,H2,gJ,hl2,hk2,rfl⟩:=Lg Z hP U hd hul
 rw[N]at gJ
 have Y:=q1 R.1 R.2 H rfl
 generalize zP R.1=z at *
 simp (disch:=omega) [cl gP,Al u,cl gD,cl gJ]
 exact Y
theorem res_s (Q:TreeV t h n es)(hs:IsSl zs fs)(W:Et fs l)(Y:IsSl zx (Fl xs))(Z:l.length<=1000000)(U:xs.length<=1000000)(u:Int):∃x,IsSl x (Af (Yp t l xs u).1) /\ ∀H,Gives G 25 [.m (.ag [J4 t.states,h,n]),.m zs,.m zx,J0 u] H (.tu [.m x,J0 (Yp t l xs u).2]) H:=by
 have N:=fun H=>sta_s Q hs W Y Z U H
 have hl:=Yd t l xs
 rw[Qk]
 generalize UC t l xs=s at *
 obtain⟨w,e⟩:=s
 dsimp only at *
 by_cases E:e=0
 ·subst E
  rw[Ahl rfl]
  obtain⟨x,J,gR⟩:=AcI Q (BY w) (by omega) u
  refine⟨x,J,fun H=>Ae rfl rfl rfl rfl rfl ?_⟩
  generalize rnE t w u=r at *
  generalize zP w=z at *
  simp (disch:=omega) [cl (N _),cl (gR _)]
 ·rw[Ahj E]
  refine⟨.nl 4,AM,fun H=>Ae rfl rfl rfl rfl rfl ?_⟩
  generalize zP w=z at *
  simp (disch:=omega) [cl (N _),E]
theorem res_r (hT:TreeV t h n es)(hs:IsSl zs fs)(sv:Et fs l)(hx:IsSl zx (Fl xs))(ll:l.length<=1000000)(lx:xs.length<=1000000)(u:Int):∃x,IsSl x (Af (Yp t l xs u).1) /\ ∀H,Gives G 26 [.m (.ag [J4 t.states,h,n]),.m zs,.m zx,J0 u] H (.tu [.m x,J0 (Yp t l xs u).2]) H:=by
 have hS:=Cb hT
 obtain⟨z,z1,z2,gP⟩:=Qq hT hs sv hx ll lx
 unfold Yp
 by_cases U:ptE t l xs=0
 rotate_left
 ·rw[Ahj U]
  have:=z1 U
  subst this
  refine⟨.nl 4,AM,fun H=>Ae rfl rfl rfl rfl rfl ?_⟩
  generalize ptE t l xs=E at *
  simp (disch:=omega) [cl (gP _),U]
 obtain⟨us,rfl,hP⟩:=z2 U
 rw[Ahl U]
 rw[U]at gP
 have Z:=(KW U).2
 have W:=Gh hS (l:=l) (xs:=xs)
 have hpl:(plP t l xs).length<=16:=by unfold plP;rw[Ahr];exact Z
 generalize plP t l xs=ps at *
 have hul:us.length<=16:=by rw[hP.1];exact hpl
 have Y:=fun H=>Oo (MJ us) hP W (by omega) H
 by_cases hd:En ps
 rotate_left
 ·rw[QJ hd,Ahj (by decide)]
  rw[Us hd]at Y
  refine⟨.nl 4,AM,fun H=>Ae rfl rfl rfl rfl rfl ?_⟩
  generalize zL us=z at *
  simp (disch:=omega) [cl (gP _),cl (Y _)]
 rw[Ur hd]at Y
 have J:=(BY (AP ps.flatten)).rules
 simp only[show (Af (AP ps.flatten)).length=ps.flatten.length from by simp[Af,Bs]]at J
 generalize hN:ps.flatten.length=N at J
 by_cases Q:5000<ps.flatten.length
 ·rw[Jc hd Q,Ahj (by decide)]
  refine⟨.nl 4,AM,fun H=>Ae rfl rfl rfl rfl rfl ?_⟩
  have hflb:=Ff (ps:=ps) fun p hp=>(Aw (W p hp)).2.2
  generalize zL us=z at *
  generalize zP (AP ps.flatten)=zw at *
  simp (disch:=omega) [cl (gP _),cl (Y _),J,show (5000:Int)<N from by omega]
 rw[Lh hd Q,Ahl rfl]
 obtain⟨x,hx2,gR⟩:=AcJ hT (BY (AP ps.flatten)) (by rw[Bs];omega) u
 refine⟨x,hx2,fun H=>Ae rfl rfl rfl rfl rfl ?_⟩
 generalize rnE t (AP ps.flatten) u=r at *
 generalize zL us=z at *
 generalize zP (AP ps.flatten)=zw at *
 simp (disch:=omega) [cl (gP _),cl (Y _),J,show ¬5000<N from by omega,show ¬(5000:Int)<N from by omega,cl (gR _)]
end Go.Mx.Tryz
