/- Lists of numbers in rows. -/
import Derived.Test.YtlhjjcaifenlbaaGreatDoorRd
import Derived.Test.YtlhjjcaifenlbaaGreatDoorNa
set_option linter.unusedSimpArgs false
set_option linter.unusedVariables false
set_option linter.unusedSectionVars false
set_option maxRecDepth 100000
namespace Go.Mx.Tryz
open Go.Lib Go.Proofs
def dmp (D:List (Int×Int)):Row:=mPB (D.map fun k=>(k,true))
theorem YE (D:List (Int×Int))(k:Int×Int):(CG (D.map fun k=>(k,true)) k).getD false=decide (k∈D):=by
 induction D with
 | nil=>rfl
 | cons a r J =>
  by_cases h:a=k
  ·subst h;simp[CG]
  ·have E:¬k=a:=fun e=>h e.symm
   simp only[AhL,CG,Ahj h,J,AhF,E,false_or]
theorem Adt (D:List (Int×Int))(x y:Int):Hb ⟨true,[1,1]⟩ [.m (.b false)] false false (dmp D) (.ag [J4 x,J4 y])=some (.m (.b (decide ((x,y)∈D)))):=by
 have:=Abx (D.map fun k=>(k,true)) x y false
 rw[YE]at this
 exact this
variable {D:List (Int×Int)}
theorem AgN {x y:Int}(h:(x,y) ∉ D):Zx ⟨true,[1,1]⟩ (dmp D) (.ag [J4 x,J4 y]) (.m (.b true))=some (dmp (D++[(x,y)])):=by
 have:=AeL (D.map fun k=>(k,true)) x y true
 rw[Kn]at this
 ·rw[show dmp (D++[(x,y)])=mPB (D.map (fun k=>(k,true))++[((x,y),true)]) from by unfold dmp;rw[List.map_append];rfl]
  exact this
 ·rw[Aim]
  intro E
  obtain⟨k,J,e⟩:=AhE.1 E
  have e:k=(x,y):=e
  exact h (e ▸ J)
def AdE (D:List (Int×Int))(f:List Ce)(o:V)(H:Hp):Prop:=(f=[]/\o=.m (.nl 4)/\H=[dmp D])\/(f≠[]/\o=.sl 1 f.length 3 0 f.length false/\H=[dmp D,.cs 73 3 (AE f) 0 false])
variable {f:List Ce} {o:V} {H:Hp}
theorem ZY (h:AdE D f o H):nth H 0=some (dmp D)/\AB o=true /\ ∀E,AO H 0 (dmp E)=some (H.set 0 (dmp E))/\AdE E f o (H.set 0 (dmp E)):=by
 rcases h with ⟨rfl,rfl,rfl⟩|⟨J,rfl,rfl⟩
 ·exact⟨rfl,rfl,fun E=>⟨rfl,.inl ⟨rfl,rfl,rfl⟩⟩⟩
 ·exact⟨rfl,rfl,fun E=>⟨rfl,.inr ⟨J,rfl,rfl⟩⟩⟩
theorem Vc (h:AdE D f o H)(hl:f.length<=1000000)(c:Ce):∃J N,(∀B,EK ⟨B,H⟩ 73 3 24 o [[J0 c.x,J0 c.y,J0 c.s]]=some (J,⟨B,N⟩))/\AB J=true/\AdE D (f++[c]) J N:=by
 rcases h with ⟨rfl,rfl,rfl⟩|⟨Q,rfl,rfl⟩
 ·exact⟨_,_,fun B=>rfl,rfl,.inr ⟨by simp,rfl,rfl⟩⟩
 ·have E:=fun B=>CC (M:=⟨B,[dmp D,.cs 73 3 (AE f) 0 false]⟩) (r:=1) (bytes:=24) (xs:=[[J0 c.x,J0 c.y,J0 c.s]]) rfl (by simp) (by simp;omega) rfl
  simp only[Do,AhR,AhW,Aih,List.set_cons_succ,List.set_cons_zero]at E
  have e:AE f++[[J0 c.x,J0 c.y,J0 c.s]]=AE (f++[c]):=by simp[AE,QX,Ce.i]
  rw[e]at E
  exact⟨_,_,E,rfl,.inr ⟨by simp,by simp,rfl⟩⟩
theorem Vd {F:Nat}{x:V}(N:G.prim F=none)(hs:G.sh F=false)(W:AdE D f o H)(h:∀H,Gives G F [.m (zP f)] H x H):∃Y,Gives G F [o] H x Y:=by
 rcases W with ⟨rfl,rfl,rfl⟩|⟨J,rfl,rfl⟩
 ·exact⟨_,h _⟩
 ·have U:zP f=.sl (Af f):=by unfold zP;rw[Ahj J]
  rw[U]at h
  have Q:Ah (view 20 [dmp D,Row.cs 73 3 (AE f) 0 false]) [V.sl 1 f.length 3 0 f.length false]=some [.sl (Af f)]:=by
   have:=Uo (H:=[dmp D,Row.cs 73 3 (AE f) 0 false]) (r:=1) (b:=0) (q:=f) rfl (Aho _) 18
   show (view 20 _ _).bind _=_
   rw[this]
   rfl
  cases hf:FD x with
  | true=>exact⟨_,AU (is:=[.sl (Af f)]) N hs (h []) Q (.inr ⟨by simp[Du,Fp],hf⟩)⟩
  | false =>
   have E:AX ([V.sl 1 f.length 3 0 f.length false].flatMap Du) [dmp D,Row.cs 73 3 (AE f) 0 false]=some [dmp D,Row.cs 73 3 (AE f) 0 true]:=by
    show Option.bind (gd ((AE f).all fun e=>e.all isM) (some (Row.cs 73 3 (AE f) 0 true))) _=_
    rw[IT]
    rfl
   exact⟨_,BW (is:=[.sl (Af f)]) N hs (h []) Q (by simp[Du,Fp]) hf rfl E⟩
def So (t:TreeC)(p:List Ce)(x:V):Prop:=∃q e,DM t p (q,e)/\x=.tu [.m (zP q),.m (.i .i64 e)]
variable {t:TreeC} {h n v:I} {es:LT} {p:List Ce}
set_option maxHeartbeats 4000000 in
theorem ZR (hT:TreeV t h n es)(hv:IsSl v (Af p))(hc:CB t p=0)(H:Hp):∃x,So t p x/\Gives G 82 [.m (.ag [J4 t.states,h,n]),.m v] H x H:=by
 obtain⟨hq,hr,ht⟩:=BU hc
 have hR:=DK hq
 obtain⟨pw,hg,hl⟩:=CN hr
 have hrv:=hv.rules
 simp only[J3]at hrv
 have W:=hT.hd.rules
 simp only[Bq]at W
 have hh:=BZ hR.hood
 have key:∃x H',Gives G 82 [.m (.ag [J4 t.states,h,n]),.m v] H x H'/\(H'=H/\So t p x):=by
  refine AJ ?_
  refine Cs rfl rfl rfl rfl rfl ?_
  generalize hQ:(fun(x:V) (H':Hp)=>H'=H/\So t p x)=Q
  have q5:DM t p ([],5)->Q (.tu [.m (.nl 4),J0 5]) H:=fun hs=>by rw[<-hQ];exact⟨rfl,[],5,hs,rfl⟩
  have qa:∀q e,DM t p (q,e)->Q (.tu [.m (zP q),J0 e]) H:=fun q e hs=>by rw[<-hQ];exact⟨rfl,q,e,hs,rfl⟩
  clear hQ
  have g1:=fun H=>of_m hv hr H
  simp (disch:=omega) [cl (g1 _),hrv]
  refine(?key:∀(i:Nat) (D:List (Int×Int)) (l:List Ce) (o:V) (B:LE) (H1:Hp),i<=p.length->getB B 2=some [J0 t.states,.m h,.m n]->StI t p D l->(∀(a:Nat) c o,a<i->p[a]? = some c->o∈t.hood->(c.x-o.1,c.y-o.2)∈D)->l.length<=25*i->AdE D l o H1->Run G c82_B1 (S82_1 (.fa 2 0) (.m (fzm (KX p))) (.mp 0) o (.m v) (J0 p.length) (J0 (i:Int)) B H1) _) 0 [] [] _ _ _ (Aho _) rfl (Acw t p) (fun a c o h=>by omega) (by simp) (.inl ⟨rfl,rfl,rfl⟩)
  refine Bl (fun i:Nat=>p.length-i) fun i ih D l o B H1 hi hB hI N hll ho=>?_
  unfold c82_B1
  obtain⟨n0,hnf,hset0⟩:=ZY ho
  cases hx:p[i]? with
  | none =>
   have:i=p.length:=by have:=Ahn.1 hx;omega
   subst this
   have hall2:∀c o,c∈p->o∈t.hood->(c.x-o.1,c.y-o.2)∈D:=fun c o hc ho2=>by
    obtain⟨a,ha⟩:=List.mem_iff_getElem?.1 hc
    exact N a c o (Am ha).1 ha ho2
   have hgl:=Yf hR ht hI
   rcases Aag (BY l) (by omega) []with ⟨e,he,_⟩|⟨he,q,hqp,hasc,g0⟩
   ·rw[HP hgl]at he
    cases he
   ·obtain⟨_,k1,k2,k3⟩:=Yg hR ht hI hqp hasc
    have hst:=Acx hq hI hall2 k1 k2
    have gA:=fun H=>AU (H:=H) (vs:=[.m (zP l)]) (is:=[zP l]) rfl rfl g0 rfl (.inl ⟨rfl,rfl⟩)
    obtain⟨H2,gF⟩:=Vd rfl rfl ho gA
    rw[k3]at gF
    by_cases h5:5000<q.length
    ·rw[Ahl h5]at gF hst
     have k:=qa [] 6 hst
     simp (disch:=omega) [cl gF]
     exact k
    ·rw[Ahj h5]at gF hst
     have k:=qa q 0 hst
     generalize zP q=zz at *
     simp (disch:=omega) [cl gF]
     exact k
  | some c =>
   have hlt:=(Am hx).1
   have hlt':(i:Int)<p.length:=by omega
   have hn:=Ap hx
   have wi:=J1 i (by omega)
   have hcg:=hg c (Ahm hx)
   have hcb:(-1048576<=c.x/\c.x<=1048576)/\(-1048576<=c.y/\c.y<=1048576):=by
    unfold Cz placed at hcg
    simp only[Ahi,Aht]at hcg
    omega
   simp (disch:=omega) [Ab,hrv,hlt',hn,hB,W]
   refine(?key2:∀(j:Nat) (D:List (Int×Int)) (l:List Ce) (o:V) (B:LE) (H1:Hp),j<=t.hood.length->getB B 2=some [J0 t.states,.m h,.m n]->getB B 10=some [J0 c.x,J0 c.y,J0 c.s]->StI t p D l->(∀(a:Nat) c o,a<i->p[a]? = some c->o∈t.hood->(c.x-o.1,c.y-o.2)∈D)->(∀(b:Nat) o,b<j->t.hood[b]? = some o->(c.x-o.1,c.y-o.2)∈D)->l.length<=25*i+j->AdE D l o H1->Run G c82_B0 (S82_0 (.fa 2 0) (.m (fzm (KX p))) (.mp 0) o (.fa 10 0) (.m v) (J0 p.length) (J0 (i:Int)) (.m h) (J0 t.hood.length) (J0 (j:Int)) B H1) _) 0 D l o _ H1 (Aho _) (by simpa using hB) (by simp) hI N (fun b o h=>by omega) (by omega) ho
   clear hset0 hI N hll ho n0 hnf hB B H1 o l D
   refine Bl (fun j:Nat=>t.hood.length-j) fun j ihj D l o B H1 hj hB hA hI N hbj hll ho=>?_
   unfold c82_B0
   obtain⟨n0,hnf,hset⟩:=ZY ho
   cases hy:t.hood[j]? with
   | none =>
    have:j=t.hood.length:=by have:=Ahn.1 hy;omega
    subst this
    have k:=ih (i+1) (by omega) D l o B H1 (by omega) hB hI (fun a c' o' ha hc' Z=>by
     by_cases e:a<i
     ·exact N a c' o' e hc' Z
     ·have:a=i:=by omega
      subst this
      rw[hx]at hc'
      cases hc'
      obtain⟨b,hb⟩:=List.mem_iff_getElem?.1 Z
      exact hbj b o' (Am hb).1 hb) (by omega) ho
    simp (disch:=omega) [wi,-Int.natCast_add]
    exact k
   | some o2 =>
    have hjl:=(Am hy).1
    have U:(j:Int)<t.hood.length:=by omega
    have hox:=Cm hy
    have hob:=Eb hR.hood o2 (Ahm hy)
    have wj:=J1 j (by omega)
    obtain⟨E,hqx⟩:∃E,E=c.x-o2.1:=⟨_,rfl⟩
    obtain⟨J,hqy⟩:∃J,J=c.y-o2.2:=⟨_,rfl⟩
    have wx:wr .i64 (c.x-o2.1)=E:=by rw[hqx];exact Aa (by omega) (by omega)
    have wy:wr .i64 (c.y-o2.2)=J:=by rw[hqy];exact Aa (by omega) (by omega)
    have Y:=Adt D E J
    have hbj2:∀D':List (Int×Int),(∀k,k∈D->k∈D')->(E,J)∈D' -> ∀(b:Nat) o,b<j+1->t.hood[b]? = some o->(c.x-o.1,c.y-o.2)∈D':=fun D' h1 h2 b o' hb Z=>by
     by_cases e:b<j
     ·exact h1 _ (hbj b o' e Z)
     ·have:b=j:=by omega
      subst this
      rw[hy]at Z
      cases Z
      rw[<-hqx,<-hqy]
      exact h2
    by_cases hD:(E,J)∈D
    ·rw[Ahq hD]at Y
     have k:=fun B'=>ihj (j+1) (by omega) D l o B' H1 (by omega)
     simp (disch:=omega) [Ab,W,U,hox,hA,wx,wy,n0,Y,wj,-Int.natCast_add]
     exact k _ (by simpa using hB) (by simpa using hA) hI N (hbj2 D (fun _ h=>h) hD) (by omega) ho
    ·rw[Ahs hD]at Y
     have hup:=AgN hD
     obtain⟨hs1,ho1⟩:=hset (D++[(E,J)])
     have gn:=fun H=>Agq hT hR ht E J (by omega) (by omega) H
     have hrg:=Fd hR ht E J
     have hsub:∀k,k∈D->k∈D++[(E,J)]:=fun k hk=>by simp[hk]
     have hall3:∀(a:Nat) c o,a<i->p[a]? = some c->o∈t.hood->(c.x-o.1,c.y-o.2)∈D++[(E,J)]:=fun a c o h1 h2 h3=>hsub _ (N a c o h1 h2 h3)
     by_cases hz:Bw t p E J=0
     ·rw[hz]at gn
      have k:=fun B'=>ihj (j+1) (by omega) (D++[(E,J)]) l o B' (H1.set 0 (dmp (D++[(E,J)]))) (by omega)
      simp (disch:=omega) [Ab,W,U,hox,hA,hB,wx,wy,n0,Y,hup,hs1,cl (gn _),wj,-Int.natCast_add]
      exact k _ (by simpa using hB) (by simpa using hA) (Ye hI hz) hall3 (hbj2 _ hsub (by simp)) (by omega) ho1
     ·have hpos:0<Bw t p E J:=by omega
      have gp:=fun H=>AcP E J H
      cases hpl:placed E J with
      | false =>
       rw[hpl]at gp
       have k:=q5 (UD hz hpl)
       generalize Bw t p E J=nx at *
       simp (disch:=omega) [Ab,W,U,hox,hA,hB,wx,wy,n0,Y,hup,hs1,cl (gn _),hpos,cl (gp _),-Int.natCast_add]
       exact k
      | true =>
       rw[hpl]at gp
       obtain⟨o3,H3,ha,hn3,ho3⟩:=Vc ho1 (by omega) ⟨E,J,Bw t p E J⟩
       dsimp only at ha
       have hI3:=Acy hI hD hz hpl
       have k:=fun B'=>ihj (j+1) (by omega) (D++[(E,J)]) (l++[⟨E,J,Bw t p E J⟩]) o3 B' H3 (by omega)
       generalize Bw t p E J=nx at *
       simp (maxSteps:=2000000) (disch:=omega) [Ab,W,U,hox,hA,hB,wx,wy,n0,Y,hup,hs1,cl (gn _),hpos,cl (gp _),ha,wj,Al hn3,-Int.natCast_add]
       exact k _ (by simpa using hB) (by simpa using hA) hI3 hall3 (hbj2 _ hsub (by simp)) (by simp;omega) ho3
 obtain⟨x,H',h1,rfl,h2⟩:=key
 exact⟨x,h2,h1⟩
def Fk (vs:List I):LT:=vs.map fun v=>[v]
def DJ (vs:List I):L0:=vs.map fun v=>[.m v]
@[simp] theorem IX (vs:List I):(Fk vs).length=vs.length:=by simp[Fk]
@[simp] theorem IS (vs:List I):(DJ vs).length=vs.length:=by simp[DJ]
variable {vs:List I} {i:Nat} {u:I}
theorem MW (h:vs[i]? = some u):nth (Fk vs) i=some [u]:=by rw[AL];simp[Fk,h]
theorem UP (h:vs[i]? = some u):nth (DJ vs) i=some [.m u]:=by rw[AL];simp[DJ,h]
theorem VK (vs:List I):Bn (Fk vs)=DJ vs:=by
 unfold Bn Fk DJ
 rw[Aim]
 rfl
def Gq (vs:List I)(ps:List (List Ce)):Prop:=vs.length=ps.length /\ ∀(i:Nat) u q,vs[i]? = some u->ps[i]? = some q->IsSl u (Af q)
variable {ps:List (List Ce)} {q:List Ce}
theorem Gi (h:Gq vs ps)(W:IsSl u (Af q)):Gq (vs++[u]) (ps++[q]):=by
 obtain⟨Q,h2⟩:=h
 refine⟨by simp[Q],fun i Z U E J=>?_⟩
 by_cases Y:i<vs.length
 ·rw[AhC Y]at E
  rw[AhC (by omega)]at J
  exact h2 i Z U E J
 ·have N:=(Ahg.1 E).1
  have:i=vs.length:=by simp at N;omega
  subst this
  simp at E
  rw[Q]at J
  simp at J
  subst E J
  exact W
def Aeg (vs:List I)(o:V)(H:Hp):Prop:=vs≠[]/\((o=.ls (Fk vs)/\H=[])\/(o=.sl 0 vs.length 1 0 vs.length false/\H=[.cs 29 1 (DJ vs) 0 false]))
theorem AcW (h:Aeg vs o H):AB o=true/\Aq (.len false) [o]=some (J0 vs.length):=by
 rcases h with ⟨_,⟨rfl,rfl⟩|⟨rfl,rfl⟩⟩
 ·exact⟨rfl,by show some (V.m (J4 ((Fk vs).length:Nat)))=_;rw[IX]⟩
 ·exact⟨rfl,rfl⟩
theorem AcV (h:Aeg vs o H)(E:vs[i]? = some u)(hl:vs.length<=1000000):∃p,Aq (.ixa 1) [o,J0 (i:Int)]=some p /\ ∀B,readX ⟨B,H⟩ (.ld false 1) [p]=some (.m u):=by
 have N:=(Am E).1
 rcases h with ⟨_,⟨rfl,rfl⟩|⟨rfl,rfl⟩⟩
 ·have J:=MW E
  refine⟨.m (.pt [u]),?_,fun B=>rfl⟩
  simp (disch:=omega) [J,IX]
 ·have J:=UP E
  refine⟨.pt 0 vs.length i 0,?_,fun B=>?_⟩
  ·simp (disch:=omega) []
  ·simp (disch:=omega) [Ab,J]
theorem Yn (vs:List I)(h:∀u,u∈vs->BM (.m u)=true):((DJ vs).all fun e=>Nat.beq e.length 1&&e.all BM)=true:=by
 unfold DJ
 rw[List.all_map,Ahu]
 intro u E
 show (Nat.beq 1 1&&(BM (.m u)&&true))=true
 rw[h u E]
 rfl
theorem Va (h:Aeg vs o H)(hl:vs.length<=1000000)(ho:∀u,u∈vs->BM (.m u)=true)(W:BM (.m u)=true):∃N Q,(∀B,EK ⟨B,H⟩ 29 1 24 o [[.m u]]=some (N,⟨B,Q⟩))/\AB N=true/\Aeg (vs++[u]) N Q:=by
 have J:∀x,x∈vs++[u]->BM (.m x)=true:=fun x E=>by
  rcases AhV.1 E with E|E
  ·exact ho x E
  ·rw[AhH.1 E];exact W
 have es:DJ vs++[[V.m u]]=DJ (vs++[u]):=by simp[DJ]
 rcases h with ⟨Z,⟨rfl,rfl⟩|⟨rfl,rfl⟩⟩
 ·refine⟨.sl 0 (vs++[u]).length 1 0 (vs++[u]).length false,[.cs 29 1 (DJ (vs++[u])) 0 false],fun B=>?_,rfl,by simp,.inr ⟨rfl,rfl⟩⟩
  show Bv ⟨B,[]⟩ 29 1 24 (Bn (Fk vs)++[[V.m u]])=_
  rw[VK,es]
  have Y:Nat.ble ((DJ (vs++[u])).length*24) 140737488355328=true:=by
   rw[Bh]
   refine Ahq ?_
   rw[IS,Ahv,Ais]
   omega
  unfold Bv
  rw[Y,Yn _ J,IS]
  rfl
 ·have U:=fun B=>CC (M:=⟨B,[.cs 29 1 (DJ vs) 0 false]⟩) (r:=0) (bytes:=24) (xs:=[[.m u]]) rfl (by simp) (by simp;omega) (by simp[W])
  simp only[IS,AhR,AhW,Aih,es,List.set_cons_zero]at U
  exact⟨_,_,U,rfl,by simp,.inr ⟨by simp,rfl⟩⟩
theorem optP (k:Nat)(H:Hp):∀vs:List I,Ah (fun e=>Ah (view (k+1) H) e) (DJ vs)=some (Fk vs)
 | []=>rfl
 | x::r=>by
  show Option.bind (some [x]) _=_
  simp only[Ahp]
  have:=optP k H r
  show Option.bind (Ah _ (DJ r)) _=_
  rw[this]
  rfl
theorem Afs {r:Nat}(h:nth H r=some (.cs 29 1 (DJ vs) 0 false))(k:Nat):view (k+2) H (.sl r vs.length 1 0 vs.length false)=some (.sl (Fk vs)):=by
 have e:elems H (.sl r vs.length 1 0 vs.length false)=some (DJ vs):=by
  show Option.bind (nth H r) _=_
  rw[h]
  show gd (Nat.ble 0 vs.length&&Nat.beq 1 1) (some (((DJ vs).drop 0).take vs.length))=_
  rw[Bh,Ahq (Aho _),Aio,Ahz (by simp)]
  rfl
 show Option.bind (elems H (.sl r vs.length 1 0 vs.length false)) _=_
 rw[e]
 show Option.bind (Ah _ (DJ vs)) _=_
 rw[optP]
 rfl
theorem UZ (h:Aeg vs o H)(k:Nat):view (k+2) H o=some (.sl (Fk vs)):=by
 rcases h with ⟨_,⟨rfl,rfl⟩|⟨rfl,rfl⟩⟩
 ·rfl
 ·exact Afs rfl k
theorem Wn (h:IsSl u es)(c:Bt)(B:LE)(H:Hp):An c ⟨B,H⟩ (.bsf 1 [.m (.nl 4)] 1 [0]) [.m u]=some (.ls [[u]],⟨B,H⟩):=by
 rcases h with rfl|⟨rfl,_⟩ <;> rfl
theorem AgQ (E:Bd t=true)(U:q.Pairwise (fun a b=>Ba a b=true))(N:∀c,c∈q->Cz c=true)(W:q.length<=5000)(Q:Hu t q):CB t q=0:=by
 unfold CB
 rw[Ahl E,Ahl (Gg U N W),Ahl ((II (by have:=(DK E).s2;omega) _ q rfl).2 fun c J=>(Q c J).2)]
def HisV (t:TreeC)(p:List Ce)(n:Nat)(x:V):Prop:=∃ps e,HisQ t p n (ps,e)/\((¬e=0/\x=.tu [.m (.nl 4),.m (.i .i64 e)])\/(e=0 /\ ∃vs,Gq vs ps/\x=.tu [.m (.sl (Fk vs)),.m (.i .i64 0)]))
theorem Acf (x y:Int)(H:Hp):Gives G 101 [J0 x,J0 y] H (.m (.b (placed x y))) H:=by
 refine Ae rfl rfl rfl rfl rfl ?_
 simp (contextual:=true) [Aj,-Int.not_lt,-Int.not_le,-Nat.not_lt,-Nat.not_le,-List.map_take,placed]
theorem Agr {f:I}(hv:IsSl v (Af p))(hl:p.length<=5000)(hg:∀c,c∈p->Cz c=true)(hF:FldV p v f)(H:Hp):∃acc,NearQ p acc/\Gives G 99 [.m f] H (.m (z2 acc)) H:=by
 obtain⟨bx,by_,w,h,fl,cs,rfl,Y,J,N,E,Q,U,_⟩:=hF.ex
 cases fl with
 | false=>exact Ade hv hl hg H
 | true =>
  have hP:=(U rfl).1
  have W:(w+4)*(h+4)<=1000000/\w<=1000000/\h<=1000000:=by
   have e:(w+4)*(h+4)=w*h+w*4+4*h+16:=by rw[AhU,Nat.mul_add,Nat.mul_add];omega
   rw[e]
   rcases Q with ⟨Z,h2⟩|⟨rfl,rfl⟩
   ·have a1:=Nat.le_mul_of_pos_right w h2
    have a2:=Nat.le_mul_of_pos_left h Z
    generalize w*h=P at *
    omega
   ·omega
  exact Adf W.1 W.2 J N E H
theorem Yy {F:Nat}{x:V}(N:G.prim F=none)(hs:G.sh F=false)(W:Sz f o H)(h:∀H,Gives G F [.m (zP f)] H x H):∃Y,Gives G F [o] H x Y:=by
 rcases W with ⟨rfl,rfl,rfl⟩|⟨J,rfl,rfl⟩
 ·exact⟨_,h _⟩
 ·have U:zP f=.sl (Af f):=by unfold zP;rw[Ahj J]
  rw[U]at h
  have Q:Ah (view 20 [Row.cs 73 3 (AE f) 0 false]) [V.sl 0 f.length 3 0 f.length false]=some [.sl (Af f)]:=by
   have:=On (r:=0) (b:=0) (X:=[]) (A:=[]) (q:=f) (n:=f.length) rfl (Aho _) 18
   show (view 20 _ _).bind _=_
   rw[this]
   rfl
  cases hf:FD x with
  | true=>exact⟨_,AU (is:=[.sl (Af f)]) N hs (h []) Q (.inr ⟨by simp[Du,Fp],hf⟩)⟩
  | false =>
   have E:AX ([V.sl 0 f.length 3 0 f.length false].flatMap Du) [Row.cs 73 3 (AE f) 0 false]=some [Row.cs 73 3 (AE f) 0 true]:=by
    show Option.bind (gd ((AE f).all fun e=>e.all isM) (some (Row.cs 73 3 (AE f) 0 true))) _=_
    rw[IT]
    rfl
   exact⟨_,BW (is:=[.sl (Af f)]) N hs (h []) Q (by simp[Du,Fp]) hf rfl E⟩
theorem UY (h:Sz f o H):Aq (.len false) [o]=some (J0 (f.length:Nat)):=by
 rcases h with ⟨rfl,rfl,rfl⟩|⟨_,rfl,_⟩ <;> rfl
def stepL (t:TreeC)(p:List Ce)(acc:List (Int×Int)):List Ce:=(acc.filter fun k=>!decide (Bw t p k.1 k.2=0)).map fun k=>⟨k.1,k.2,Bw t p k.1 k.2⟩
def Oq (t:TreeC)(p:List Ce)(acc:List (Int×Int)):Bool:=acc.any fun k=>!decide (Bw t p k.1 k.2=0) && !placed k.1 k.2
theorem RX (t:TreeC)(p:List Ce)(acc:List (Int×Int))(k:Int×Int):stepL t p (acc++[k])=stepL t p acc++if Bw t p k.1 k.2=0 then [] else [⟨k.1,k.2,Bw t p k.1 k.2⟩]:=by
 unfold stepL
 rw[List.filter_append]
 by_cases h:Bw t p k.1 k.2=0 <;> simp[h]
theorem RW (t:TreeC)(p:List Ce)(acc:List (Int×Int))(k:Int×Int):Oq t p (acc++[k])=(Oq t p acc||(!decide (Bw t p k.1 k.2=0) && !placed k.1 k.2)):=by
 unfold Oq
 simp
variable {acc:List (Int×Int)}
theorem UA {c:Ce}:c∈stepL t p acc↔(c.x,c.y)∈acc/\c.s=Bw t p c.x c.y /\ ¬c.s=0:=by
 unfold stepL
 rw[AhE]
 constructor
 ·rintro⟨k,N,rfl⟩
  obtain⟨J,E⟩:=List.mem_filter.1 N
  exact⟨J,rfl,by simpa using E⟩
 ·rintro⟨J,E,Q⟩
  refine⟨(c.x,c.y),List.mem_filter.2 ⟨J,?_⟩,?_⟩
  ·dsimp only
   rw[<-E]
   simpa using Q
  ·obtain⟨a,b,s⟩:=c
   dsimp only at E ⊢
   rw[<-E]
theorem Ot (h:acc.Nodup):(stepL t p acc).Pairwise apart:=by
 unfold stepL
 rw[List.pairwise_map]
 exact(h.sublist List.filter_sublist).imp fun {a b} E ⟨N,J⟩=>E (Prod.ext N J)
theorem Qv (E:Bd t=true)(N:NearQ p acc){x y:Int}(h:¬Bw t p x y=0):(x,y)∈acc:=by
 obtain⟨c,o,J,Q,rfl,rfl⟩:=HE E h
 have:=Eb (DK E).hood o Q
 refine N.all c _ J ?_
 unfold nr
 dsimp only
 omega
theorem UB (t:TreeC)(p:List Ce)(acc:List (Int×Int)):(stepL t p acc).length<=acc.length:=by
 unfold stepL
 rw[Ahr]
 exact List.length_filter_le _ _
set_option maxHeartbeats 4000000 in
theorem Uy (hT:TreeV t h n es)(hv:IsSl v (Af p))(hc:CB t p=0)(H:Hp):∃x,So t p x/\Gives G 58 [.m (.ag [J4 t.states,h,n]),.m v] H x H:=by
 obtain⟨hq,hr,ht⟩:=BU hc
 have hR:=DK hq
 obtain⟨pw,hg,hl⟩:=CN hr
 have g1:=fun H=>Nm hT hv (by omega) H
 rw[hc]at g1
 obtain⟨f,hF,g2⟩:=Yc hv hr []
 have g4:=fun x y hx hy H=>Agp hT hR hv hl hF ht x y hx hy H
 obtain⟨acc,hN,g3⟩:=Agr hv hl hg hF []
 obtain⟨bx,by_,w,k,fl,cs,rfl,_,_,_,_,_,_,hcs⟩:=hF.ex
 have hv1:=Cv hv
 have key:∃x H',Gives G 58 [.m (.ag [J4 t.states,h,n]),.m v] H x H'/\(H'=H/\So t p x):=by
  refine AJ ?_
  refine Cs rfl rfl rfl rfl rfl ?_
  generalize hQ:(fun(x:V) (H':Hp)=>H'=H/\So t p x)=Q
  have qn:∀e,DM t p ([],e)->Q (.tu [.m (.nl 4),J0 e]) H:=fun e hs=>by rw[<-hQ];exact⟨rfl,[],e,hs,rfl⟩
  have qa:∀q,DM t p (q,0)->Q (.tu [.m (zP q),J0 0]) H:=fun q hs=>by rw[<-hQ];exact⟨rfl,q,0,hs,rfl⟩
  clear hQ
  have N:=(z2_sl acc).rules
  simp only[Bq]at N
  unfold Nk at g2 g3 g4
  simp (maxSteps:=2000000) (disch:=omega) [Ab,cl (g1 _),cl g2,cl g3,hcs,hv1]
  refine(?key:∀(i:Nat) (b:Bool) (o:V) (B:LE) (H1:Hp),i<=acc.length->getB B 2=some [J0 t.states,.m h,.m n]->getB B 7=some [.m (.b fl),J0 bx,J0 by_,J0 w,J0 k,.m cs,.m v]->b=Oq t p (acc.take i)->Sz (stepL t p (acc.take i)) o H1->Run G c58_B0 (S58_0 (.fa 2 0) (.fa 7 0) (.m (z2 acc)) o (.m (.b b)) (J0 (i:Int)) B H1) _) 0 false _ _ _ (Aho _) rfl rfl rfl (.inl ⟨rfl,rfl,rfl⟩)
  refine Bl (fun i:Nat=>acc.length-i) fun i ih b o B H1 hi J E hb ho=>?_
  unfold c58_B0
  have hnf:=(DZ ho).2
  have hol:=UY ho
  have hlen:=hN.len
  have hsl:=UB t p (acc.take i)
  cases hx:acc[i]? with
  | none =>
   have:i=acc.length:=by have:=Ahn.1 hx;omega
   subst this
   rw[AhI]at hb ho hol hsl
   cases b with
   | true =>
    have hb:=hb.symm
    unfold Oq at hb
    obtain⟨k,hk,hk2⟩:=List.any_eq_true.1 hb
    rw[Ahi,AhQ,decide_eq_false_iff_not,AhQ]at hk2
    have k1:=qn 5 (UD hk2.1 hk2.2)
    simp (maxSteps:=2000000) (disch:=omega) [N]
    exact k1
   | false =>
    have hpl:∀x y,¬Bw t p x y=0->placed x y=true:=fun x y hn=>by
     have hm:=Qv hq hN hn
     cases hpp:placed x y with
     | true=>rfl
     | false =>
      exfalso
      have:Oq t p acc=true:=by
       unfold Oq
       refine List.any_eq_true.2 ⟨(x,y),hm,?_⟩
       dsimp only
       rw[hpp,Ahs hn]
       rfl
      rw[this]at hb
      cases hb
    have hmem:∀c,c∈stepL t p acc↔c.s=Bw t p c.x c.y /\ ¬c.s=0:=fun c=>UA.trans ⟨fun h=>h.2,fun h=>⟨Qv hq hN (by rw[<-h.1];exact h.2),h⟩⟩
    have U:=Ot (t:=t) (p:=p) hN.nd
    have hgood:∀c,c∈stepL t p acc->Cz c=true:=fun c hc=>by
     obtain⟨h1,h2⟩:=(hmem c).1 hc
     have h3:=hpl c.x c.y (by rw[<-h1];exact h2)
     have h4:=Fd hR ht c.x c.y
     rw[<-h1]at h4
     have:=hR.s8
     unfold Cz
     rw[h3]
     simp only[Aiy,Ahi,Aht]
     omega
    have Y:DM t p (if 5000<(AP (stepL t p acc)).length then ([],6) else (AP (stepL t p acc),0)):=.inr ⟨hpl,_,CZ U,fun c=>((Bp _).mem_iff).trans (hmem c),rfl⟩
    rw[Bs]at Y
    by_cases h5:5000<(stepL t p acc).length
    ·have h5':(5000:Int)<(stepL t p acc).length:=by omega
     rw[Ahl h5]at Y
     have k1:=qn 6 Y
     simp (maxSteps:=2000000) (disch:=omega) [N,hol,h5']
     exact k1
    ·have h5':¬(5000:Int)<(stepL t p acc).length:=by omega
     rw[Ahj h5]at Y
     have k1:=qa _ Y
     have gF:=fun H=>MS (BY (stepL t p acc)) (by omega) hgood U H
     obtain⟨H2,gG⟩:=Yy rfl rfl ho gF
     generalize zP (AP (stepL t p acc))=zz at *
     simp (maxSteps:=2000000) (disch:=omega) [N,hol,h5',cl gG]
     exact k1
  | some k0 =>
   obtain⟨x,y⟩:=k0
   have hlt:=(Am hx).1
   have W:(i:Int)<acc.length:=by omega
   have Z:=Cm hx
   have hbk:=hN.bnd _ (Ahm hx)
   have wi:=J1 i (by omega)
   dsimp only at Z hbk
   have gn:=fun H=>g4 x y (by omega) (by omega) H
   have gp:=fun H=>Acf x y H
   have hrg:=Fd hR ht x y
   have eL:=RX t p (acc.take i) (x,y)
   have eO:=RW t p (acc.take i) (x,y)
   rw[<-As hx]at eL eO
   dsimp only at eL eO
   by_cases hz:Bw t p x y=0
   ·rw[Ahl hz,Aid]at eL
    rw[Ahq hz,Bool.not_true,Bool.false_and,Bool.or_false]at eO
    rw[hz]at gn
    have kk:=fun B'=>ih (i+1) (by omega) b o B' H1 (by omega)
    simp (maxSteps:=2000000) (disch:=omega) [Ab,N,W,Z,J,E,cl (gn _),wi,-Int.natCast_add]
    exact kk _ (by simpa using J) (by simpa using E) (by rw[eO];exact hb) (by rw[eL];exact ho)
   ·rw[Ahj hz]at eL
    rw[Ahs hz,Bool.not_false,Aiy,<-hb]at eO
    obtain⟨o1,H2,U,hn1,ho1⟩:=Cc ho (by rw[Ahx]at hsl;omega) ⟨x,y,Bw t p x y⟩
    dsimp only at U
    rw[<-eL]at ho1
    have kk:=fun b' B'=>ih (i+1) (by omega) b' o1 B' H2 (by omega)
    generalize Bw t p x y=nx at *
    cases b with
    | true =>
     simp (maxSteps:=2000000) (disch:=omega) [Ab,Ad,N,W,Z,J,E,cl (gn _),hz,U,wi,Al hn1,-Int.natCast_add]
     exact kk true _ (by simpa using J) (by simpa using E) (by rw[eO];rfl) ho1
    | false =>
     cases hpp:placed x y with
     | true =>
      rw[hpp]at gp eO
      simp (maxSteps:=2000000) (disch:=omega) [Ab,Ad,N,W,Z,J,E,cl (gn _),hz,U,cl (gp _),wi,Al hn1,-Int.natCast_add]
      exact kk false _ (by simpa using J) (by simpa using E) (by rw[eO];rfl) ho1
     | false =>
      rw[hpp]at gp eO
      simp (maxSteps:=2000000) (disch:=omega) [Ab,Ad,N,W,Z,J,E,cl (gn _),hz,U,cl (gp _),wi,Al hn1,-Int.natCast_add]
      exact kk true _ (by simpa using J) (by simpa using E) (by rw[eO];rfl) ho1
 obtain⟨x,H',h1,rfl,h2⟩:=key
 exact⟨x,h2,h1⟩
set_option maxHeartbeats 4000000 in
theorem his_r (hT:TreeV t h n es)(hv:IsSl v (Af p))(hc:CB t p=0)(m:Nat)(hm:m<=10000)(H:Hp):∃x,HisV t p m x/\Gives G 84 [.m (.ag [J4 t.states,h,n]),.m v,J0 (m:Int)] H x H:=by
 obtain⟨hq,hr,ht⟩:=BU hc
 have hR:=DK hq
 obtain⟨pw,hg,hl⟩:=CN hr
 have key:∃x H',Gives G 84 [.m (.ag [J4 t.states,h,n]),.m v,J0 (m:Int)] H x H'/\(H'=H/\HisV t p m x):=by
  refine AJ ?_
  refine Cs rfl rfl rfl rfl rfl ?_
  generalize hQ:(fun(x:V) (H':Hp)=>H'=H/\HisV t p m x)=Q
  have qe:∀ps e,HisQ t p m (ps,e) -> ¬e=0->Q (.tu [.m (.nl 4),J0 e]) H:=fun ps e h1 Z=>by rw[<-hQ];exact⟨rfl,ps,e,h1,.inl ⟨Z,rfl⟩⟩
  have qk:∀ps vs,HisQ t p m (ps,0)->Gq vs ps->Q (.tu [.m (.sl (Fk vs)),J0 0]) H:=fun ps vs h1 Z=>by rw[<-hQ];exact⟨rfl,ps,0,h1,.inr ⟨rfl,vs,Z,rfl⟩⟩
  clear hQ
  have g1:=fun H=>Nm hT hv (by omega) H
  rw[hc]at g1
  have m0:¬(m:Int)<0:=by omega
  have m1:¬(10000:Int)<m:=by omega
  have m2:¬10000<m:=by omega
  have hb1:=fun c B H=>Wn hv c B H
  simp (disch:=omega) [cl (g1 _),m0,m1,hb1]
  refine(?key:∀(i:Nat) (vs:List I) (ps:List (List Ce)) (a:List Ce) (o:V) (B:LE) (H1:Hp),i<=m->getB B 3=some [J0 t.states,.m h,.m n]->HisR t p (ps++[a])->ps.length=i->Gq vs (ps++[a])->CB t a=0->(∀u,u∈vs->BM (.m u)=true)->Aeg vs o H1->Run G c84_B0 (S84_0 (J0 (m:Int)) (.fa 3 0) o (J0 (i:Int)) B H1) _) 0 [v] [] p _ _ _ (Aho _) rfl .one rfl ⟨rfl,fun i u q hi hq=>by
   cases i with
   | zero=>cases hi;cases hq;exact hv
   | succ i=>simp at hi⟩ hc (fun u hu=>by rw[AhH.1 hu];exact Cv hv) ⟨by simp,.inl ⟨rfl,rfl⟩⟩
  refine Bl (fun i:Nat=>m-i) fun i ih vs ps a o B H1 hi hB hH J hP W U ho=>?_
  unfold c84_B0
  obtain⟨a0,hlen⟩:=AcW ho
  have hvl:vs.length=i+1:=by rw[hP.1];simp[J]
  by_cases him:i<m
  ·have N:(i:Int)<m:=by omega
   obtain⟨u,hu⟩:∃u,vs[i]? = some u:=⟨_,Ahh (by omega)⟩
   have hua:IsSl u (Af a):=hP.2 i u a hu (by simp[<-J])
   obtain⟨pt,r1,r2⟩:=AcV ho hu (by omega)
   have w1:wr .i64 ((vs.length:Int)-1)=(i:Int):=by rw[Aa (by omega) (by omega)];omega
   have wi:=J1 i (by omega)
   obtain⟨x,⟨q,e,E,rfl⟩,_⟩:=Uy hT hua W []
   have gs:∀H,Gives G 58 [.m (.ag [J4 t.states,h,n]),.m u] H (.tu [.m (zP q),J0 e]) H:=fun H=>by
    obtain⟨x',⟨q',e',hst',rfl⟩,g⟩:=Uy hT hua W H
    have:=JS E hst'
    cases this
    exact g
   by_cases he:e=0
   ·subst he
    obtain⟨hq2,hr2,ht2⟩:=BU W
    obtain⟨k1,k2,k3,k4⟩:=Qc hR ht2 E
    have hcq:=AgQ hq k1 k2 k3 k4
    have Y:=Cv (BY q)
    obtain⟨o1,H2,ha,hn1,ho1⟩:=Va ho (by omega) U Y
    have hb2:=fun c B H=>Wn (BY q) c B H
    have k:=fun B'=>ih (i+1) (by omega) (vs++[zP q]) (ps++[a]) q o1 B' H2 (by omega)
    simp (disch:=omega) [N,hB,r1,r2,cl (gs _),hb2,ha,wi,Al hn1,-Int.natCast_add]
    exact k _ hB (hH.snoc E) (by simp[J]) (Gi hP (BY q)) hcq (fun x hx=>by
     rcases AhV.1 hx with hx|hx
     ·exact U x hx
     ·rw[AhH.1 hx];exact Y) ho1
   ·have hq0:q=[]:=by
     rcases E with ⟨e1,_⟩|⟨_,r,_,_,e1⟩
     ·exact AiE Prod.fst e1
     ·split at e1
      ·exact AiE Prod.fst e1
      ·exact absurd (AiE Prod.snd e1) he
    subst hq0
    have k:=qe [] e (.inr ⟨ps,a,by omega,hH,E,he,rfl⟩) he
    simp (disch:=omega) [N,hB,r1,r2,cl (gs _),he]
    exact k
  ·have:i=m:=by omega
   subst this
   have hvw:view 20 H1 o=some (.sl (Fk vs)):=UZ ho 18
   have k:=qk (ps++[a]) vs (.inl ⟨rfl,by simp[J],hH⟩) hP
   simp (disch:=omega) [Al a0,hvw]
   exact⟨a0,k⟩
 obtain⟨x,H',h1,rfl,Z⟩:=key
 exact⟨x,Z,h1⟩
theorem AgF (N:TreeV t h n es)(J:IsSl v (Af p))(hl:(p.length:Int)<=9223372036854775806)(E:¬CB t p=0)(m:Int)(H:Hp):Gives G 84 [.m (.ag [J4 t.states,h,n]),.m v,J0 m] H (.tu [.m (.nl 4),J0 (CB t p)]) H:=by
 have g1:=fun H=>Nm N J hl H
 refine Ae rfl rfl rfl rfl rfl ?_
 simp (disch:=omega) [cl (g1 _),E]
theorem AgE (U:TreeV t h n es)(Q:IsSl v (Af p))(hl:(p.length:Int)<=9223372036854775806)(N:CB t p=0)(m:Int)(W:m<0\/10000<m)(H:Hp):Gives G 84 [.m (.ag [J4 t.states,h,n]),.m v,J0 m] H (.tu [.m (.nl 4),J0 2]) H:=by
 have g1:=fun H=>Nm U Q hl H
 rw[N]at g1
 refine Ae rfl rfl rfl rfl rfl ?_
 by_cases E:m<0
 ·simp (disch:=omega) [cl (g1 _),E]
 ·have J:(10000:Int)<m:=by omega
  simp (disch:=omega) [cl (g1 _),E,J]
theorem Cb (N:TreeV t h n es):Dr t:=fun p J=>by
 obtain⟨x,⟨q,e,E,rfl⟩,g⟩:=ZR N (BY p) J []
 rw[JR E]
 exact E
theorem Uz (Q:TreeV t h n es)(N:IsSl v (Af p))(E:CB t p=0)(H:Hp):Gives G 82 [.m (.ag [J4 t.states,h,n]),.m v] H (.tu [.m (zP (stp t p).1),J0 (stp t p).2]) H:=by
 obtain⟨x,⟨q,e,J,rfl⟩,g⟩:=ZR Q N E H
 rw[JR J]
 exact g
theorem Acv (Q:TreeV t h n es)(N:IsSl v (Af p))(E:CB t p=0)(H:Hp):Gives G 58 [.m (.ag [J4 t.states,h,n]),.m v] H (.tu [.m (zP (stp t p).1),J0 (stp t p).2]) H:=by
 obtain⟨x,⟨q,e,J,rfl⟩,g⟩:=Uy Q N E H
 rw[JR J]
 exact g
theorem Ou (N:TreeV t h n es)(J:IsSl v (Af p))(hl:(p.length:Int)<=9223372036854775806)(H:Hp):Gives G 56 [.m (.ag [J4 t.states,h,n]),.m v] H (.tu [.m (zP (Ca t p).1),J0 (Ca t p).2]) H:=by
 have g1:=fun H=>Wk N J hl H
 unfold Ca
 by_cases E:CB t p=0
 ·rw[Ahl E]
  have Q:=fun H=>Uz N J E H
  rw[E]at g1
  generalize stp t p=r at *
  obtain⟨q,e⟩:=r
  dsimp only at *
  generalize zP q=z at *
  refine Ae rfl rfl rfl rfl rfl ?_
  simp (disch:=omega) [cl (g1 _),cl (Q _)]
 ·rw[Ahj E]
  refine Ae rfl rfl rfl rfl rfl ?_
  simp (disch:=omega) [cl (g1 _),E]
  rfl
theorem Ov (N:TreeV t h n es)(J:IsSl v (Af p))(hl:(p.length:Int)<=9223372036854775806)(H:Hp):Gives G 58 [.m (.ag [J4 t.states,h,n]),.m v] H (.tu [.m (zP (Ca t p).1),J0 (Ca t p).2]) H:=by
 unfold Ca
 by_cases E:CB t p=0
 ·rw[Ahl E]
  exact Acv N J E H
 ·rw[Ahj E]
  have g1:=fun H=>Nm N J hl H
  refine Ae rfl rfl rfl rfl rfl ?_
  simp (disch:=omega) [cl (g1 _),E]
  rfl
theorem Gf {t:TreeC}(N:Dr t):∀(n:Nat) (p:List Ce),CB t p=0->(BQ t n p).2=0->BQ t (n+1) p=stp t (BQ t n p).1
 | 0,p,hc,_=>by
  show (if (stp t p).2=0 then ((stp t p).1,0) else ([],(stp t p).2))=stp t p
  by_cases E:(stp t p).2=0
  ·rw[Ahl E];exact Prod.ext rfl E.symm
  ·rw[Ahj E];exact Prod.ext (Ux (N p hc) E).symm rfl
 | n+1,p,hc,h=>by
  have J:∀k,BQ t (k+1) p=if (stp t p).2=0 then BQ t k (stp t p).1 else ([],(stp t p).2):=fun k=>by rw[BQ]
  by_cases E:(stp t p).2=0
  ·rw[J,Ahl E]at h ⊢
   rw[J,Ahl E]
   exact Gf N n _ (IK hc (N p hc) E) h
  ·rw[J,Ahj E]at h
   exact absurd h E
theorem IP {t:TreeC}:∀(k n:Nat) (p:List Ce),k<=n -> ¬(BQ t k p).2=0->BQ t n p=BQ t k p
 | 0,_,p,_,h=>absurd rfl h
 | k+1,0,p,hl,_=>absurd hl (by omega)
 | k+1,n+1,p,hl,h=>by
  rw[BQ]at h
  rw[BQ,BQ]
  by_cases E:(stp t p).2=0
  ·rw[Ahl E]at h
   rw[Ahl E,Ahl E]
   exact IP k n _ (by omega) h
  ·rw[Ahj E,Ahj E]
theorem QO (Z:Dr t)(hc:CB t p=0){l:List (List Ce)}(h:HisR t p l):∀(i:Nat) (q:List Ce),l[i]? = some q->BQ t i p=(q,0):=by
 induction h with
 | one =>
  intro i q U
  cases i with
  | zero=>cases U;rfl
  | succ i=>simp at U
 | @snoc ps a q h1 h2 Q =>
  intro i x E
  by_cases N:i<(ps++[a]).length
  ·rw[AhC N]at E
   exact Q i x E
  ·have J:=(Ahg.1 E).1
   have:i=ps.length+1:=by simp at J N;omega
   subst this
   have W:=Q ps.length a (by simp)
   have Y:=Gf Z ps.length p hc (by rw[W])
   rw[Y,W]
   have ex:x=q:=by
    rw[AhP (by simp)]at E
    simpa using E.symm
   rw[ex]
   exact JR h2
theorem YP (Q:Dr t)(Y:CB t p=0){n:Nat}{e:Int}(h:HisQ t p n (ps,e)):(e=0 -> ∃q,ps[n]? = some q/\BQ t n p=(q,0))/\(¬e=0->BQ t n p=([],e)):=by
 rcases h with ⟨W,Z,E⟩|⟨U,a,W,Z,E,N,h5⟩
 ·dsimp only at W Z E
  refine⟨fun _=>?_,fun h=>absurd W h⟩
  obtain⟨q,hq⟩:∃q,ps[n]? = some q:=⟨_,Ahh (by omega)⟩
  exact⟨q,hq,QO Q Y E n q hq⟩
 ·dsimp only at E N
  refine⟨fun h=>absurd h N,fun _=>?_⟩
  have e0:=QO Q Y Z U.length a (by simp)
  have J:=Gf Q U.length p Y (by rw[e0])
  rw[e0,JR E]at J
  rw[IP (U.length+1) n p (by omega) (by rw[J];exact N),J]
end Go.Mx.Tryz
set_option maxHeartbeats 4000000
namespace Go.Mx.Tryz
open Go.Lib Go.Proofs
variable {t:TreeC} {h n v:I} {es:LT} {p:List Ce}
theorem AcI (hT:TreeV t h n es)(hv:IsSl v (Af p))(hl:(p.length:Int)<=9223372036854775806)(m:Int):∃x,IsSl x (Af (rnE t p m).1) /\ ∀H,Gives G 41 [.m (.ag [J4 t.states,h,n]),.m v,J0 m] H (.tu [.m x,J0 (rnE t p m).2]) H:=by
 have g1:=fun H=>Wk hT hv hl H
 unfold rnE
 by_cases U:CB t p=0
 rotate_left
 ·rw[Ahj U]
  refine⟨.nl 4,AM,fun H=>?_⟩
  refine Ae rfl rfl rfl rfl rfl ?_
  simp (maxSteps:=2000000) (disch:=omega) [cl (g1 _),U]
 rw[Ahl U]
 rw[U]at g1
 by_cases hm:0<=m/\m<=10000
 rotate_left
 ·rw[Ahj hm]
  refine⟨.nl 4,AM,fun H=>?_⟩
  refine Ae rfl rfl rfl rfl rfl ?_
  by_cases h0:m<0
  ·simp (maxSteps:=2000000) (disch:=omega) [cl (g1 _),h0]
  ·have J:(10000:Int)<m:=by omega
   simp (maxSteps:=2000000) (disch:=omega) [cl (g1 _),h0,J]
 rw[Ahl hm]
 have hS:=Cb hT
 obtain⟨k,rfl⟩:=AhA hm.1
 have hk:k<=10000:=by omega
 rw[show ((k:Int)).toNat=k from rfl]
 have key:∃x Z,Gives G 41 [.m (.ag [J4 t.states,h,n]),.m v,J0 (k:Int)] [] x Z/\(Z=[] /\ ∃z,IsSl z (Af (BQ t k p).1)/\x=.tu [.m z,J0 (BQ t k p).2]):=by
  refine AJ ?_
  refine Cs rfl rfl rfl rfl rfl ?_
  generalize hQ:(fun(x:V) (Z:Hp)=>Z=[] /\ ∃z,IsSl z (Af (BQ t k p).1)/\x=.tu [.m z,J0 (BQ t k p).2])=Q
  have qk:∀q z,BQ t k p=(q,0)->IsSl z (Af q)->Q (.tu [.m z,J0 0]) []:=fun q z J h2=>by rw[<-hQ];exact⟨rfl,z,by rw[J];exact h2,by rw[J]⟩
  have qe:∀e,BQ t k p=([],e)->Q (.tu [.m (.nl 4),J0 e]) []:=fun e J=>by rw[<-hQ];exact⟨rfl,.nl 4,by rw[J];exact AM,by rw[J]⟩
  clear hQ
  have m0:¬(k:Int)<0:=by omega
  have m1:¬(10000:Int)<k:=by omega
  have m2:¬10000<k:=by omega
  simp (maxSteps:=2000000) (disch:=omega) [cl (g1 _),m0,m1]
  refine(?key:∀(i:Nat) (q:List Ce) (u:I) (B:LE),i<=k->BQ t i p=(q,0)->CB t q=0->IsSl u (Af q)->getB B 3=some [J0 t.states,.m h,.m n]->Run G c41_B0 (S41_0 (.m u) (.fa 3 0) (J0 (k:Int)) (J0 (i:Int)) B []) _) 0 p v _ (Aho _) rfl U hv rfl
  refine Bl (fun i:Nat=>k-i) fun i ih q u B hi hr E hu hB=>?_
  unfold c41_B0
  by_cases hik:i<k
  ·have N:(i:Int)<k:=by omega
   have wi:=J1 i (by omega)
   have gs:=fun H=>Uz hT hu E H
   have Y:=Gf hS i p U (by rw[hr])
   rw[hr]at Y
   dsimp only at Y
   by_cases W:(stp t q).2=0
   ·have k2:=fun B'=>ih (i+1) (by omega) (stp t q).1 (zP (stp t q).1) B' (by omega) (by rw[Y];exact Prod.ext rfl W) (IK E (hS q E) W) (BY _)
    rw[W]at gs
    generalize zP (stp t q).1=z at *
    simp (maxSteps:=2000000) (disch:=omega) [N,hB,cl (gs _),wi,-Int.natCast_add]
    exact k2 _ hB
   ·have k2:=qe (stp t q).2 (by rw[IP (i+1) k p (by omega) (by rw[Y];exact W),Y];exact Prod.ext (Ux (hS q E) W) rfl)
    generalize (stp t q).2=e at *
    generalize zP (stp t q).1=z at *
    simp (maxSteps:=2000000) (disch:=omega) [N,hB,cl (gs _),W]
    exact k2
  ·have:i=k:=by omega
   subst this
   have k2:=qk q u hr hu
   simp (maxSteps:=2000000) (disch:=omega) []
   exact k2
 obtain⟨x,Z,g,rfl,z,J,rfl⟩:=key
 exact⟨z,J,fun H=>AU (H:=H) (is:=[.ag [J4 t.states,h,n],v,J4 (k:Int)]) rfl rfl g rfl (.inl ⟨rfl,rfl⟩)⟩
theorem AcJ (U:TreeV t h n es)(Z:IsSl v (Af p))(hl:(p.length:Int)<=9223372036854775806)(m:Int):∃x,IsSl x (Af (rnE t p m).1) /\ ∀H,Gives G 43 [.m (.ag [J4 t.states,h,n]),.m v,J0 m] H (.tu [.m x,J0 (rnE t p m).2]) H:=by
 unfold rnE
 by_cases E:CB t p=0
 rotate_left
 ·rw[Ahj E]
  have g1:=fun H=>AgF U Z hl E m H
  refine⟨.nl 4,AM,fun H=>?_⟩
  refine Ae rfl rfl rfl rfl rfl ?_
  simp (maxSteps:=2000000) (disch:=omega) [cl (g1 _),E]
 rw[Ahl E]
 by_cases Y:0<=m/\m<=10000
 rotate_left
 ·rw[Ahj Y]
  have g1:=fun H=>AgE U Z hl E m (by omega) H
  refine⟨.nl 4,AM,fun H=>?_⟩
  refine Ae rfl rfl rfl rfl rfl ?_
  simp (maxSteps:=2000000) (disch:=omega) [cl (g1 _)]
 rw[Ahl Y]
 have hS:=Cb U
 obtain⟨k,rfl⟩:=AhA Y.1
 have hk:k<=10000:=by omega
 rw[show ((k:Int)).toNat=k from rfl]
 obtain⟨x,⟨ps,e,hQ,hx⟩,g0⟩:=his_r U Z E k hk []
 have g1:∀H,Gives G 84 [.m (.ag [.i .i64 t.states,h,n]),.m v,.m (.i .i64 (k:Int))] H x H:=fun H=>AU (H:=H) (is:=[.ag [.i .i64 t.states,h,n],v,.i .i64 (k:Int)]) rfl rfl g0 rfl (.inl ⟨by rcases hx with ⟨_,rfl⟩|⟨_,vs,_,rfl⟩ <;> rfl,rfl⟩)
 obtain⟨q1,q2⟩:=YP hS E hQ
 rcases hx with ⟨Q,rfl⟩|⟨Q,vs,W,rfl⟩
 ·rw[q2 Q]
  refine⟨.nl 4,AM,fun H=>?_⟩
  refine Ae rfl rfl rfl rfl rfl ?_
  simp (maxSteps:=2000000) (disch:=omega) [cl (g1 _),Q]
 ·obtain⟨q,hq,hr⟩:=q1 Q
  rw[hr]
  have N:=(Ahg.1 hq).1
  obtain⟨u,hu⟩:∃u,vs[k]? = some u:=⟨_,Ahh (by rw[W.1];exact N)⟩
  have hn:=MW hu
  have hlen:k<vs.length:=by rw[W.1];exact N
  have J:=(Bf (Fk vs)).rules
  simp only[IX]at J
  refine⟨u,W.2 k u q hu hq,fun H=>?_⟩
  refine Ae rfl rfl rfl rfl rfl ?_
  simp (maxSteps:=2000000) (disch:=omega) [cl (g1 _),J,hn]
def mvF (a b:Int)(e:Ce):Ce:=⟨e.x+a,e.y+b,e.s⟩
theorem Adi (c d:Ce)(r s:List Ce):mvd (c::r) (d::s)=if d::s=(c::r).map (mvF (d.x-c.x) (d.y-c.y)) then some (d.x-c.x,d.y-c.y) else none:=rfl
theorem YA (c d:Ce)(r s:List Ce):mvd (c::r) (d::s)=if (d::s).map (mvC d.x d.y)=(c::r).map (mvC c.x c.y) then some (d.x-c.x,d.y-c.y) else none:=by
 rw[Adi]
 have e:(d::s=(c::r).map (mvF (d.x-c.x) (d.y-c.y)))=((d::s).map (mvC d.x d.y)=(c::r).map (mvC c.x c.y)):=by
  refine propext ⟨fun h=>?_,fun h=>?_⟩
  ·have E:=AiE (List.map (mvC d.x d.y)) h
   rw[E,Aim]
   refine List.map_congr_left fun e _=>?_
   show mvC d.x d.y (mvF _ _ e)=mvC c.x c.y e
   simp only[mvC,mvF,Ce.mk.injEq,and_true]
   omega
  ·have E:=AiE (List.map (mvF d.x d.y)) h
   rw[Aim,Aim]at E
   have J:∀l:List Ce,l.map (mvF d.x d.y ∘ mvC d.x d.y)=l:=fun l=>by
    conv=>rhs;rw[<-List.map_id l]
    refine List.map_congr_left fun e _=>?_
    show mvF d.x d.y (mvC d.x d.y e)=e
    cases e
    simp[mvC,mvF]
   rw[J]at E
   rw[E]
   refine List.map_congr_left fun e _=>?_
   show mvF d.x d.y (mvC c.x c.y e)=mvF _ _ e
   simp only[mvC,mvF,Ce.mk.injEq,and_true]
   omega
 by_cases h:d::s=(c::r).map (mvF (d.x-c.x) (d.y-c.y))
 ·rw[Ahl h,Ahl (e ▸ h)]
 ·rw[Ahj h,Ahj (fun N=>h (e ▸ N))]
theorem QA (p:List Ce):mvd [] p=none:=by cases p <;> rfl
variable {q:List Ce}
theorem Adh (h:¬p.length=q.length):mvd p q=none:=by
 cases p with
 | nil=>exact QA q
 | cons c r =>
  cases q with
  | nil=>rfl
  | cons d s =>
   rw[Adi]
   refine Ahj fun e=>h ?_
   have:=AiE List.length e
   rw[Ahr]at this
   exact this.symm
def JY (m:Int×Int×Int):I:=.ag [.i .i64 m.1,.i .i64 m.2.1,.i .i64 m.2.2]
def mvV:Option (Int×Int)->V
 | some d=>.tu [.m (.i .i64 d.1),.m (.i .i64 d.2),.m (.b true)]
 | none=>.tu [.m (.i .i64 0),.m (.i .i64 0),.m (.b false)]
def Nh (r:(Int×Int×Int)×Bool×Int):V:=.tu [.m (JY r.1),.m (.b r.2.1),.m (.i .i64 r.2.2)]
theorem Adj {w:I}(hv:IsSl v (Af p))(hw:IsSl w (Af q))(hp:right p=true)(hq:right q=true)(H:Hp):Gives G 170 [.m v,.m w] H (mvV (mvd p q)) H:=by
 have hl:=(Aw hp).2.2
 have hl2:=(Aw hq).2.2
 have hr:=hv.rules
 have Q:=hw.rules
 simp only[J3]at hr
 simp only[J3]at Q
 refine Ae rfl rfl rfl rfl rfl ?_
 by_cases E:p.length=q.length
 rotate_left
 ·have W:¬(p.length:Int)=q.length:=by omega
  rw[Adh E]
  simp (maxSteps:=2000000) (disch:=omega) [hr,Q,W,mvV]
 cases hpe:p with
 | nil =>
  have hl0:p.length=0:=by rw[hpe];rfl
  rw[<-hpe]
  have hm:mvd p q=none:=by rw[hpe];exact QA q
  rw[hm]
  have hq0:q.length=0:=by omega
  simp (maxSteps:=2000000) (disch:=omega) [hr,Q,hl0,hq0,mvV]
 | cons c r =>
  obtain⟨d,s,hqe⟩:∃d s,q=d::s:=by
   cases q with
   | nil=>rw[hpe]at E;simp at E
   | cons d s=>exact⟨d,s,rfl⟩
  have h0:p[0]? = some c:=by rw[hpe];rfl
  have Z:q[0]? = some d:=by rw[hqe];rfl
  have hn0:=Ap h0
  have hn02:=Ap Z
  have hbc:=AW hp (Ahm h0)
  have hbd:=AW hq (Ahm Z)
  have hm:mvd p q=if q=p.map (mvF (d.x-c.x) (d.y-c.y)) then some (d.x-c.x,d.y-c.y) else none:=by rw[hpe,hqe];exact Adi c d r s
  rw[<-hpe,hm]
  obtain⟨J,hdx⟩:∃J,J=d.x-c.x:=⟨_,rfl⟩
  obtain⟨N,hdy⟩:∃N,N=d.y-c.y:=⟨_,rfl⟩
  have w1:wr .i64 (d.x-c.x)=J:=by rw[hdx];exact Aa (by omega) (by omega)
  have w2:wr .i64 (d.y-c.y)=N:=by rw[hdy];exact Aa (by omega) (by omega)
  rw[<-hdx,<-hdy]
  have hpos:0<p.length:=(Am h0).1
  have hpos2:0<q.length:=(Am Z).1
  have W:(p.length:Int)=q.length:=by omega
  have hne:¬q.length=0:=by omega
  have hne':¬(q.length:Int)=0:=by omega
  simp (maxSteps:=2000000) (disch:=omega) [hr,Q,E,hne,hn0,hn02,w1,w2]
  refine(?key:∀(i:Nat) (B:LE),i<=q.length->q.take i=(p.map (mvF J N)).take i->Run G c170_B0 (S170_0 (.m v) (.m w) (J0 J) (J0 N) (J0 (q.length:Int)) (J0 (i:Int)) B []) _) 0 _ (Aho _) rfl
  refine Bl (fun i:Nat=>q.length-i) fun i ih B hi U=>?_
  unfold c170_B0
  cases hy:q[i]? with
  | none =>
   have:i=q.length:=by have:=Ahn.1 hy;omega
   subst this
   rw[AhI,Ahz (by simp;omega)]at U
   rw[Ahl U]
   simp (maxSteps:=2000000) (disch:=omega) [mvV]
  | some b =>
   have hlt2:=(Am hy).1
   obtain⟨a,hx⟩:∃a,p[i]? = some a:=⟨p[i]'(by omega),Ahh _⟩
   have hlt:=(Am hx).1
   have Y:(i:Int)<q.length:=by omega
   have hn:=Ap hx
   have hn2:=Ap hy
   have hba:=AW hp (Ahm hx)
   have hbb:=AW hq (Ahm hy)
   have wi:=J1 i (by omega)
   have w3:=J2 (a.x+J) (by omega)
   have w4:=J2 (a.y+N) (by omega)
   have hmy:(p.map (mvF J N))[i]? = some (mvF J N a):=by rw[AhD,hx];rfl
   by_cases he:b.x=a.x+J/\b.y=a.y+N/\b.s=a.s
   ·have e:b=mvF J N a:=by
     cases b
     unfold mvF
     simp only[Ce.mk.injEq]
     exact he
    have k2:=fun B'=>ih (i+1) (by omega) B' (by omega) (PZ U hy hmy e)
    simp (maxSteps:=2000000) (disch:=omega) [hr,Q,E,Y,hn,hn2,wi,w3,w4,he.1,he.2.1,he.2.2,-Int.natCast_add]
    exact k2 _
   ·have hno:¬q=p.map (mvF J N):=fun hh=>he (by
     have:q[i]? = some (mvF J N a):=by rw[hh];exact hmy
     rw[hy]at this
     injection this with this
     rw[this]
     exact⟨rfl,rfl,rfl⟩)
    rw[Ahj hno]
    have he1:(decide (b.x=a.x+J)&&(decide (b.y=a.y+N)&&decide (b.s=a.s)))=false:=by
     rw[Bool.eq_false_iff]
     simpa using he
    have he2:(decide (b.x=a.x+J)&&decide (b.y=a.y+N)&&decide (b.s=a.s))=false:=by
     rw[Bool.and_assoc];exact he1
    simp (maxSteps:=2000000) (disch:=omega) [hr,Q,E,Y,hn,hn2,w3,w4,he1,mvV]
theorem Yr (m:Int)(H:Hp):Gives G 169 [J0 m] H (.m (.b (decide (1<=m/\m<=64)))) H:=by
 refine Ae rfl rfl rfl rfl rfl ?_
 by_cases E:1<=m
 ·by_cases J:m<=64
  ·simp (maxSteps:=2000000) (disch:=omega) [E,J]
  ·simp (maxSteps:=2000000) (disch:=omega) [E,J]
 ·simp (maxSteps:=2000000) (disch:=omega) [E]
theorem AgI (hT:TreeV t h n es)(hv:IsSl v (Af p))(hl:(p.length:Int)<=9223372036854775806)(m:Int)(H:Hp):Gives G 136 [.m (.ag [J4 t.states,h,n]),.m v,J0 m] H (Nh (OH t p m)) H:=by
 obtain⟨x0,_,g1⟩:=AcI hT hv hl 0
 unfold rnE at g1
 have gp:=fun H=>Yr m H
 unfold OH
 by_cases hc:CB t p=0
 rotate_left
 ·rw[Ahj hc]at *
  refine Ae rfl rfl rfl rfl rfl ?_
  simp (maxSteps:=2000000) (disch:=omega) [Ab,cl (g1 _),hc,Nh,JY]
 rw[Ahl hc]at *
 rw[Ahl (by omega)]at g1
 by_cases hm:1<=m/\m<=64
 rotate_left
 ·rw[Ahj hm]at *
  rw[Ahs hm]at gp
  refine Ae rfl rfl rfl rfl rfl ?_
  simp (maxSteps:=2000000) (disch:=omega) [Ab,cl (g1 _),cl (gp _),BQ,Nh,JY]
 rw[Ahl hm]at *
 rw[Ahq hm]at gp
 have hS:=Cb hT
 obtain⟨hq,hrp,_⟩:=BU hc
 have hrv:=hv.rules
 obtain⟨k,rfl⟩:=AhA (show 0<=m by omega)
 rw[show ((k:Int)).toNat=k from rfl]
 have hk:k<=64:=by omega
 refine Ae rfl rfl rfl rfl rfl ?_
 simp (maxSteps:=2000000) (disch:=omega) [cl (g1 _),cl (gp _),show ((0:Int)).toNat=0 from rfl,BQ]
 refine(?key:∀(i:Nat) (q:List Ce) (u:I) (B:LE),i<=k->HJ t p k 1 p=HJ t p (k-i) (((i+1:Nat):Int)) q->CB t q=0->IsSl u (Af q)->getB B 3=some [J0 t.states,.m h,.m n]->getB B 6=some [J0 0,J0 0,J0 0]->Run G c136_B0 (S136_0 (.m v) (J0 (k:Int)) (.fa 3 0) (.fa 6 0) (.m u) (J0 (((i+1:Nat):Int))) B []) _) 0 p v _ (Aho _) rfl hc hv rfl rfl
 refine Bl (fun i:Nat=>k-i) fun i ih q u B hi hf W hu hB Q=>?_
 unfold c136_B0
 have U:=hu.rules
 simp only[J3]at U
 rw[hf]
 by_cases hik:i<k
 rotate_left
 ·have:i=k:=by omega
  subst this
  rw[Nat.sub_self]
  simp (maxSteps:=2000000) (disch:=omega) [Ab,show ¬((i+1:Nat):Int)<=i from by omega,Q,HJ,Nh,JY,-Int.natCast_add]
 have E:((i+1:Nat):Int)<=k:=by omega
 by_cases Y:q=[]
 ·rw[Y,HI hq]
  have hl0:q.length=0:=by rw[Y];rfl
  simp (maxSteps:=2000000) (disch:=omega) [Ab,E,U,hl0,Q,Nh,JY,-Int.natCast_add]
 have N:0<q.length:=AiN.2 Y
 have hpos2:(0:Int)<q.length:=by omega
 have Z:=fun H=>Ou hT hu (by have:=(Aw (BU W).2.1).2.2;omega) H
 unfold Ca at Z
 rw[Ahl W]at Z
 obtain⟨j,hj⟩:∃j,k-i=j+1:=⟨k-i-1,by omega⟩
 have wi:wr .i64 (((i+1:Nat):Int)+1)=((i+1+1:Nat):Int):=Aa (by omega) (by omega)
 by_cases he:(stp t q).2=0
 ·have hc2:=IK W (hS q W) he
  have gm:=fun H=>Adj hv (BY (stp t q).1) hrp (BU hc2).2.1 H
  have J:HJ t p (k-i) (((i+1:Nat):Int)) q=match mvd p (stp t q).1 with
   | some d=>((((i+1:Nat):Int),d.1,d.2),true,0)
   | none=>HJ t p j (((i+1+1:Nat):Int)) (stp t q).1:=by rw[hj];exact Nj he
  rw[he]at Z
  cases hmv:mvd p (stp t q).1 with
  | some d =>
   rw[hmv]at J gm
   dsimp only at J
   rw[J]
   generalize zP (stp t q).1=z at *
   simp only[mvV]at gm
   simp (maxSteps:=2000000) (disch:=omega) [Ab,E,U,N,hB,cl (Z _),cl (gm _),Q,Nh,JY,-Int.natCast_add]
  | none =>
   rw[hmv]at J gm
   dsimp only at J
   have k2:=fun B'=>ih (i+1) (by omega) (stp t q).1 (zP (stp t q).1) B' (by omega) (by rw[hf,J,show k-(i+1)=j from by omega]) hc2 (BY _)
   rw[hf]at k2
   generalize zP (stp t q).1=z at *
   simp only[mvV]at gm
   simp (maxSteps:=2000000) (disch:=omega) [E,U,N,hB,cl (Z _),cl (gm _),wi,-Int.natCast_add]
   exact k2 _ hB Q
 ·rw[hj,QR he]
  generalize (stp t q).2=e at *
  generalize zP (stp t q).1=z at *
  simp (maxSteps:=2000000) (disch:=omega) [Ab,E,U,N,hB,cl (Z _),he,Q,Nh,JY,-Int.natCast_add]
variable {c:Ce}
theorem QN (hv:IsSl v (Af p))(hp:right p=true){r:List Ce}(U:p=c::r)(H:Hp):Gives G 151 [.m v] H (.m (zP (p.map (mvC c.x c.y)))) H:=by
 have hl:=(Aw hp).2.2
 have hr:=hv.rules
 simp only[J3]at hr
 have W:p[0]? = some c:=by rw[U];rfl
 have hn0:=Ap W
 have hbc:=AW hp (Ahm W)
 have hpos:0<p.length:=(Am W).1
 refine Ae rfl rfl rfl rfl rfl ?_
 simp (maxSteps:=2000000) (disch:=omega) []
 refine(?key:∀(i:Nat) (f:List Ce) (o:V) (B:LE) (Z:Hp),i<=p.length->f=(p.take i).map (mvC c.x c.y)->Sz f o Z->Run G c151_B0 (S151_0 (.m v) o (J0 (i:Int)) B Z) _) 0 [] _ _ _ (Aho _) rfl (.inl ⟨rfl,rfl,rfl⟩)
 refine Bl (fun i:Nat=>p.length-i) fun i ih f o B Z hi Q ho=>?_
 unfold c151_B0
 obtain⟨J,N⟩:=DZ ho
 cases hx:p[i]? with
 | some a =>
  have hlt:=(Am hx).1
  have E:(i:Int)<p.length:=by omega
  have hn:=Ap hx
  have wi:=J2 ((i:Int)+1) (by omega)
  have htk:p.take (i+1)=p.take i++[a]:=As hx
  have hba:=AW hp (Ahm hx)
  have w1:=J2 (a.x-c.x) (by omega)
  have w2:=J2 (a.y-c.y) (by omega)
  have hfl:f.length<=1000000:=by rw[Q,Ahr,Ahx];omega
  obtain⟨o1,H2,ha,Y,ho1⟩:=Cc ho hfl (mvC c.x c.y a)
  have e:f++[mvC c.x c.y a]=(p.take (i+1)).map (mvC c.x c.y):=by rw[htk,Q];simp
  have k2:=fun B'=>ih (i+1) (by omega) (f++[mvC c.x c.y a]) o1 B' H2 (by omega) e ho1
  simp only[mvC]at ha
  simp (maxSteps:=2000000) (disch:=omega) [hr,E,hn,hn0,wi,w1,w2,ha,Al Y]
  exact k2 _
 | none =>
  have:i=p.length:=by have:=Ahn.1 hx;omega
  subst this
  rw[AhI]at Q
  rw[Q]at J
  generalize zP (p.map (mvC c.x c.y))=z at *
  simp (maxSteps:=2000000) (disch:=omega) [hr,J,Al N]
  exact N
theorem AgJ (hT:TreeV t h n es)(hv:IsSl v (Af p))(hl:(p.length:Int)<=9223372036854775806)(m:Int)(H:Hp):Gives G 113 [.m (.ag [J4 t.states,h,n]),.m v,J0 m] H (Nh (OH t p m)) H:=by
 obtain⟨x0,_,g1⟩:=AcJ hT hv hl 0
 unfold rnE at g1
 unfold OH
 by_cases hc:CB t p=0
 rotate_left
 ·rw[Ahj hc]at *
  refine Ae rfl rfl rfl rfl rfl ?_
  simp (maxSteps:=2000000) (disch:=omega) [Ab,cl (g1 _),hc,Nh,JY]
 rw[Ahl hc]at *
 rw[Ahl (by omega)]at g1
 by_cases hm:1<=m/\m<=64
 rotate_left
 ·rw[Ahj hm]at *
  refine Ae rfl rfl rfl rfl rfl ?_
  by_cases h1:m<1
  ·simp (maxSteps:=2000000) (disch:=omega) [Ab,cl (g1 _),BQ,h1,Nh,JY]
  ·have h2:64<m:=by omega
   simp (maxSteps:=2000000) (disch:=omega) [Ab,cl (g1 _),BQ,h1,h2,Nh,JY]
 rw[Ahl hm]at *
 have hS:=Cb hT
 obtain⟨hq,hrp,_⟩:=BU hc
 have hpl:=(Aw hrp).2.2
 have U:=hv.rules
 simp only[J3]at U
 obtain⟨k,rfl⟩:=AhA (show 0<=m by omega)
 rw[show ((k:Int)).toNat=k from rfl]
 have hk:k<=64:=by omega
 have m1:¬(k:Int)<1:=by omega
 have m1':¬k<1:=by omega
 have m2:¬(64:Int)<k:=by omega
 have m2':¬64<k:=by omega
 refine Ae rfl rfl rfl rfl rfl ?_
 cases hpe:p with
 | nil =>
  have hl0:p.length=0:=by rw[hpe];rfl
  rw[<-hpe]
  have e:HJ t p k 1 p=((0,0,0),false,0):=by
   have:=HI hq p k 1
   rw[<-hpe]at this
   exact this
  rw[e]
  simp (maxSteps:=2000000) (disch:=omega) [Ab,cl (g1 _),show ((0:Int)).toNat=0 from rfl,BQ,m1,m2,U,hl0,Nh,JY]
 | cons c r =>
 have hp0:0<p.length:=by rw[hpe];simp
 have hp0':¬p.length=0:=by omega
 have hp1':¬(p.length:Int)=0:=by omega
 have h0:p[0]? = some c:=by rw[hpe];rfl
 have hn0:=Ap h0
 have hbc:=AW hrp (Ahm h0)
 have gh1:=fun H=>QN hv hrp hpe H
 rw[<-hpe]
 simp (maxSteps:=2000000) (disch:=omega) [cl (g1 _),show ((0:Int)).toNat=0 from rfl,BQ,m1,m2,U,hp0']
 refine(?key:∀(i:Nat) (q:List Ce) (u:I) (B:LE),i<=k->HJ t p k 1 p=HJ t p (k-i) (((i+1:Nat):Int)) q->CB t q=0->IsSl u (Af q)->getB B 3=some [J0 t.states,.m h,.m n]->getB B 6=some [J0 0,J0 0,J0 0]->Run G c113_B0 (S113_0 (.m v) (J0 (k:Int)) (.fa 3 0) (.fa 6 0) (.m u) (J0 (((i+1:Nat):Int))) B []) _) 0 p v _ (Aho _) rfl hc hv rfl rfl
 refine Bl (fun i:Nat=>k-i) fun i ih q u B hi hf Z hu hB Q=>?_
 unfold c113_B0
 rw[hf]
 by_cases hik:i<k
 rotate_left
 ·have:i=k:=by omega
  subst this
  rw[Nat.sub_self]
  simp (maxSteps:=2000000) (disch:=omega) [Ab,show ¬((i+1:Nat):Int)<=i from by omega,Q,HJ,Nh,JY,-Int.natCast_add]
 have J:((i+1:Nat):Int)<=k:=by omega
 have gs:=fun H=>Ov hT hu (by have:=(Aw (BU Z).2.1).2.2;omega) H
 unfold Ca at gs
 rw[Ahl Z]at gs
 obtain⟨j,hj⟩:∃j,k-i=j+1:=⟨k-i-1,by omega⟩
 have wi:wr .i64 (((i+1:Nat):Int)+1)=((i+1+1:Nat):Int):=Aa (by omega) (by omega)
 by_cases he:(stp t q).2=0
 ·have hc2:=IK Z (hS q Z) he
  have E:HJ t p (k-i) (((i+1:Nat):Int)) q=match mvd p (stp t q).1 with
   | some d=>((((i+1:Nat):Int),d.1,d.2),true,0)
   | none=>HJ t p j (((i+1+1:Nat):Int)) (stp t q).1:=by rw[hj];exact Nj he
  rw[he]at gs
  have k1:=fun(Y:mvd p (stp t q).1=none) B'=>ih (i+1) (by omega) (stp t q).1 (zP (stp t q).1) B' (by omega) (by rw[hf,E,Y,show k-(i+1)=j from by omega]) hc2 (BY _)
  rw[hf]at k1
  have hz:=BY (stp t q).1
  have a0:=hz.rules
  have a1:=(BU hc2).2.1
  have hql:=(Aw a1).2.2
  generalize zP (stp t q).1=z at *
  generalize (stp t q).1=q2 at *
  simp only[J3]at a0
  cases hqe:q2 with
  | nil =>
   have hl0:q2.length=0:=by rw[hqe];rfl
   have Y:mvd p q2=none:=by rw[hqe];exact Vv p
   have k2:=k1 Y
   rw[Y]at E
   dsimp only at E
   simp (maxSteps:=2000000) (disch:=omega) [J,hB,cl (gs _),a0,hl0,Ad,wi,-Int.natCast_add]
   exact k2 _ hB Q
  | cons d s =>
   have hq0:0<q2.length:=by rw[hqe];simp
   have hq0':(0:Int)<q2.length:=by omega
   have gh2:=fun H=>QN hz a1 hqe H
   have W:=fun H=>IV (BY (q2.map (mvC d.x d.y))) (BY (p.map (mvC c.x c.y))) (by simp;omega) (by simp;omega) H
   have N:=YA c d r s
   rw[<-hqe,<-hpe]at N
   have h02:q2[0]? = some d:=by rw[hqe];rfl
   have hn02:=Ap h02
   have hbd:=AW a1 (Ahm h02)
   have w1:=J2 (d.x-c.x) (by omega)
   have w2:=J2 (d.y-c.y) (by omega)
   by_cases hE:q2.map (mvC d.x d.y)=p.map (mvC c.x c.y)
   ·rw[Ahl hE]at N
    rw[N]at E
    dsimp only at E
    rw[E]
    rw[Ahq (Gn.2 hE)]at W
    generalize zP (q2.map (mvC d.x d.y))=z1 at *
    generalize zP (p.map (mvC c.x c.y))=z2 at *
    simp (maxSteps:=2000000) (disch:=omega) [Ab,J,hB,cl (gs _),a0,U,hq0,Ad,cl (gh1 _),cl (gh2 _),cl (W _),hn0,hn02,w1,w2,Q,Nh,JY,-Int.natCast_add]
   ·rw[Ahj hE]at N
    have k2:=k1 N
    rw[N]at E
    dsimp only at E
    rw[Ahs (fun h=>hE (Gn.1 h))]at W
    generalize zP (q2.map (mvC d.x d.y))=z1 at *
    generalize zP (p.map (mvC c.x c.y))=z2 at *
    simp (maxSteps:=2000000) (disch:=omega) [J,hB,cl (gs _),a0,hq0,Ad,cl (gh1 _),cl (gh2 _),cl (W _),wi,-Int.natCast_add]
    exact k2 _ hB Q
 ·rw[hj,QR he]
  generalize (stp t q).2=e at *
  generalize zP (stp t q).1=z at *
  simp (maxSteps:=2000000) (disch:=omega) [Ab,J,hB,cl (gs _),he,Q,Nh,JY,-Int.natCast_add]
def YQ (r:Bool×Int):V:=.tu [.m (.b r.1),.m (.i .i64 r.2)]
theorem Aah {a b:Int×Int×Int}:(decide (a=b))=(decide (a.1=b.1)&&(decide (a.2.1=b.2.1)&&decide (a.2.2=b.2.2))):=by
 obtain⟨J,Q,E⟩:=a
 obtain⟨U,N,W⟩:=b
 simp[Bool.decide_and]
theorem has_s (J:TreeV t h n es)(E:IsSl v (Af p))(hl:(p.length:Int)<=9223372036854775806)(m:Int×Int×Int)(H:Hp):Gives G 106 [.m (.ag [J4 t.states,h,n]),.m v,.m (JY m)] H (YQ (YR t p m)) H:=by
 have g1:=fun H=>AgI J E hl m.1 H
 unfold YR
 rw[Aah]
 generalize OH t p m.1=r at *
 obtain⟨f,ok,e⟩:=r
 dsimp only at *
 simp only[Nh,JY]at *
 refine Ae rfl rfl rfl rfl rfl ?_
 cases ok with
 | true=>simp (maxSteps:=2000000) (disch:=omega) [Ab,cl (g1 _),YQ]
 | false=>simp (maxSteps:=2000000) (disch:=omega) [Ab,cl (g1 _),YQ]
theorem has_r (Q:TreeV t h n es)(N:IsSl v (Af p))(hl:(p.length:Int)<=9223372036854775806)(m:Int×Int×Int)(H:Hp):Gives G 73 [.m (.ag [J4 t.states,h,n]),.m v,.m (JY m)] H (YQ (YR t p m)) H:=by
 have g1:=fun H=>AgJ Q N hl m.1 H
 have J:¬(OH t p m.1).2.2=0->(OH t p m.1).2.1=false:=YW
 unfold YR
 rw[Aah]
 generalize OH t p m.1=r at *
 obtain⟨f,ok,e⟩:=r
 dsimp only at *
 simp only[Nh,JY]at *
 refine Ae rfl rfl rfl rfl rfl ?_
 by_cases E:e=0
 ·cases ok with
  | true=>simp (maxSteps:=2000000) (disch:=omega) [Ab,cl (g1 _),E,YQ]
  | false=>simp (maxSteps:=2000000) (disch:=omega) [Ab,cl (g1 _),E,YQ]
 ·rw[J E]at *
  simp (maxSteps:=2000000) (disch:=omega) [Ab,cl (g1 _),E,YQ]
noncomputable def plE (t:TreeC)(l:List Sh):List St5->Int
 | []=>0
 | x::r=>if (plF t l x).2=0 then plE t l r else (plF t l x).2
noncomputable def plP (t:TreeC)(l:List Sh)(xs:List St5):List (List Ce):=xs.map fun x=>(plF t l x).1
variable {l:List Sh} {xs:List St5} {i:Nat} {x:St5}
theorem Qp (h:xs[i]? = some x):plE t l (xs.drop i)=if (plF t l x).2=0 then plE t l (xs.drop (i+1)) else (plF t l x).2:=by
 rw[(Am h).2]
 rfl
theorem Qo (h:xs[i]? = some x):plP t l (xs.take (i+1))=plP t l (xs.take i)++[(plF t l x).1]:=by
 unfold plP
 rw[As h]
 simp
theorem Gh (E:Dr t):∀p,p∈plP t l xs->right p=true:=fun p J=>by
 obtain⟨x,_,rfl⟩:=AhE.1 J
 exact(pl_ok E).1
def dsj (p q:List Ce):Prop:=∀c,c∈p -> ∀d,d∈q->apart c d
def Aef (p q:List Ce):Bool:=p.all fun c=>q.all fun d=>!(decide (c.x=d.x)&&decide (c.y=d.y))
theorem HK (p q:List Ce):Aef p q=true↔dsj p q:=by
 unfold Aef dsj apart
 simp only[Ahu,AhQ,Bool.and_eq_false_iff,decide_eq_false_iff_not]
 refine⟨fun h c E d J N=>?_,fun h c E d J=>?_⟩
 ·rcases h c E d J with h|h
  ·exact h N.1
  ·exact h N.2
 ·have:=h c E d J
  by_cases Q:c.x=d.x
  ·exact .inr fun U=>this ⟨Q,U⟩
  ·exact .inl Q
theorem QS (h:dsj p q):dsj q p:=fun c E d J=>Fg (h d J c E)
def En (ps:List (List Ce)):Prop:=ps.Pairwise dsj
variable {ps:List (List Ce)}
theorem GY (h:∀p,p∈ps->right p=true):ps.flatten.Pairwise apart↔En ps:=by
 rw[List.pairwise_flatten]
 refine⟨fun E=>E.2,fun E=>⟨fun l J=>Fc (Aw (h l J)).1,E⟩⟩
theorem VT (h:∀p,p∈ps->right p=true):∀c,c∈ps.flatten->Cz c=true:=fun c E=>by
 obtain⟨l,J,N⟩:=List.mem_flatten.1 E
 exact(Aw (h l J)).2.1 c N
open Classical in
noncomputable def FH (ps:List (List Ce)):List Ce×Int:=if En ps then if 5000<ps.flatten.length then ([],6) else (AP ps.flatten,0) else ([],8)
def shI (v:I)(s:Sh):List I:=[v,.i .i64 s.m.1,.i .i64 s.m.2.1,.i .i64 s.m.2.2]
def Et (es:LT)(l:List Sh):Prop:=es.length=l.length /\ ∀(i:Nat) (s:Sh),l[i]? = some s->s.c.length<=1000000 /\ ∃v,nth es i=some (shI v s)/\IsSl v (Af s.c)
def FL (x:St5):List I:=[.i .i64 x.i,.i .i64 x.n,.i .i64 x.k,.i .i64 x.x,.i .i64 x.y]
def Fl (xs:List St5):LT:=xs.map FL
@[simp] theorem Jh (xs:List St5):(Fl xs).length=xs.length:=by simp[Fl]
theorem Jg (h:xs[i]? = some x):nth (Fl xs) i=some [J4 x.i,J4 x.n,J4 x.k,J4 x.x,J4 x.y]:=by
 rw[AL]
 simp[Fl,h,FL]
theorem Wa (h:ps[i]? = some q):En (ps.take (i+1))↔En (ps.take i) /\ ∀(k:Nat) p,k<i->ps[k]? = some p->dsj p q:=by
 unfold En
 rw[As h,Ait]
 refine⟨fun J=>⟨J.1,fun k p E N=>J.2.2 p (List.mem_iff_getElem?.2 ⟨k,by rw[AhN,Ahl E];exact N⟩) q (AhH.2 rfl)⟩,fun J=>⟨J.1,List.pairwise_singleton _ _,fun p N d U=>?_⟩⟩
 rw[AhH.1 U]
 obtain⟨k,E⟩:=List.mem_iff_getElem?.1 N
 rw[AhN]at E
 split at E
 ·rename_i Q
  exact J.2 k p Q E
 ·cases E
variable {k:Nat}
theorem Ads (Y:k<i)(Q:ps[k]? = some p)(hq:ps[i]? = some q)(h:¬dsj p q):¬En ps:=fun W=>by
 have Z:=Aiv.1 W
 obtain⟨N,E⟩:=Ahg.1 Q
 obtain⟨J,U⟩:=Ahg.1 hq
 have:=Z k i N J Y
 rw[E,U]at this
 exact h this
noncomputable def KN (t:TreeC):List (List Ce)->Int
 | []=>0
 | p::r=>if (Ca t p).2=0 then KN t r else (Ca t p).2
noncomputable def DI (t:TreeC)(ps:List (List Ce)):List (List Ce):=ps.map fun p=>(Ca t p).1
theorem MQ (h:ps[i]? = some p):KN t (ps.drop i)=if (Ca t p).2=0 then KN t (ps.drop (i+1)) else (Ca t p).2:=by
 rw[(Am h).2]
 rfl
theorem ZS {t:TreeC}:∀ {ps:List (List Ce)},KN t ps=0 -> ∀p,p∈ps->(Ca t p).2=0
 | p::r,h,q,J=>by
  unfold KN at h
  by_cases E:(Ca t p).2=0
  ·rw[Ahl E]at h
   rcases AhF.1 J with rfl|J
   ·exact E
   ·exact ZS h q J
  ·rw[Ahj E]at h
   exact absurd h E
open Classical in
noncomputable def GW (t:TreeC):Nat->Int->List (List Ce)->List Ce->Int×Int
 | 0,_,_,_=>(-1,0)
 | k+1,g,ps,w=>if KN t ps=0 then if (Ca t w).2=0 then if En (DI t ps)/\AP (DI t ps).flatten=(Ca t w).1 then GW t k (g+1) (DI t ps) (Ca t w).1 else (g,0) else (0,(Ca t w).2) else (0,KN t ps)
variable {w:List Ce} {g:Int}
theorem VB (E:KN t ps=0)(N:(Ca t w).2=0)(J:En (DI t ps))(Q:AP (DI t ps).flatten=(Ca t w).1):GW t (k+1) g ps w=GW t k (g+1) (DI t ps) (Ca t w).1:=by
 rw[GW,Ahl E,Ahl N,Ahl ⟨J,Q⟩]
theorem Jb (E:KN t ps=0)(N:(Ca t w).2=0)(J:¬(En (DI t ps)/\AP (DI t ps).flatten=(Ca t w).1)):GW t (k+1) g ps w=(g,0):=by
 rw[GW,Ahl E,Ahl N,Ahj J]
theorem VA (E:KN t ps=0)(J:¬(Ca t w).2=0):GW t (k+1) g ps w=(0,(Ca t w).2):=by
 rw[GW,Ahl E,Ahj J]
theorem VC (E:¬KN t ps=0):GW t (k+1) g ps w=(0,KN t ps):=by
 rw[GW,Ahj E]
noncomputable def ptE (t:TreeC)(l:List Sh)(xs:List St5):Int:=if Bd t=true then if l.length<=8/\xs.length<=16 then plE t l xs else 6 else 11
open Classical in
noncomputable def Lb (t:TreeC)(l:List Sh)(xs:List St5)(gens:Int):Int×Int :=
 if ptE t l xs=0 then if 0<=gens/\gens<=10000 then if En (plP t l xs) then if 5000<(plP t l xs).flatten.length then (0,6) else GW t gens.toNat 1 (plP t l xs) (AP (plP t l xs).flatten) else (0,0) else (0,2) else (0,ptE t l xs)
noncomputable def Yp (t:TreeC)(l:List Sh)(xs:List St5)(gens:Int):List Ce×Int :=
 if ptE t l xs=0 then if (FH (plP t l xs)).2=0 then rnE t (FH (plP t l xs)).1 gens else ([],(FH (plP t l xs)).2) else ([],ptE t l xs)
theorem IL (h:p.Perm q)(E:q.Pairwise apart):AP p=AP q:=KV (CZ E) (CZ (Fh h E)) (((Bp p).trans h).trans (Bp q).symm)
theorem GT (E:Dr t)(h:(Ca t p).2=0):right (Ca t p).1=true:=(BU (Acu E h).2.2).2.1
theorem JT (J:Dr t)(h:KN t ps=0):∀p,p∈DI t ps->right p=true:=fun p N=>by
 obtain⟨q,E,rfl⟩:=AhE.1 N
 exact GT J (ZS h q E)
theorem JW {L:List Ce}(hl:∀d,d∈L->Ba c d=true)(J:L.Pairwise apart):AP (c::L)=c::AP L:=by
 have Q:(c::AP L).Pairwise fun a b=>Ba a b=true:=AhK.2 ⟨fun d E=>hl d ((Bp L).mem_iff.1 E),CZ J⟩
 have N:(c::L).Pairwise apart:=AhK.2 ⟨fun d E=>FG (hl d E),J⟩
 exact KV Q (CZ N) ((Bp _).trans (List.Perm.cons c (Bp L).symm))
variable {a b:List Ce}
theorem Nt (E:a.Pairwise fun x y=>Ba x y=true)(J:b.Pairwise fun x y=>Ba x y=true)(N:dsj a b):(a++b).Pairwise apart:=Ait.2 ⟨Fc E,Fc J,N⟩
theorem No (hl:∀d,d∈b->Ba c d=true):dsj (c::a) b↔dsj a b :=
 ⟨fun h x E=>h x (AhZ _ E),fun h x E d J=>by
  rcases AhF.1 E with rfl|E
  ·exact FG (hl d J)
  ·exact h x E d J⟩
theorem Nn {d:Ce}(hl:∀c,c∈a->Ba d c=true):dsj a (d::b)↔dsj a b :=
 ⟨fun h x J e E=>h x J e (AhZ _ E),fun h x J e E=>by
  rcases AhF.1 E with rfl|E
  ·exact Fg (FG (hl x J))
  ·exact h x J e E⟩
structure UnI (out q a b next:List Ce):Prop where
 d:dsj a b↔dsj out q
 s:dsj a b->next++AP (a++b)=AP (out++q)
 pa:a.Pairwise fun x y=>Ba x y=true
 pb:b.Pairwise fun x y=>Ba x y=true
variable {out:List Ce}
theorem UnI.init (E:out.Pairwise fun x y=>Ba x y=true)(J:q.Pairwise fun x y=>Ba x y=true):UnI out q out q []:=⟨Iff.rfl,fun _=>rfl,E,J⟩
variable {next:List Ce}
theorem UnI.left (h:UnI out q (c::a) b next)(hl:∀d,d∈b->Ba c d=true):UnI out q a b (next++[c]):=by
 have N:=AhK.1 h.pa
 refine⟨(No hl).symm.trans h.d,fun Q=>?_,N.2,h.pb⟩
 rw[<-h.s ((No hl).2 Q),Aig,JW (fun d E=>?_) (Nt N.2 h.pb Q)]
 ·simp
 ·rcases AhV.1 E with J|J
  ·exact N.1 d J
  ·exact hl d J
theorem UnI.right {e:Ce}(h:UnI out q a (e::b) next)(hl:∀c,c∈a->Ba e c=true):UnI out q a b (next++[e]):=by
 have Q:=AhK.1 h.pb
 refine⟨(Nn hl).symm.trans h.d,fun U=>?_,h.pa,Q.2⟩
 have N:=Nt h.pa Q.2 U
 have W:AP (a++e::b)=e::AP (a++b):=by
  have Y:=JW (c:=e) (L:=a++b) (fun d J=>by
   rcases AhV.1 J with E|E
   ·exact hl d E
   ·exact Q.1 d E) N
  rw[<-Y]
  refine IL List.perm_middle (AhK.2 ⟨fun d J=>?_,N⟩)
  rcases AhV.1 J with E|E
  ·exact FG (hl d E)
  ·exact FG (Q.1 d E)
 rw[<-h.s ((Nn hl).2 U),W]
 simp
theorem UnI.meet {d:Ce}(h:UnI out q (c::a) (d::b) next)(J:c.x=d.x)(N:c.y=d.y):¬dsj out q:=fun E=>(h.d.2 E) c (AhG ..) d (AhG ..) ⟨J,N⟩
theorem UnI.done (h:UnI out q [] [] next):dsj out q/\next=AP (out++q):=by
 have E:dsj [] []:=fun c J=>by cases J
 exact⟨h.d.1 E,by rw[<-h.s E];simp[AP]⟩
theorem Ze:dsj (AP ps.flatten) q ↔ ∀p,p∈ps->dsj p q:=by
 refine⟨fun h p N c E=>h c ((Bp _).mem_iff.2 (List.mem_flatten.2 ⟨p,N,E⟩)),fun h c E=>?_⟩
 obtain⟨p,N,J⟩:=List.mem_flatten.1 ((Bp _).mem_iff.1 E)
 exact h p N c J
theorem Kb (h:ps[i]? = some q):En (ps.take (i+1))↔En (ps.take i)/\dsj (AP (ps.take i).flatten) q:=by
 unfold En
 rw[As h,Ait,Ze]
 exact⟨fun E=>⟨E.1,fun p J=>E.2.2 p J q (AhH.2 rfl)⟩,fun E=>⟨E.1,List.pairwise_singleton _ _,fun p J d N=>by rw[AhH.1 N];exact E.2 p J⟩⟩
theorem Zf (i:Nat)(h:En ps):En (ps.take i):=h.sublist (List.take_sublist i ps)
open Classical in
noncomputable def unF (ps:List (List Ce)):List Ce×Bool:=if En ps then (AP ps.flatten,true) else ([],false)
theorem ZN {x y w h:Int}(e:Nr p=[x,y,w,h]):Un p=(decide (10000<w)||decide (10000<h)):=by
 unfold Un
 rw[e]
variable {s:Sh}
theorem AcB (W:TreeV t h n es)(U:IsSl v (Af s.c))(hl:s.c.length<=1000000)(H:Hp):Gives G 64 [.m (.ag [J4 t.states,h,n]),.m (.ag (shI v s))] H (.m (.b (CL t s))) H:=by
 have E:=fun H=>AgT U (by omega) H
 have Q:=fun H=>has_s W U (by omega) s.m H
 obtain⟨x,y,w,Y,e⟩:=Aaj s.c
 unfold CL
 unfold QZ at E
 rw[e]at E
 rw[ZN e]
 generalize (!s.c.isEmpty&&right s.c)=b at *
 generalize YR t s.c s.m=r at *
 obtain⟨ok,er⟩:=r
 simp only[YQ,JY,AhL,List.map_nil]at E Q
 refine Ae rfl rfl rfl rfl rfl ?_
 cases b with
 | false=>simp (maxSteps:=2000000) (disch:=omega) [Ab,shI,cl (E _)]
 | true =>
  by_cases J:10000<w
  ·simp (maxSteps:=2000000) (disch:=omega) [Ab,shI,cl (E _),J]
  ·by_cases N:10000<Y
   ·simp (maxSteps:=2000000) (disch:=omega) [Ab,shI,cl (E _),J,N]
   ·cases ok with
    | false=>simp (maxSteps:=2000000) (disch:=omega) [Ab,shI,cl (E _),J,N,cl (Q _)]
    | true=>simp (maxSteps:=2000000) (disch:=omega) [Ab,shI,cl (E _),J,N,cl (Q _)]
def phV (r:List Ce×Int):I:=if r.2=0 then .sl (Af r.1) else .nl 4
theorem PY {n p:Int}(J:0<=n)(E:0<p):n.tmod p=((n.toNat%p.toNat:Nat):Int):=by
 obtain⟨a,rfl⟩:=AhA J
 obtain⟨b,rfl⟩:=AhA (Int.le_of_lt E)
 rfl
theorem AcT (W:TreeV t h n es)(hv:IsSl v (Af s.c))(hl:s.c.length<=1000000)(k:Int)(H:Hp):Gives G 86 [.m (.ag [J4 t.states,h,n]),.m (.ag (shI v s)),J0 k] H (.tu [.m (phV (phF t s k)),J0 (phF t s k).2]) H:=by
 have E:=fun H=>KS W H
 have J:=fun H=>AcB W hv hl H
 have hS:=Cb W
 unfold phF
 cases hq:Bd t with
 | false =>
  rw[hq]at E
  refine Ae rfl rfl rfl rfl rfl ?_
  simp (maxSteps:=2000000) (disch:=omega) [shI,cl (E _),phV]
 | true =>
 rw[hq]at E
 rw[Ahl rfl]
 by_cases Z:0<=k/\k<=10000
 rotate_left
 ·rw[Ahj (fun Y=>Z Y.1)]
  refine Ae rfl rfl rfl rfl rfl ?_
  by_cases h1:k<0
  ·simp (maxSteps:=2000000) (disch:=omega) [shI,cl (E _),h1,Ad,phV]
  ·have h2:10000<k:=by omega
   simp (maxSteps:=2000000) (disch:=omega) [shI,cl (E _),h1,h2,Ad,phV]
 have k1:¬k<0:=by omega
 have k2:¬10000<k:=by omega
 cases hok:CL t s with
 | false =>
  rw[hok]at J
  rw[Ahj (fun Y=>by cases Y.2)]
  refine Ae rfl rfl rfl rfl rfl ?_
  simp only[shI]at J
  simp (maxSteps:=2000000) (disch:=omega) [cl (E _),k1,k2,Ad,shI,cl (J _),phV]
 | true =>
  rw[hok]at J
  rw[Ahl ⟨Z,rfl⟩]
  have N:=Fa hS hok
  have hp:=N.p1
  have a1:((k.toNat%s.m.1.toNat:Nat):Int)<s.m.1:=by
   have:=Nat.mod_lt k.toNat (show 0<s.m.1.toNat from by omega)
   omega
  obtain⟨p1,p2,p3,_⟩:=N.ph _ a1
  obtain⟨x,U,Q⟩:=AcI W hv (by omega) ((k.toNat%s.m.1.toNat:Nat):Int)
  unfold rnE at U Q
  rw[Ahl N.ck,Ahl (by have:=N.p2;omega)]at U Q
  rw[show (((k.toNat%s.m.1.toNat:Nat):Int)).toNat=k.toNat%s.m.1.toNat from rfl]at U Q
  have gh:=fun H=>Aaf U (BU p3).2.1 H
  rw[Ahj p2]at gh
  rw[p1]at Q
  have ht:=PY Z.1 (show 0<s.m.1 from by omega)
  have a0:¬s.m.1=0:=by omega
  simp only[shI]at J
  unfold phV
  dsimp only
  rw[Ahl rfl]
  generalize BG (BQ t (k.toNat%s.m.1.toNat) s.c).1=q at *
  generalize k.toNat%s.m.1.toNat=m at *
  refine Ae rfl rfl rfl rfl rfl ?_
  simp (maxSteps:=2000000) (disch:=omega) [cl (E _),k1,k2,Ad,shI,cl (J _),ht,a0,Aa (show -9223372036854775808<=((m:Nat):Int) from by omega) (show ((m:Nat):Int)<=9223372036854775807 from by have:=N.p2;omega),cl (Q _),cl (gh _)]
theorem OB {k:Int}(h:0<=k/\k<=7):CP k=k.toNat:=by unfold CP;omega
variable {z:I} {fs:LT}
theorem AcN (hT:TreeV t h n es)(hz:IsSl z fs)(hs:Et fs l)(x:St5):∃u,IsSl u (Af (plF t l x).1) /\ ∀H,Gives G 45 [.m (.ag [J4 t.states,h,n]),.m z,.m (.ag (FL x))] H (.tu [.m u,J0 (plF t l x).2]) H:=by
 have Q:=fun H=>KS hT H
 have hS:=Cb hT
 have J:=hz.rules
 rw[hs.1]at J
 unfold plF
 cases hq:Bd t with
 | false =>
  rw[hq]at Q
  refine⟨.nl 4,AM,fun H=>Ae rfl rfl rfl rfl rfl ?_⟩
  simp (maxSteps:=2000000) (disch:=omega) [FL,cl (Q _)]
 | true =>
 rw[hq]at Q
 rw[Ahl rfl]
 by_cases h0:x.i<0
 ·rw[Ahj (by omega)]
  refine⟨.nl 4,AM,fun H=>Ae rfl rfl rfl rfl rfl ?_⟩
  simp (maxSteps:=2000000) (disch:=omega) [FL,cl (Q _),h0]
 rw[Ahl (by omega)]
 obtain⟨i,W⟩:=AhA (show 0<=x.i by omega)
 rw[W]
 rw[show ((i:Int)).toNat=i from rfl]
 have N:¬(i:Int)<0:=by omega
 cases hx:l[i]? with
 | none =>
  have hge:=Ahn.1 hx
  refine⟨.nl 4,AM,fun H=>Ae rfl rfl rfl rfl rfl ?_⟩
  simp (maxSteps:=2000000) (disch:=omega) [FL,cl (Q _),W,N,J,show (l.length:Int)<=i from by omega]
 | some s =>
 have hlt:=(Ahg.1 hx).1
 obtain⟨hsl,v,hn,hv⟩:=hs.2 i s hx
 have E:¬(l.length:Int)<=i:=by omega
 have hilt':¬l.length<=i:=by omega
 dsimp only
 by_cases hk:0<=x.k/\x.k<=7
 rotate_left
 ·rw[Ahj (fun hh=>hk hh.1)]
  refine⟨.nl 4,AM,fun H=>Ae rfl rfl rfl rfl rfl ?_⟩
  by_cases h1:x.k<0
  ·simp (maxSteps:=2000000) (disch:=omega) [FL,cl (Q _),W,N,J,E,h1]
  ·have h2:7<x.k:=by omega
   simp (maxSteps:=2000000) (disch:=omega) [FL,cl (Q _),W,N,J,E,h1,h2]
 have k1:¬x.k<0:=by omega
 have k2:¬7<x.k:=by omega
 have U:=fun H=>AcT hT hv hsl x.n H
 unfold phF at U
 rw[Ahl hq]at U
 by_cases Z:(0<=x.n/\x.n<=10000)/\CL t s=true
 rotate_left
 ·rw[Ahj (fun hh=>Z hh.2)]
  rw[Ahj Z]at U
  refine⟨.nl 4,AM,fun H=>Ae rfl rfl rfl rfl rfl ?_⟩
  simp only[shI]at U hn
  simp (maxSteps:=2000000) (disch:=omega) [FL,cl (Q _),W,N,J,E,k1,k2,hn,cl (U _)]
 rw[Ahl ⟨hk,Z⟩]
 rw[Ahl Z]at U
 have hR:=Fa hS Z.2
 have a1:((x.n.toNat%s.m.1.toNat:Nat):Int)<s.m.1:=by
  have:=hR.p1
  have:=Nat.mod_lt x.n.toNat (show 0<s.m.1.toNat from by omega)
  omega
 obtain⟨r1,r2,r3,r4⟩:=Qe hR a1 x.k.toNat
 obtain⟨q,a0,_⟩:=ZP (Bf (Af (BG (BQ t (x.n.toNat%s.m.1.toNat) s.c).1))) r1 x.k []
 rw[OB hk]at a0
 have e1:=PW (Aw r1).1 a0
 have gt:∀H,Gives G 87 [J0 x.k,.m (.sl (Af (BG (BQ t (x.n.toNat%s.m.1.toNat) s.c).1)))] H (.tu [.m (.sl (Af (tnS x.k.toNat (BG (BQ t (x.n.toNat%s.m.1.toNat) s.c).1)))),J0 0]) H:=fun H=>by
  obtain⟨q',Y,g⟩:=ZP (Bf (Af (BG (BQ t (x.n.toNat%s.m.1.toNat) s.c).1))) r1 x.k H
  rw[OB hk]at Y
  rw[<-PW (Aw r1).1 Y]
  exact g
 have gh:=fun H=>Aaf (Bf (Af (tnS x.k.toNat (BG (BQ t (x.n.toNat%s.m.1.toNat) s.c).1)))) r2 H
 have hnn:¬tnS x.k.toNat (BG (BQ t (x.n.toNat%s.m.1.toNat) s.c).1)=[]:=fun e=>r4 (by unfold Sx;rw[e];rfl)
 rw[Ahj hnn]at gh
 obtain⟨u,hu,gs⟩:=Yk (Bf (Af (Sx t s (x.n.toNat%s.m.1.toNat) x.k.toNat))) r3 x.x x.y
 refine⟨u,hu,fun H=>Ae rfl rfl rfl rfl rfl ?_⟩
 simp only[phV,Ahl]at U
 unfold Sx at gs ⊢
 generalize tnS x.k.toNat (BG (BQ t (x.n.toNat%s.m.1.toNat) s.c).1)=q1 at *
 generalize BG (BQ t (x.n.toNat%s.m.1.toNat) s.c).1=q2 at *
 generalize BG q1=q3 at *
 generalize shF q3 x.x x.y=res at *
 simp only[shI]at U hn
 simp (maxSteps:=2000000) (disch:=omega) [FL,cl (Q _),W,N,J,E,k1,k2,hn,cl (U _),cl (gt _),cl (gh _),cl (gs _)]
theorem UK (Y:TreeV t h n es)(W:IsSl v (Af s.c))(hl:s.c.length<=1000000)(H:Hp):Gives G 38 [.m (.ag [J4 t.states,h,n]),.m (.ag (shI v s))] H (.m (.b (CL t s))) H:=by
 have E:=fun H=>AgU W (by omega) H
 have J:=fun H=>has_r Y W (by omega) s.m H
 obtain⟨x,y,w,Q,e⟩:=Aaj s.c
 unfold CL
 unfold QZ at E
 rw[e]at E
 rw[ZN e]
 generalize (!s.c.isEmpty&&right s.c)=b at *
 generalize YR t s.c s.m=r at *
 obtain⟨ok,er⟩:=r
 simp only[YQ,JY,AhL,List.map_nil]at E J
 refine Ae rfl rfl rfl rfl rfl ?_
 have e1:decide (w<=10000) = !decide (10000<w):=by by_cases h:10000<w <;> simp[h] <;> omega
 have Z:decide (Q<=10000) = !decide (10000<Q):=by by_cases h:10000<Q <;> simp[h] <;> omega
 cases ok with
 | false=>simp (disch:=omega) [Ab,shI,cl (E _),cl (J _)]
 | true =>
  by_cases N:er=0
  ·cases b with
   | false=>simp (disch:=omega) [Ab,shI,cl (E _),cl (J _),N]
   | true =>
    by_cases U:10000<w
    ·simp (disch:=omega) [Ab,shI,cl (E _),cl (J _),N,U,show ¬w<=10000 from by omega]
    ·simp (disch:=omega) [Ab,shI,cl (E _),cl (J _),N,U,show w<=10000 from by omega,Z]
  ·simp (disch:=omega) [Ab,shI,cl (E _),cl (J _),N]
theorem VY (W:TreeV t h n es)(U:IsSl v (Af s.c))(hl:s.c.length<=1000000)(N:ShipR t s)(hi:(i:Int)<s.m.1):∃x,IsSl x (Af (BQ t i s.c).1) /\ ∀H,Gives G 152 [.m (.ag [J4 t.states,h,n]),.m (.ag (shI v s)),J0 (i:Int)] H (.m x) H:=by
 obtain⟨x,E,J⟩:=AcJ W U (by omega) (i:Int)
 have Q:=N.p2
 unfold rnE at E J
 rw[Ahl N.ck,Ahl (by omega)]at E J
 rw[show ((i:Int)).toNat=i from rfl]at E J
 refine⟨x,E,fun H=>Ae rfl rfl rfl rfl rfl ?_⟩
 simp (disch:=omega) [shI,cl (J _)]
theorem AcU (Q:TreeV t h n es)(hv:IsSl v (Af s.c))(hl:s.c.length<=1000000){k:Int}(hk:0<=k/\k<=10000)(N:CL t s=true)(H:Hp):Gives G 114 [.m (.ag [J4 t.states,h,n]),.m (.ag (shI v s)),J0 k] H (.tu [.m (zP (BG (BQ t (k.toNat%s.m.1.toNat) s.c).1)),J0 0]) H:=by
 have hS:=Cb Q
 have gq:=fun H=>KU Q H
 have U:=fun H=>UK Q hv hl H
 have E:=Fa hS N
 rw[E.q]at gq
 rw[N]at U
 have k1:¬k<0:=by omega
 have k2:¬10000<k:=by omega
 have hp:=E.p1
 have hp2:=E.p2
 have J:((k.toNat%s.m.1.toNat:Nat):Int)<s.m.1:=by
  have:=Nat.mod_lt k.toNat (show 0<s.m.1.toNat from by omega)
  omega
 obtain⟨p1,p2,p3,_⟩:=E.ph _ J
 obtain⟨x,hx,Y⟩:=VY Q hv hl E J
 have Z:=fun H=>VO hx (BU p3).2.1 H
 rw[Ahj p2]at Z
 have ht:=PY hk.1 (show 0<s.m.1 from by omega)
 have W:¬s.m.1=0:=by omega
 simp only[shI]at U Y
 generalize zP (BG (BQ t (k.toNat%s.m.1.toNat) s.c).1)=q at *
 generalize k.toNat%s.m.1.toNat=m at *
 refine Ae rfl rfl rfl rfl rfl ?_
 simp (disch:=omega) [cl (gq _),k1,k2,shI,cl (U _),ht,W,Aa (show -9223372036854775808<=((m:Nat):Int) from by omega) (show ((m:Nat):Int)<=9223372036854775807 from by omega),cl (Y _),cl (Z _)]
theorem AcA (W:TreeV t h n es)(hv:IsSl v (Af s.c))(hl:s.c.length<=1000000){k c:Int}(hk:0<=k/\k<=10000)(hc:0<=c/\c<=7)(E:CL t s=true)(H:Hp):Gives G 77 [.m (.ag [J4 t.states,h,n]),.m (.ag (shI v s)),J0 k,J0 c] H (.m (zP (Sx t s (k.toNat%s.m.1.toNat) c.toNat))) H:=by
 have hS:=Cb W
 have Q:=Fa hS E
 have hp:=Q.p1
 have N:((k.toNat%s.m.1.toNat:Nat):Int)<s.m.1:=by
  have:=Nat.mod_lt k.toNat (show 0<s.m.1.toNat from by omega)
  omega
 have Y:=fun H=>AcU W hv hl hk E H
 obtain⟨r1,r2,r3,r4⟩:=Qe Q N c.toNat
 have Z:=fun H=>Ack (BY (BG (BQ t (k.toNat%s.m.1.toNat) s.c).1)) r1 c (by omega) H
 rw[OB hc]at Z
 have U:=fun H=>VO (BY (tnS c.toNat (BG (BQ t (k.toNat%s.m.1.toNat) s.c).1))) r2 H
 have J:¬tnS c.toNat (BG (BQ t (k.toNat%s.m.1.toNat) s.c).1)=[]:=fun e=>r4 (by unfold Sx;rw[e];rfl)
 rw[Ahj J]at U
 unfold Sx
 generalize zP (BG (tnS c.toNat (BG (BQ t (k.toNat%s.m.1.toNat) s.c).1)))=z3 at *
 generalize zP (tnS c.toNat (BG (BQ t (k.toNat%s.m.1.toNat) s.c).1))=z2 at *
 generalize zP (BG (BQ t (k.toNat%s.m.1.toNat) s.c).1)=z1 at *
 simp only[shI]at Y
 refine Ae rfl rfl rfl rfl rfl ?_
 simp (disch:=omega) [shI,cl (Y _),cl (Z _),cl (U _)]
theorem Qw (x:Int)(H:Hp):Gives G 76 [J0 x] H (.m (.b (decide (-2097152<=x/\x<=2097152)))) H:=by
 refine Ae rfl rfl rfl rfl rfl ?_
 by_cases E:-2097152<=x
 ·by_cases J:x<=2097152
  ·simp (disch:=omega) [E,J]
  ·simp (disch:=omega) [E,J]
 ·simp (disch:=omega) [E]
noncomputable def ckF (t:TreeC)(l:List Sh)(x:St5):Int:=if Bd t=true then match (if 0<=x.i then l[x.i.toNat]? else none) with
  | some s=>if (0<=x.k/\x.k<=7)/\((0<=x.n/\x.n<=10000)/\CL t s=true) then 0 else 2
  | none=>13
 else 11
set_option maxHeartbeats 2000000 in
theorem Wl (hT:TreeV t h n es)(hz:IsSl z fs)(hs:Et fs l)(x:St5)(H:Hp):Gives G 75 [.m (.ag [J4 t.states,h,n]),.m z,.m (.ag (FL x))] H (J0 (ckF t l x)) H:=by
 have Q:=fun H=>KU hT H
 have J:=hz.rules
 rw[hs.1]at J
 unfold ckF
 cases hq:Bd t with
 | false =>
  rw[hq]at Q
  refine Ae rfl rfl rfl rfl rfl ?_
  simp (disch:=omega) [FL,cl (Q _)]
 | true =>
 rw[hq]at Q
 rw[Ahl rfl]
 by_cases h0:x.i<0
 ·rw[Ahj (by omega)]
  refine Ae rfl rfl rfl rfl rfl ?_
  simp (disch:=omega) [FL,cl (Q _),h0]
 rw[Ahl (by omega)]
 obtain⟨i,W⟩:=AhA (show 0<=x.i by omega)
 rw[W]
 rw[show ((i:Int)).toNat=i from rfl]
 have N:¬(i:Int)<0:=by omega
 cases hx:l[i]? with
 | none =>
  have hge:=Ahn.1 hx
  refine Ae rfl rfl rfl rfl rfl ?_
  simp (disch:=omega) [FL,cl (Q _),W,N,J,show (l.length:Int)<=i from by omega]
 | some s =>
 have hlt:=(Ahg.1 hx).1
 obtain⟨hsl,v,Y,hv⟩:=hs.2 i s hx
 have E:¬(l.length:Int)<=i:=by omega
 have hilt':¬l.length<=i:=by omega
 have hlt':(i:Int)<l.length:=by omega
 have U:=fun H=>UK hT hv hsl H
 simp only[shI]at U Y
 dsimp only
 refine Ae rfl rfl rfl rfl rfl ?_
 cases hok:CL t s with
 | false =>
  rw[hok]at U
  rw[Ahj (fun hh=>by cases hh.2.2)]
  simp (disch:=omega) [FL,cl (Q _),W,N,J,E,Y,cl (U _)]
 | true =>
  rw[hok]at U
  by_cases Z:x.n<0
  ·rw[Ahj (by omega)]
   simp (disch:=omega) [FL,cl (Q _),W,N,J,E,Y,cl (U _),Z]
  by_cases h2:10000<x.n
  ·rw[Ahj (by omega)]
   simp (disch:=omega) [FL,cl (Q _),W,N,J,E,Y,cl (U _),Z,h2]
  by_cases h3:x.k<0
  ·rw[Ahj (by omega)]
   simp (disch:=omega) [FL,cl (Q _),W,N,J,E,Y,cl (U _),Z,h2,h3]
  by_cases h4:7<x.k
  ·rw[Ahj (by omega)]
   simp (disch:=omega) [FL,cl (Q _),W,N,J,E,Y,cl (U _),Z,h2,h3,h4]
  rw[Ahl ⟨by omega,by omega,rfl⟩]
  simp (disch:=omega) [FL,cl (Q _),W,N,J,E,Y,cl (U _),Z,h2,h3,h4]
theorem AcO (hT:TreeV t h n es)(hz:IsSl z fs)(hs:Et fs l)(x:St5)(H:Hp):Gives G 39 [.m (.ag [J4 t.states,h,n]),.m z,.m (.ag (FL x))] H (.tu [.m (zP (plF t l x).1),J0 (plF t l x).2]) H:=by
 have hS:=Cb hT
 have W:=fun H=>Wl hT hz hs x H
 have a0:=hz.rules
 rw[hs.1]at a0
 simp only[FL]at W
 by_cases E:ckF t l x=0
 rotate_left
 ·have e:plF t l x=([],ckF t l x):=by
   unfold ckF plF at *
   by_cases Z:Bd t=true
   ·simp only[Ahl Z]at E ⊢
    generalize (if 0<=x.i then l[x.i.toNat]? else none)=o at *
    cases o with
    | none=>rfl
    | some s =>
     dsimp only at E ⊢
     by_cases U:(0<=x.k/\x.k<=7)/\((0<=x.n/\x.n<=10000)/\CL t s=true)
     ·rw[Ahl U]at E
      exact absurd rfl E
     ·simp only[Ahj U]
   ·simp only[Ahj Z]
  rw[e]
  refine Ae rfl rfl rfl rfl rfl ?_
  simp (disch:=omega) [FL,cl (W _),E,zP]
 have Q:Bd t=true /\ ∃(i:Nat) (s:Sh),x.i=i/\l[i]? = some s/\(0<=x.k/\x.k<=7)/\(0<=x.n/\x.n<=10000)/\CL t s=true/\plF t l x=shF (Sx t s (x.n.toNat%s.m.1.toNat) x.k.toNat) x.x x.y:=by
  unfold ckF at E
  unfold plF
  by_cases Z:Bd t=true
  ·rw[Ahl Z]at E ⊢
   by_cases h0:0<=x.i
   ·rw[Ahl h0]at E ⊢
    cases Y:l[x.i.toNat]? with
    | none=>rw[Y]at E;cases E
    | some s =>
     rw[Y]at E
     dsimp only at E ⊢
     by_cases U:(0<=x.k/\x.k<=7)/\((0<=x.n/\x.n<=10000)/\CL t s=true)
     ·rw[Ahl U]
      exact⟨Z,x.i.toNat,s,by omega,Y,U.1,U.2.1,U.2.2,rfl⟩
     ·rw[Ahj U]at E
      cases E
   ·rw[Ahj h0]at E
    cases E
  ·rw[Ahj Z]at E
   cases E
 obtain⟨hq,i,s,hi,Y,hk,a2,Q,e⟩:=Q
 rw[e]
 rw[E]at W
 have hlt:=(Ahg.1 Y).1
 have hlt':(i:Int)<l.length:=by omega
 obtain⟨hsl,v,hn,hv⟩:=hs.2 i s Y
 have hR:=Fa hS Q
 have hp:=hR.p1
 have a1:((x.n.toNat%s.m.1.toNat:Nat):Int)<s.m.1:=by
  have:=Nat.mod_lt x.n.toNat (show 0<s.m.1.toNat from by omega)
  omega
 obtain⟨_,_,r3,_⟩:=Qe hR a1 x.k.toNat
 have gs:=fun H=>AcA hT hv hsl a2 hk Q H
 have gsh:=fun H=>Yj (BY (Sx t s (x.n.toNat%s.m.1.toNat) x.k.toNat)) r3 x.x x.y H
 have J:=fun H=>Qw x.x H
 have N:=fun H=>Qw x.y H
 simp only[shI]at gs hn
 generalize Sx t s (x.n.toNat%s.m.1.toNat) x.k.toNat=q at *
 refine Ae rfl rfl rfl rfl rfl ?_
 by_cases hX:-2097152<=x.x/\x.x<=2097152
 rotate_left
 ·rw[Ahs hX]at J
  rw[Qg (fun hh=>hX hh.1)]
  simp (disch:=omega) [FL,cl (W _),cl (J _),Ad,zP]
 rw[Ahq hX]at J
 by_cases hY:-2097152<=x.y/\x.y<=2097152
 rotate_left
 ·rw[Ahs hY]at N
  rw[Qg (fun hh=>hY hh.2)]
  simp (disch:=omega) [FL,cl (W _),cl (J _),cl (N _),Ad,zP]
 rw[Ahq hY]at N
 generalize shF q x.x x.y=res at *
 generalize zP res.1=z1 at *
 generalize zP q=z2 at *
 simp only[hi]at W
 simp (disch:=omega) [FL,hi,cl (W _),cl (J _),cl (N _),Ad,a0,hn,cl (gs _),cl (gsh _)]
def PkI (has:Bool)(acc:List Ce)(H:Hp):Prop:=∃b,b<=1/\((acc=[]/\H=[.cs 4 1 [[.m (.b has)]] 0 false,.cs 29 1 [[.m (.nl 4)]] b false])\/(acc≠[]/\H=[.cs 4 1 [[.m (.b has)]] 0 false,.cs 29 1 [[.sl 2 acc.length 3 0 acc.length false]] b false,.cs 73 3 (AE acc) 0 false]))
variable {has:Bool} {acc:List Ce} {H:Hp}
theorem Yu (h:PkI has acc H)(hl:acc.length<=1000000)(c:Ce):∃o b E J Q,b<=1/\nth H 1=some (.cs 29 1 [[o]] b false)/\AB o=true/\(∀B,EK ⟨B,H⟩ 73 3 24 o [[J0 c.x,J0 c.y,J0 c.s]]=some (E,⟨B,J⟩))/\AB E=true/\Ay E=some [E]/\BM E=true/\nth J 1=some (.cs 29 1 [[o]] b false)/\AO J 1 (.cs 29 1 [[E]] 1 false)=some Q/\PkI has (acc++[c]) Q:=by
 obtain⟨b,U,⟨rfl,rfl⟩|⟨W,rfl⟩⟩:=h
 ·exact⟨_,b,.sl 2 1 3 0 1 false,_,_,U,rfl,rfl,fun B=>rfl,rfl,rfl,rfl,rfl,rfl,1,Ahk _,.inr ⟨by simp,rfl⟩⟩
 ·have N:=fun B=>CC (M:=⟨B,[.cs 4 1 [[.m (.b has)]] 0 false,.cs 29 1 [[.sl 2 acc.length 3 0 acc.length false]] b false,.cs 73 3 (AE acc) 0 false]⟩) (r:=2) (bytes:=24) (xs:=[[J0 c.x,J0 c.y,J0 c.s]]) rfl (by simp) (by simp;omega) rfl
  simp only[Do,AhR,AhW,Aih,List.set_cons_succ,List.set_cons_zero,GR]at N
  refine⟨_,b,.sl 2 (acc.length+1) 3 0 (acc.length+1) false,_,_,U,rfl,rfl,N,rfl,rfl,rfl,rfl,rfl,1,Ahk _,.inr ⟨by simp,?_⟩⟩
  simp
theorem AcQ (h:PkI has acc H):nth H 0=some (.cs 4 1 [[.m (.b has)]] 0 false):=by
 obtain⟨b,J,⟨rfl,rfl⟩|⟨E,rfl⟩⟩:=h <;> rfl
theorem Ox (h:PkI has acc H)(hl:acc.length<=1000000)(c d:Ce)(a b:Bool){Q:V->Hp->Prop}(U:∀H',PkI has (acc++if a&&(b==has) then [c] else []) H'->Q (.tu []) H'):Ret G 171 (Vis 171 [.pt 0 1 0 0,.pt 1 1 0 0] c d a b) H Q:=by
 refine Bg mono rfl rfl rfl rfl rfl ?_
 have W:=AcQ h
 cases a with
 | false =>
  have k:=U H (by simpa using h)
  simp (disch:=omega) [Ab,Vis,Ce.i]
  exact k
 | true =>
  by_cases E:b=has
  ·obtain⟨o,b1,o1,H1,H2,N,r1,r2,r3,r4,Y,Z,r7,r8,r9⟩:=Yu h hl c
   have k:=U H2 (by simpa[E]using r9)
   have J:(b==has)=true:=by simp[E]
   simp (disch:=omega) [Ab,Vis,Ce.i,W,E,r1,N,r3,Y,Z,r7,r8]
   exact k
  ·have k:=U H (by simpa[E]using h)
   have J:(b==has)=false:=by simpa using E
   simp (disch:=omega) [Ab,Vis,Ce.i,W,J]
   exact k
theorem AcR (h:PkI has acc H):∃o b,b<=1/\nth H 1=some (.cs 29 1 [[o]] b false)/\AB o=true/\viewR H o=some (.m (zP acc))/\view 20 H o=some (zP acc):=by
 obtain⟨b,Q,⟨rfl,rfl⟩|⟨E,rfl⟩⟩:=h
 ·exact⟨_,b,Q,rfl,rfl,rfl,rfl⟩
 ·have N:=Uo (H:=[.cs 4 1 [[.m (.b has)]] 0 false,.cs 29 1 [[.sl 2 acc.length 3 0 acc.length false]] b false,.cs 73 3 (AE acc) 0 false]) (r:=2) (b:=0) (q:=acc) rfl (Aho _) 18
  have J:zP acc=.sl (Af acc):=by unfold zP;rw[Ahj E]
  refine⟨_,b,Q,rfl,rfl,?_,?_⟩
  ·show (view 20 _ _).bind _=_
   rw[N,J]
   rfl
  ·rw[J]
   exact N
theorem Agh {w:I}(hv:IsSl v (Af p))(hw:IsSl w (Af q))(hp:right p=true)(hq:right q=true)(has:Bool)(H:Hp):Gives G 137 [.m v,.m w,.m (.b has)] H (.m (zP (pkF p q has))) H:=by
 obtain⟨wp,_,lp⟩:=Aw hp
 obtain⟨wq,_,lq⟩:=Aw hq
 have g1:=fun H=>El hv (by omega) H
 have g2:=fun H=>El hw (by omega) H
 rw[hp]at g1
 rw[hq]at g2
 refine Ae rfl rfl rfl rfl rfl ?_
 simp (disch:=omega) [cl (g1 _),cl (g2 _),Ad]
 rw[Ao]
 refine Adk (Inv:=fun a b H=>∃acc,PkI has acc H/\acc++pkF a b has=pkF p q has) rfl (fun c r b H Q W N Z=>?_) (fun d s a H Q W N Z=>?_) (fun c r d s H Q W hx hy h1 h2 Z=>?_) hv hw wp wq (by omega) (by omega) ⟨[],⟨0,by omega,.inl ⟨rfl,rfl⟩⟩,rfl⟩ fun Y W=>?_
 ·obtain⟨acc,U,E⟩:=W
  have hl:acc.length<=1000000:=by
   have:=AiE List.length E
   rw[Ahv]at this
   have h2:(pkF p q has).length<=p.length:=List.length_filter_le _ _
   omega
  refine Ox U hl c _ true false fun Y J=>Z Y ⟨_,J,?_⟩
  rw[<-E,pk_a has N]
  cases has <;> simp
 ·obtain⟨acc,U,E⟩:=W
  have hl:acc.length<=1000000:=by
   have:=AiE List.length E
   rw[Ahv]at this
   have h2:(pkF p q has).length<=p.length:=List.length_filter_le _ _
   omega
  refine Ox U hl _ d false true fun Y J=>Z Y ⟨_,J,?_⟩
  rw[<-E,pk_b has N]
  simp
 ·obtain⟨acc,U,E⟩:=W
  have hl:acc.length<=1000000:=by
   have:=AiE List.length E
   rw[Ahv]at this
   have h2:(pkF p q has).length<=p.length:=List.length_filter_le _ _
   omega
  refine Ox U hl c d true true fun Y J=>Z Y ⟨_,J,?_⟩
  rw[<-E,pk_ab has hx hy h1]
  cases has <;> simp
 ·obtain⟨acc,U,E⟩:=W
  have E:acc=pkF p q has:=by rw[<-E,AcS,Aid]
  obtain⟨o,b,hb,r1,r2,r3,r4⟩:=AcR U
  rw[E]at r3 r4
  generalize zP (pkF p q has)=z at *
  simp (disch:=omega) [Ab,r1,hb,r3,Al r2,r2]
theorem Sj {w:I}(hv:IsSl v (Af p))(hw:IsSl w (Af q))(Y:right p=true)(U:right q=true)(H:Hp):Gives G 65 [.m v,.m w] H (.m (.b (Aef p q))) H:=by
 obtain⟨wp,_,lp⟩:=Aw Y
 obtain⟨wq,_,lq⟩:=Aw U
 have g1:=fun H=>El hv (by omega) H
 have W:=fun H=>El hw (by omega) H
 rw[Y]at g1
 rw[U]at W
 have g3:=fun H=>Agh hv hw Y U true H
 have ga:∀H,Gives G 107 [.m v,.m w] H (.m (zP (pkF p q true))) H:=fun H=>by
  generalize zP (pkF p q true)=z at *
  refine Ae rfl rfl rfl rfl rfl ?_
  simp (disch:=omega) [cl (g3 _)]
 have E:=(BY (pkF p q true)).rules
 simp only[show (Af (pkF p q true)).length=(pkF p q true).length from by simp[Af]]at E
 have e:Aef p q=decide ((pkF p q true).length=0):=by
  by_cases h:dsj p q
  ·have N:=(HK p q).2 h
   have Q:=ZW.2 h
   rw[N,Q]
   rfl
  ·have N:¬Aef p q=true:=fun J=>h ((HK p q).1 J)
   have Q:¬pkF p q true=[]:=fun J=>h (ZW.1 J)
   rw[Bool.not_eq_true]at N
   rw[N]
   symm
   refine Ahs fun J=>Q (AhJ J)
 rw[e]
 have hll:((pkF p q true).length:Int)<=5000:=by
  have Q:(pkF p q true).length<=p.length:=List.length_filter_le _ _
  omega
 generalize zP (pkF p q true)=z at *
 generalize (pkF p q true).length=m at *
 refine Ae rfl rfl rfl rfl rfl ?_
 by_cases Z:m=0
 ·simp (disch:=omega) [cl (g1 _),cl (W _),cl (ga _),Ad,E,Z]
 ·simp (disch:=omega) [cl (g1 _),cl (W _),cl (ga _),Ad,E,Z]
end Go.Mx.Tryz
namespace Go.Mx.Tryz
def onV (xs:List I):L0:=xs.map fun x=>[.m x]
@[simp] theorem DL (xs:List I):(onV xs).length=xs.length:=by simp[onV]
theorem Oz (xs ys:List I):onV xs++onV ys=onV (xs++ys):=by simp[onV]
variable {xs:List I} {i:Nat} {x:I}
theorem Ci (h:xs[i]? = some x):nth (onV xs) i=some [.m x]:=by
 rw[AL]
 simp[onV,h]
theorem AcZ (xs:List I)(a n:Nat):((onV xs).drop a).take n=onV ((xs.drop a).take n):=by
 unfold onV
 rw[List.map_take,List.map_drop]
def on1 (xs:List I):LT:=xs.map fun x=>[x]
@[simp] theorem OA (xs:List I):(on1 xs).length=xs.length:=by simp[on1]
theorem Vj (h:xs[i]? = some x):nth (on1 xs) i=some [x]:=by
 rw[AL]
 simp[on1,h]
def Aed (xs:List I):Prop:=∀x,x∈xs->BM (.m x)=true
theorem IY (h:Aed xs):((onV xs).all fun e=>Nat.beq e.length 1&&e.all BM)=true:=by
 rw[Ahu]
 intro e J
 obtain⟨x,E,rfl⟩:=AhE.1 J
 simp[h x E]
theorem Ada (xs:List I):((onV xs).all fun e=>e.all isM)=true:=by
 rw[Ahu]
 intro e E
 obtain⟨x,J,rfl⟩:=AhE.1 E
 rfl
def LR (ty:Nat)(xs:List I)(o:V)(H:Hp)(ok:Nat->Prop):Prop:=(xs=[]/\o=.m (.nl 4))\/(xs≠[] /\ ∃r,ok r/\o=.sl r xs.length 1 0 xs.length false/\nth H r=some (.cs ty 1 (onV xs) 0 false))
variable {ty:Nat} {H:Hp} {ok:Nat->Prop}
theorem LR.nil:LR ty [] (.m (.nl 4)) H ok:=.inl ⟨rfl,rfl⟩
variable {o:V}
theorem LR.keep {H':Hp}{ok':Nat->Prop}(h:LR ty xs o H ok)(Q:∀r,ok r->nth H' r=nth H r)(U:∀r,ok r->r<H.length->ok' r):LR ty xs o H' ok':=by
 rcases h with h|⟨E,r,J,e,N⟩
 ·exact .inl h
 ·exact .inr ⟨E,r,U r J (AQ N),e,by rw[Q r J];exact N⟩
theorem LR.nf (h:LR ty xs o H ok):AB o=true/\Ay o=some [o]/\BM o=true/\Aq (.len false) [o]=some (J0 (xs.length:Nat)):=by
 rcases h with ⟨rfl,rfl⟩|⟨E,r,J,rfl,N⟩
 ·exact⟨rfl,rfl,rfl,rfl⟩
 ·exact⟨rfl,rfl,rfl,rfl⟩
theorem LR.rd (h:LR ty xs o H ok)(J:xs[i]? = some x):∃p,Aq (.ixa 1) [o,J0 (i:Int)]=some p/\AB p=true /\ ∀B,readX ⟨B,H⟩ (.ld false 1) [p]=some (.m x):=by
 have E:=(Ahg.1 J).1
 rcases h with ⟨rfl,rfl⟩|⟨N,r,U,rfl,Q⟩
 ·simp at E
 ·refine⟨.pt r xs.length i 0,?_,rfl,fun B=>?_⟩
  ·simp (disch:=omega) []
  ·simp (disch:=omega) [Ab,Ci J,Q]
theorem LR.elems (h:LR ty xs o H ok):Mx.elems H o=some (onV xs):=by
 rcases h with ⟨rfl,rfl⟩|⟨J,r,N,rfl,E⟩
 ·rfl
 ·rw[DX,E]
  show gd (Nat.ble 0 xs.length&&Nat.beq 1 1) (some (((onV xs).drop 0).take xs.length))=_
  rw[Bh,Ahq (Aho _),Aio,Ahz (by simp)]
  rfl
variable {b:Nat}
theorem LR.push {n0:Nat}(h:LR ty xs o H (n0 <= ·))(hn:n0<=H.length)(hb:b<=1000){ys:List I}(hl:xs.length+ys.length<=100000000)(Z:Aed ys):∃W J,(∀B,EK ⟨B,H⟩ ty 1 b o (onV ys)=some (W,⟨B,J⟩))/\AB W=true/\LR ty (xs++ys) W J (n0 <= ·)/\n0<=J.length/\H.length<=J.length /\ ∀r,r<n0->nth J r=nth H r:=by
 have N:(xs.length+ys.length)*b<=100000000*1000:=Nat.mul_le_mul hl hb
 cases ys with
 | nil =>
  refine⟨o,H,fun B=>?_,h.nf.1,by rw[Aid];exact h,hn,Ahk _,fun _ _=>rfl⟩
  rcases h with ⟨rfl,rfl⟩|⟨U,r,Q,rfl,Y⟩ <;> rfl
 | cons y t =>
  rcases h with ⟨rfl,rfl⟩|⟨U,r,Q,rfl,Y⟩
  ·refine⟨.sl H.length (y::t).length 1 0 (y::t).length false,H++[.cs ty 1 (onV (y::t)) 0 false],fun B=>?_,rfl,.inr ⟨by simp,H.length,hn,rfl,CU H _ 0⟩,by simp;omega,by simp,fun r Q=>BK _ _ _ (by omega)⟩
   show Bv ⟨B,H⟩ ty 1 b (onV (y::t))=_
   rw[Dj,IY Z,DL]
   have:Nat.ble ((y::t).length*b) 140737488355328=true:=by
    rw[Bh]
    refine Ahq ?_
    simp only[AhW,Aih]at N
    omega
   rw[this]
   rfl
  ·have E:=fun B=>CC (M:=⟨B,H⟩) (bytes:=b) (xs:=onV (y::t)) Y (by simp[onV]) (by simp only[DL];omega) (IY Z)
   simp only[DL,Oz]at E
   have el:xs.length+(y::t).length=(xs++y::t).length:=by simp
   rw[el]at E
   refine⟨_,_,E,rfl,.inr ⟨by simp,r,Q,rfl,Be (AQ Y)⟩,by simp;omega,by simp,fun q hq=>AF fun e=>?_⟩
   subst e
   have:n0<=r:=Q
   omega
def zL (xs:List I):I:=if xs=[] then .nl 4 else .sl (on1 xs)
theorem MJ (xs:List I):IsSl (zL xs) (on1 xs):=by
 unfold zL
 split
 ·rename_i h;subst h;exact AM
 ·exact Bf _
theorem Afr (xs:List I):BM (.m (zL xs))=true:=by
 unfold zL
 split <;> rfl
theorem optV (k:Nat)(H:Hp):∀xs:List I,Ah (fun e=>Ah (view (k+1) H) e) (onV xs)=some (on1 xs)
 | []=>rfl
 | x::r=>by
  show Option.bind (some [x]) _=_
  simp only[Ahp]
  show Option.bind (Ah _ (onV r)) _=_
  rw[optV k H r]
  rfl
theorem LR.view (h:LR ty xs o H ok)(k:Nat):Mx.view (k+2) H o=some (zL xs):=by
 have J:=h.elems
 rcases h with ⟨rfl,rfl⟩|⟨E,r,N,rfl,Q⟩
 ·rfl
 ·show Option.bind (Mx.elems H (.sl r xs.length 1 0 xs.length false)) _=_
  rw[J]
  show Option.bind (Ah (fun e=>Ah (Mx.view (k+1) H) e) (onV xs)) _=_
  rw[optV]
  unfold zL
  rw[Ahj E]
  rfl
theorem OG {r:Nat}{fz:Bool}(h:nth H r=some (.cs ty 1 (onV xs) b fz)):AX [r] H=some (H.set r (.cs ty 1 (onV xs) b true)):=by
 show Option.bind (nth H r) _=_
 rw[h]
 show Option.bind (gd ((onV xs).all fun e=>e.all isM) (some (Row.cs ty 1 (onV xs) b true))) _=_
 rw[Ada]
 show Option.bind (AO H r _) _=_
 rw[AA _ _ _ (AQ h)]
 rfl
theorem LR.viewR (h:LR ty xs o H ok):Mx.viewR H o=some (.m (zL xs)):=by
 have E:=h.view 18
 rcases h with ⟨rfl,rfl⟩|⟨J,r,N,rfl,Q⟩
 ·rfl
 ·show (Mx.view 20 H (.sl r xs.length 1 0 xs.length false)).bind _=_
  rw[E]
  rfl
theorem Cl {call:Bt}{M:Mem}{E:Nat}{s x:V}{e:L0}(h:Mx.elems M.H x=some e):An call M (.app ty E b) [s,x]=EK M ty E b s e:=by
 cases x with
 | m x =>
  cases x with
  | s l=>simp[Mx.elems]at h
  | _=>simp only[An];rw[h];rfl
 | _=>simp only[An];rw[h];rfl
open Go.Lib Go.Proofs
variable {us:List I}
theorem YL (hi:i<=us.length):∃s,Aq (.slc 1 false true false) [.m (zL us),J0 (i:Int)]=some s/\AB s=true/\Aq (.len false) [s]=some (J0 (i:Nat)) /\ ∀(k:Nat) x,k<i->us[k]? = some x -> ∃p,Aq (.ixa 1) [s,J0 (k:Int)]=some p/\AB p=true /\ ∀B H,readX ⟨B,H⟩ (.ld false 1) [p]=some (.m x):=by
 unfold zL
 split
 ·rename_i h
  subst h
  have:i=0:=by simpa using hi
  subst this
  exact⟨_,rfl,rfl,rfl,fun k x N=>absurd N (by omega)⟩
 ·refine⟨.m (.sl ((on1 us).take i)),?_,rfl,?_,fun k x N U=>⟨.m (.pt [x]),?_,rfl,fun B H=>?_⟩⟩
  ·have E:(on1 us).length=us.length:=by simp[on1]
   have J:Ww 1 (on1 us)=true:=by cases us <;> rfl
   show gd (Ww 1 (on1 us)) (((bnd (on1 us).length (J0 (i:Int))).bind fun h=>some ((0:Nat),h)).bind fun p=>some (V.m (.sl (((on1 us).drop p.1).take (p.2-p.1)))))=_
   have W:bnd (on1 us).length (J0 (i:Int))=some i:=by
    show gd (Nat.ble i (on1 us).length) (some i)=_
    rw[E,Bh,Ahq hi]
    rfl
   rw[J,W]
   rfl
  ·have E:(on1 us).length=us.length:=by simp[on1]
   show some (V.m (J4 (((on1 us).take i).length:Nat)))=_
   rw[Ahx,E,Nat.min_eq_left hi]
  ·have Y:nth ((on1 us).take i) k=some [x]:=by rw[AL,AhN,Ahl N];simp[on1,U]
   have E:(on1 us).length=us.length:=by simp[on1]
   have Q:=(Bf ((on1 us).take i)).rules.2.1 1 (J0 (k:Int))
   rw[Q,Ahx,E,Nat.min_eq_left hi]
   simp (disch:=omega) [Y]
  ·rfl
theorem Wb {ps:List (List Ce)}(hP:Gq us ps)(Z:∀p,p∈ps->right p=true)(hl:us.length<=1000000)(H:Hp):∃b:Bool,(b=true↔En ps)/\Gives G 54 [.m (zL us)] H (.m (.b b)) H:=by
 have hr:=(MJ us).rules
 simp only[show (on1 us).length=us.length from by simp[on1]]at hr
 have key:∃x H',Gives G 54 [.m (zL us)] [] x H'/\(H'=[] /\ ∃b:Bool,(b=true↔En ps)/\x=.m (.b b)):=by
  refine AJ ?_
  refine Cs rfl rfl rfl rfl rfl ?_
  generalize hQ:(fun(x:V) (H':Hp)=>H'=[] /\ ∃b:Bool,(b=true↔En ps)/\x=.m (.b b))=Q
  have q1:En ps->Q (.m (.b true)) []:=fun h=>by rw[<-hQ];exact⟨rfl,true,⟨fun _=>h,fun _=>rfl⟩,rfl⟩
  have q0:¬En ps->Q (.m (.b false)) []:=fun h=>by rw[<-hQ];exact⟨rfl,false,⟨fun h2=>(by cases h2),fun h2=>absurd h2 h⟩,rfl⟩
  clear hQ
  simp (disch:=omega) [hr]
  refine(?key:∀(i:Nat) (B:LE),i<=us.length->En (ps.take i)->Run G c54_B1 (S54_1 (.m (zL us)) (.m (zL us)) (J0 (us.length:Int)) (J0 (i:Int)) B []) _) 0 _ (Aho _) List.Pairwise.nil
  refine Bl (fun i:Nat=>us.length-i) fun i ih B hi hd=>?_
  unfold c54_B1
  by_cases a0:i<us.length
  ·have a1:(i:Int)<us.length:=by omega
   have wi:=J1 i (by omega)
   obtain⟨u,hu⟩:∃u,us[i]? = some u:=⟨_,Ahh a0⟩
   obtain⟨q,N⟩:∃q,ps[i]? = some q:=⟨_,Ahh (by have:=hP.1;omega)⟩
   obtain⟨sv,b1,b2,b3,b4⟩:=YL (us:=us) (Nat.le_of_lt a0)
   have hsq:=hP.2 i u q hu N
   have hrq:=Z q (Ahm N)
   have hn:nth (on1 us) i=some [u]:=by rw[AL];simp[on1,hu]
   simp (disch:=omega) [hr,a1,hn,b1,b3,Al b2]
   refine(?key4:∀(k:Nat) (B:LE),k<=i->(∀(j:Nat) p,j<k->ps[j]? = some p->dsj p q)->Run G c54_B0 (S54_0 (.m (zL us)) (.m u) (.m (zL us)) (J0 (us.length:Int)) (J0 (i:Int)) sv (J0 (i:Int)) (J0 (k:Int)) B []) _) 0 _ (Aho _) (fun j p hj=>by omega)
   clear B
   refine Bl (fun k:Nat=>i-k) fun k ihk B hk a3=>?_
   unfold c54_B0
   by_cases a2:k<i
   ·have U:(k:Int)<i:=by omega
    have wk:=J1 k (by omega)
    obtain⟨w,hw⟩:∃w,us[k]? = some w:=⟨_,Ahh (by omega)⟩
    obtain⟨p,J⟩:∃p,ps[k]? = some p:=⟨_,Ahh (by have:=hP.1;omega)⟩
    obtain⟨pk,c1,c2,c3⟩:=b4 k w a2 hw
    have hsp:=hP.2 k w p hw J
    have hrp:=Z p (Ahm J)
    have gd:=fun H=>Sj hsq hsp hrq hrp H
    by_cases E:dsj p q
    ·rw[(HK q p).2 (QS E)]at gd
     have Y:=fun B'=>ihk (k+1) (by omega) B' (by omega) (fun j p' hj W=>by
      by_cases e:j<k
      ·exact a3 j p' e W
      ·have:j=k:=by omega
       subst this
       rw[J]at W
       cases W
       exact E)
     simp (disch:=omega) [U,c1,c3,cl (gd _),wk,-Int.natCast_add]
     exact Y _
    ·have hb:Aef q p=false:=by rw[<-Bool.not_eq_true];exact fun hh=>E (QS ((HK q p).1 hh))
     rw[hb]at gd
     have Y:=q0 (Ads a2 J N E)
     simp (disch:=omega) [U,c1,c3,cl (gd _)]
     exact Y
   ·have:k=i:=by omega
    subst this
    have Y:=fun B'=>ih (k+1) (by omega) B' (by omega) ((Wa N).2 ⟨hd,a3⟩)
    simp (disch:=omega) [wi,-Int.natCast_add]
    exact Y _
  ·have:i=us.length:=by omega
   subst this
   rw[Ahz (by have:=hP.1;omega)]at hd
   have Y:=q1 hd
   simp (disch:=omega) []
   exact Y
 obtain⟨x,H',g,rfl,b,hb,rfl⟩:=key
 exact⟨b,hb,AU (H:=H) (is:=[zL us]) rfl rfl g rfl (.inl ⟨rfl,by unfold zL;split <;> rfl⟩)⟩
variable {t:TreeC} {l:List Sh}
theorem Yt {h n zs:I}{zx:V}{es fs:LT}{xs:List St5}(hT:TreeV t h n es)(hs:IsSl zs fs)(sv:Et fs l)(hnx:AB zx=true)(Z:Aq (.len false) [zx]=some (J0 (xs.length:Int)) /\ ∀(esz:Nat) (i:V),Aq (.ixa esz) [zx,i]=(idx xs.length i).bind fun j=>(nth (Fl xs) j).bind fun e=>gd (e.length.beq esz) (some (V.m (I.pt e))))(ll:l.length<=1000000)(lx:xs.length<=1000000)(H:Hp):∃v H',Gives G 53 [.m (.ag [J4 t.states,h,n]),.m zs,zx] H v H'/\(H.length<=H'.length/\(∀r,r<H.length->nth H' r=nth H r)/\((¬ptE t l xs=0/\v=.tu [.m (.nl 4),J0 (ptE t l xs)])\/(ptE t l xs=0 /\ ∃us o,v=.tu [o,J0 0]/\LR 29 us o H' (H.length <= ·)/\Gq us (plP t l xs)))):=by
 have hS:=Cb hT
 have gq:=fun H=>KS hT H
 have Y:=hs.rules
 rw[sv.1]at Y
 generalize hE:ptE t l xs=E
 unfold ptE at hE
 refine AJ ?_
 refine Bg mono rfl rfl rfl (by simp[hnx]) rfl ?_
 generalize hQ:(fun(v:V) (H':Hp)=>H.length<=H'.length/\(∀r,r<H.length->nth H' r=nth H r)/\((¬E=0/\v=.tu [.m (.nl 4),J0 E])\/(E=0 /\ ∃us o,v=.tu [o,J0 0]/\LR 29 us o H' (H.length <= ·)/\Gq us (plP t l xs))))=Q
 have qe:∀e H',E=e -> ¬e=0->H.length<=H'.length->(∀r,r<H.length->nth H' r=nth H r)->Q (.tu [.m (.nl 4),J0 e]) H':=fun e H' h1 h2 h3 h4=>by rw[<-hQ];exact⟨h3,h4,.inl ⟨by rw[h1];exact h2,by rw[h1]⟩⟩
 have qk:∀us o H',E=0->H.length<=H'.length->(∀r,r<H.length->nth H' r=nth H r)->LR 29 us o H' (H.length <= ·)->Gq us (plP t l xs)->Q (.tu [o,J0 0]) H':=fun us o H' h1 h3 h4 h5 h6=>by rw[<-hQ];exact⟨h3,h4,.inr ⟨h1,us,o,rfl,h5,h6⟩⟩
 clear hQ
 by_cases hq:Bd t=true
 rotate_left
 ·rw[Ahj hq]at hE
  have U:=qe 11 H hE.symm (by decide) (Ahk _) (fun _ _=>rfl)
  rw[Bool.not_eq_true]at hq
  rw[hq]at gq
  simp (disch:=omega) [cl (gq _)]
  exact U
 rw[Ahl hq]at hE
 rw[hq]at gq
 by_cases hsz:l.length<=8/\xs.length<=16
 rotate_left
 ·rw[Ahj hsz]at hE
  have U:=qe 6 H hE.symm (by decide) (Ahk _) (fun _ _=>rfl)
  by_cases h1:8<l.length
  ·simp (disch:=omega) [cl (gq _),Y,show (8:Int)<l.length from by omega]
   exact U
  ·have h2:16<xs.length:=by omega
   simp (disch:=omega) [cl (gq _),Y,Z,show ¬(8:Int)<l.length from by omega,show (16:Int)<xs.length from by omega]
   exact U
 rw[Ahl hsz]at hE
 have s1:¬8<l.length:=by omega
 have s2:¬(8:Int)<l.length:=by omega
 have s3:¬16<xs.length:=by omega
 have s4:¬(16:Int)<xs.length:=by omega
 simp (disch:=omega) [cl (gq _),Y,Z,Al hnx,s2,s4]
 refine(?key2:∀(i:Nat) (us:List I) (o:V) (B:LE) (H1:Hp),i<=xs.length->plE t l xs=plE t l (xs.drop i)->Gq us (plP t l (xs.take i))->LR 29 us o H1 (H.length <= ·)->H.length<=H1.length->(∀r,r<H.length->nth H1 r=nth H r)->getB B 3=some [J0 t.states,.m h,.m n]->Run G c53_B0 (S53_0 (.m zs) (.fa 3 0) o zx (J0 (xs.length:Int)) (J0 (i:Int)) B H1) _) 0 [] _ _ H (Aho _) rfl ⟨rfl,fun i u q hi=>by simp at hi⟩ (.inl ⟨rfl,rfl⟩) (Ahk _) (fun _ _=>rfl) rfl
 refine Bl (fun i:Nat=>xs.length-i) fun i ih us o B H1 hi hpe hP hL J N hB3=>?_
 unfold c53_B0
 obtain⟨hnf,hcel,hone,hlen⟩:=hL.nf
 cases hx2:xs[i]? with
 | some x =>
  have hlt:=(Ahg.1 hx2).1
  have hlt':(i:Int)<xs.length:=by omega
  have hn:=Jg hx2
  obtain⟨u,hu,gp⟩:=AcN hT hs sv x
  have wi:=J1 i (by omega)
  have W:=Qp (t:=t) (l:=l) hx2
  simp only[FL]at gp
  by_cases he:(plF t l x).2=0
  ·rw[Ahl he]at W
   rw[he]at gp
   have hul:us.length=i:=by rw[hP.1];unfold plP;rw[Ahr,Ahx];omega
   obtain⟨o1,H2,ha,hn1,hL2,_,hlen2,hkp2⟩:=hL.push J (b:=24) (by omega) (ys:=[u]) (by simp;omega) (fun y hy=>by rw[AhH.1 hy];exact Cv hu)
   have ha:∀B,EK ⟨B,H1⟩ 29 1 24 o [[.m u]]=some (o1,⟨B,H2⟩):=ha
   have hb1:=fun c B H=>Wn hu c B H
   have hP2:Gq (us++[u]) (plP t l (xs.take (i+1))):=by rw[Qo hx2];exact Gi hP hu
   have U:=fun B'=>ih (i+1) (by omega) (us++[u]) o1 B' H2 (by omega) (by rw[hpe,W]) hP2 hL2 (by omega) (fun r hr=>by rw[hkp2 r hr];exact N r hr)
   simp (disch:=omega) [Ab,Z,hlt',hn,hB3,cl (gp _),hb1,ha,wi,Al hn1,-Int.natCast_add]
   exact U _ (by simpa using hB3)
  ·rw[Ahj he]at W
   have U:=qe (plF t l x).2 H1 (by rw[<-hE,hpe,W]) he J N
   generalize (plF t l x).2=e at *
   simp (disch:=omega) [Ab,Z,hlt',hn,hB3,cl (gp _),he]
   exact U
 | none =>
  have:i=xs.length:=by have:=Ahn.1 hx2;omega
  subst this
  clear ih hx2 hi
  rw[AhI]at hP
  have hpe0:plE t l xs=0:=by rw[hpe,Aia];rfl
  have U:=qk us o H1 (by rw[<-hE,hpe0]) J N hL hP
  simp (disch:=omega) [Al hnf]
  exact⟨hnf,U⟩
theorem Qn {h n zs J:I}{es fs:LT}{xs:List St5}(W:TreeV t h n es)(hs:IsSl zs fs)(Q:Et fs l)(U:IsSl J (Fl xs))(Y:l.length<=1000000)(N:xs.length<=1000000)(H:Hp):∃v H',Gives G 53 [.m (.ag [J4 t.states,h,n]),.m zs,.m J] H v H'/\(H.length<=H'.length/\(∀r,r<H.length->nth H' r=nth H r)/\((¬ptE t l xs=0/\v=.tu [.m (.nl 4),J0 (ptE t l xs)])\/(ptE t l xs=0 /\ ∃us o,v=.tu [o,J0 0]/\LR 29 us o H' (H.length <= ·)/\Gq us (plP t l xs)))):=by
 have E:=U.rules
 rw[Jh]at E
 exact Yt W hs Q rfl ⟨E.1,E.2.1⟩ Y N H
end Go.Mx.Tryz
namespace Go.Mx.Tryz
def iI (l:List Int):List I:=l.map (.i .i64)
@[simp] theorem Dp (l:List Int):(iI l).length=l.length:=by simp[iI]
theorem Dq {l:List Int}{i:Nat}{x:Int}(h:l[i]? = some x):(iI l)[i]? = some (J4 x):=by simp[iI,h]
theorem MX (l:List Int):on1 (iI l)=BT l:=by
 unfold on1 iI BT
 rw[Aim]
 rfl
theorem Vq (l:List Int):Aed (iI l):=fun x E=>by
 obtain⟨y,_,rfl⟩:=AhE.1 E
 rfl
theorem VN (l m:List Int):iI l++iI m=iI (l++m):=by simp[iI]
def zI (l:List Int):I:=zL (iI l)
theorem zI_sl (l:List Int):IsSl (zI l) (BT l):=by
 have:=MJ (iI l)
 rwa[MX]at this
def AH:V->Option Nat
 | .sl r _ _ _ _ _=>some r
 | _=>none
abbrev HQ:Nat->Prop:=fun _=>True
variable {ty:Nat} {xs:List I} {o:V} {H:Hp}
theorem LR.push1 {b:Nat}(h:LR ty xs o H HQ)(hb:b<=1000){y:I}(hl:xs.length+1<=100000000)(ha:BM (.m y)=true):∃W J,(∀B,An (fun _ _ _=>none) ⟨B,H⟩ (.app ty 1 b) [o,.ls [[y]]]=some (W,⟨B,J⟩))/\AB W=true/\LR ty (xs++[y]) W J HQ/\H.length<=J.length/\(∀r,r<H.length->AH o≠some r->nth J r=nth H r)/\(∀r,AH W=some r->AH o=some r\/(r=H.length/\J.length=H.length+1)):=by
 have aq:Aed [y]:=fun u Y=>by rw[AhH]at Y;subst Y;exact ha
 have Q:(xs.length+1)*b<=100000000*1000:=Nat.mul_le_mul hl hb
 rcases h with ⟨rfl,rfl⟩|⟨hne,r,U,rfl,h3⟩
 ·refine⟨.sl H.length 1 1 0 1 false,H++[.cs ty 1 (onV [y]) 0 false],fun B=>(Cl rfl).trans ?_,rfl,.inr ⟨by simp,H.length,AhY,rfl,CU H _ 0⟩,by simp,fun r U _=>BK _ _ _ U,fun r U=>.inr ⟨(Aik U).symm,by simp⟩⟩
  show Bv ⟨B,H⟩ ty 1 b (onV [y])=_
  rw[Dj,IY aq,DL]
  have:Nat.ble ([y].length*b) 140737488355328=true:=by
   rw[Bh]
   refine Ahq ?_
   simp only[AhW,AhR,Aih]at Q ⊢
   omega
  rw[this]
  rfl
 ·have E:=fun B=>CC (M:=⟨B,H⟩) (bytes:=b) (xs:=onV [y]) h3 (by simp[onV]) (by simp only[DL,Ais];omega) (IY aq)
  simp only[DL,Oz]at E
  have el:xs.length+[y].length=(xs++[y]).length:=by simp
  rw[el]at E
  refine⟨_,_,fun B=>(Cl rfl).trans (E B),rfl,.inr ⟨by simp,r,AhY,rfl,Be (AQ h3)⟩,by simp,fun q Z N=>AF fun e=>?_,fun q Z=>.inl Z⟩
  subst e
  exact N rfl
theorem LR.keepR {H':Hp}(h:LR ty xs o H HQ)(N:∀r,AH o=some r->r<H.length->nth H' r=nth H r):LR ty xs o H' HQ:=by
 rcases h with h|⟨E,r,Q,e,J⟩
 ·exact .inl h
 ·subst e
  exact .inr ⟨E,r,AhY,rfl,by rw[N r rfl (AQ J)];exact J⟩
variable {ok:Nat->Prop}
theorem LR.row_lt (h:LR ty xs o H ok){r:Nat}(e:AH o=some r):r<H.length:=by
 rcases h with ⟨_,rfl⟩|⟨E,q,N,rfl,J⟩
 ·cases e
 ·cases e
  exact AQ J
theorem LR.row (h:LR ty xs o H ok){r:Nat}(e:AH o=some r):nth H r=some (.cs ty 1 (onV xs) 0 false):=by
 rcases h with ⟨_,rfl⟩|⟨E,q,N,rfl,J⟩
 ·cases e
 ·cases e
  exact J
end Go.Mx.Tryz
