/- Soundness of the machine, part 4; primitives. Nothing here speaks of a program. -/
import Derived.Test.YtiehnedoinlfeaaGreatDoorBc
import Derived.LoopNIn
import Derived.LoopN
import Derived.Lib.Bytealg
set_option linter.unusedSimpArgs false
set_option linter.unusedVariables false
set_option linter.unusedSectionVars false
namespace Go.Mx
section
variable {M M' M1 M2:Mem} {H H' H2:Hp} {vs:List V} {v v1 v2:V} {call:Bt} {s s1 s2:St} {sh:Nat->Bool}
inductive SameR:Row->Row->Prop where
 | cs (ty esz:Nat) (es:L0) (base:Nat) (fz fz':Bool):SameR (.cs ty esz es base fz) (.cs ty esz es base fz')
 | mp (es:List (I×V)) (fz fz':Bool):SameR (.mp es fz) (.mp es fz')
 | lp (st:Nat) (pd:Option (Option Nat)) (E:List (Nat×V)) (ps:List Nat) (ca cb:C):SameR (.lp st pd E ps ca cb) (.lp st pd E ps ca cb)
theorem SameR.refl (r:Row):SameR r r:=by cases r;exact .cs _ _ _ _ _ _;exact .mp _ _ _;exact .lp _ _ _ _ _ _
variable {r r':Row}
theorem SameR.symm (h:SameR r r'):SameR r' r:=by cases h;exact .cs _ _ _ _ _ _;exact .mp _ _ _;exact .lp _ _ _ _ _ _
def Le (H K:Hp):Prop:=∀(r:Nat) row,H[r]? = some row -> ∃row',K[r]? = some row'/\SameR row row'
variable {K:Hp}
theorem Le.nth (h:Le H K){r:Nat}{row:Row}(u:nth H r=some row):∃row',nth K r=some row'/\SameR row row':=by
 rw[AU]at u
 obtain⟨row',E,J⟩:=h r row u
 exact⟨row',by rw[AU];exact E,J⟩
theorem Le.apps (H u:Hp):Le H (H++u):=fun r x h=>⟨x,by rw[AhM (Ahq.1 h).1];exact h,.refl _⟩
variable {x:V}
theorem Le.elems (h:Le H K){es:L0}(u:Mx.elems H x=some es):Mx.elems K x=some es:=by
 unfold Mx.elems at u ⊢
 split at u
 ·exact u
 ·exact u
 ·exact u
 ·simp only[Ahn]at u ⊢
  obtain⟨row,J,u⟩:=u
  obtain⟨E,N,U⟩:=h.nth J
  refine⟨E,N,?_⟩
  cases U <;> exact u
 ·cases u
theorem Le.mapOf (h:Le H K){es:List (I×V)}(u:Mx.mapOf H x=some es):Mx.mapOf K x=some es:=by
 unfold Mx.mapOf at u ⊢
 split at u
 ·exact u
 ·exact u
 ·simp only[Ahn]at u ⊢
  obtain⟨row,J,u⟩:=u
  obtain⟨E,N,U⟩:=h.nth J
  refine⟨E,N,?_⟩
  cases U <;> exact u
 ·cases u
variable {B:LE}
theorem Le.readA (h:Le H K){n:Nat}{cs:List V}(u:Mx.readA ⟨B,H⟩ n x=some cs):Mx.readA ⟨B,K⟩ n x=some cs:=by
 unfold Mx.readA at u ⊢
 split at u
 ·exact u
 ·simp only[Ahn]at u ⊢
  obtain⟨row,E,u⟩:=u
  obtain⟨J,U,N⟩:=h.nth E
  refine⟨J,U,?_⟩
  cases N <;> exact u
 ·exact u
 ·cases u
theorem BK {α β:Type}{f g:α->Option β}:∀ {l:List α} {m:List β},(∀x y,f x=some y->g x=some y)->Ah f l=some m->Ah g l=some m
 | [],m,_,h=>h
 | x::l,m,hfg,h=>by
  simp only[Ah,Ahn,Aho]at h ⊢
  obtain⟨y,u,J,E,rfl⟩:=h
  exact⟨y,hfg _ _ u,J,BK hfg E,rfl⟩
theorem Le.view (h:Le H K):∀(n:Nat) (x:V) (i:I),Mx.view n H x=some i->Mx.view n K x=some i
 | 0,x,i,u=>by simp[Mx.view]at u
 | n+1,x,i,u=>by
  have ih:=fun x i=>Le.view h n x i
  unfold Mx.view at u ⊢
  cases x with
  | m x=>exact u
  | ls Y=>exact u
  | sl r ver esz st len lim =>
   simp only[Ahn]at u ⊢
   obtain⟨Y,h1,l,Z,u⟩:=u
   exact⟨Y,h.elems h1,l,BK (fun x y=>BK fun x y=>ih x y) Z,u⟩
  | pt r ver ix off =>
   simp only[Ahn]at u ⊢
   obtain⟨row,J,u⟩:=u
   obtain⟨N,h1,Z⟩:=h.nth J
   refine⟨N,h1,?_⟩
   cases Z with
   | cs ty esz Y base fz U =>
    simp only[Ahn]at u ⊢
    obtain⟨cs,hcs,l,W,u⟩:=u
    exact⟨cs,h.readA hcs,l,BK (fun x y=>ih x y) W,u⟩
   | mp Y fz U=>exact u
   | lp st pd E ps ca cb=>exact u
  | mp r =>
   simp only[Ahn]at u ⊢
   obtain⟨row,J,u⟩:=u
   obtain⟨N,h1,Z⟩:=h.nth J
   refine⟨N,h1,?_⟩
   cases Z with
   | cs ty esz Y base fz U=>exact u
   | mp Y fz U =>
    simp only[Ahn]at u ⊢
    obtain⟨l,W,u⟩:=u
    refine⟨l,BK (fun p y hp=>?_) W,u⟩
    simp only[Ahn]at hp ⊢
    obtain⟨x,hx,hp⟩:=hp
    exact⟨x,ih _ _ hx,hp⟩
   | lp st pd E ps ca cb=>exact u
  | fn f cap =>
   simp only[Ahn]at u ⊢
   obtain⟨l,W,u⟩:=u
   exact⟨l,BK (fun x y=>ih x y) W,u⟩
  | ag cs =>
   simp only[Ahn]at u ⊢
   obtain⟨l,W,u⟩:=u
   exact⟨l,BK (fun x y=>ih x y) W,u⟩
  | _=>exact u
theorem Le.readX (h:Le H K){o:OR}(u:Mx.readX ⟨B,H⟩ o vs=some v):Mx.readX ⟨B,K⟩ o vs=some v:=by
 unfold Mx.readX at u ⊢
 split at u
 ·simp only[Ahn]at u ⊢
  obtain⟨cs,U,N⟩:=u
  exact⟨cs,h.readA U,N⟩
 ·simp only[Ahn]at u ⊢
  obtain⟨cs,U,N⟩:=u
  exact⟨cs,h.mapOf U,N⟩
 ·simp only[Ahn]at u ⊢
  obtain⟨cs,U,N⟩:=u
  exact⟨cs,h.mapOf U,N⟩
 ·split at u
  ·exact u
  ·simp only[Ahn]at u ⊢
   obtain⟨row,E,u⟩:=u
   obtain⟨J,U,N⟩:=h.nth E
   refine⟨J,U,?_⟩
   cases N <;> exact u
  ·simp only[Ahn]at u ⊢
   obtain⟨row,E,u⟩:=u
   obtain⟨J,U,N⟩:=h.nth E
   refine⟨J,U,?_⟩
   cases N <;> exact u
  ·cases u
 ·split at u
  ·simp only[Ahn]at u ⊢
   obtain⟨row,E,u⟩:=u
   obtain⟨J,U,N⟩:=h.nth E
   refine⟨J,U,?_⟩
   cases N <;> exact u
  ·cases u
 ·split at u
  ·simp only[Ahn]at u ⊢
   obtain⟨cs,U,N⟩:=u
   exact⟨cs,h.readA U,N⟩
  ·cases u
 ·simp only[Ag,Ahn]at u ⊢
  obtain⟨W,cs,U,N⟩:=u
  exact⟨W,cs,h.readA U,N⟩
 ·simp only[Ahn]at u ⊢
  obtain⟨cs,U,N⟩:=u
  exact⟨cs,h.elems U,N⟩
 ·cases u
def frz:Row->Row
 | .cs ty esz es base _=>.cs ty esz es base true
 | .mp es _=>.mp es true
 | .lp st pd E ps ca cb=>.lp st pd E ps ca cb
theorem PA (r:Row):SameR r (frz r):=by cases r;exact .cs _ _ _ _ _ _;exact .mp _ _ _;exact .lp _ _ _ _ _ _
theorem AbO (r:Row):frz (frz r)=frz r:=by cases r <;> rfl
theorem Ga (h:AV r=some r'):r'=frz r:=by
 cases r with
 | lp st J E N U u=>simp[AV]at h
 | _=>simp only[AV,Ag,Aho]at h;exact h.2.symm
theorem Ft {u:Row}(h:AV r=some r')(k:SameR r u):AV u=some (frz u):=by
 cases k with
 | lp st J E W N U=>simp[AV]at h
 | _=>simp only[AV,Ag,Aho]at h ⊢;exact⟨h.1,rfl⟩
def Ss (rs:List Nat)(i:Nat)(row:Row):Row:=match rs.contains i with
 | true=>frz row
 | false=>row
theorem Ml (rs:List Nat)(i:Nat)(row:Row):SameR row (Ss rs i row):=by
 unfold Ss
 split
 ·exact PA row
 ·exact .refl row
theorem Pb {α:Type}:∀ {l:List α} {i:Nat} (x:α),i<l.length->AN l i x=some (l.set i x)
 | [],i,x,h=>by simp at h
 | y::l,0,x,_=>rfl
 | y::l,i+1,x,h=>by simp[AN,Pb x (show i<l.length by simpa using h)]
theorem BM:∀ {rs:List Nat} {H H':Hp},AY rs H=some H'->(∀r,r∈rs -> ∃row row',H[r]? = some row/\AV row=some row') /\ ∀i,H'[i]? = (H[i]?).map (Ss rs i)
 | [],H,H',h=>by
  simp only[AY,Aho]at h
  subst h
  refine⟨by simp,fun i=>?_⟩
  cases H[i]? <;> rfl
 | r::rs,H,H',h=>by
  simp only[AY,Ahn,AU]at h
  obtain⟨row,u,row',J,H1,hs,h⟩:=h
  obtain⟨Z,rfl⟩:=Bw hs
  have:=Ga J
  subst this
  obtain⟨W,U⟩:=BM h
  refine⟨fun k hk=>?_,fun i=>?_⟩
  ·by_cases e:k=r
   ·subst e;exact⟨row,_,u,J⟩
   ·obtain⟨x,Y,N,E⟩:=W k ((AhO.1 hk).resolve_left e)
    rw[Ait (AiD e)]at N
    exact⟨x,Y,N,E⟩
  ·rw[U i]
   by_cases e:i=r
   ·subst e
    rw[u,AiW Z]
    simp only[Aix,Ss,List.contains_cons,beq_self_eq_true,Bool.true_or]
    cases rs.contains i <;> simp[AbO]
   ·rw[Ait (AiD e)]
    cases H[i]? with
    | none=>rfl
    | some x =>
     have:(i==r)=false:=by simpa using e
     simp only[Aix,Ss,List.contains_cons,this,Bool.false_or]
theorem Mm:∀ {rs:List Nat} {H:Hp},(∀r,r∈rs -> ∃row row',H[r]? = some row/\AV row=some row') -> ∃H',AY rs H=some H'
 | [],H,_=>⟨H,rfl⟩
 | r::rs,H,h=>by
  obtain⟨row,row',u,E⟩:=h r (by simp)
  have N:=(Ahq.1 u).1
  have:=Ga E
  subst this
  obtain⟨H',Y⟩:=Mm (rs:=rs) (H:=H.set r (frz row)) fun k W=>by
   obtain⟨x,U,Z,J⟩:=h k (by simp[W])
   by_cases e:k=r
   ·subst e
    rw[AiW N]
    exact⟨_,_,rfl,Ft E (PA row)⟩
   ·rw[Ait (AiD e)]
    exact⟨x,U,Z,J⟩
  exact⟨H',by simp[AY,AU,u,E,Pb _ N,Y]⟩
variable {rs:List Nat}
theorem Iu (h:AY rs H=some H'):Le H H'/\Le H' H/\H'.length=H.length:=by
 obtain⟨_,N⟩:=BM h
 refine⟨fun r row J=>⟨Ss rs r row,by rw[N,J];rfl,Ml _ _ _⟩,fun r row J=>?_,?_⟩
 ·rw[N]at J
  obtain⟨x,E,rfl⟩:=AhW.1 J
  exact⟨x,E,(Ml _ _ _).symm⟩
 ·have U:∀i,i<H'.length↔i<H.length:=fun i=>by
   have:=N i
   constructor
   ·intro u
    rw[Ahr u]at this
    cases E:H[i]? with
    | none=>simp[E]at this
    | some x=>exact(Ahq.1 E).1
   ·intro u
    rw[Ahr u,Aix]at this
    exact(Ahq.1 this).1
  rcases Nat.lt_trichotomy H'.length H.length with h|h|h
  ·have:=(U H'.length).2 h;omega
  ·exact h
  ·have:=(U H.length).1 h;omega
theorem It (h:AY rs H=some H')(k:Le H K):∃W,AY rs K=some W :=
 Mm fun r Y=>by
  obtain⟨row,E,Z,N⟩:=(BM h).1 r Y
  obtain⟨u,U,J⟩:=k r row Z
  exact⟨u,_,U,Ft N J⟩
theorem TF (rs u:List Nat)(i:Nat)(row:Row):Ss rs i (Ss u i row)=Ss u i (Ss rs i row):=by
 unfold Ss
 cases rs.contains i <;> cases u.contains i <;> rfl
theorem NS {u:List Nat}{A B C D:Hp}(U:AY rs H=some A)(J:AY u A=some B)(N:AY u H=some C)(E:AY rs C=some D):D=B:=by
 refine List.ext_getElem? fun i=>?_
 rw[(BM E).2,(BM N).2,(BM J).2,(BM U).2]
 cases H[i]? with
 | none=>rfl
 | some row=>simp only[Aix,TF rs u]
theorem NT {A D u:Hp}(J:AY rs H=some A)(N:AY rs (H++u)=some D):D=A++u:=by
 have U:=(Iu J).2.2
 refine List.ext_getElem? fun i=>?_
 rw[(BM N).2]
 by_cases hi:i<H.length
 ·rw[AhM hi,AhM (by omega),(BM J).2]
 ·rw[AhZ (by omega),AhZ (by omega),U]
  cases hx:u[i-H.length]? with
  | none=>rfl
  | some x =>
   have E:rs.contains i=false:=by
    cases hc:rs.contains i with
    | false=>rfl
    | true =>
     obtain⟨y,_,W,_⟩:=(BM J).1 i (List.contains_iff_mem.1 hc)
     exact absurd (Ahq.1 W).1 hi
   simp only[Aix,Ss,E]
def Quiet (f:Mem->Option (V×Mem))(M:Mem)(v:V)(M1:Mem):Prop:=∃rs,AY rs M.H=some M1.H/\M1.B=M.B /\ ∀K K',Le M.H K->AY rs K=some K'->f ⟨M.B,K⟩=some (v,⟨M.B,K'⟩)
def Ahl (sh:Nat->Bool)(call:Bt):Prop:=∀f,sh f=false -> ∀vs H v H',call f vs H=some (v,H') -> ∃rs,AY rs H=some H' /\ ∀K K',Le H K->AY rs K=some K'->call f vs K=some (v,K')
def Wp (sh:Nat->Bool)(call:Bt):Prop:=∀f,sh f=true->sh (2000000000+f)=true -> ∀vs H v H',call f vs H=some (v,H') -> ∃rows,H'=H++rows /\ ∀K,Le H K->K.length=H.length->call f vs K=some (v,K++rows)
def BC (sh:Nat->Bool)(call:Bt):Prop:=Ahl sh call/\Wp sh call
variable {q:O}
theorem Pk (hq:BC sh call)(N:Fm sh q=1)(J:evO call M q vs=some (v,M1)):Quiet (fun K=>evO call K q vs) M v M1:=by
 cases q with
 | p o=>simp[Fm]at N
 | r o =>
  obtain⟨h,rfl⟩:=EL J
  refine⟨[],rfl,rfl,fun K K' u E=>?_⟩
  simp only[AY,Aho]at E
  subst E
  simp[evO,u.readX (B:=M1.B) h]
 | l o =>
  cases o with
  | bsf esz zero n U =>
   simp only[evO,An,Ahn,Ag,Aho,Ahp]at J
   obtain⟨es,h1,Y,l,Z,H',h4,rfl,rfl⟩:=J
   refine⟨_,h4,rfl,fun K K' u E=>?_⟩
   have W:=BK (g:=fun e=>Ah (view 20 K) e) (fun x y=>BK fun x y=>u.view 20 x y) Z
   simp[evO,An,h1,Y,gd,W,E]
  | cal f =>
   have E:sh f=false:=by
    cases hs:sh f with
    | false=>rfl
    | true =>
     simp only[Fm,hs]at N
     split at N <;> simp at N
   simp only[evO,An,Ahn,Aho,Ahp]at J
   obtain⟨⟨r,H'⟩,h1,rfl,rfl⟩:=J
   obtain⟨rs,Y,Z⟩:=hq.1 f E vs M.H r H' h1
   exact⟨rs,Y,rfl,fun K K' u E=>by simp[evO,An,Z K K' u E]⟩
  | _=>simp[Fm]at N
theorem AeN (hq:BC sh call)(W:Fm sh q=2)(u:evO call M q vs=some (v,M1)):∃E,M1={ M with H:=M.H++E } /\ ∀K:Mem,Le M.H K.H->K.H.length=M.H.length->evO call K q vs=some (v,{ K with H:=K.H++E }):=by
 cases q with
 | p o=>simp[Fm]at W
 | r o=>simp[Fm]at W
 | l o =>
  cases o with
  | cal f =>
   have hf:sh f=true/\sh (2000000000+f)=true:=by
    cases hs:sh f with
    | false=>simp[Fm,hs]at W
    | true =>
     cases h2:sh (2000000000+f) with
     | false=>simp[Fm,hs,h2]at W
     | true=>exact⟨rfl,rfl⟩
   simp only[evO,An,Ahn,Aho,Ahp]at u
   obtain⟨⟨r,H'⟩,N,rfl,rfl⟩:=u
   obtain⟨E,rfl,k⟩:=hq.2 f hf.1 hf.2 vs M.H r H' N
   exact⟨E,rfl,fun K a0 J=>by simp[evO,An,k K.H a0 J]⟩
  | als ty esz n zero =>
   match vs,u with
   | [],u =>
    simp only[evO,An,Ag,Aho,Ahp]at u
    obtain⟨N,rfl,rfl⟩:=u
    exact⟨_,rfl,fun K _ J=>by simp only[evO,An,N,gd,J]⟩
  | bxs ty esz n =>
   match vs,u with
   | [x],u =>
    simp only[evO,An,Ahn,Ag,Aho,Ahp]at u
    obtain⟨cs,U,N,rfl,rfl⟩:=u
    exact⟨_,rfl,fun K _ J=>by simp only[evO,An,U,Ahz,N,gd,J]⟩
  | mkm =>
   match vs,u with
   | [],u =>
    simp only[evO,An,Aho,Ahp]at u
    obtain⟨rfl,rfl⟩:=u
    exact⟨_,rfl,fun K _ J=>by simp only[evO,An,J]⟩
   | [x],u =>
    simp only[evO,An]at u
    split at u
    ·simp only[Aho,Ahp]at u
     obtain⟨rfl,rfl⟩:=u
     exact⟨_,rfl,fun K _ J=>by simp only[evO,An,J]⟩
    ·cases u
  | mks ty esz zero Z =>
   match vs,u with
   | [x,y],u =>
    simp only[evO,An]at u
    split at u
    ·simp only[Ahn,Ag,Aho,Ahp]at u
     obtain⟨n,U,N,rfl,rfl⟩:=u
     exact⟨_,rfl,fun K _ J=>by simp only[evO,An,U,Ahz,N,gd,J]⟩
    ·cases u
  | bss ty esz zero n Y =>
   simp only[evO,An,Ahn,Ag,Aho,Ahp]at u
   obtain⟨es,U,N,rfl,rfl⟩:=u
   exact⟨_,rfl,fun K _ J=>by simp only[evO,An,U,Ahz,N,gd,J]⟩
  | _=>simp[Fm]at W
theorem EM {x:OP}(h:evO call M (.p x) vs=some (v,M'))(K:Mem):evO call K (.p x) vs=some (v,K):=by
 obtain⟨h,_⟩:=BI h
 simp[evO,h]
theorem Tu (h:Fm sh q=0):∃x,q=.p x:=by
 cases q with
 | p o=>exact⟨o,rfl⟩
 | r o=>simp[Fm]at h
 | l o=>cases o <;> simp only[Fm]at h <;> first|(simp at h;done)|((repeat' split at h) <;> simp at h)
def Ext (H K:Hp):Prop:=∀(r:Nat) ty esz es base fz,H[r]? = some (.cs ty esz es base fz) -> ∃xs fz',K[r]? = some (.cs ty esz (es++xs) base fz')
theorem AbF {B':LE}(h:Ext H K)(E:readX ⟨B,H⟩ .ld1 vs=some v):readX ⟨B',K⟩ .ld1 vs=some v:=by
 obtain⟨r,ver,ix,off,ty,esz,U,J,fz,e,rfl,u,h1,Z,E,hv⟩:=Px E
 rw[AU]at u E
 obtain⟨xs,Y,hk⟩:=h r ty esz U J fz u
 have N:nth (U++xs) ix=some e:=by rw[AU,AhM (Ahq.1 E).1];exact E
 have W:Nat.blt off esz=true:=by rw[AiL];exact Z
 simp only[readX,AU K,hk,Ahz,h1,W,Bool.and_self,gd,N,hv]
theorem XB (H:Hp):Ext H H:=fun r ty esz J u E h=>⟨[],E,by simpa using h⟩
theorem XA (H:Hp)(row:Row):Ext H (H++[row]):=fun r ty esz J u E h=>⟨[],E,by rw[AhM (Ahq.1 h).1];simpa using h⟩
variable {ty esz b:Nat}
theorem GC {es:L0}(h:Bs M ty esz b es=some (v,M1)):Ext M.H M1.H:=by
 simp only[Bs,Ag,Aho,Ahp]at h
 obtain⟨_,_,rfl⟩:=h
 exact XA _ _
theorem PT {s:V}{xs:L0}(h:Et M ty esz b s xs=some (v,M1)):Ext M.H M1.H:=by
 unfold Et at h
 split at h
 ·split at h <;> first|(cases h;exact XB _)|cases h
 ·split at h
  ·exact GC h
  ·exact GC h
  ·simp only[Ahn,AU]at h
   obtain⟨row,u,h⟩:=h
   split at h
   ·split at h
    ·simp only[Ag]at h
     exact GC h.2
    ·simp only[Ag,Ahs,Ahn,Aho,Ahp]at h
     obtain⟨_,H',E,_,rfl⟩:=h
     obtain⟨J,rfl⟩:=Bw E
     intro r' Z Y a0 U N W
     rename_i r ver esz0 st len lim _ _ ty0 esz1 es0 base0 fz0 _
     by_cases c:r'=r
     ·subst c
      rw[u]at W
      cases W
      exact⟨_,false,AiW (by simpa using J)⟩
     ·exact⟨[],N,by rw[Ait (AiD c)];simpa using W⟩
   ·cases h
  ·cases h
variable {ag:Bool} {sz:Nat}
theorem Kn (h:readX M (.ldb ag sz) vs=some v)(K:Hp):readX ⟨M.B,K⟩ (.ldb ag sz) vs=some v:=by
 obtain⟨d,off,rfl,h⟩:=Pw h
 exact h
theorem WE {d:Nat}(h:An call M (.stb d sz) vs=some (v,M1)):∃cs,M1=⟨Ep M.B d cs,M.H⟩:=by
 obtain⟨a,x,rfl,E,u⟩:=Lr h
 clear h
 cases a with
 | fa k off =>
  have:=AhI E
  subst this
  simp only[An,Ahn,Ag,Fp,Aho,Ahp]at u
  obtain⟨cs,_,_,M2,⟨J,_,N,_,rfl⟩,_,rfl⟩:=u
  exact⟨_,rfl⟩
 | _=>cases E
theorem str_B (h:An call M (.str sz) vs=some (v,M1)):M1.B=M.B:=by
 obtain⟨a,x,rfl,J,E⟩:=Lp h
 clear h
 simp only[An,Ahn,Ag,Aho,Ahp]at E
 obtain⟨cs,_,_,M2,u,_,rfl⟩:=E
 cases a with
 | fa k off=>cases J
 | pt r N ix off =>
  simp only[Fp,Ahn]at u
  obtain⟨row,_,u⟩:=u
  split at u
  ·simp only[Ag,Ahn,Aho]at u
   obtain⟨_,_,_,_,_,rfl⟩:=u
   rfl
  ·cases u
 | _=>cases u
theorem AbE {d:Nat}(h:readX M (.ldx d ag sz) vs=some v)(cs:List V):readX ⟨Ep M.B d cs,M.H⟩ (.ldx d ag sz) vs=some v:=by
 obtain⟨a,rfl,E,h⟩:=Pv h
 refine AeV E ?_
 cases a with
 | fa k off =>
  have u:k≠d:=fun e=>by subst e;simp[AdY]at E
  have e:readA ⟨Ep M.B d cs,M.H⟩ sz (.fa k off)=readA M sz (.fa k off):=by simp only[readA,AM,Aht u]
  simp only[readX]at h ⊢
  rw[e]
  exact h
 | m x=>cases x <;> exact h
 | _=>exact h
theorem ZM {s:V}{xs:L0}(h:Et M ty esz b s xs=some (v,M1)):M1.B=M.B:=by
 unfold Et Bs at h
 split at h
 ·split at h <;> first|(cases h;rfl)|cases h
 ·split at h
  ·simp only[Ag,Aho,Ahp]at h
   obtain⟨_,_,rfl⟩:=h
   rfl
  ·simp only[Ag,Aho,Ahp]at h
   obtain⟨_,_,rfl⟩:=h
   rfl
  ·simp only[Ahn,AU]at h
   obtain⟨row,u,h⟩:=h
   split at h
   ·split at h
    ·simp only[Ag,Aho,Ahp]at h
     obtain⟨_,_,_,rfl⟩:=h
     rfl
    ·simp only[Ag,Ahs,Ahn,Aho,Ahp]at h
     obtain⟨_,H',E,_,rfl⟩:=h
     rfl
   ·cases h
  ·cases h
theorem Xl {qx N:O}{xs ys:List V}(hq:BC sh call)(J:Fm sh qx=0\/Fm sh N=0\/(Fm sh qx=1/\Fm sh N<=2)\/Xn qx N=true)(E:evO call M qx xs=some (v1,M1))(u:evO call M1 N ys=some (v2,M2)):
  ∃Y,evO call M N ys=some (v2,Y)/\evO call Y qx xs=some (v1,M2):=by
 rcases J with J|J|⟨hk1,hk2⟩|J
 rotate_left 3
 ·unfold Xn at J
  split at J
  ·rename_i ty e b
   obtain⟨E,rfl⟩:=EL E
   refine⟨M2,u,?_⟩
   have Z:Ext M1.H M2.H:=by
    match ys,u with
    | [s,x],u =>
     simp only[evO,An]at u
     split at u
     ·exact PT u
     ·simp only[Ahn]at u
      obtain⟨_,_,u⟩:=u
      exact PT u
    | [],u=>simp[evO,An]at u
    | [_],u=>simp[evO,An]at u
    | _::_::_::_,u=>simp[evO,An]at u
   simp only[evO,Ahn]
   exact⟨v1,AbF (B:=M1.B) Z E,rfl⟩
  ·obtain⟨E,rfl⟩:=EL E
   refine⟨M2,u,?_⟩
   simp only[evO,An,Ahn,Aho,Ahp]at u
   obtain⟨p,_,_,rfl⟩:=u
   simp only[evO,Ahn]
   exact⟨v1,Kn E _,rfl⟩
  ·obtain⟨E,rfl⟩:=EL E
   refine⟨M2,u,?_⟩
   have hB:M2.B=M1.B:=by
    match ys,u with
    | [s,x],u =>
     simp only[evO,An]at u
     split at u
     ·exact ZM u
     ·simp only[Ahn]at u
      obtain⟨_,_,u⟩:=u
      exact ZM u
    | [],u=>simp[evO,An]at u
    | [_],u=>simp[evO,An]at u
    | _::_::_::_,u=>simp[evO,An]at u
   simp only[evO,Ahn]
   have:=Kn E M2.H
   rw[<-hB]at this
   exact⟨v1,this,rfl⟩
  ·obtain⟨E,rfl⟩:=EL E
   refine⟨M2,u,?_⟩
   have hB:M2.B=M1.B:=by
    match ys,u with
    | .fn f cap::xs,u =>
     simp only[evO,An,Ahn,Aho,Ahp]at u
     obtain⟨p,_,_,rfl⟩:=u
     rfl
    | .m (.fn f cap)::xs,u =>
     simp only[evO,An,Ahn,Aho,Ahp]at u
     obtain⟨p,_,_,rfl⟩:=u
     rfl
    | .yl r::xs,u =>
     simp only[evO,An,Ahn,Aho,Ahp]at u
     obtain⟨p,_,_,rfl⟩:=u
     rfl
    | .m (.b _)::xs,u=>simp[evO,An]at u
    | .m (.i _ _)::xs,u=>simp[evO,An]at u
    | .m (.s _)::xs,u=>simp[evO,An]at u
    | .m (.nl _)::xs,u=>simp[evO,An]at u
    | .m .er::xs,u=>simp[evO,An]at u
    | .m (.sl _)::xs,u=>simp[evO,An]at u
    | .m (.pt _)::xs,u=>simp[evO,An]at u
    | .m (.ag _)::xs,u=>simp[evO,An]at u
    | .m (.mp _)::xs,u=>simp[evO,An]at u
    | .un::xs,u=>simp[evO,An]at u
    | .ls _::xs,u=>simp[evO,An]at u
    | .sl .. :: xs,u=>simp[evO,An]at u
    | .pt .. :: xs,u=>simp[evO,An]at u
    | .fa .. :: xs,u=>simp[evO,An]at u
    | .mp _::xs,u=>simp[evO,An]at u
    | .ag _::xs,u=>simp[evO,An]at u
    | .tu _::xs,u=>simp[evO,An]at u
    | [],u=>simp[evO,An]at u
   simp only[evO,Ahn]
   have:=Kn E M2.H
   rw[<-hB]at this
   exact⟨v1,this,rfl⟩
  ·have J:=AhI J
   subst J
   obtain⟨E,rfl⟩:=EL E
   refine⟨M2,u,?_⟩
   obtain⟨cs,rfl⟩:=WE (call:=call) u
   simp only[evO,Ahn]
   exact⟨v1,AbE E cs,rfl⟩
  ·obtain⟨E,rfl⟩:=EL E
   refine⟨M2,u,?_⟩
   have hB:M2.B=M1.B:=str_B (call:=call) u
   simp only[evO,Ahn]
   have:=Kn E M2.H
   rw[<-hB]at this
   exact⟨v1,this,rfl⟩
  ·cases J
 ·obtain⟨x,rfl⟩:=Tu J
  have:=EM E M2
  obtain⟨_,rfl⟩:=BI E
  exact⟨M2,u,this⟩
 ·obtain⟨y,rfl⟩:=Tu J
  have:=EM u M
  obtain⟨_,rfl⟩:=BI u
  exact⟨M,this,E⟩
 ·obtain⟨rs,h1,h2,h3⟩:=Pk hq hk1 E
  obtain⟨l1,l2,l3⟩:=Iu h1
  have:Fm sh N=0\/Fm sh N=1\/Fm sh N=2:=by omega
  rcases this with hy0|hy1|hy2
  ·obtain⟨y,rfl⟩:=Tu hy0
   have:=EM u M
   obtain⟨_,rfl⟩:=BI u
   exact⟨M,this,E⟩
  ·obtain⟨qs,k1,k2,k3⟩:=Pk hq hy1 u
   obtain⟨C,hC⟩:=It k1 l2
   obtain⟨m1,m2,m3⟩:=Iu hC
   obtain⟨D,W⟩:=It h1 m1
   have:=NS h1 k1 hC W
   subst this
   refine⟨⟨M.B,C⟩,by have:=k3 M.H C l2 hC;rwa[h2]at this,?_⟩
   have:=h3 C M2.H m1 W
   have e:M2=⟨M.B,M2.H⟩:=by rw[<-h2,<-k2]
   rw[e]
   exact this
  ·obtain⟨U,rfl,k⟩:=AeN hq hy2 u
   refine⟨_,k M l2 l3.symm,?_⟩
   obtain⟨D,W⟩:=It h1 (Le.apps M.H U)
   have:=NT h1 W
   subst this
   have:=h3 _ _ (Le.apps M.H U) W
   simp only[h2]
   exact this
def okD:Dst->V->Bool
 | .v n,x=>EG n x
 | _,_=>true
def Gz (s:St):Dst->V->St
 | .no,_=>s
 | .v n,x=>{ s with E:=CR s.E n x }
 | .l n,x=>{ s with L:=CR s.L n x }
theorem Kc (s:St)(d:Dst)(x:V):FM s d x=gd (okD d x) (some (Gz s d x)):=by cases d <;> rfl
theorem Zs (s:St)(d:Dst)(x:V):(Gz s d x).M=s.M:=by cases d <;> rfl
theorem Jt (s:St)(d:Dst)(x:V)(M:Mem):{ Gz s d x with M:=M }=Gz { s with M:=M } d x:=by cases d <;> rfl
theorem Lt (e:Env)(n m:Nat)(x y:V)(h:n≠m):CR (CR e n x) m y=CR (CR e m y) n x:=by
 have blt:∀a b:Nat,Nat.blt a b=decide (a<b):=fun a b=>by
  rw[Aio];simp[AiL]
 have u:∀a b:Nat,Nat.beq a b=decide (a=b):=fun a b=>by
  rw[Aio];simp[AhL]
 induction e with
 | nil =>
  simp only[CR,blt,u]
  rcases Nat.lt_or_gt_of_ne h with E|E
  ·have:¬m<n:=by omega
   simp[this,E,h]
  ·have:¬n<m:=by omega
   simp[this,E,AiD h]
 | cons p r W =>
  obtain⟨k,z⟩:=p
  simp only[CR,blt,u]
  rcases Nat.lt_trichotomy n k with N|N|N <;> rcases Nat.lt_trichotomy m k with J|J|J <;> rcases Nat.lt_or_gt_of_ne h with U|U <;>
   first
    | (exfalso;omega)
    | (simp (disch:=omega) only [CR,blt,u,AhA,AhB];done)
    | (simp (disch:=omega) only [CR,blt,u,AhB,W];done)
theorem Ti (s:St)(d u:Dst)(x y:V)(h:WM d u=false):Gz (Gz s d x) u y=Gz (Gz s u y) d x:=by
 have E:∀n m:Nat,Nat.beq n m=false->n≠m:=fun n m h e=>by subst e;simp at h
 cases d <;> cases u <;> simp only[Gz,WM]at h ⊢
 ·rw[Lt _ _ _ _ _ (E _ _ h)]
 ·rw[Lt _ _ _ _ _ (E _ _ h)]
end
end Go.Mx
namespace Go.Mx
section
variable {P:Program} {M M' M1 M2:Mem} {H H' H2:Hp} {vs:List V} {v v1 v2:V} {call:Bt} {s s' s1 s2:St} {sh:Nat->Bool} {x y:Op} {hi:Hint} {gl:Nat->Option (List I)} {nt:Nat} {ds:List Deferred} {rd:Option Nat}
def CT (s:St)(x:Op):Option (Option (O×List V)):=(AH s x.guard).bind fun q=>match q with
 | true=>gd (Bu s x.op) ((Ah (evA s) x.args).bind fun vs=>some (some (x.op,vs)))
 | false=>some none
def FN (call:Bt)(M:Mem):Option (O×List V)->Option (V×Mem)
 | some (o,vs)=>evO call M o vs
 | none=>some (.un,M)
theorem Gb {s s1:St}{x:Op}:Ek call s x=some s1 ↔ ∃q v M1,CT s x=some q/\FN call s.M q=some (v,M1)/\okD x.dst v=true/\s1=Gz { s with M:=M1 } x.dst v:=by
 constructor
 ·intro h
  simp only[Ek,Ahn]at h
  obtain⟨b,E,h⟩:=h
  cases b with
  | true =>
   simp only[Ag,Ahn]at h
   obtain⟨U,vs,u,⟨v,M1⟩,Z,N⟩:=h
   rw[Kc,Ag,Aho]at N
   exact⟨some (x.op,vs),v,M1,by simp[CT,E,U,u,gd],Z,N.1,N.2.symm⟩
  | false =>
   simp only at h
   rw[Kc,Ag,Aho]at h
   exact⟨none,.un,s.M,by simp[CT,E],rfl,h.1,h.2.symm⟩
 ·rintro⟨q,v,M1,W,J,Y,rfl⟩
  simp only[CT,Ahn]at W
  obtain⟨b,E,h⟩:=W
  cases b with
  | true =>
   simp only[Ag,Ahn,Aho]at h
   obtain⟨U,vs,u,rfl⟩:=h
   have J:evO call s.M x.op vs=some (v,M1):=J
   simp[Ek,E,U,u,gd,J,Kc,Y]
  | false =>
   simp only[Aho]at h
   subst h
   simp only[FN,Aho,Ahp]at J
   obtain⟨rfl,rfl⟩:=J
   simp[Ek,E,Kc,Y,gd]
variable {d:Dst}
theorem Ky {q:Opnd}(h:Py d q=false):evA (Gz s d v) q=evA s q:=by
 have u:∀n m:Nat,Nat.beq n m=false->m≠n:=fun n m h e=>by subst e;simp at h
 cases d <;> cases q <;> simp only[Gz,evA,Py]at h ⊢
 ·rw[Dn,Aht (u _ _ h)]
 ·rw[Dn,Aht (u _ _ h)]
theorem El {d:Dst}:∀ {u:List Opnd},u.any (Py d)=false->Ah (evA (Gz s d v)) u=Ah (evA s) u
 | [],_=>rfl
 | q::u,h=>by
  simp only[List.any_cons,Bool.or_eq_false_iff]at h
  simp only[Ah,Ky h.1,El h.2]
variable {q:O}
theorem PB (h:DC q=false)(s:St):Bu s q=true:=by
 unfold Bu
 split
 ·simp[DC]at h
 ·simp[DC]at h
 ·rfl
theorem DV {y:Op}(h:(Hv y).any (Py d)=false)(u:DC y.op=false):CT (Gz s d v) y=CT s y:=by
 unfold CT
 simp only[Hv]at h
 cases hg:y.guard with
 | none =>
  rw[hg]at h
  simp only[AH,Ahz,PB u,El h]
 | some p =>
  obtain⟨q,b⟩:=p
  rw[hg]at h
  simp only[List.any_cons,Bool.or_eq_false_iff]at h
  simp only[AH,Ky h.1,PB u,El h.2]
theorem Dm (y:Op)(M:Mem):CT { s with M:=M } y=CT s y:=rfl
theorem Tw {N Y:Option (O×List V)}(Z:BC sh call)(hk:∀E xs J ys,N=some (E,xs)->Y=some (J,ys)->(Fm sh E=0\/Fm sh J=0\/(Fm sh E=1/\Fm sh J<=2)\/Xn E J=true)) 
  (W:FN call M N=some (v1,M1)) (U:FN call M1 Y=some (v2,M2)):∃u,FN call M Y=some (v2,u)/\FN call u N=some (v1,M2):=by
 cases N with
 | none =>
  simp only[FN,Aho,Ahp]at W
  obtain⟨rfl,rfl⟩:=W
  exact⟨M2,U,rfl⟩
 | some px =>
  cases Y with
  | none =>
   simp only[FN,Aho,Ahp]at U
   obtain⟨rfl,rfl⟩:=U
   exact⟨M,rfl,W⟩
  | some py=>exact Xl Z (hk _ _ _ _ rfl rfl) W U
theorem BU {q:O×List V}(h:CT s x=some (some q)):q.1=x.op:=by
 simp only[CT,Ahn]at h
 obtain⟨b,_,h⟩:=h
 cases b with
 | true =>
  simp only[Ag,Ahn,Aho]at h
  obtain⟨_,vs,_,rfl⟩:=h
  rfl
 | false=>simp at h
theorem Km (sh:Nat->Bool)(f:Nat)(B B':LE)(h:evO call ⟨B,H⟩ (.l (.cal f)) vs=some (v,M')):M'.B=B/\evO call ⟨B',H⟩ (.l (.cal f)) vs=some (v,⟨B',M'.H⟩):=by
 simp only[evO,An,Ahn,Aho,Ahp]at h
 obtain⟨p,u,rfl,rfl⟩:=h
 exact⟨rfl,by simp[evO,An,u]⟩
theorem Pr (u:DC q=true)(h:evO call M q vs=some (v,M')):M'.H=M.H /\ ∀K,evO call ⟨M.B,K⟩ q vs=some (v,⟨M'.B,K⟩):=by
 cases q with
 | p o=>cases u
 | r o=>cases u
 | l o =>
  cases o with
  | alp d zero =>
   match vs,h with
   | [],h =>
    simp only[evO,An,Aho,Ahp]at h
    obtain⟨rfl,rfl⟩:=h
    exact⟨rfl,fun K=>rfl⟩
   | _::_,h=>simp[evO,An]at h
  | bxp d sz =>
   match vs,h with
   | [x],h =>
    simp only[evO,An,Ahn,Ag,Aho,Ahp]at h
    obtain⟨cs,J,E,rfl,rfl⟩:=h
    exact⟨rfl,fun K=>by simp[evO,An,J,E,gd]⟩
   | [],h=>simp[evO,An]at h
   | _::_::_,h=>simp[evO,An]at h
  | _=>cases u
theorem TI {s t:St}(h:s.L=t.L):Bu s q=Bu t q:=by
 unfold Bu
 rw[h]
theorem DU {y:Op}(h:(Hv y).any (Py d)=false)(E:∀n,d ≠ .l n):CT (Gz s d v) y=CT s y:=by
 have u:(Gz s d v).L=s.L:=by
  cases d with
  | no=>rfl
  | v n=>rfl
  | l n=>exact absurd rfl (E n)
 unfold CT
 simp only[Hv]at h
 cases hg:y.guard with
 | none =>
  rw[hg]at h
  simp only[AH,Ahz,TI u,El h]
 | some p =>
  obtain⟨q,b⟩:=p
  rw[hg]at h
  simp only[List.any_cons,Bool.or_eq_false_iff]at h
  simp only[AH,Ky h.1,TI u,El h.2]
theorem Mw {x y:Op}(h:PO x y=true):DC x.op=true/\(∃f,y.op=.l (.cal f)) /\ ∀n,y.dst ≠ .l n:=by
 unfold PO at h
 rw[Ahs]at h
 refine⟨h.1,?_⟩
 have h:=h.2
 split at h
 ·cases h
 ·rename_i f d u E
  exact⟨⟨_,u⟩,fun n e=>E n e⟩
 ·cases h
def EOk (E:Env):Prop:=∀n d off,Cd E n=some (.fa d off)->n=d
theorem EOk.op {x:Op}(N:EOk s.E)(h:Ek call s x=some s1):EOk s1.E:=by
 obtain⟨q,v,M1,_,_,J,rfl⟩:=Gb.1 h
 cases hx:x.dst with
 | no=>exact N
 | l n=>exact N
 | v n =>
  rw[hx]at J
  intro m d off u
  simp only[Gz,Dn]at u
  split at u
  ·rename_i e
   cases u
   simp only[okD,EG,Ahs]at J
   rw[e,<-AhI J.1]
  ·exact N m d off u
theorem Mt {d:Nat}{W:List Opnd}{vs:List V}(hE:EOk s.E)(Y:DA d s.L=true)(U:W.any (Py (.v d))=false)(N:(W.all fun a=>match a with|.k v=>Az v|_=>true)=true)(h:Ah (evA s) W=some vs):∀off,¬V.fa d off∈vs:=by
 intro off hm
 obtain⟨i,hi⟩:=List.getElem?_of_mem hm
 obtain⟨a,Z,u⟩:=(optMap_get h).2 i _ hi
 have J:=Ahw Z
 have U:=List.any_eq_false.1 U a J
 have N:=AhE.1 N a J
 cases a with
 | v k =>
  simp only[evA]at u
  have:=hE k d off u
  subst this
  simp[Py]at U
 | l k =>
  simp only[evA]at u
  exact Ki Y k d off u rfl
 | k v =>
  simp only[evA,Aho]at u
  subst u
  simp[Az]at N
theorem Th {o:OR}{B:LE}{d:Nat}{zs:List V}(J:∀off,¬V.fa d off∈vs)(h:readX ⟨Ep B d zs,H⟩ o vs=some v):readX ⟨B,H⟩ o vs=some v:=by
 have E:∀sz a,a∈vs->readA ⟨Ep B d zs,H⟩ sz a=readA ⟨B,H⟩ sz a:=fun sz a U=>by
  cases a with
  | fa e off =>
   have u:e≠d:=fun N=>by subst N;exact J off U
   simp only[readA,AM,Aht u]
  | m x=>cases x <;> rfl
  | _=>rfl
 cases o with
 | ld ag sz =>
  match vs,h with
  | [a],h =>
   simp only[readX]at h ⊢
   rw[E sz a (by simp)]at h
   exact h
  | [],h=>simp[readX]at h
  | _::_::_,h=>simp[readX]at h
 | ldb ag sz =>
  match vs,h with
  | [a],h =>
   cases a with
   | fa e off =>
    simp only[readX]at h ⊢
    rw[E sz _ (by simp)]at h
    exact h
   | _=>simp[readX]at h
  | [],h=>simp[readX]at h
  | _::_::_,h=>simp[readX]at h
 | ldx e ag sz =>
  match vs,h with
  | [a],h =>
   simp only[readX]at h ⊢
   rw[E sz a (by simp)]at h
   exact h
  | [],h=>simp[readX]at h
  | _::_::_,h=>simp[readX]at h
 | lkp Z z ag W =>
  match vs,h with
  | [m,k],h=>exact h
  | [],h=>simp[readX]at h
  | [_],h=>simp[readX]at h
  | _::_::_::_,h=>simp[readX]at h
 | lenm =>
  match vs,h with
  | [m],h=>exact h
  | [],h=>simp[readX]at h
  | _::_::_,h=>simp[readX]at h
 | slcA n esz lo hi Y =>
  match vs,h with
  | x::t,h=>exact h
  | [],h=>simp[readX]at h
 | ld1 =>
  match vs,h with
  | [a],h=>exact h
  | [],h=>simp[readX]at h
  | _::_::_,h=>simp[readX]at h
 | b2s =>
  match vs,h with
  | [a],h=>exact h
  | [],h=>simp[readX]at h
  | _::_::_,h=>simp[readX]at h
variable {ty esz b:Nat}
theorem GD {M M1:Mem}{es:L0}{v:V}(h:Bs M ty esz b es=some (v,M1))(B:LE):Bs ⟨B,M.H⟩ ty esz b es=some (v,⟨B,M1.H⟩):=by
 simp only[Bs,Ag,Aho,Ahp]at h ⊢
 obtain⟨u,rfl,rfl⟩:=h
 exact⟨u,rfl,rfl⟩
theorem PU {M M1:Mem}{s v:V}{xs:L0}(h:Et M ty esz b s xs=some (v,M1))(B:LE):Et ⟨B,M.H⟩ ty esz b s xs=some (v,⟨B,M1.H⟩):=by
 cases xs with
 | nil =>
  unfold Et at h ⊢
  dsimp only at h ⊢
  split at h <;> first|(cases h;rfl)|cases h
 | cons x t =>
  unfold Et at h ⊢
  dsimp only at h ⊢
  split at h
  ·exact GD h B
  ·exact GD h B
  ·simp only[Ahn]at h ⊢
   obtain⟨row,u,h⟩:=h
   refine⟨row,u,?_⟩
   split at h
   ·split at h
    ·simp only[Ag]at h ⊢
     exact⟨h.1,GD h.2 B⟩
    ·simp only[Ag,Ahn,Aho,Ahp]at h ⊢
     obtain⟨N,H',E,J,rfl⟩:=h
     exact⟨N,H',E,J,rfl⟩
   ·cases h
  ·cases h
theorem Un {call:Bt}{M M1:Mem}{vs:List V}{v:V}(h:evO call M (.l (.app ty esz b)) vs=some (v,M1))(B:LE):evO call ⟨B,M.H⟩ (.l (.app ty esz b)) vs=some (v,⟨B,M1.H⟩):=by
 match vs,h with
 | [s,x],h =>
  simp only[evO,An]at h ⊢
  split at h
  ·exact PU h B
  ·simp only[Ahn]at h ⊢
   obtain⟨E,u,J⟩:=h
   exact⟨E,u,PU J B⟩
 | [],h=>simp[evO,An]at h
 | [_],h=>simp[evO,An]at h
 | _::_::_::_,h=>simp[evO,An]at h
theorem app_B {call:Bt}{M M1:Mem}{vs:List V}{v:V}(h:evO call M (.l (.app ty esz b)) vs=some (v,M1)):M1.B=M.B:=by
 have:=Un h M.B
 have u:evO call M (.l (.app ty esz b)) vs=some (v,⟨M.B,M1.H⟩):=this
 rw[h]at u
 simp only[Aho,Ahp,true_and]at u
 rw[u]
theorem Ud {x y:Op}(h:Ue x y=true):∃d,x.dst=.v d/\(∀M vs v M',evO call M x.op vs=some (v,M') -> ∃zs,M'=⟨Ep M.B d zs,M.H⟩ /\ ∀K,evO call ⟨M.B,K⟩ x.op vs=some (v,⟨Ep M.B d zs,K⟩))/\(∀s,Bu s x.op=DA d s.L)/\Pc y=true:=by
 unfold Ue at h
 split at h
 ·rename_i d zero n E J
  rw[Ahs]at h
  have e:=AhI h.1
  subst e
  refine⟨d,J,fun M vs v M' u=>?_,fun s=>by rw[E];rfl,h.2⟩
  rw[E]at u ⊢
  match vs,u with
  | [],u =>
   simp only[evO,An,Aho,Ahp]at u
   obtain⟨rfl,rfl⟩:=u
   exact⟨zero,rfl,fun K=>rfl⟩
  | _::_,u=>simp[evO,An]at u
 ·rename_i d sz n E J
  rw[Ahs]at h
  have e:=AhI h.1
  subst e
  refine⟨d,J,fun M vs v M' u=>?_,fun s=>by rw[E];rfl,h.2⟩
  rw[E]at u ⊢
  match vs,u with
  | [x],u =>
   simp only[evO,An,Ahn,Ag,Aho,Ahp]at u
   obtain⟨cs,U,N,rfl,rfl⟩:=u
   exact⟨cs,rfl,fun K=>by simp[evO,An,U,N,gd]⟩
  | [],u=>simp[evO,An]at u
  | _::_::_,u=>simp[evO,An]at u
 ·cases h
theorem Xk {d n:Nat}{v:V}(N:∀off,v ≠ .fa d off):∀ {L:Env},DA d L=true->DA d (CR L n v)=true:=by
 have one:∀ {L:Env},DA d L=true->DA d ((n,v)::L)=true:=fun {L} h=>by
  cases v with
  | fa k off =>
   have E:k≠d:=fun e=>N off (by rw[e])
   simp only[DA,h,Bool.and_true,Aia]
   exact Bool.eq_false_iff.2 fun e=>E (AhI e)
  | _=>exact h
 intro L
 induction L with
 | nil=>intro h;exact one h
 | cons p r u =>
  obtain⟨k,z⟩:=p
  intro h
  have J:DA d r=true:=by
   cases z <;> first|exact h|(simp only[DA,Ahs]at h;exact h.2)
  simp only[CR]
  split
  ·exact one h
  ·split
   ·exact one J
   ·have u:=u J
    cases z <;> first|exact u|(simp only[DA,Ahs]at h ⊢;exact⟨h.1,u⟩)
theorem Xp {y:Op}{q:Option (O×List V)}(h:(Hv y).any (Py d)=false)(J:Bu (Gz s d v) y.op=true\/q=none)(U:q=none->CT s y=some none):CT s y=some q->CT (Gz s d v) y=some q:=by
 intro hi
 unfold CT at hi U ⊢
 simp only[Hv]at h
 have u:AH (Gz s d v) y.guard=AH s y.guard/\Ah (evA (Gz s d v)) y.args=Ah (evA s) y.args:=by
  cases hg:y.guard with
  | none =>
   rw[hg]at h
   exact⟨rfl,El h⟩
  | some p =>
   obtain⟨a,b⟩:=p
   rw[hg]at h
   simp only[List.any_cons,Bool.or_eq_false_iff]at h
   exact⟨by simp only[AH,Ky h.1],El h.2⟩
 rw[u.1,u.2]
 simp only[Ahn]at hi ⊢
 obtain⟨w,Y,E⟩:=hi
 refine⟨w,Y,?_⟩
 cases w with
 | false=>exact E
 | true =>
  simp only[Ag]at E ⊢
  refine⟨?_,E.2⟩
  rcases J with J|rfl
  ·exact J
  ·obtain⟨_,N⟩:=E
   simp only[Ahn,Aho]at N
   obtain⟨_,_,W⟩:=N
   cases W
theorem Ub {x y:Op}(h:Uc x y=true):∃d z e u,x.op=.l (.alp d z)/\x.dst=.v d/\y.op=.l (.alp e u)/\y.dst=.v e:=by
 unfold Uc at h
 split at h
 ·rename_i d z n e u m Y U W E
  rw[Ahs]at h
  have N:=AhI h.1
  have J:=AhI h.2
  subst N
  subst J
  exact⟨_,_,_,_,Y,U,W,E⟩
 ·cases h
theorem TZ {x y:Op}(h:Ua x y=true):∃d z k,x.op=.l (.alp d z)/\x.dst=.v d/\y.op=.p (.fad k)/\(y.args.all fun a=>match a with|.k v=>Az v|_=>true)=true:=by
 unfold Ua at h
 split at h
 ·rename_i d z n k J u E
  rw[Ahs]at h
  have N:=AhI h.1
  subst N
  exact⟨_,_,_,J,u,E,h.2⟩
 ·cases h
theorem Aff {k d off:Nat}{a:V}(h:Ar (.fad k) [a]=some (.fa d off)):∃u,a=.fa d u:=by
 simp only[Ar]at h
 split at h <;> first|(cases h;exact⟨_,rfl⟩)|(simp at h)
theorem Fa {q:O×List V}(h:CT s x=some (some q)):Bu s x.op=true/\Ah (evA s) x.args=some q.2:=by
 simp only[CT,Ahn]at h
 obtain⟨b,_,h⟩:=h
 cases b with
 | true =>
  simp only[Ag,Ahn,Aho]at h
  obtain⟨E,vs,u,rfl⟩:=h
  exact⟨E,u⟩
 | false=>simp at h
theorem Abr (hq:BC sh call)(hE:EOk s.E)(hap:apart sh x y=true)(h1:Ek call s x=some s1)(h2:Ek call s1 y=some s2):∃t,Ek call s y=some t/\Ek call t x=some s2:=by
 simp only[apart,Ahs,AiI,Aia,AhL,Aid]at hap
 obtain⟨⟨⟨W,a2⟩,a3⟩,a6⟩:=hap
 obtain⟨qx,v1,M1,Y,J,d1,rfl⟩:=Gb.1 h1
 obtain⟨qy,v2,M2,N,u,d2,rfl⟩:=Gb.1 h2
 rw[Zs]at u
 suffices H:CT s y=some qy/\(∀M,CT (Gz { s with M:=M } y.dst v2) x=some qx) /\ ∃M1',FN call s.M qy=some (v2,M1')/\FN call M1' qx=some (v1,M2) by
  obtain⟨N,i1',M1',k1,k2⟩:=H
  refine⟨Gz { s with M:=M1' } y.dst v2,Gb.2 ⟨qy,v2,M1',N,k1,d2,rfl⟩,Gb.2 ⟨qx,v1,M2,i1' _,by rw[Zs];exact k2,d1,?_⟩⟩
  rw[Jt,Jt]
  exact Ti { s with M:=M2 } x.dst y.dst v1 v2 a3
 rcases a6 with ((((⟨⟨a4,a5⟩,a6⟩|hb)|hb)|hb)|hb)|hb
 rotate_left 4
 ·obtain⟨d,z,e,z',o1,o2,o3,o4⟩:=Ub hb
  have hde:d≠e:=fun h=>by
   subst h
   rw[o2,o4]at a3
   simp[WM]at a3
  have j1:CT s y=some qy:=by
   rw[DU W (by rw[o2];intro n h;cases h),Dm]at N
   exact N
  have j2:∀M,CT (Gz { s with M:=M } y.dst v2) x=some qx:=fun M=>by
   rw[DU a2 (by rw[o4];intro n h;cases h),Dm]
   exact Y
  refine⟨j1,j2,?_⟩
  cases qx with
  | none =>
   simp only[FN,Aho,Ahp]at J
   obtain⟨rfl,rfl⟩:=J
   exact⟨M2,u,rfl⟩
  | some U =>
   obtain⟨ox,xs⟩:=U
   have e1:ox=x.op:=BU Y
   subst e1
   cases qy with
   | none =>
    simp only[FN,Aho,Ahp]at u
    obtain⟨rfl,rfl⟩:=u
    exact⟨s.M,rfl,J⟩
   | some py =>
    obtain⟨oy,ys⟩:=py
    have Z:oy=y.op:=BU N
    subst Z
    simp only[FN]at J u ⊢
    rw[o1]at J ⊢
    rw[o3]at u ⊢
    match xs,ys,J,u with
    | [],[],J,u =>
     simp only[evO,An,Aho,Ahp]at J u
     obtain⟨rfl,rfl⟩:=J
     obtain⟨rfl,rfl⟩:=u
     refine⟨⟨Ep s.M.B e z',s.M.H⟩,rfl,?_⟩
     simp only[evO,An]
     rw[SZ _ _ _ _ _ hde]
    | _::_,_,J,_=>simp[evO,An]at J
    | [],_::_,_,u=>simp[evO,An]at u
 ·obtain⟨d,z,k,o1,o2,o3,s3⟩:=TZ hb
  have hya:DC y.op=false:=by rw[o3];rfl
  rw[DV W hya,Dm]at N
  have hfrL:∀U,qx=some U->DA d s.L=true:=fun U h=>by
   subst h
   have:=(Fa Y).1
   rw[o1]at this
   exact this
  have hno:∀U,qx=some U -> ∀off,v2≠V.fa d off:=fun U hp off hv=>by
   subst hv
   cases qy with
   | none =>
    simp only[FN,Aho,Ahp]at u
    cases u.1
   | some py =>
    obtain⟨oy,ys⟩:=py
    have Z:oy=y.op:=BU N
    subst Z
    have hys:=(Fa N).2
    have hany:y.args.any (Py (.v d))=false:=by
     rw[o2]at W
     cases hg:y.guard with
     | none=>simpa only [Hv,hg]using W
     | some g =>
      have W:(g.1::y.args).any (Py (.v d))=false:=by simpa only [Hv,hg]using W
      rw[List.any_cons,Bool.or_eq_false_iff]at W
      exact W.2
    have hn:=Mt hE (hfrL U hp) hany s3 hys
    simp only[FN]at u
    rw[o3]at u
    obtain⟨h3,_⟩:=BI u
    match ys,h3,hn with
    | [a],h3,hn =>
     obtain⟨off',rfl⟩:=Aff h3
     exact hn off' (by simp)
    | [],h3,_=>simp[Ar]at h3
    | _::_::_,h3,_=>simp[Ar]at h3
  have m1':∀U,qx=some U -> ∀M,FN call M qy=some (v2,M):=fun U _ M=>by
   cases qy with
   | none =>
    simp only[FN,Aho,Ahp]at u ⊢
    exact⟨u.1,Aii⟩
   | some py =>
    obtain⟨oy,ys⟩:=py
    have Z:oy=y.op:=BU N
    subst Z
    simp only[FN]at u ⊢
    rw[o3]at u ⊢
    exact EM u M
  have hfr2:∀M,Bu (Gz { s with M:=M } y.dst v2) x.op=true\/qx=none:=fun M=>by
   cases qx with
   | none=>exact .inr rfl
   | some U =>
    refine .inl ?_
    rw[o1]
    show DA d (Gz { s with M:=M } y.dst v2).L=true
    have h1:=hfrL U rfl
    cases y.dst with
    | no=>exact h1
    | v n=>exact h1
    | l n=>exact Xk (hno U rfl) h1
  have j2:∀M,CT (Gz { s with M:=M } y.dst v2) x=some qx:=fun M=>by
   refine Xp (s:={ s with M:=M }) a2 (hfr2 M) (fun e=>?_) Y
   rw[e]at Y
   exact Y
  refine⟨N,j2,?_⟩
  cases qx with
  | none =>
   simp only[FN,Aho,Ahp]at J
   obtain⟨rfl,rfl⟩:=J
   exact⟨M2,u,rfl⟩
  | some U =>
   have hM:M2=M1:=by
    cases qy with
    | none =>
     simp only[FN,Aho,Ahp]at u
     exact u.2.symm
    | some py =>
     obtain⟨oy,ys⟩:=py
     have Z:oy=y.op:=BU N
     subst Z
     simp only[FN]at u
     rw[o3]at u
     exact(BI u).2
   rw[hM]
   exact⟨s.M,m1' U rfl s.M,J⟩
 rotate_left 3
 ·obtain⟨d,e0,hM,hF,hs⟩:=Ud (call:=call) hb
  simp only[Pc,Ahs]at hs
  obtain⟨⟨s1,s2⟩,s3⟩:=hs
  have hyl:∀n,y.dst ≠ .l n:=fun n e=>by rw[e]at s1;cases s1
  have hya:DC y.op=false:=by
   split at s2
   ·rename_i e;rw[e];rfl
   ·rename_i e;rw[e];rfl
   ·rename_i e;rw[e];rfl
   ·cases s2
  rw[DV W hya,Dm]at N
  refine⟨N,fun M=>?_,?_⟩
  ·rw[DU a2 hyl,Dm]
   exact Y
  ·cases qx with
   | none =>
    simp only[FN,Aho,Ahp]at J
    obtain⟨rfl,rfl⟩:=J
    exact⟨M2,u,rfl⟩
   | some U =>
    obtain⟨ox,xs⟩:=U
    have e1:ox=x.op:=BU Y
    subst e1
    cases qy with
    | none =>
     simp only[FN,Aho,Ahp]at u
     obtain⟨rfl,rfl⟩:=u
     exact⟨s.M,rfl,J⟩
    | some py =>
     obtain⟨oy,ys⟩:=py
     have Z:oy=y.op:=BU N
     subst Z
     simp only[FN]at J u ⊢
     obtain⟨zs,rfl,hK⟩:=hM _ _ _ _ J
     have hfr:=(Fa Y).1
     rw[hF]at hfr
     have hys:=(Fa N).2
     have hany:y.args.any (Py (.v d))=false:=by
      rw[e0]at W
      cases hg:y.guard with
      | none=>simpa only [Hv,hg]using W
      | some g =>
       have W:(g.1::y.args).any (Py (.v d))=false:=by simpa only [Hv,hg]using W
       rw[List.any_cons,Bool.or_eq_false_iff]at W
       exact W.2
     have hno:=Mt hE hfr hany s3 hys
     split at s2
     ·rename_i o e
      rw[e]at u ⊢
      have:=EM u s.M
      obtain⟨_,rfl⟩:=BI u
      exact⟨_,this,J⟩
     ·rename_i o e
      rw[e]at u ⊢
      obtain⟨h3,rfl⟩:=EL u
      have h4:=Th hno h3
      refine⟨s.M,?_,J⟩
      simp only[evO,h4,Ahz]
     ·rename_i e
      rw[e]at u ⊢
      have h5:=Un u s.M.B
      have h6:=app_B u
      refine⟨⟨s.M.B,M2.H⟩,h5,?_⟩
      rw[hK M2.H]
      cases M2
      dsimp only at h6 ⊢
      rw[h6]
     ·cases s2
 ·rw[DV W a5,Dm]at N
  refine⟨N,fun M=>?_,Tw hq (fun ox xs oy ys e1 Z=>?_) J u⟩
  ·rw[DV a2 a4,Dm]
   exact Y
  ·subst e1;subst Z
   rw[show ox=x.op from BU Y,show oy=y.op from BU N]
   rcases a6 with ((a6|a6)|a6)|a6
   ·exact .inl a6
   ·exact .inr (.inl a6)
   ·exact .inr (.inr (.inl a6))
   ·exact .inr (.inr (.inr a6))
 ·obtain⟨b1,⟨f,b2⟩,b3⟩:=Mw hb
  have hy:DC y.op=false:=by rw[b2];rfl
  rw[DV W hy,Dm]at N
  refine⟨N,fun M=>?_,?_⟩
  ·rw[DU a2 b3,Dm]
   exact Y
  ·cases qx with
   | none =>
    simp only[FN,Aho,Ahp]at J
    obtain⟨rfl,rfl⟩:=J
    exact⟨M2,u,rfl⟩
   | some U =>
    obtain⟨ox,xs⟩:=U
    have e1:ox=x.op:=BU Y
    subst e1
    cases qy with
    | none =>
     simp only[FN,Aho,Ahp]at u
     obtain⟨rfl,rfl⟩:=u
     exact⟨s.M,rfl,J⟩
    | some py =>
     obtain⟨oy,ys⟩:=py
     have Z:oy=y.op:=BU N
     subst Z
     simp only[FN]at J u ⊢
     obtain⟨c1,c2⟩:=Pr b1 J
     rw[b2]at u ⊢
     obtain⟨c3,c4⟩:=Km (B:=M1.B) (H:=M1.H) sh f s.M.B u
     rw[c1]at c4
     refine⟨_,c4,?_⟩
     have:=c2 M2.H
     rw[this,<-c3]
 ·obtain⟨b1,⟨f,b2⟩,b3⟩:=Mw hb
  have hx:DC x.op=false:=by rw[b2];rfl
  rw[DU W b3,Dm]at N
  refine⟨N,fun M=>?_,?_⟩
  ·rw[DV a2 hx,Dm]
   exact Y
  ·cases qx with
   | none =>
    simp only[FN,Aho,Ahp]at J
    obtain⟨rfl,rfl⟩:=J
    exact⟨M2,u,rfl⟩
   | some U =>
    obtain⟨ox,xs⟩:=U
    have e1:ox=x.op:=BU Y
    subst e1
    cases qy with
    | none =>
     simp only[FN,Aho,Ahp]at u
     obtain⟨rfl,rfl⟩:=u
     exact⟨s.M,rfl,J⟩
    | some py =>
     obtain⟨oy,ys⟩:=py
     have Z:oy=y.op:=BU N
     subst Z
     simp only[FN]at J u ⊢
     rw[b2]at J ⊢
     obtain⟨c1,c2⟩:=Pr b1 u
     obtain⟨c3,_⟩:=Km (B:=s.M.B) (H:=s.M.H) sh f s.M.B J
     have c5:=c2 s.M.H
     rw[c3]at c5
     refine⟨_,c5,?_⟩
     obtain⟨_,c4⟩:=Km (B:=s.M.B) (H:=s.M.H) sh f M2.B J
     rw[c4,<-c1]
theorem JG (N:BC sh call){q:Op}{J:List Op}:∀ {u:List Op} {s:St},EOk s.E->(∀x,x∈u->apart sh x q=true)->BW call (u++q::J) s=some s'->BW call (q::(u++J)) s=some s'
 | [],s,_,_,h=>h
 | p::u,s,hE,hap,h=>by
  simp only[Aiq,BW,Ahn]at h
  obtain⟨s1,U,h⟩:=h
  have:=JG N (hE.op U) (fun x hx=>hap x (by simp[hx])) h
  simp only[BW,Ahn]at this
  obtain⟨s2,Y,Z⟩:=this
  obtain⟨t,k1,W⟩:=Abr N hE (hap p (by simp)) U Y
  simp only[Aiq,BW,k1,Ahz,W]
  exact Z
theorem PD {u:List Nat}{j:Nat}:∀(l:List Nat) (E:Nat),Nat.testBit (l.foldl (fun s j=>Nat.lor s (Nat.lor (Nat.shiftLeft 1 j) (u.getD j 0))) E) j=true->Nat.testBit E j=true \/ ∃e,e∈l/\(j=e\/Nat.testBit (u.getD e 0) j=true)
 | [],E,h=>.inl h
 | e::l,E,h=>by
  simp only[List.foldl_cons]at h
  rcases PD l _ h with h|⟨J,U,N⟩
  ·have h:Nat.testBit (E ||| (1 <<< e ||| u.getD e 0)) j=true:=h
   rw[Nat.testBit_or,Nat.testBit_or,AiI,AiI]at h
   rcases h with h|h|h
   ·exact .inl h
   ·rw[Nat.one_shiftLeft,Nat.testBit_two_pow,AhC]at h
    exact .inr ⟨e,by simp,.inl h.symm⟩
   ·exact .inr ⟨e,by simp,.inr h⟩
  ·exact .inr ⟨J,by simp[U],N⟩
theorem FJ:∀(E:List Oper) (u:List Nat) (e:Nat),e<u.length->(Cz u E).getD e 0=u.getD e 0
 | [],u,e,_=>rfl
 | o::r,u,e,h=>by
  simp only[Cz]
  rw[FJ r _ e (by simp;omega)]
  simp[AhM h]
theorem JL {j:Nat}:∀(J:List Oper) (u:List Nat) (k:Nat) (o:Oper),J[k]? = some o->Nat.testBit ((Cz u J).getD (u.length+k) 0) j=true ->
  ∃e,e∈DI o/\(j=e\/(e<u.length+k/\Nat.testBit ((Cz u J).getD e 0) j=true))
 | [],u,k,o,ho,_=>by simp at ho
 | p::r,u,0,o,ho,h=>by
  simp only[List.getElem?_cons_zero,Aho]at ho
  subst ho
  have U:(Cz u (p::r)).getD (u.length+0) 0=(DI p).foldl (fun s j=>Nat.lor s (Nat.lor (Nat.shiftLeft 1 j) (u.getD j 0))) 0:=by
   simp only[Cz,Nat.add_zero]
   rw[FJ r _ _ (by simp)]
   simp
  rw[U]at h
  rcases PD _ _ h with h|⟨e,W,E⟩
  ·simp at h
  ·refine⟨e,W,E.imp id fun E=>?_⟩
   by_cases N:e<u.length
   ·exact⟨by omega,by rw[FJ _ _ _ N];exact E⟩
   ·simp[List.getElem?_eq_none (Nat.le_of_not_lt N)]at E
 | p::r,u,k+1,o,ho,h=>by
  have:=JL (j:=j) r (u++[(DI p).foldl (fun s j=>Nat.lor s (Nat.lor (Nat.shiftLeft 1 j) (u.getD j 0))) 0]) k o (by simpa using ho)
  rw[AhF,Aiu,show u.length+1+k=u.length+(k+1) by omega]at this
  exact this h
theorem Hg {u:List Oper}{L:Nat->Prop}(W:∀(k:Nat) o,u[k]? = some o->L k -> ∀e,e∈DI o->L e)(U:∀(k:Nat) o,u[k]? = some o -> ∀e,e∈DI o->e<k):
  ∀(n k:Nat) o,k<n->u[k]? = some o->(∀e,e∈DI o->L e) -> ∀j,Nat.testBit ((Cz [] u).getD k 0) j=true->L j
 | 0,k,o,h,_,_,_,_=>by omega
 | n+1,k,o,hk,ho,hL,j,hj=>by
  have:=JL (j:=j) u [] k o ho (by simpa using hj)
  obtain⟨e,N,h|⟨_,h⟩⟩:=this
  ·rw[h];exact hL e N
  ·have Y:=U k o ho e N
   obtain⟨J,E⟩:∃J,u[e]? = some J:=⟨_,Ahr (by have:=(Ahq.1 ho).1;omega)⟩
   exact Hg W U n e J (by omega) E (W e J E (hL e N)) j h
theorem LQ {o:Oper}{k:Nat}:k∈DI o ↔ ∃e,e∈o.after/\Region.binds .any e=true/\e.on=k:=by
 simp only[DI,List.mem_filterMap]
 constructor
 ·rintro⟨e,E,u⟩
  split at u
  ·rename_i h
   exact⟨e,by simpa using E,h,Aiw u⟩
  ·cases u
 ·rintro⟨e,E,u,J⟩
  exact⟨e,by simpa using E,by simp[u,J]⟩
variable {ops:Array Oper} {Q:Exit->Act->World->Prop} {w:World} {S:Nat->Prop} {ρ:Nat->Nat}
theorem Abw {K:Act->World->Prop}{i:Nat}{q:Op}{a:Act}{β:Nat->Nat}(U:Du P gl call)(hq:Sq P hi gl nt ops i q)(he:Ek call s q=some s1)(Y:Inv hi nt ds w S ρ β s a)(hG:GlOk gl w S) 
  (hK:∀a1 w1 S1 Z β1,Inv hi nt ds w1 S1 Z β1 s1 a1->Stp w S ρ β s.M w1 S1 Z s1.M.H->Bx w β s.M.B β1 s1.M.B->K a1 w1):wpOpIn (FW rd) 0 P ops Q i K a w:=by
 obtain⟨o,ho,hc,N⟩:=hq
 obtain⟨g,qo,os,hg,rfl,u⟩:=JH hc
 simp only[Ek,Ahn]at he
 obtain⟨b,hb,E⟩:=he
 have W:=Mf Y hg hb
 unfold wpOpIn
 simp only[ho,W]
 cases b with
 | true =>
  simp only[Ag,Ahn]at E
  obtain⟨hfr,vs,J,⟨v,M'⟩,a0,hset⟩:=E
  simp only[if_true]
  rcases u with ⟨az,u,hQ,hos⟩|⟨rfl,rfl⟩
  case inr=>simp[Ah]at J;subst J;simp[evO,Ar]at a0
  refine(Zv u hQ U Y.ok hG (Kx Y hG hos J) a0 fun w' S' ρ' β' c hn=>?_)
  obtain⟨h1,h2⟩:=Y.step rfl N hfr hn hset
  exact hK _ _ _ _ _ h1 (by rw[h2];exact hn.stp) (by rw[h2];exact hn.box)
 | false =>
  simp only[AiQ,if_false]
  have hn:Nxt w S ρ β s.M (.p .mv) .un s.M w S ρ β undef:=⟨Y.ok,Stp.refl _ _ _ _ _,.un,fun _ _=>rfl,fun d hd=>.inl ⟨d,hd,rfl⟩⟩
  have hwf':Ri nt ⟨AbV hi o.dst,.p .mv,[],none⟩=true:=by
   simp only[Ri,Ahs]at N ⊢
   exact⟨N.1,Aii⟩
  obtain⟨h1,h2⟩:=Y.step rfl hwf' rfl hn E
  exact⟨fun _ _=>Aii,hK _ _ _ _ _ h1 (by rw[h2];exact Stp.refl _ _ _ _ _) (by rw[h2];exact Bx.refl)⟩
variable {β α:Type}
theorem All2.split {R:α->β->Prop}:∀ {l J:List α} {m:List β},All2 R (l++J) m -> ∃u E,m=u++E/\All2 R l u/\All2 R J E
 | [],J,m,h=>⟨[],m,rfl,.nil,h⟩
 | a::l,J,m,h=>by
  cases h with
  | cons h t =>
   obtain⟨u,E,rfl,U,N⟩:=All2.split t
   exact⟨_::u,E,rfl,.cons h U,N⟩
theorem All2.mem {R:α->β->Prop}{l:List α}{m:List β}(h:All2 R l m):∀y,y∈m -> ∃x,x∈l/\R x y:=by
 induction h with
 | nil=>intro y u;simp at u
 | cons h t E =>
  intro y u
  rcases AhO.1 u with rfl|u
  ·exact⟨_,by simp,h⟩
  ·obtain⟨x,J,N⟩:=E y u
   exact⟨x,by simp[J],N⟩
def OkO (sh:Nat->Bool)(ops:Array Oper)(cs:List Op)(j k:Nat):Prop:=j≠k/\(∀o,ops.toList[j]? = some o->k ∉ DI o)/\(Nat.testBit ((Cz [] ops.toList).getD k 0) j=true \/ ∃x y,nth cs j=some x/\nth cs k=some y/\apart sh x y=true)
variable {cs:List Op}
theorem AbU (hcall:Du P gl call)(hq:BC sh call)(hcs:∀i q,nth cs i=some q->Sq P hi gl nt ops i q)(hlen:cs.length=ops.size)(hB:∀k o,ops.toList[k]? = some o -> ∀e,e∈DI o->e<k)(s':St):
  ∀(E:Nat) (u:Array Bool) (R:List Nat) (qs:List Op) (s:St) (a:Act) (w:World) (S:Nat->Prop) (ρ β:Nat->Nat),
   R.length<=E->R.Pairwise (OkO sh ops cs)->(∀j,j∈R↔j<ops.size/\u.getD j true=false)->u.size=ops.size ->
   (∀(k:Nat) o,ops.toList[k]? = some o->u.getD k false=true -> ∀e,e∈DI o->u.getD e false=true) ->
   All2 (fun i q=>nth cs i=some q) R qs->BW call qs s=some s'->Inv hi nt ds w S ρ β s a->GlOk gl w S ->
   (∀a' w' S' ρ' β',Inv hi nt ds w' S' ρ' β' s' a'->Stp w S ρ β s.M w' S' ρ' s'.M.H->Bx w β s.M.B β' s'.M.B->Q .normal a' w')->wpAnyIn (FW rd) 0 P .any ops Q E u a w:=by
 have stop:∀(u:Array Bool) (R:List Nat),R.Pairwise (OkO sh ops cs)->(∀j,j∈R↔j<ops.size/\u.getD j true=false)->u.size=ops.size->Region.ready .any ops u=[]->R=[]:=by
  intro u R hp Z a0 hr
  cases R with
  | nil=>rfl
  | cons k R =>
   exfalso
   obtain⟨hk,hku⟩:=(Z k).1 (by simp)
   obtain⟨o,ho⟩:∃o,ops[k]? = some o:=⟨_,Array.getElem?_eq_getElem hk⟩
   have a3:k∈Region.ready .any ops u:=mem_ready.2 ⟨hku,o,ho,fun e J hb=>by
    have hbe:e.on∈DI o:=LQ.2 ⟨e,J,hb,rfl⟩
    have hek:=hB k o (by simpa using ho) e.on hbe
    cases hl:u.getD e.on false with
    | true=>rfl
    | false =>
     have hin:e.on∈k::R:=(Z e.on).2 ⟨by omega,by
      have W:e.on<u.size:=by omega
      simp[W]at hl ⊢
      exact hl⟩
     rcases AhO.1 hin with h|h
     ·omega
     ·exact absurd hbe (((AhU.1 hp).1 _ h).2.1 o (by simpa using ho))⟩
   rw[hr]at a3
   cases a3
 intro E
 induction E with
 | zero =>
  intro u R qs s a w S ρ β hf hp Z a0 hcl hl J hI hG hQ
  have:R=[]:=AhT (by omega)
  subst this
  cases hl
  simp only[BW,Aho]at J
  subst J
  refine⟨?_,hQ a w S ρ β hI (Stp.refl _ _ _ _ _) Bx.refl⟩
  cases hr:Region.ready .any ops u with
  | nil=>rfl
  | cons i l =>
   have hi:i∈Region.ready .any ops u:=by rw[hr];simp
   obtain⟨h1,o,U,_⟩:=mem_ready.1 hi
   have:=(Z i).2 ⟨(AhY.1 U).1,h1⟩
   cases this
 | succ E ih =>
  intro u R qs s a w S ρ β hf hp Z a0 hcl hl J hI hG hQ
  refine⟨fun hr=>?_,fun i hi=>?_⟩
  ·have:=stop u R hp Z a0 hr
   subst this
   cases hl
   simp only[BW,Aho]at J
   subst J
   exact hQ a w S ρ β hI (Stp.refl _ _ _ _ _) Bx.refl
  ·obtain⟨hun,o,ho,a2⟩:=mem_ready.1 hi
   have hil:i<ops.size:=(AhY.1 ho).1
   obtain⟨pre,Y,rfl⟩:=List.append_of_mem ((Z i).2 ⟨hil,hun⟩)
   obtain⟨qpre,qr,rfl,hl1,hl2⟩:=All2.split hl
   cases hl2 with|@cons _ q _ qpost hqi hl3 =>
   have hbl:∀e,e∈DI o->u.getD e false=true:=fun e J=>by
    obtain⟨ed,h1,U,h3⟩:=LQ.1 J
    rw[<-h3]
    exact a2 ed h1 U
   have hap:∀x,x∈qpre->apart sh x q=true:=fun x hx=>by
    obtain⟨j,hj,hjx⟩:=All2.mem hl1 x hx
    have hok:=(AiE.1 hp).2.2 j hj i (by simp)
    have hju:=((Z j).1 (by simp[hj])).2
    have hjs:j<ops.size:=((Z j).1 (by simp[hj])).1
    rcases hok.2.2 with h|⟨x',y',h1,U,h3⟩
    ·have:=Hg (L:=fun k=>u.getD k false=true) hcl hB (i+1) i o (by omega) (by simpa using ho) hbl j h
     exfalso
     have W:j<u.size:=by omega
     simp[W]at this hju
     rw[this]at hju
     cases hju
    ·rw[hjx]at h1
     rw[hqi]at U
     cases h1;cases U
     exact h3
   have J:=JG hq (fun n d off hn=>(hI.env n _ hn).2.2 d off rfl) hap J
   simp only[BW,Ahn]at J
   obtain⟨s1,he1,he2⟩:=J
   refine Abw hcall (hcs i q hqi) he1 hI hG fun a1 w1 S1 ρ1 β1 hI1 hst hbx=>?_
   have hni:∀j,j∈pre++Y↔j∈pre++i::Y/\j≠i:=fun j=>by
    have N:=AiE.1 hp
    have hp2:=AhU.1 N.2.1
    constructor
    ·intro h
     rcases Aig.1 h with h|h
     ·exact⟨by simp[h],(N.2.2 j h i (by simp)).1⟩
     ·exact⟨by simp[h],fun e=>(hp2.1 j h).1 e.symm⟩
    ·rintro⟨h,hne⟩
     simp only[Aig,AhO]at h ⊢
     rcases h with h|h|h
     ·exact .inl h
     ·exact absurd h hne
     ·exact .inr h
   refine ih (u.setIfInBounds i true) (pre++Y) (qpre++qpost) s1 a1 w1 S1 ρ1 β1 (by simp at hf ⊢;omega) ?_ (fun j=>?_) (by simpa using a0) ?_ (All2.append hl1 hl3) he2 hI1 (hG.step hst) (fun a' w' S' ρ' β' h1 U h3=>hQ a' w' S' ρ' β' h1 (hst.trans hbx U) (hbx.trans hst.size h3))
   ·have N:=AiE.1 hp
    have hp2:=AhU.1 N.2.1
    exact AiE.2 ⟨N.1,hp2.2,fun x hx y hy=>N.2.2 x hx y (by simp[hy])⟩
   ·rw[hni,Z]
    by_cases hji:j=i
    ·subst hji
     have W:j<u.size:=by omega
     simp[W]
    ·rw[getD_set_ne true (AiD hji)]
     exact⟨fun h=>h.1,fun h=>⟨h,hji⟩⟩
   ·intro k o' hk hkl e J
    refine getD_set_true ?_
    by_cases hki:k=i
    ·subst hki
     have:o'=o:=by
      have U:ops[k]? = some o':=by simpa using hk
      rw[ho]at U
      exact(Aiw U).symm
     subst this
     exact hbl e J
    ·rw[getD_set_ne false (AiD hki)]at hkl
     exact hcl k o' hk hkl e J
theorem Rz {f:α->Option β}{l:List α}{m:List β}(h:Ah f l=some m){i:Nat}{y:β}(u:nth m i=some y):∃x,l[i]? = some x/\f x=some y:=by
 rw[AU]at u
 exact(optMap_get h).2 i y u
theorem Tm (U:cs.length=ops.size)(u:Tn sh ops.toList cs=true):(∀k o,ops.toList[k]? = some o -> ∀e,e∈DI o->e<k)/\(List.range ops.size).Pairwise (OkO sh ops cs):=by
 simp only[Tn,Ahs,AhE,List.mem_range,AiI]at u
 have N:∀k o,ops.toList[k]? = some o -> ∀e,e∈DI o->e<k:=by
  intro k o E e Z
  obtain⟨J,_⟩:=u.2 k (by have:=(Ahq.1 E).1;simp at this;omega)
  rw[E]at J
  simp only[Option.any_some,AhE,AiL]at J
  exact J e Z
 refine⟨N,?_⟩
 have hp:(List.range ops.size).Pairwise (fun j k=>j<k/\k<ops.size):=by
  refine(List.pairwise_lt_range (n:=ops.size)).imp_of_mem fun {a b} _ W h=>⟨h,by simpa using W⟩
 refine hp.imp fun {j k} h=>⟨by omega,fun o E hk=>?_,?_⟩
 ·have:=N j o E k hk
  omega
 ·refine((u.2 k (by omega)).2 j h.1).imp id fun h=>?_
  split at h
  ·rename_i x y Y hy
   exact⟨x,y,Y,hy,h⟩
  ·cases h
theorem LJ {f:Nat->Nat->Bool}:∀ {l:List Nat},Pn f l=true->l.Pairwise (fun j k=>f j k=true)
 | [],_=>.nil
 | j::r,h=>by
  simp only[Pn,Ahs,AhE]at h
  exact .cons h.1 (LJ h.2)
theorem RA {l:List Nat}(Z:cs.length=ops.size)(h:NJ sh ops.toList cs l=true):
  (∀k o,ops.toList[k]? = some o -> ∀e,e∈DI o->e<k)/\l.Pairwise (OkO sh ops cs)/\(∀j,j∈l↔j<ops.size)/\l.length<=ops.size:=by
 simp only[NJ,Ahs,AhE,List.mem_range]at h
 obtain⟨⟨⟨Y,u⟩,E⟩,N⟩:=h
 have Y:=AhI Y
 refine⟨fun k o J e he=>?_,(LJ N).imp fun {j k} h=>?_,fun j=>⟨fun W=>?_,fun W=>?_⟩,by omega⟩
 ·have u:=(u k (by have:=(Ahq.1 J).1;simp at this;omega)).1
  rw[J]at u
  simp only[Option.any_some,AhE,AiL]at u
  exact u e he
 ·simp only[AeI,Ahs,AiI,Aia]at h
  obtain⟨⟨u,E⟩,N⟩:=h
  refine⟨fun e=>by subst e;simp at u,fun o J hk=>?_,N.imp id fun h=>?_⟩
  ·rw[J]at E
   simp only[Option.any_some,Aia,List.any_eq_false]at E
   exact E k hk (by simp)
  ·split at h
   ·rename_i x y U hy
    exact⟨x,y,U,hy,h⟩
   ·cases h
 ·have:=E j W
  rw[AiL]at this
  omega
 ·have:=(u j (by omega)).2
  rw[List.any_eq_true]at this
  obtain⟨x,U,e⟩:=this
  rw[AhI e]
  exact U
theorem Ry {id:Nat}{W:Bool}{a:Act}{β:Nat->Nat}(hcall:Du P gl call)(hq:BC sh call)(hm:P.follows .mixedOrders=true)(hc:Ah (TS P hi gl ops) ops.toList=some cs) 
  (u:(TP sh ops.toList cs W).all (Ri nt)=true) (he:BW call (TP sh ops.toList cs W) s=some s') (hI:Inv hi nt ds w S ρ β s a) (hG:GlOk gl w S)
  (hQ:∀a' w' S' ρ' β',Inv hi nt ds w' S' ρ' β' s' a'->Stp w S ρ β s.M w' S' ρ' s'.M.H->Bx w β s.M.B β' s'.M.B->Q .normal a' w'):(Code.region id ops W).wpIn (FW rd) 0 P Q a w:=by
 have N:cs.length=ops.size:=by rw[(optMap_get hc).1];simp
 have Y:∀i q,nth cs i=some q->Ri nt q=true->Sq P hi gl nt ops i q:=fun i q E hw=>by
  obtain⟨o,ho,hf⟩:=Rz hc E
  rw[AU]at E
  exact⟨o,by simpa using ho,hf,hw⟩
 have U:All2 (fun i q=>nth cs i=some q) (List.range ops.size) cs:=All2.ofGet (by simp[N]) fun j i hj=>by
  have hjl:j<cs.length:=by have:=(Ahq.1 hj).1;simp at this;omega
  rw[List.getElem?_range (by omega)]at hj
  cases hj
  exact⟨cs[j],Ahr hjl,by rw[AU];exact Ahr hjl⟩
 cases W with
 | false =>
  simp only[TP]at u he
  have Y:∀i q,nth cs i=some q->Sq P hi gl nt ops i q:=fun i q E=>Y i q E (by
   rw[AU]at E
   exact AhE.1 u q (Ahw E))
  refine wpIn_region (TL hcall (List.range ops.size) cs ?_ s s' a w S ρ β he hI hG hQ)
  exact All2.ofGet (by simp[N]) fun j i hj=>by
   obtain⟨q,h1,Z⟩:=All2.get U j i hj
   exact⟨q,h1,Y i q Z⟩
 | true =>
  simp only[TP]at u he
  have main:∀(l:List Nat) (qs:List Op),(∀k o,ops.toList[k]? = some o -> ∀e,e∈DI o->e<k)->l.Pairwise (OkO sh ops cs)->(∀j,j∈l↔j<ops.size)->l.length<=ops.size->All2 (fun i q=>nth cs i=some q) l qs ->
    qs.all (Ri nt)=true->BW call qs s=some s'->(Code.region id ops true).wpIn (FW rd) 0 P Q a w:=by
   intro l qs hB hp J hnd U u he
   have Y:∀i q,nth cs i=some q->Sq P hi gl nt ops i q:=fun i q E=>Y i q E (by
    have hi:i∈l:=(J i).2 (by
     rw[AU]at E
     have:=(Ahq.1 E).1
     omega)
    obtain⟨n,hn⟩:=List.getElem?_of_mem hi
    obtain⟨q',h1,Z⟩:=All2.get U n i hn
    rw[E]at Z
    cases Z
    exact AhE.1 u q (Ahw h1))
   refine wpIn_region_any hm ?_
   have hg:Gw w { w with drawn:=w.drawn+1 } none:=⟨⟨rfl,rfl,rfl,Ahu _,fun _ _ _=>rfl⟩,fun _=>Nat.le_succ _⟩
   obtain⟨hok,hst⟩:=hI.ok.grow hg (fun _ h=>h) (fun b h=>.inl h) (fun b h=>hI.ok.lt b h)
   have hI':Inv hi nt ds { w with drawn:=w.drawn+1 } S ρ β s a:=⟨hI.sz,hI.df,hok,fun n v hv=>let ⟨h1,Z,h3⟩:=hI.env n v hv;⟨h1,Z.step hst fun _ _ _=>rfl,h3⟩,fun n v hv=>let ⟨h1,Z⟩:=hI.loc n v hv;⟨h1,Z.step hst fun _ _ _=>rfl⟩⟩
   refine AbU hcall hq Y N hB s' ops.size _ l qs s a _ S ρ β hnd hp (fun j=>?_) (by simp) (fun k o hk hkl=>?_) U he hI' (hG.step hst) (fun a' w' S' ρ' β' h1 Z h3=>hQ a' w' S' ρ' β' h1 (hst.trans Bx.refl Z) (Bx.refl.trans hst.size h3))
   ·rw[J]
    by_cases h:j<ops.size <;> simp[h]
   ·exfalso
    by_cases h:k<ops.size <;> simp[h]at hkl
  unfold Afj at u he
  split at he
  ·rename_i hd
   simp only[hd]at u
   obtain⟨hB,hp⟩:=Tm N hd
   exact main _ cs hB hp (fun j=>by simp) (by simp) U u he
  ·rename_i hd
   simp only[hd]at u
   split at he
   ·rename_i qs hqs
    simp only[hqs]at u
    rw[Ag]at hqs
    obtain⟨hB,hp,J⟩:=RA N hqs.1
    refine main _ qs hB hp J.1 J.2 ?_ u he
    obtain⟨g1,g2⟩:=optMap_get hqs.2
    exact All2.ofGet g1 fun j i hj=>by
     have hjl:j<qs.length:=by have:=(Ahq.1 hj).1;omega
     obtain⟨i',h1,Z⟩:=g2 j _ (Ahr hjl)
     rw[hj]at h1
     cases h1
     exact⟨_,Ahr hjl,Z⟩
   ·simp[BW,Ek,AH,Bu,Ah,evO,Ar,gd]at he
end
end Go.Mx
namespace Go.Mx
section
variable {P:Program} {M M' M1 M2:Mem} {H H' H2:Hp} {vs:List V} {v v1 v2:V} {call:Bt} {s s' s1 s2:St} {sh:Nat->Bool} {hi:Hint} {gl:Nat->Option (List I)} {nt:Nat} {ds:List Deferred} {rd:Option Nat} {dr:Nat->List Nat} {a:Act} {w w':World} {S S':Nat->Prop} {ρ β ρ' β':Nat->Nat}
theorem Kq (n m:Nat):∀(e:Env),Cd (rmE e n) m=if m=n then none else Cd e m
 | []=>by simp[rmE,Cd]
 | (k,x)::r=>by
  have u:=Kq n m r
  simp only[rmE]
  cases h:Nat.beq k n with
  | true =>
   have:=AhI h
   subst this
   simp only[Cd]
   rw[u]
   by_cases e:m=k
   ·simp[e]
   ·rw[Aht e,Aht e,ZK (fun h=>e h.symm)]
  | false =>
   simp only[Cd]
   cases hm:Nat.beq k m with
   | true =>
    have:=AhI hm
    subst this
    have:k≠n:=fun e=>by subst e;simp at h
    rw[Aht this]
   | false=>exact u
theorem GJ:∀(l:List Nat) (e:Env) (n:Nat) (x:V),Cd (Aw l e) n=some x->Cd e n=some x
 | [],e,n,x,h=>h
 | k::l,e,n,x,h=>by
  have:=GJ l (rmE e k) n x h
  rw[Kq]at this
  split at this
  ·cases this
  ·exact this
theorem Inv.drop (h:Inv hi nt ds w S ρ β s a)(l:List Nat):Inv hi nt ds w S ρ β { s with E:=Aw l s.E } a :=
 ⟨h.sz,h.df,h.ok,fun n v u=>h.env n v (GJ l _ n v u),h.loc⟩
theorem Inv.clear (h:Inv hi nt ds w S ρ β s a):Inv hi nt ds w S ρ β { s with L:=[] } a :=
 ⟨h.sz,h.df,h.ok,h.env,fun n v u=>by simp[Cd]at u⟩
def exOf:Ex->Exit
 | .nm=>.normal
 | .ex id=>.exit id
 | .ret=>.ret
def MkAt (z:Nat)(w:World)(S:Nat->Prop)(ρ β:Nat->Nat)(M:Mem)(D:Nat):Prop :=
 z<=D/\w.heap[D]? = some (.deferred (some [])) /\ ¬S D/\(∀r,r<M.H.length->D≠ρ r) /\ ∀k,(getB M.B k).isSome->D≠β k
def Mks (z:Nat)(w:World)(S:Nat->Prop)(ρ β:Nat->Nat)(M:Mem)(ds:List Deferred):Prop :=
 ∃Ds:List Nat,ds=Ds.map (fun D=>{ target:=.collected D,args:=#[] })/\Ds.Nodup /\ ∀D,D∈Ds->MkAt z w S ρ β M D
variable {z D:Nat} {B':LE}
theorem MkAt.step (h:MkAt z w S ρ β M D)(k:Stp w S ρ β M w' S' ρ' H')(b:Bx w β M.B β' B'):MkAt z w' S' ρ' β' ⟨B',H'⟩ D:=by
 obtain⟨h0,Y,Z,J,W⟩:=h
 have N:D<w.heap.size:=(AhY.1 Y).1
 refine⟨h0,(k.keep D N J W).trans Y,fun hs=>?_,fun r U e=>?_,fun d hd e=>?_⟩
 ·rcases k.news D hs with h|h|⟨r,U,e⟩
  ·exact Z h
  ·omega
  ·exact J r U e
 ·rcases k.rown r U with ⟨q,E,u⟩|h
  ·exact J q E (e.trans u)
  ·omega
 ·rcases b d hd with ⟨q,E,u⟩|h
  ·exact W q E (e.trans u)
  ·omega
theorem Mks.step {ds:List Deferred}(h:Mks z w S ρ β M ds)(k:Stp w S ρ β M w' S' ρ' H')(b:Bx w β M.B β' B'):Mks z w' S' ρ' β' ⟨B',H'⟩ ds :=
 let ⟨N,U,E,J⟩:=h;⟨N,U,E,fun D u=>(J D u).step k b⟩
def Post (hi:Hint)(nt z:Nat)(w:World)(S:Nat->Prop)(ρ β:Nat->Nat)(M:Mem)(s':St)(K:Act->World->Prop):Prop :=
 ∀a' w' S' ρ' β' ds',Inv hi nt ds' w' S' ρ' β' s' a'->Mks z w' S' ρ' β' s'.M ds'->Stp w S ρ β M w' S' ρ' s'.M.H->Bx w β M.B β' s'.M.B->K a' w'
theorem Post.step {K:Act->World->Prop}(h:Post hi nt z w S ρ β M s' K)(U:Stp w S ρ β M w' S' ρ' M1.H)(N:Bx w β M.B β' M1.B):Post hi nt z w' S' ρ' β' M1 s' K :=
 fun a2 Y S2 E u J k1 Z W k3=>h a2 Y S2 E u J k1 Z (U.trans N W) (N.trans U.size k3)
def RdOk (rd:Option Nat)(w:World)(S:Nat->Prop)(ρ:Nat->Nat)(H:Hp):Prop:=∀l,rd=some l -> ∃r,RepV w S ρ H (.yl r) (.func (.yield l) #[] #[])
theorem RdOk.step {rd:Option Nat}(h:RdOk rd w S ρ M.H)(k:Stp w S ρ β M w' S' ρ' H'):RdOk rd w' S' ρ' H':=fun l e=>let ⟨r,u⟩:=h l e;⟨r,k.vals _ _ u⟩
variable {r:Nat}
theorem ON {l:Nat}(h:RepV w S ρ H (.yl r) (.func (.yield l) #[] #[])):ρ r=l /\ ∃st N E ps U W,H[r]? = some (.lp st N E ps U W):=by
 generalize J:Value.func (.yield l) #[] #[]=c at h
 cases h with
 | yl _ st N E ps U W u =>
  injection J with J
  injection J with J
  exact⟨J.symm,_,_,_,_,_,_,u⟩
theorem GI:∀(e:Env) (n:Nat) (x:V),Cd (Io e) n=some x->Cd e n=some x/\Az x=true
 | [],n,x,h=>by simp[Io,Cd]at h
 | (k,y)::r,n,x,h=>by
  simp only[Io]at h
  simp only[Cd]
  split at h
  ·rename_i E
   simp only[Cd]at h
   split at h
   ·cases h
    exact⟨rfl,E⟩
   ·exact GI r n x h
  ·rw[Kq]at h
   split at h
   ·cases h
   ·rename_i u
    rw[ZK (fun e=>u e.symm)]
    exact GI r n x h
variable {o:Obj}
theorem RowsTo.off (hS:¬S D)(hr:∀r,r<H.length->D≠ρ r):RowsTo w S ρ H (w.putObj D o) S ρ H:=by
 have U:∀b,S b->(w.putObj D o).heap[b]? = w.heap[b]?:=fun b hb=>World.putObj_heap_other (fun e=>hS (e ▸ hb))
 have J:∀r,r<H.length->(w.putObj D o).heap[ρ r]? = w.heap[ρ r]?:=fun r h=>World.putObj_heap_other (fun e=>hr r h e.symm)
 refine⟨U,fun _ h=>h,fun r ty esz Y W fz u=>?_,fun r Y fz u=>⟨rfl,Y,fz,u⟩,fun r st pd E ps ca cb u=>⟨rfl,st,pd,u⟩⟩
 have N:=(Ahq.1 u).1
 exact⟨Y,W,fz,u,Ahu _,Ahu _,fun b ver _ _ hA=>hA.same U (fun _ h=>h) (J r N),fun _=>⟨rfl,fun Z mk h=>⟨Z,mk,by rw[J r N];exact h,rfl⟩⟩⟩
theorem Ok.off (h:Ok w S ρ β M)(Z:¬S D)(Y:∀r,r<M.H.length->D≠ρ r)(J:∀k,(getB M.B k).isSome->D≠β k):Ok (w.putObj D o) S ρ β M:=by
 have E:=RowsTo.off (w:=w) (o:=o) Z Y
 refine⟨fun r row u=>?_,fun d cs W=>?_,h.inj,h.bij,h.rb,h.bns,fun b J=>by simpa using h.lt b J⟩
 ·have N:=(Ahq.1 u).1
  exact(h.rows r row u).same E rfl (World.putObj_heap_other (fun e=>Y r N e.symm)) id
 ·obtain⟨U,T,hh,hR⟩:=h.boxes d cs W
  exact⟨U,T,(World.putObj_heap_other (fun e=>J d (by simp[W]) e.symm)).trans hh,hR.mono E⟩
variable {ρ0 β0:Nat->Nat}
theorem Stp.off {J:World}{W:Nat->Prop}{Y:Mem}(h:Stp J W ρ0 β0 Y w S ρ H)(hz:J.heap.size<=D)(U:¬S D)(hr:∀r,r<H.length->D≠ρ r):Stp J W ρ0 β0 Y (w.putObj D o) S ρ H:=by
 have E:=RowsTo.off (w:=w) (o:=o) U hr
 exact⟨fun v c Z=>(h.vals v c Z).mono E,h.stab,fun b N=>(World.putObj_heap_other (fun e=>U (by rw[<-e];exact h.stab b N))).trans (h.heap b N),fun b u h1 h2=>(World.putObj_heap_other (by omega)).trans (h.keep b u h1 h2),h.news,h.rown,by simpa using h.size,h.os,h.tape,h.output,h.drawn⟩
variable {B:LE}
theorem Ok.setLp {st st':Nat}{pd pd':Option (Option Nat)}{E:Env}{ps:List Nat}{ca cb:C}{u:Loop}{ls:LoopState}(Y:Ok w S ρ β ⟨B,H⟩)(N:H[r]? = some (.lp st pd E ps ca cb))(J:w.heap[ρ r]? = some (.loop u))(hst:stM st'=some ls):
  Ok (w.putObj (ρ r) (.loop { u with state:=ls,pending:=pdM pd' })) S ρ β ⟨B,H.set r (.lp st' pd' E ps ca cb)⟩/\Stp w S ρ β ⟨B,H⟩ (w.putObj (ρ r) (.loop { u with state:=ls,pending:=pdM pd' })) S ρ (H.set r (.lp st' pd' E ps ca cb)):=by
 have W:(fun k=>if k=r then ρ r else ρ k)=ρ:=by
  funext k
  by_cases c:k=r
  ·rw[Ahv c,c]
  ·rw[Aht c]
 have hR:=Y.rows r _ N
 have hlt:ρ r<w.heap.size:=(AhY.1 J).1
 have U:=Ok.setRow (w':=w.putObj (ρ r) (.loop { u with state:=ls,pending:=pdM pd' })) (S':=S) (g:=ρ r) (row':=.lp st' pd' E ps ca cb) Y N
  ⟨⟨rfl,rfl,rfl,by simp,fun b hb hne=>World.putObj_heap_other (fun e=>hne (by rw[e]))⟩,fun _=>Ahu _⟩ (.inl rfl) (fun b h=>h) (fun b h=>.inl h) (fun b hb=>World.putObj_heap_other (fun e=>hR.1 (e ▸ hb)))
  (fun ty esz es base fz e=>by cases e) (fun es fz e=>by cases e)
  (fun Z=>by
   rw[W]at Z ⊢
   obtain⟨h1,rec',hi,dr,h2,h3,h4,h5,h6,h7,h8,h9,h10,h11⟩:=hR
   rw[J]at h2
   cases h2
   exact⟨h1,_,hi,dr,World.putObj_heap_same hlt,h3,h4,h5,h6,h7,h8,hst,rfl,fun n v hv=>let ⟨k1,k2,k3⟩:=h11 n v hv;⟨k1,k2,k3.mono Z⟩⟩)
  (fun _ _ _ _ _ _ e=>by cases e;exact⟨rfl,_,_,rfl⟩)
 rw[W]at U
 exact U
theorem WJ {N U:Nat}{J:Option (Option Nat)}(h:Ro r N U J H=some H'):∃Z E ps Y W,H[r]? = some (.lp N Z E ps Y W)/\H'=H.set r (.lp U J E ps Y W):=by
 simp only[Ro,Ahn,AU]at h
 obtain⟨row,u,h⟩:=h
 split at h
 ·rename_i st Z E ps Y W
  simp only[Ag,AhL]at h
  obtain⟨rfl,h⟩:=h
  exact⟨Z,E,ps,Y,W,u,(Bw h).2⟩
 ·cases h
theorem XP (h:Acb r H=some H'):∃J E ps N U,H[r]? = some (.lp 0 J E ps N U)/\H'=H.set r (.lp 1 J E ps N U):=by
 simp only[Acb,Ahn,AU]at h
 obtain⟨row,u,h⟩:=h
 split at h
 ·rename_i st J E ps N U
  simp only[Ag,AhL]at h
  obtain⟨rfl,h⟩:=h
  exact⟨J,E,ps,N,U,u,(Bw h).2⟩
 ·cases h
variable {b:Frame} {k:List Item} {cs:List Frame} {c:Code}
theorem Cy:step P (lone (b.atR a (.code (.scope c)::k)) cs w)=.next (lone (b.atR a (.code c :: .inScope c::k)) cs w):=step_lone_go (by simp[stepG,stepG.exec,Frame.atR])
theorem Kb:step P (lone (b.atR a (.inScope c::k)) cs w)=.next (lone (b.atR a k) cs w):=step_lone_go (by simp[stepG,stepG.exec,Frame.atR])
variable {n:Nat}
theorem Rh {F:Fence}{Q:Exit->Act->World->Prop}(h:c.wpIn F n P (fun e a w=>(∀l,e ≠ .goto l)/\Q e a w) a w):(Code.scope c).wpIn F n P Q a w:=by
 intro b k cs a1 Y hr
 have N:(lone (b.atR a (.code (.scope c)::k)) cs w).fenced P F:=fenced_calm Y hr rfl
 obtain⟨e,J,E,⟨hg,W⟩,u⟩:=h b (.inScope c::k) cs a1 Y hr
 cases e with
 | normal=>exact⟨.normal,J,E,W,.head N Cy (StepsIn.trans u (.one (fenced_calm Y hr rfl) Kb))⟩
 | exit Z =>
  have hx:exitTo Z (.inScope c::k)=exitTo Z k:=by simp[exitTo]
  exact⟨.exit Z,J,E,W,fun k' hk=>.head N Cy (u.1 k' (by rw[hx];exact hk)),fun a0 hk=>let ⟨U,h1,h2⟩:=u.2 a0 (by rw[hx];exact hk);⟨U,h1,.head N Cy h2⟩⟩
 | goto l=>exact absurd rfl (hg l)
 | ret=>exact⟨_,J,E,W,.of_steps (.one N Cy) u⟩
 | panic ch=>exact⟨_,J,E,W,.of_steps (.one N Cy) u⟩
 | outgrown=>exact⟨_,J,E,W,.of_steps (.one N Cy) u⟩
theorem TO {ds:List Deferred}(u:Ok w S ρ β M)(hz:z<=w.heap.size)(hm:Mks z w S ρ β M ds)(a0:RdOk rd w S ρ M.H)(fn:FuncId)(tmps:Array Value)(ps:Array Tmp)(assign body:Code):
  ∃w' J n,(Instr.enterLoop fn tmps ps assign body rd).run P w=.ok (w'.heap.size,J) (w'.alloc (.loop { state:=.ready,pending:=none,fn,tmps,params:=ps,assign,body,defers:=n })) /\
   Ok w' S ρ β M/\Stp w S ρ β M w' S ρ M.H/\Mks z w' S ρ β M (J++ds):=by
 cases rd with
 | some l =>
  obtain⟨r,hr⟩:=a0 l rfl
  obtain⟨rfl,st,pd,E,ps',ca,cb,U⟩:=ON hr
  obtain⟨_,Z,_,_,N,_⟩:=u.rows r _ U
  refine⟨w,[],Z.defers,?_,u,Stp.refl _ _ _ _ _,hm⟩
  unfold Instr.enterLoop
  simp only[Sem.run_bind,run_getLoop N,run_newObj_alloc,Result.andThen,Sem.run_pure]
 | none =>
  have hg:Gw w (w.alloc (.deferred (some []))) none:=Gw.alloc w _ _
  obtain⟨k1,k2⟩:=u.grow (S':=S) hg (fun _ h=>h) (fun b h=>.inl h) (fun b h=>AiR (u.lt b h) hg.size)
  obtain⟨Ds,h1,h2,h3⟩:=hm
  refine⟨w.alloc (.deferred (some [])),_,_,by rw[World.size_alloc];exact run_enterLoop_outer fn tmps ps assign body,k1,k2,w.heap.size::Ds,by rw[h1];rfl,List.nodup_cons.2 ⟨fun Y=>?_,h2⟩,fun D W=>?_⟩
  ·have:=(AhY.1 (h3 _ Y).2.1).1
   omega
  ·rcases AhO.1 W with rfl|W
   ·exact⟨hz,World.alloc_heap_new _ _,fun hs=>by have:=u.lt _ hs;omega,fun r hr e=>by have:=u.rlt hr;omega,fun d hd e=>by have:=u.blt hd;omega⟩
   ·exact(h3 D W).step k2 Bx.refl
variable {x:V}
theorem XI {c:Value}{f:Nat}{cap:List V}(h:Afr x=some (f,cap))(N:RepX w S ρ β H x c):f≠yN /\ ∃cs,c=.func (.func f) #[] cs/\RepL w S ρ H cap cs.toList:=by
 unfold Afr at h
 split at h
 ·cases h
  exact(RepX.toV rfl N).fnL
 ·cases h
  have Y:=(RepX.toV rfl N).imm
  cases Y with|fn _ J _ cs U W u E=>exact⟨J,cs,rfl,RepL.ofI U W u E⟩
 ·cases h
theorem NV (hcall:Du P gl call)(hq:BC sh call)(hm:P.follows .mixedOrders=true)(hrel:∀hi dr a c,cmpC P hi gl sh dr a=some c->RelC hi dr a c)(n:Nat)(z:Nat):∀(code:Code) (c:C),cmpC P hi gl sh dr code=some c->wfC nt c=true -> ∀(s:St) (e:Ex) (s':St) (a:Act) (w:World) (S:Nat->Prop) (ρ β:Nat->Nat) (ds:List Deferred) (Q:Exit->Act->World->Prop),
  evC call n c s=some (e,s')->Inv hi nt ds w S ρ β s a->GlOk gl w S->z<=w.heap.size->Mks z w S ρ β s.M ds->RdOk rd w S ρ s.M.H->Post hi nt z w S ρ β s.M s' (Q (exOf e))->code.wpIn (FW rd) 0 P Q a w:=by
 intro code
 induction code with
 | skip =>
  intro c Y _ s e s' a w S ρ β ds Q J Z hG hz hM hR hQ
  simp only[cmpC,Aho]at Y
  subst Y
  simp only[evC,Aho,Ahp]at J
  obtain⟨rfl,rfl⟩:=J
  exact wpIn_skip (hQ a w S ρ β ds Z hM (Stp.refl _ _ _ _ _) Bx.refl)
 | label l =>
  intro c Y _ s e s' a w S ρ β ds Q J Z hG hz hM hR hQ
  simp only[cmpC,Aho]at Y
  subst Y
  simp only[evC,Aho,Ahp]at J
  obtain⟨rfl,rfl⟩:=J
  exact wpIn_label (hQ a w S ρ β ds Z hM (Stp.refl _ _ _ _ _) Bx.refl)
 | scope x ih =>
  intro c Y W s e s' a w S ρ β ds Q J Z hG hz hM hR hQ
  simp only[cmpC]at Y
  refine Rh (ih c Y W s e s' a w S ρ β ds _ J Z hG hz hM hR fun a' w' S' ρ' β' ds' h1 hm' h2 h3=>⟨fun l hl=>(by cases e <;> cases hl),hQ a' w' S' ρ' β' ds' h1 hm' h2 h3⟩)
 | region id ops draw =>
  intro c Y W s e s' a w S ρ β ds Q J Z hG hz hM hR hQ
  simp only[cmpC,Ahn,Aho]at Y
  obtain⟨cs,hcs,rfl⟩:=Y
  simp only[evC,Ahn,Aho,Ahp]at J
  obtain⟨s1,J,rfl,rfl⟩:=J
  exact Ry hcall hq hm hcs W J Z hG fun a' w' S' ρ' β' h1 h2 h3=>hQ a' w' S' ρ' β' ds h1.clear (hM.step h2 h3) h2 h3
 | seq x y ihx ihy =>
  intro c Y W s e s' a w S ρ β ds Q J Z hG hz hM hR hQ
  simp only[cmpC,Ahn,Aho]at Y
  obtain⟨cx,hcx,cy,hcy,rfl⟩:=Y
  simp only[wfC,Ahs]at W
  simp only[evC,Ahn]at J
  obtain⟨⟨e1,s1⟩,he1,N⟩:=J
  refine wpIn_seq (ihx cx hcx W.1 s e1 s1 a w S ρ β ds _ he1 Z hG hz hM hR fun a1 U S1 ρ1 β1 ds1 h1 hm1 h2 h3=>?_)
  cases e1 with
  | nm=>exact ihy cy hcy W.2 s1 e s' a1 U S1 ρ1 β1 ds1 Q N h1 (hG.step h2) (AiF hz h2.size) hm1 (hR.step h2) (hQ.step h2 h3)
  | ex id =>
   simp only[Aho,Ahp]at N
   obtain⟨rfl,rfl⟩:=N
   exact hQ a1 U S1 ρ1 β1 ds1 h1 hm1 h2 h3
  | ret =>
   simp only[Aho,Ahp]at N
   obtain⟨rfl,rfl⟩:=N
   exact hQ a1 U S1 ρ1 β1 ds1 h1 hm1 h2 h3
 | cond x p q ihp ihq =>
  intro c Y W s e s' a w S ρ β ds Q J Z hG hz hM hR hQ
  simp only[cmpC,Ahn,Aho]at Y
  obtain⟨o,ho,cp,hcp,cq,hcq,rfl⟩:=Y
  simp only[wfC,Ahs]at W
  simp only[evC,Ahn]at J
  obtain⟨v,hv,J⟩:=J
  have hr:=NW Z hG ho hv
  split at J
  ·rcases Pm hcp with hcp|rfl
   ·exact wpIn_cond_true (CH (RepX.toV rfl hr)) (ihp cp hcp W.1 s e s' a w S ρ β ds Q J Z hG hz hM hR hQ)
   ·simp[Xr,evC,BW,Ek,AH,Bu,gd,Ah,evO,Ar]at J
  ·rcases Pm hcq with hcq|rfl
   ·exact wpIn_cond_false (CH (RepX.toV rfl hr)) (ihq cq hcq W.2 s e s' a w S ρ β ds Q J Z hG hz hM hR hQ)
   ·simp[Xr,evC,BW,Ek,AH,Bu,gd,Ah,evO,Ar]at J
  ·cases J
 | block id x ih =>
  intro c Y W s e s' a w S ρ β ds Q J Z hG hz hM hR hQ
  simp only[cmpC,Ahn,Aho]at Y
  obtain⟨cx,hcx,rfl⟩:=Y
  simp only[evC,Ahn]at J
  obtain⟨⟨e1,s1⟩,he1,N⟩:=J
  refine wpIn_block (ih cx hcx W s e1 s1 a w S ρ β ds _ he1 Z hG hz hM hR fun a1 U S1 ρ1 β1 ds1 h1 hm1 h2 h3=>?_)
  cases e1 with
  | nm =>
   simp only[Aho,Ahp]at N
   obtain⟨rfl,rfl⟩:=N
   exact hQ a1 U S1 ρ1 β1 ds1 h1 hm1 h2 h3
  | ex j =>
   simp only at N
   show Exit.inBlock id Q (.exit j) a1 U
   simp only[Exit.inBlock]
   split at N
   ·rename_i hb
    have:=AhI hb
    subst this
    simp only[Aho,Ahp]at N
    obtain⟨rfl,rfl⟩:=N
    rw[Ahv rfl]
    exact hQ a1 U S1 ρ1 β1 ds1 h1 hm1 h2 h3
   ·rename_i hb
    have:j≠id:=fun e=>by subst e;simp at hb
    simp only[Aho,Ahp]at N
    obtain⟨rfl,rfl⟩:=N
    rw[Aht this]
    exact hQ a1 U S1 ρ1 β1 ds1 h1 hm1 h2 h3
  | ret =>
   simp only[Aho,Ahp]at N
   obtain⟨rfl,rfl⟩:=N
   exact hQ a1 U S1 ρ1 β1 ds1 h1 hm1 h2 h3
 | loop x ih =>
  intro c Y W s e s' a w S ρ β ds Q J Z hG hz hM hR hQ
  simp only[cmpC,Ahn,Aho]at Y
  obtain⟨cx,hcx,rfl⟩:=Y
  simp only[evC]at J
  refine wpIn_loop_rounds n ?_
  have key:∀(k:Nat) (s:St) (a:Act) (w:World) (S:Nat->Prop) (ρ β:Nat->Nat) (ds:List Deferred),Fn (fun t=>evC call n cx { t with E:=Aw (dr ((CM x).getD 0)) t.E }) k s=some (e,s')->Inv hi nt ds w S ρ β s a->GlOk gl w S->z<=w.heap.size->Mks z w S ρ β s.M ds->RdOk rd w S ρ s.M.H ->
    Post hi nt z w S ρ β s.M s' (Q (exOf e))->Code.roundsIn (FW rd) 0 P x Q k a w:=by
   intro k
   induction k with
   | zero=>intro s a w S ρ β ds J;simp[Fn]at J
   | succ k ihk =>
    intro s a w S ρ β ds J Z hG hz hM hR hQ
    simp only[Fn,Ahn]at J
    obtain⟨⟨e1,s1⟩,he1,N⟩:=J
    rw[roundsIn_succ]
    refine ih cx hcx W _ e1 s1 a w S ρ β ds _ he1 (Z.drop _) hG hz hM hR fun a1 U S1 ρ1 β1 ds1 h1 hm1 h2 h3=>?_
    cases e1 with
    | nm=>exact ihk s1 a1 U S1 ρ1 β1 ds1 N h1 (hG.step h2) (AiF hz h2.size) hm1 (hR.step h2) (hQ.step h2 h3)
    | ex id =>
     simp only[Aho,Ahp]at N
     obtain⟨rfl,rfl⟩:=N
     exact hQ a1 U S1 ρ1 β1 ds1 h1 hm1 h2 h3
    | ret =>
     simp only[Aho,Ahp]at N
     obtain⟨rfl,rfl⟩:=N
     exact hQ a1 U S1 ρ1 β1 ds1 h1 hm1 h2 h3
  exact key n s a w S ρ β ds J Z hG hz hM hR hQ
 | rangeFunc g ps x y ihx ihy =>
  intro c Y W s e s' a w S ρ β ds Q J Z hG hz hM hR hQ
  simp only[cmpC,Ahn,Ag,Aho]at Y
  obtain⟨og,hog,ca,hca,cb,hcb,hps,rfl⟩:=Y
  simp only[wfC,Ahs,AhE,AiL]at W
  obtain⟨hpl,hwa,hwb⟩:=W
  simp only[evC,Ahn,Aho,Ahp]at J
  obtain⟨fv,hfv,⟨gf,cap⟩,hcav,⟨v1,H1⟩,hc1,⟨ex,H2⟩,a0,rfl,rfl⟩:=J
  obtain⟨hny,cs,hgv,hcs⟩:=XI hcav (NW Z hG hog hfv)
  obtain⟨hen,hcl⟩:=(hcall _ _ _ _ _ hc1).1 hny
  refine wpIn_rangeFunc fun fn _=>?_
  obtain⟨U,mark,nd,hent,hok1,hst1,hm1⟩:=TO (P:=P) Z.ok hz hM hR fn a.tmps ps x y
  generalize hrec:({ state:=.ready,pending:=none,fn:=fn,tmps:=a.tmps,params:=ps,assign:=x,body:=y,defers:=nd }:Loop)=rec at hent
  have hg2:Gw U (U.alloc (.loop rec)) none:=Gw.alloc U _ _
  have hold:∀b,b<U.heap.size->(U.alloc (.loop rec)).heap[b]? = U.heap[b]?:=fun b hb=>hg2.block b hb (by simp)
  obtain⟨hok2,hst2⟩:=hok1.newRow (S':=S) (g:=U.heap.size) (row:=.lp 0 none (Io (Aw (dr (1000000+(CM y).getD 0)) s.E)) ps.toList ca cb) hg2 (fun _ h=>h) (fun b h=>.inl h) (fun b h=>AiR (hok1.lt b h) hg2.size) (Ahu _) (fun hto=>by
   refine⟨fun hs=>by have:=hok1.lt _ hs;simp at this,rec,hi,dr,by simpa using World.alloc_heap_new U _,by subst hrec;rfl,by subst hrec;exact hrel _ _ _ _ hca,by subst hrec;exact hrel _ _ _ _ hcb,by subst hrec;rw[show a.tmps.size=nt from Z.sz];exact hwa,by subst hrec;rw[show a.tmps.size=nt from Z.sz];exact hwb,fun p hp=>?_,by subst hrec;rfl,by subst hrec;rfl,fun k u hu=>?_⟩
   ·have h1:=AhE.1 hps p hp
    have h2:=hpl p hp
    subst hrec
    exact⟨by simpa using h1,by show p<a.tmps.size;rw[Z.sz];exact h2⟩
   ·obtain⟨hu1,hu2⟩:=GI _ _ _ hu
    obtain⟨k1,k2,_⟩:=Z.env k u (GJ _ _ _ _ hu1)
    subst hrec
    exact⟨k1,hu2,(hst1.vals _ _ (RepX.toV hu2 k2)).mono hto⟩)
  generalize hρ2:(fun r=>if r=s.M.H.length then U.heap.size else ρ r)=ρ2 at hok2 hst2
  have hρr:ρ2 s.M.H.length=U.heap.size:=by subst hρ2;simp
  have hst12:=hst1.trans (Bx.refl (w:=w) (β:=β) (B:=s.M.B)) hst2
  have hyl:RepV (U.alloc (.loop rec)) S ρ2 (s.M.H++[.lp 0 none (Io (Aw (dr (1000000+(CM y).getD 0)) s.E)) ps.toList ca cb]) (.yl s.M.H.length) (.func (.yield U.heap.size) #[] #[]):=by
   rw[<-hρr]
   exact .yl s.M.H.length 0 none (Io (Aw (dr (1000000+(CM y).getD 0)) s.E)) ps.toList ca cb (by simp)
  have hm2:Mks z (U.alloc (.loop rec)) S ρ2 β ⟨s.M.B,s.M.H++[.lp 0 none (Io (Aw (dr (1000000+(CM y).getD 0)) s.E)) ps.toList ca cb]⟩ (mark++ds):=hm1.step hst2 Bx.refl
  have hrun:=hcl (U.alloc (.loop rec)) S ρ2 β s.M.B (#[.func (.yield U.heap.size) #[] #[]]++cs) hok2 (hG.step hst12) (by
   rw[Array.toList_append]
   exact All2.append (.cons (RepX.ofV hyl) .nil) (RepL.toAll2 (hst12.list hcs)))
  refine⟨U.heap.size,mark,U.alloc (.loop rec),{ target:=.fn (.func gf) cs,args:=#[.func (.yield U.heap.size) #[] #[]] },U.alloc (.loop rec),gf,#[.func (.yield U.heap.size) #[] #[]]++cs,U.alloc (.loop rec),hent,?_,fun _ _=>Aii,?_,fun h=>by simp[Fence.wide]at h,?_⟩
  ·have hk:a.eval (.const (.func (.yield U.heap.size) #[] #[]))=.func (.yield U.heap.size) #[] #[]:=rfl
   simp[resolve,hgv,Deferred.ofValue,hk]
  ·obtain⟨f0,h1,h2,h3⟩:=hen
   have h2 : ¬ f0.name = "runtime.NumGoroutine" := by simpa using h2
   have h3:¬f0.body=none:=by rintro e;simp[e]at h3
   simp[invoke,callFunc,h1,h2,h3]
  ·refine(JI hrun).mono fun e' w3 h=>?_
   obtain⟨c3,S3,ρ3,rfl,hok3,hst3,_⟩:=h
   have hyl3:=hst3.vals _ _ hyl
   obtain⟨hρ3,_⟩:=ON hyl3
   simp only[AbT,Ahn,AU]at a0
   obtain⟨row,hrow,a0⟩:=a0
   split at a0
   rotate_left
   ·cases a0
   rename_i st pd E ps' ca' cb'
   simp only[Ag,Aia,Ahn,Aho,Ahp]at a0
   obtain⟨hst,H3,hset,rfl,rfl⟩:=a0
   have hset:=(Bw hset).2
   subst hset
   obtain⟨_,rec3,hi3,dr3,hrec3,_,_,_,_,_,_,hs3,hp3,_⟩:=hok3.rows _ _ hrow
   obtain⟨hok4,hst4⟩:=Ok.setLp (st':=3) (pd':=pd) hok3 hrow hrec3 rfl
   rw[hρ3]at hrec3 hok4 hst4
   have hnb:rec3.state ≠ .busy:=by
    intro e
    rw[e]at hs3
    match st,hst,hs3 with
    | 0,_,hs3=>cases hs3
    | 2,_,hs3=>cases hs3
    | 3,_,hs3=>cases hs3
    | _+4,_,hs3=>cases hs3
   have a0:=run_endLoop (P:=P) hrec3 hnb
   rw[<-hp3]at a0
   refine⟨_,_,a0,?_⟩
   have fin:Q (exOf (pdX pd)) { a with defers:=mark++a.defers } (w3.putObj U.heap.size (.loop { rec3 with state:=.exhausted,pending:=pdM pd })):=by
    have hst13:=Stp.trans (M1:={ B:=s.M.B,H:=_ }) hst12 (Bx.refl (w:=w) (β:=β) (B:=s.M.B)) hst3
    have hst14:=Stp.trans (M1:={ B:=s.M.B,H:=_ }) hst13 (Bx.refl (w:=w) (β:=β) (B:=s.M.B)) hst4
    refine hQ _ _ S3 ρ3 β (mark++ds) ⟨Z.sz,by show mark++a.defers=_;rw[Z.df],hok4,fun k u hu=>?_,fun k u hu=>?_⟩ ((hm2.step hst3 Bx.refl).step hst4 Bx.refl) hst14 Bx.refl
    ·obtain⟨k1,k2,k3⟩:=Z.env k u hu
     exact⟨k1,k2.step hst14 fun _ _ _=>rfl,k3⟩
    ·obtain⟨k1,k2⟩:=Z.loc k u hu
     exact⟨k1,k2.step hst14 fun _ _ _=>rfl⟩
   match pd,fin with
   | none,fin=>exact fin
   | some none,fin=>exact wpIn_ret fin
   | some (some id),fin=>exact wpIn_exit fin
 | exit id =>
  intro c Y _ s e s' a w S ρ β ds Q J Z hG hz hM hR hQ
  simp only[cmpC,Aho]at Y
  subst Y
  simp only[evC,Aho,Ahp]at J
  obtain⟨rfl,rfl⟩:=J
  exact wpIn_exit (hQ a w S ρ β ds Z hM (Stp.refl _ _ _ _ _) Bx.refl)
 | ret =>
  intro c Y _ s e s' a w S ρ β ds Q J Z hG hz hM hR hQ
  simp only[cmpC,Aho]at Y
  subst Y
  simp only[evC,Aho,Ahp]at J
  obtain⟨rfl,rfl⟩:=J
  exact wpIn_ret (hQ a w S ρ β ds Z hM (Stp.refl _ _ _ _ _) Bx.refl)
 | _ =>
  intro c Y _ s e s' a w S ρ β ds Q J
  simp only[cmpC,Aho]at Y
  subst Y
  simp[evC,BW,Ek,AH,Bu,gd,Ah,evO,Ar]at J
theorem Pt:∀ {n:Nat},Xm hi n=true -> ∀k,k<n->hi.loc k=false
 | 0,_,k,h=>by omega
 | n+1,h,k,hk=>by
  simp only[Xm,Ahs,Aia]at h
  by_cases e:k=n
  ·rw[e];exact h.1
  ·exact Pt h.2 k (by omega)
theorem JA:∀(vs:List V) (k n:Nat) (x:V),Cd (Dp k vs) n=some x->k<=n/\vs[n-k]? = some x
 | [],k,n,x,h=>by simp[Dp,Cd]at h
 | v::vs,k,n,x,h=>by
  simp only[Dp,Cd]at h
  split at h
  ·rename_i u
   have:=AhI u
   subst this
   exact⟨Ahu _,by simpa using h⟩
  ·rename_i u
   obtain⟨J,E⟩:=JA vs (k+1) n x h
   refine⟨by omega,?_⟩
   rw[show n-k=(n-(k+1))+1 by omega]
   simpa using E
theorem Pq (h:Az x=true):∀d off,x ≠ .fa d off:=fun d off e=>by subst e;simp[Az]at h
theorem Ok.back (h:Ok w S ρ β ⟨B,H⟩)(Y:Ok w' S' ρ' β' ⟨B',H'⟩)(k:Stp w S ρ β0 ⟨[],H⟩ w' S' ρ' H'):Ok w' S' ρ' β ⟨B,H'⟩/\Stp w S ρ β ⟨B,H⟩ w' S' ρ' H':=by
 have J:∀d,¬(getB ([]:LE) d).isSome:=fun d=>by simp[getB]
 have nb:∀r d,r<H'.length->(getB B d).isSome->ρ' r≠β d:=fun r d E u e=>by
  rcases k.rown r E with ⟨q,hq,Z⟩|Z
  ·exact h.rb q d hq u (Z.symm.trans e)
  ·have:=h.blt u;omega
 refine⟨⟨Y.rows,fun d cs u=>?_,Y.inj,h.bij,fun r d h1 h2=>nb r d h1 h2,fun d u U=>?_,Y.lt⟩,⟨k.vals,k.stab,k.heap,fun b hb E _=>k.keep b hb E (fun d u=>absurd u (J d)),k.news,k.rown,k.size,k.os,k.tape,k.output,k.drawn⟩⟩
 ·have N:(getB B d).isSome:=by rw[show getB B d=some cs from u];rfl
  obtain⟨W,T,hh,E⟩:=h.boxes d cs u
  exact⟨W,T,by rw[k.keep _ (h.blt N) (fun r E e=>h.rb r d E N e.symm) (fun d u=>absurd u (J d))];exact hh,k.list E⟩
 ·rcases k.news _ U with U|U|⟨r,E,e⟩
  ·exact h.bns d u U
  ·have:=h.blt u;omega
  ·exact h.rb r d E u e.symm
def resM (tmps:Array Value):ResultVar->Sem Value
 | .tmp t=>pure (tmps.getD t undef)
 | .cell x t=>do loadVar t (<-asAddr (tmps.getD x undef))
theorem Rt (fn:Func)(tmps:Array Value):results fn tmps=(do
  let vs <-fn.results.mapM (resM tmps)
  pure (if h:vs.size=1 then vs[0] else .tuple vs)):=by
 unfold results
 congr 2
theorem Xe {r:ResultVar}{q:Res}(N:Aed P hi r=some q)(Y:Inv hi nt ds w S ρ β s a)(U:Rx s q=some v):
  ∃c,(resM a.tmps r).run P w=.ok c w/\RepV w S ρ s.M.H v c:=by
 cases r with
 | tmp t =>
  simp only[Aed,Ag,Aho]at N
  obtain⟨_,rfl⟩:=N
  simp only[Rx,Ahn,Ag,Aho]at U
  obtain⟨x,hx,hn,rfl⟩:=U
  exact⟨_,rfl,RepX.toV hn (Y.env _ _ hx).2.1⟩
 | cell x t =>
  simp only[Aed,Ag,Ahn,AiI,AhL,Aho]at N
  obtain⟨_,ag,a1,z,hz,W,rfl⟩:=N
  obtain⟨i,hi,rfl⟩:=AP.1 hz
  simp only[Rx,Ahn]at U
  obtain⟨y,hy,cs,Z,a0⟩:=U
  obtain⟨b,off,cells,hx,hl,hR,u,_⟩:=FZ Y.ok (Y.env _ _ hy).2.1 Z
  obtain⟨c,J,E⟩:=Ib (P:=P) (w:=w) a1 hi W hl u hR a0
  exact⟨c,by simp only[resM,Sem.run_bind,hx,asAddr,Sem.run_pure,Result.andThen_ok];exact J,E⟩
theorem LC (Y:Inv hi nt ds w S ρ β s a):∀ {rs:List ResultVar} {U:List Res} {vs:List V},Ah (Aed P hi) rs=some U->Ah (Rx s) U=some vs ->
  ∃cs,(rs.mapM (resM a.tmps)).run P w=.ok cs w/\RepL w S ρ s.M.H vs cs
 | [],U,vs,h1,h2=>by
  simp only[Ah,Aho]at h1
  subst h1
  simp only[Ah,Aho]at h2
  subst h2
  exact⟨[],by simp,.nil⟩
 | r::rs,U,vs,h1,h2=>by
  simp only[Ah,Ahn,Aho]at h1
  obtain⟨q,Z,l,hl,rfl⟩:=h1
  simp only[Ah,Ahn,Aho]at h2
  obtain⟨v,hv,l',W,rfl⟩:=h2
  obtain⟨c,N,J⟩:=Xe Z Y hv
  obtain⟨cs,u,E⟩:=LC Y hl W
  refine⟨c::cs,?_,.cons J E⟩
  simp only[List.mapM_cons,Sem.run_bind,N,Result.andThen_ok,u,Sem.run_pure]
theorem Aax {vs:List V}{cs:List Value}(h:RepL w S ρ H vs cs):RepV w S ρ H (tup vs) (if h:cs.toArray.size=1 then cs.toArray[0] else .tuple cs.toArray):=by
 have u:=h.1
 match vs,cs,h,u with
 | [],[],h,_=>exact RepL.toTu (cs:=#[]) .nil
 | [v],[c],h,_=>exact h.head
 | _::_::_,E::c2::cs,h,_ =>
  have:¬(E::c2::cs).toArray.size=1:=by simp
  rw[dif_neg this]
  exact RepL.toTu (by simpa using h)
theorem NE {fn:Func}{N:List Res}(W:Inv hi nt ds w S ρ β s a)(Y:Ah (Aed P hi) fn.results.toList=some N)(U:Ei s N=some v):∃c,(results fn a.tmps).run P w=.ok c w/\RepV w S ρ s.M.H v c:=by
 simp only[Ei,Ahn,Aho]at U
 obtain⟨vs,J,rfl⟩:=U
 obtain⟨cs,E,u⟩:=LC W Y J
 refine⟨_,?_,Aax u⟩
 rw[Rt,Array.mapM_eq_mapM_toList,Sem.run_bind,Sem.run_map,E]
 rfl
theorem AbQ {vs:List V}(h:vs.all Az=true)(u:vs[n]? = some x):Az x=true:=AhE.1 h x (Ahw u)
theorem RepX.off {D:Nat}{o:Obj}{x:V}{c:Value}(h:RepX w S ρ β H x c)(u:¬S D)(E:∀r,r<H.length->D≠ρ r):RepX (w.putObj D o) S ρ β H x c:=by
 cases x with
 | fa d off=>exact h
 | _=>exact RepV.mono (RowsTo.off u E) h
theorem Inv.off (h:Inv hi nt ds w S ρ β s a)(u:MkAt z w S ρ β s.M D):Inv hi nt ds (w.putObj D o) S ρ β s a :=
 ⟨h.sz,h.df,h.ok.off u.2.2.1 u.2.2.2.1 u.2.2.2.2,fun n v E=>let ⟨N,J,U⟩:=h.env n v E;⟨N,J.off u.2.2.1 u.2.2.2.1,U⟩,fun n v E=>let ⟨N,J⟩:=h.loc n v E;⟨N,J.off u.2.2.1 u.2.2.2.1⟩⟩
theorem Jx {fn:Func}{R:Ending->World->Prop}{U:World}{Y:Nat->Prop}{ρ0 β0:Nat->Nat}{Z:Mem}:∀(N:List Nat) (w:World),N.Nodup->(∀D,D∈N->MkAt U.heap.size w S ρ β s.M D)->Inv hi nt ds w S ρ β s a->Stp U Y ρ0 β0 Z w S ρ s.M.H ->
  (∀w,Inv hi nt ds w S ρ β s a->Stp U Y ρ0 β0 Z w S ρ s.M.H -> ∃v,(results fn a.tmps).run P w=.ok v w/\R (.returned v) w) ->
  LeavesInM Fence.wide 0 P fn a.tmps R (N.map fun D=>{ target:=.collected D,args:=#[] }) .returning w
 | [],w,_,_,hI,hst,hR=>hR w hI hst
 | D::N,w,u,hm,hI,hst,hR=>by
  have J:=hm D (by simp)
  have u:=List.nodup_cons.1 u
  refine⟨by simp,.inl ⟨D,_,rfl,run_takeDeferred J.2.1,Jx N _ u.2 (fun D' E=>?_) (hI.off J) (hst.off J.1 J.2.2.1 J.2.2.2.1) hR⟩⟩
  have W:=hm D' (by simp[E])
  exact⟨W.1,(World.putObj_heap_other (fun e=>u.1 (by rw[<-e];exact E))).trans W.2.1,W.2.2⟩
variable {args:Array Value}
theorem TM {f:Nat}{func:Func}{fn:F}(hf:P.funcs[f]? = some func)(hc:Aef P hi gl sh dr func=some fn)(Z:Du P gl call)(hq:BC sh call)(hm:P.follows .mixedOrders=true)(hrel:∀hi dr a c,cmpC P hi gl sh dr a=some c->RelC hi dr a c) 
  (E:evF call n fn vs H=some (v,H')) (u:Ok w S ρ β ⟨B,H⟩) (hG:GlOk gl w S) (hv:All2 (RepX w S ρ β H) vs args.toList):Calls P f args w (Nr w S ρ β ⟨B,H⟩ v H'):=by
 simp only[Aef,Ahn,Ag,Ahs,Aid,Aho]at hc
 obtain⟨code,W,c,hcc,rs,hrs,⟨⟨hlow,hnt⟩,hwf⟩,rfl⟩:=hc
 simp only[evF,Ag,Ahs,AhL,Ahn]at E
 obtain⟨⟨hna,hlen⟩,⟨e,s'⟩,hev,E⟩:=E
 have hsz:args.size=func.params.size+func.nfree:=by have:=All2.length hv;simp at this;omega
 have hI:Inv hi func.ntmps [] w S ρ β ⟨Dp 0 vs,[],⟨[],H⟩⟩ { tmps:=args++Array.replicate (func.ntmps-args.size) undef,defers:=[] }:=by
  refine⟨by simp;omega,rfl,⟨u.rows,fun d cs U=>by simp[getB]at U,u.inj,fun d d' U=>by simp[getB]at U,fun r d _ U=>by simp[getB]at U,fun d U=>by simp[getB]at U,u.lt⟩,fun k x hg=>?_,fun k x hg=>by simp[Cd]at hg⟩
  obtain⟨_,hx⟩:=JA vs 0 k x hg
  simp only[Nat.sub_zero]at hx
  obtain⟨c,hc,hr⟩:=All2.get hv k x hx
  have hk:k<vs.length:=(Ahq.1 hx).1
  have J:=AbQ hna hx
  refine⟨Pt hlow k (by omega),?_,fun d off e=>absurd e (Pq J d off)⟩
  have hk2:k<args.size:=by have:=All2.length hv;simp at this;omega
  have:(args++Array.replicate (func.ntmps-args.size) undef).getD k undef=c:=by
   have Y:args[k]? = some c:=by simpa using hc
   simp[Array.getElem?_append,hk2]
   simpa[hk2]using Y
  rw[this]
  exact RepX.ofV (RepX.toV J hr)
 refine(callsIn_wide (n:=0)).1 (callsIn_of_wp_marks hf W Aii (NV (rd:=none) Z hq hm hrel n w.heap.size code c hcc hwf _ e s' _ w S ρ β [] _ hev hI hG (Ahu _) ⟨[],rfl,List.nodup_nil,fun D hD=>by simp at hD⟩ (fun l h=>by cases h) ?_) rfl)
 intro a' w' S' ρ' β' ds' Y N h2 h3
 have fin:(Ei s' rs).bind (fun v=>some (v,s'.M.H))=some (v,H')->LeavesInM Fence.wide 0 P func a'.tmps (Nr w S ρ β ⟨B,H⟩ v H') a'.defers .returning w':=fun E=>by
  simp only[Ahn,Aho,Ahp]at E
  obtain⟨x,hx,rfl,rfl⟩:=E
  obtain⟨Ds,hds,hnd,N⟩:=N
  rw[Y.df,hds]
  refine Jx Ds w' hnd N Y h2 fun w2 Y h2=>?_
  obtain⟨c,hrun,hrep⟩:=NE Y hrs hx
  obtain⟨k1,k2⟩:=Ok.back u (B':=s'.M.B) (H':=s'.M.H) Y.ok h2
  exact⟨c,hrun,c,S',ρ',rfl,k1,k2,hrep⟩
 cases e with
 | nm=>exact fin E
 | ret=>exact fin E
 | ex id=>cases E
theorem Jo:∀(ps:List Nat) (xs:List V) (cs:List Value) (e:Env) (t:Array Value),All2 (RepX w S ρ β H) xs cs->xs.all Az=true->(∀p,p∈ps->hi.loc p=false/\p<t.size) ->
  (∀n v,Cd e n=some v->hi.loc n=false/\Az v=true/\RepV w S ρ H v (t.getD n undef)) ->
  ((ps.zip cs).foldl (fun t q=>t.setIfInBounds q.1 q.2) t).size=t.size /\ ∀n v,Cd (Jp e ps xs) n=some v->hi.loc n=false/\Az v=true/\RepV w S ρ H v (((ps.zip cs).foldl (fun t q=>t.setIfInBounds q.1 q.2) t).getD n undef)
 | [],xs,cs,e,t,_,_,_,h=>by
  have:Jp e [] xs=e:=by cases xs <;> rfl
  rw[this]
  exact⟨rfl,h⟩
 | p::ps,xs,cs,e,t,N,hn,hp,h=>by
  cases N with
  | nil =>
   have:Jp e (p::ps) []=e:=rfl
   rw[this]
   exact⟨rfl,h⟩
  | @cons x c xs cs N ht =>
   simp only[List.all_cons,Ahs]at hn
   obtain⟨hl,J⟩:=hp p (by simp)
   have:=Jo ps xs cs (CR e p x) (t.setIfInBounds p c) ht hn.2 (fun q W=>let ⟨Z,Y⟩:=hp q (by simp[W]);⟨Z,by simpa using Y⟩) fun n v E=>by
    rw[Dn]at E
    by_cases u:n=p
    ·subst u
     rw[Ahv rfl]at E
     cases E
     refine⟨hl,hn.1,?_⟩
     have:(t.setIfInBounds n c).getD n undef=c:=by simp[J]
     rw[this]
     exact RepX.toV hn.1 N
    ·rw[Aht u]at E
     obtain⟨k1,U,k3⟩:=h n v E
     refine⟨k1,U,?_⟩
     have:(t.setIfInBounds p c).getD n undef=t.getD n undef:=by simp[Array.getElem?_setIfInBounds_ne (AiD u)]
     rw[this]
     exact k3
   refine⟨by simpa using this.1,fun n v E=>this.2 n v E⟩
theorem Tf {xs:List V}(a6:Du P gl call)(hq:BC sh call)(hm:P.follows .mixedOrders=true)(hrel:∀hi dr a c,cmpC P hi gl sh dr a=some c->RelC hi dr a c)(hler:∀hi dr a c,RelC hi dr a c->cmpC P hi gl sh dr a=some c) 
  (W:Er call n (.yl r::xs) H=some (v,H')) (a9:Ok w S ρ β ⟨B,H⟩) (hG:GlOk gl w S) (hx:All2 (RepX w S ρ β H) xs args.toList) :
  ∃J:Loop,w.heap[ρ r]? = some (.loop J)/\args.size=J.params.size/\RoundIn Fence.wide 0 P (ρ r) J.fn ((J.params.zip args).foldl (fun tmps (t,a)=>tmps.setIfInBounds t a) J.tmps) J.assign J.body w (Nr w S ρ β ⟨B,H⟩ v H'):=by
 simp only[Er,Ahn,AU]at W
 obtain⟨row,hrow,W⟩:=W
 split at W
 rotate_left
 ·cases W
 rename_i st pd E ps ca cb
 simp only[Ag,Ahs,AhL,Ahn]at W
 obtain⟨⟨hna,hlen⟩,⟨e1,s1⟩,hev1,W⟩:=W
 obtain⟨hS,J,hi,dr,hrec,hps,hra,hrb,hwa,hwb,hpo,hst,hpd,hE⟩:=a9.rows r _ hrow
 subst hps
 have hargs:args.size=J.params.size:=by
  have h1:=All2.length hx
  have h2:J.params.toList.length=xs.length:=hlen
  simp at h1 h2
  omega
 refine⟨J,hrec,hargs,roundIn_of_wpIn (F:=Fence.wide) Aii ?_⟩
 have N:=Jo (β:=β) (hi:=hi) J.params.toList xs args.toList E J.tmps hx hna hpo hE
 have hfold:(J.params.zip args).foldl (fun tmps (t,a)=>tmps.setIfInBounds t a) J.tmps=(J.params.toList.zip args.toList).foldl (fun t q=>t.setIfInBounds q.1 q.2) J.tmps:=by
  rw[<-Array.foldl_toList,Array.toList_zip]
 rw[hfold]
 generalize (J.params.toList.zip args.toList).foldl (fun t q=>t.setIfInBounds q.1 q.2) J.tmps=tm at N
 obtain⟨htz,N⟩:=N
 have hok0:Ok w S ρ β ⟨[],H⟩:=⟨a9.rows,fun d cs hd=>by simp[getB]at hd,a9.inj,fun d d' hd=>by simp[getB]at hd,fun r d _ hd=>by simp[getB]at hd,fun d hd=>by simp[getB]at hd,a9.lt⟩
 have hyl:RepV w S ρ H (.yl r) (.func (.yield (ρ r)) #[] #[]):=.yl r st pd E J.params.toList ca cb hrow
 have hI:Inv hi J.tmps.size [] w S ρ β ⟨Jp E J.params.toList xs,[],⟨[],H⟩⟩ { tmps:=tm,defers:=[] } :=
  ⟨htz,rfl,hok0,fun k u hu=>let ⟨h1,h2,h3⟩:=N k u hu;⟨h1,RepX.ofV h3,fun d off e=>absurd e (Pq h2 d off)⟩,fun k u hu=>by simp[Cd]at hu⟩
 have hmk0:Mks w.heap.size w S ρ β ⟨[],H⟩ []:=⟨[],rfl,List.nodup_nil,fun D hD=>by simp at hD⟩
 refine NV (rd:=some (ρ r)) a6 hq hm hrel n w.heap.size J.assign ca (hler _ _ _ _ hra) hwa _ e1 s1 _ w S ρ β [] _ hev1 hI hG (Ahu _) hmk0 (fun l h=>by cases h;exact⟨r,hyl⟩) ?_
 intro a1 w1 S1 ρ1 β1 ds1 h1 hmk1 hst1 hbx1
 cases e1 with
 | ex id=>cases W
 | ret=>cases W
 | nm =>
 simp only[Ahn]at W
 obtain⟨H1,hl1,⟨e2,s2⟩,hev2,W⟩:=W
 obtain⟨pd1,E1,ps1,ca1,cb1,a8,rfl⟩:=XP hl1
 obtain⟨_,Z,_,_,a0,_,_,_,_,_,_,hs1,hp1,_⟩:=h1.ok.rows r _ a8
 have hyl1:=hst1.vals _ _ hyl
 obtain⟨hρ1,_⟩:=ON hyl1
 have hrdy:Z.state=.ready:=by
  have:some LoopState.ready=some Z.state:=hs1
  injection this with this
  exact this.symm
 obtain⟨a4,U⟩:=Ok.setLp (st':=1) (pd':=pd1) (ls:=.busy) h1.ok a8 a0 rfl
 rw[hρ1]at a0 a4 U
 have hbeg:=run_beginRound (P:=P) a0 hrdy
 have hbusy:({ Z with state:=.busy,pending:=pdM pd1 }:Loop)={ Z with state:=.busy }:=by rw[hp1]
 rw[hbusy]at a4 U
 refine⟨_,hbeg,?_⟩
 generalize w1.putObj (ρ r) (.loop { Z with state:=.busy })=w2 at a4 U
 have Y:=Stp.trans (M1:={ B:=s1.M.B,H:=_ }) hst1 hbx1 U
 have hI2:Inv hi J.tmps.size ds1 w2 S1 ρ1 β1 ⟨s1.E,[],⟨s1.M.B,s1.M.H.set r (.lp 1 pd1 E1 ps1 ca1 cb1)⟩⟩ a1 :=
  ⟨h1.sz,h1.df,a4,fun k u hu=>let ⟨k1,k2,k3⟩:=h1.env k u hu;⟨k1,k2.step U fun _ _ _=>rfl,k3⟩,fun k u hu=>by simp[Cd]at hu⟩
 have hbx2:Bx w β [] β1 s1.M.B:=hbx1
 refine NV (rd:=some (ρ r)) a6 hq hm hrel n w.heap.size J.body cb (hler _ _ _ _ hrb) hwb _ e2 s2 _ w2 S1 ρ1 β1 ds1 _ hev2 hI2 (hG.step Y) (Y.size) (hmk1.step (B':=s1.M.B) U Bx.refl) (fun l h=>by cases h;exact⟨r,U.vals _ _ hyl1⟩) ?_
 intro a3 w3 S3 ρ3 β3 ds3 h3 hmk3 hst3 hbx3
 have a7:=Stp.trans (M1:={ B:=s1.M.B,H:=_ }) Y hbx2 hst3
 have hbx13:Bx w β [] β3 s2.M.B:=hbx2.trans Y.size hbx3
 have hyl3:=a7.vals _ _ hyl
 obtain⟨hρ3,st3,pd3,E3,ps3,ca3,cb3,hrow3⟩:=ON hyl3
 have fin:∀(st':Nat) (pd':Option (Option Nat)) (ls:LoopState) (t:Bool),Ro r 1 st' pd' s2.M.H=some H'->stM st'=some ls->ls=(if (pdM pd').isNone then .ready else .done)->t=(pdM pd').isNone->v=.m (.b t) ->
   ∃u w4,(Instr.endRound (ρ r) (pdM pd')).run P w3=.ok u w4/\Nr w S ρ β ⟨B,H⟩ v H' (.returned u) w4:=fun st' pd' ls t N hst' hls ht hv=>by
  obtain⟨pd4,E4,ps4,ca4,cb4,a5,rfl⟩:=WJ N
  obtain⟨_,rec3,_,_,a2,_⟩:=h3.ok.rows r _ a5
  obtain⟨hok4,hst4⟩:=Ok.setLp (st':=st') (pd':=pd') (ls:=ls) h3.ok a5 a2 hst'
  rw[hρ3]at a2 hok4 hst4
  have hend:=run_endRound (P:=P) (pdM pd') a2
  rw[<-hls,<-ht]at hend
  have hst14:=Stp.trans (M1:={ B:=s2.M.B,H:=_ }) a7 hbx13 hst4
  obtain⟨k1,k2⟩:=Ok.back a9 hok4 hst14
  subst hv
  exact⟨_,_,hend,_,S3,ρ3,rfl,k1,k2,.m (.b t)⟩
 cases e2 with
 | nm =>
  simp only[Ahn,Aho,Ahp]at W
  obtain⟨H2,N,rfl,rfl⟩:=W
  exact fin 0 none .ready true N rfl rfl rfl rfl
 | ret =>
  simp only[Ahn,Aho,Ahp]at W
  obtain⟨H2,N,rfl,rfl⟩:=W
  exact fin 2 (some none) .done false N rfl rfl rfl rfl
 | ex id =>
  simp only[Ahn,Aho,Ahp]at W
  obtain⟨H2,N,rfl,rfl⟩:=W
  exact fin 2 (some (some id)) .done false N rfl rfl rfl rfl
theorem SE {i:I}(h:view n H x=some i):Az x=true:=by
 cases n with
 | zero=>simp[view]at h
 | succ n=>cases x <;> first|rfl|(simp[view]at h)
theorem Rj {R:Nat->Prop}{is:List I}{args:List Value}(J:Ok w S ρ β ⟨B,H⟩)(E:Sp R H)(h:Ah (view 20 H) vs=some is)(u:∀x,x∈vs->InN R 20 x)(W:All2 (RepX w S ρ β H) vs args):All2 (RepX w (Sof S ρ H R) ρ0 β0 []) (is.map .m) args:=by
 induction W generalizing is with
 | nil =>
  simp only[Ah,Aho]at h
  subst h
  exact .nil
 | cons N t Y =>
  simp only[Ah,Ahn,Aho]at h
  obtain⟨i,hi,l,U,rfl⟩:=h
  exact .cons (RepX.ofV (.m (FP J E 20 _ _ i hi (u _ (by simp)) (RepX.toV (SE hi) N)))) (Y U fun x N=>u x (by simp[N]))
mutual
theorem Kt {S2:Nat->Prop}{u:World}:∀(i:I) {c:Value},Mp i=true->RepI w S i c->RepI u S2 i c
 | .b x,c,_,h=>by cases h;exact .b _
 | .i k n,c,_,h=>by cases h;exact .i _ _
 | .s x,c,_,h=>by cases h;exact .s _ _ ‹_›
 | .nl k,c,_,h=>by cases h;exact .nlp;exact .nlm;exact .nlf;exact .nli;exact .nls
 | .er,c,_,h=>by cases h;exact .er _ _
 | .ag cs,c,hf,h=>by
  cases h with|ag _ N hl cf J E =>
  exact .ag cs N hl cf J (Mn cs hf E)
 | .sl _,c,hf,_=>by simp[Mp]at hf
 | .pt _,c,hf,_=>by simp[Mp]at hf
 | .mp _,c,hf,_=>by simp[Mp]at hf
 | .fn _ _,c,hf,_=>by simp[Mp]at hf
theorem Mn {S2:Nat->Prop}{J:World}:∀(l:List I) {cf:Nat->Value},PF l=true->(∀(j:Nat) x,l[j]? = some x->RepI w S x (cf j)) -> ∀(j:Nat) x,l[j]? = some x->RepI J S2 x (cf j)
 | [],cf,_,_=>fun j x u=>by simp at u
 | y::l,cf,hf,h=>fun j x u=>by
  simp only[PF,Ahs]at hf
  cases j with
  | zero =>
   simp only[List.getElem?_cons_zero,Aho]at u
   subst u
   exact Kt y hf.1 (h 0 y rfl)
  | succ j=>exact Mn l (cf:=fun k=>cf (k+1)) hf.2 (fun k z E=>h (k+1) z (by simpa using E)) j x (by simpa using u)
end
variable {c:Value} {r:V} {ρ0:Nat->Nat} {H0:Hp}
theorem SG {B:LE}(E:Ok w S ρ β ⟨B,H⟩)(h:viewR H v=some r)(U:RepV w S ρ H v c):RepV w (Sof S ρ H fun _=>True) ρ0 H0 r c:=by
 have one:∀ {x:V} {i:I} {c:Value},view 20 H x=some i->RepV w S ρ H x c->RepI w (Sof S ρ H fun _=>True) i c:=fun h k=>FP E Jq 20 _ _ _ h (Iq 20 _) k
 unfold viewR at h
 split at h
 ·simp only[Ahn,Aho]at h
  obtain⟨l,hl,rfl⟩:=h
  obtain⟨cs,rfl,u⟩:=U.tuL
  obtain⟨g1,W⟩:=optMap_get hl
  refine RepL.toTu ⟨by rw[AhD,g1];exact u.1,fun j y N=>?_⟩
  rw[AhN]at N
  obtain⟨z,Z,rfl⟩:=AhW.1 N
  obtain⟨x,J,hf⟩:=W j z Z
  obtain⟨c,Y,hr⟩:=u.2 j x J
  exact⟨c,Y,.m (one hf hr)⟩
 ·simp only[Ahn,Aho]at h
  obtain⟨x,J,rfl⟩:=h
  exact .m (one J U)
def immV:V->Prop
 | .m _=>True
 | .tu vs=>∃l:List I,vs=l.map .m
 | _=>False
theorem SH (h:viewR H v=some r):immV r:=by
 unfold viewR at h
 split at h
 ·simp only[Ahn,Aho]at h
  obtain⟨l,_,rfl⟩:=h
  exact⟨l,rfl⟩
 ·simp only[Ahn,Aho]at h
  obtain⟨x,_,rfl⟩:=h
  trivial
variable {S2:Nat->Prop}
theorem Md (hi:immV r)(h:RepV w S ρ H r c)(k:∀(x:I) c,RepI w S x c->RepI w S2 x c):RepV w S2 ρ0 H0 r c:=by
 cases r with
 | m x=>exact .m (k x c h.imm)
 | tu vs =>
  obtain⟨l,rfl⟩:=hi
  obtain⟨cs,rfl,u⟩:=h.tuL
  obtain⟨U,N,J,W⟩:=u.toI
  refine RepL.toTu (RepL.ofI (by simpa using U) N (fun j x E=>by simpa using J j x E) fun j x E=>k _ _ (W j x E))
 | _=>exact hi.elim
theorem RE (hi:immV r)(N:FG r=true)(h:RepV w S ρ H r c):RepV w S2 ρ0 H0 r c:=by
 cases r with
 | m x=>exact .m (Kt x N h.imm)
 | tu vs =>
  obtain⟨l,rfl⟩:=hi
  obtain⟨cs,rfl,E⟩:=h.tuL
  obtain⟨W,U,J,Y⟩:=E.toI
  refine RepL.toTu (RepL.ofI (by simpa using W) U (fun j x u=>by simpa using J j x u) fun j x u=>Kt x ?_ (Y j x u))
  simp only[FG,List.all_map,AhE]at N
  exact N x (Ahw u)
 | _=>exact hi.elim
variable {n:Nat}
theorem TW {f:Nat}{func:Func}{fn:F}{args:Array Value}{B:LE}(hf:P.funcs[f]? = some func)(hc:Aef P hi gl sh dr func=some fn)(hcall:Du P gl call)(hq:BC sh call)(hm:P.follows .mixedOrders=true)(hrel:∀hi dr a c,cmpC P hi gl sh dr a=some c->RelC hi dr a c) 
  (he:Ey call n fn vs H=some (v,H')) (Z:Ok w S ρ β ⟨B,H⟩) (hG:GlOk gl w S) (hv:All2 (RepX w S ρ β H) vs args.toList):Calls P f args w (Nr w S ρ β ⟨B,H⟩ v H'):=by
 simp only[Ey,Ahn]at he
 obtain⟨is,his,⟨p1,p2⟩,hev,r,J,he⟩:=he
 have main:∀(R:Nat->Prop),Sp R H->(∀x,x∈vs->InN R 20 x) ->
   Calls P f args w fun e w'=>∃c E u Y,e=.returned c/\Ok w' E u Y ⟨[],p2⟩/\Stp w (Sof S ρ H R) id id ⟨[],[]⟩ w' E u p2/\RepV w' (Sof E u p2 fun _=>True) u p2 r c:=fun R hcl hin=>by
  have hokc:Ok w (Sof S ρ H R) id id ⟨[],[]⟩:=⟨fun r row h=>by simp at h,fun d cs h=>by simp[getB]at h,fun r r' h=>by simp at h,fun d d' h=>by simp[getB]at h,fun r d h=>by simp at h,fun d h=>by simp[getB]at h,fun b N=>by
   rcases N with N|⟨r,_,J,e⟩
   ·exact Z.lt b N
   ·rw[e];exact Z.rlt J⟩
  refine(TM hf hc hcall hq hm hrel hev hokc (fun g cs hg=>(hG g cs hg).mono (fun _ _=>rfl) fun _ h=>.inl h) (Rj Z hcl his hin hv)).mono fun e w' hh=>?_
  obtain⟨c,E,u,rfl,k1,U,k3⟩:=hh
  exact⟨c,E,u,_,rfl,k1,U,SG k1 J k3⟩
 have grown:∀ {R:Nat->Prop} {w':World} {E:Nat->Prop} {u:Nat->Nat},Stp w (Sof S ρ H R) id id ⟨[],[]⟩ w' E u p2->Gw w w' none:=fun k =>
  ⟨⟨k.os,k.tape,k.output,k.size,fun b N _=>k.keep b N (fun r J=>by simp at J) (fun d hd=>by simp[getB]at hd)⟩,k.drawn⟩
 have himm:=SH J
 have W:∀ {S0:Nat->Prop} {K:Hp} {R:Nat->Prop} {w':World} {E:Nat->Prop} {u Y:Nat->Nat},Ok w S0 ρ β ⟨B,K⟩->Stp w (Sof S ρ H R) id id ⟨[],[]⟩ w' E u p2->Ok w' E u Y ⟨[],p2⟩ ->
   Ok w' (fun b=>S0 b\/(Sof E u p2 (fun _=>True) b/\w.heap.size<=b)) ρ β ⟨B,K⟩/\Stp w S0 ρ β ⟨B,K⟩ w' (fun b=>S0 b\/(Sof E u p2 (fun _=>True) b/\w.heap.size<=b)) ρ K:=fun {S0 K R w' E u Y} hok0 U k1 =>
  Ok.grow hok0 (grown U) (fun b h=>.inl h) (fun b h=>h.imp id (·.2)) (fun b h=>by
   rcases h with h|⟨h|⟨r,_,J,e⟩,_⟩
   ·exact AiR (hok0.lt b h) U.size
   ·exact k1.lt b h
   ·rw[e];exact k1.rlt J)
 have inS:∀ {S0:Nat->Prop} {R:Nat->Prop} {w':World} {E:Nat->Prop} {u:Nat->Nat},(∀b,Sof S ρ H R b->S0 b)->Stp w (Sof S ρ H R) id id ⟨[],[]⟩ w' E u p2 -> ∀b,Sof E u p2 (fun _=>True) b->S0 b\/(Sof E u p2 (fun _=>True) b/\w.heap.size<=b):=fun h0 U b N=>by
  have hb0:=N
  rcases N with N|⟨r,_,J,e⟩
  ·rcases U.news b N with h|h|⟨r,J,_⟩
   ·exact .inl (h0 b h)
   ·exact .inr ⟨hb0,h⟩
   ·simp at J
  ·rcases U.rown r J with ⟨q,hq,_⟩|h
   ·simp at hq
   ·exact .inr ⟨hb0,by omega⟩
 split at he
 ·rename_i hrs
  simp only[Ag,Aho,Ahp]at he
  obtain⟨hsh,rfl,rfl⟩:=he
  refine(main (· ∈ []) (fun r row h=>by simp at h) fun x hx=>Gx (AhE.1 hsh x hx) (fun r J=>by rw[<-hrs];exact List.mem_flatMap.2 ⟨x,hx,J⟩) 20).mono fun e w' hh=>?_
  obtain⟨c,E,u,Y,rfl,k1,U,k3⟩:=hh
  obtain⟨m1,m2⟩:=W Z U k1
  refine⟨c,_,ρ,rfl,m1,m2,Md himm k3 fun x c h=>h.mono (fun _ _=>rfl) (inS (fun b N=>?_) U)⟩
  rcases N with N|⟨r,J,_⟩
  ·exact N
  ·simp at J
 ·split at he
  ·rename_i hflat
   simp only[Aho,Ahp]at he
   obtain⟨rfl,rfl⟩:=he
   refine(main (fun _=>True) Jq fun x _=>Iq 20 x).mono fun e w' hh=>?_
   obtain⟨c,E,u,Y,rfl,k1,U,k3⟩:=hh
   obtain⟨m1,m2⟩:=W Z U k1
   exact⟨c,_,ρ,rfl,m1,m2,RE himm hflat k3⟩
  ·simp only[Ag,Ahn,Aho,Ahp]at he
   obtain⟨hsh,H2,hfz,rfl,rfl⟩:=he
   obtain⟨f1,f2,f3,f4⟩:=GL _ Z hfz
   refine(main (· ∈ vs.flatMap Dv) (Jr f4) fun x hx=>Gx (AhE.1 hsh x hx) (fun r J=>List.mem_flatMap.2 ⟨x,hx,J⟩) 20).mono fun e w' hh=>?_
   obtain⟨c,E,u,Y,rfl,k1,U,k3⟩:=hh
   obtain⟨m1,m2⟩:=W f1 U k1
   exact⟨c,_,ρ,rfl,m1,Stp.trans (M1:=⟨B,H2⟩) f2 (fun d hd=>.inl ⟨d,hd,rfl⟩) m2,Md himm k3 fun x c h=>h.mono (fun _ _=>rfl) (inS (fun b N=>N) U)⟩
theorem Oa {fn:F}(J:Ey call n fn vs H=some (v,H')):∃rs,AY rs H=some H' /\ ∀K K',Le H K->AY rs K=some K'->Ey call n fn vs K=some (v,K'):=by
 simp only[Ey,Ahn]at J
 obtain⟨is,his,⟨p1,p2⟩,N,r,hr,J⟩:=J
 have W:∀K,Le H K->Ah (view 20 K) vs=some is:=fun K u=>BK (fun x y=>u.view 20 x y) his
 split at J
 ·rename_i Z
  simp only[Ag,Aho,Ahp]at J
  obtain⟨U,rfl,rfl⟩:=J
  refine⟨[],rfl,fun K K' u Y=>?_⟩
  simp only[AY,Aho]at Y
  subst Y
  simp[Ey,W K u,N,hr,Z,gd,U]
 ·rename_i Z
  split at J
  ·rename_i E
   simp only[Aho,Ahp]at J
   obtain⟨rfl,rfl⟩:=J
   refine⟨[],rfl,fun K K' u Y=>?_⟩
   simp only[AY,Aho]at Y
   subst Y
   simp only[Ey,W K u,Ahz,N,hr,E]
  ·rename_i E
   simp only[Ag,Ahn,Aho,Ahp]at J
   obtain⟨U,H2,hfz,rfl,rfl⟩:=J
   refine⟨_,hfz,fun K K' u Y=>?_⟩
   simp only[Ey,W K u,Ahz,N,hr,E,U,gd,Y]
structure PrimOk (P:Program)(gl:Nat->Option (List I))(sh:Nat->Bool)(f:Nat)(p:Bt->List V->Hp->Option (V×Hp)):Prop where
 shared:sh f=true
 enters:Hq P f
 ok:∀call vs H v H',Du P gl call->p call vs H=some (v,H') -> ∀(w:World) S ρ β B (args:Array Value),Ok w S ρ β ⟨B,H⟩->GlOk gl w S->All2 (RepX w S ρ β H) vs args.toList->Calls P f args w (Nr w S ρ β ⟨B,H⟩ v H')
theorem Aca (k f:Nat):Nat.ble k (k+f)=true:=by rw[Aid];exact Nat.le_add_right k f
def RI (ty esz b:Nat)(z:List V):F:=⟨1,[.t 2],.seq (.reg [⟨.v 2,.p .mv,[.k (.m (.nl 4))],none⟩]) (.seq (.seq (.reg [⟨.l 3,.p .mv,[.v 0],none⟩,⟨.v 4,.p (.eqn false 4),[.l 3],none⟩]) (.ite (.v 4) (.seq (.reg [⟨.v 2,.p .mv,[.k (.m (.nl 4))],none⟩]) .ret) .skip))
 (.seq (.reg [⟨.l 5,.p (.bsl esz z 0 []),[],none⟩,⟨.l 6,.p .mv,[.v 0],none⟩,⟨.l 7,.l (.app ty esz b),[.l 5,.l 6],none⟩,⟨.v 2,.p .mv,[.l 7],none⟩]) .ret))⟩
theorem GP (k:Nat)(i:I):EG k (.m i)=true:=rfl
theorem GO (k:Nat)(es:LT):EG k (.ls es)=true:=rfl
theorem ID (i:I):Az (.m i)=true:=rfl
theorem IC (es:LT):Az (.ls es)=true:=rfl
theorem Afm (call:Bt)(n ty esz b:Nat)(z:List V)(H:Hp)(x:V):evF call n (RI ty esz b z) [x] H=gd (Az x) ((FF 4 x).bind fun t=>match t with
 | true=>some (.m (.nl 4),H)
 | false=>(An call ⟨[],H⟩ (.app ty esz b) [.ls [],x]).bind fun p=>gd (EG 2 p.1) (gd (Az p.1) (some (p.1,p.2.H)))):=by
 cases hf:Az x with
 | false=>simp[evF,RI,hf,gd]
 | true =>
  have u:∀k,EG k x=true:=fun k=>by cases x <;> first|rfl|simp[Az]at hf
  cases hn:FF 4 x with
  | none=>simp[evF,RI,hf,gd,evC,BW,Ek,AH,Bu,Ah,evA,evO,Ar,FM,CR,Cd,Dp,Nat.blt,Nat.ble,GP,hn]
  | some t =>
   cases t with
   | true=>simp[evF,RI,hf,gd,evC,BW,Ek,AH,Bu,Ah,evA,evO,Ar,FM,CR,Cd,Dp,Nat.blt,Nat.ble,GP,hn,vb,Ei,Rx,tup,ID]
   | false =>
    cases hl:An call ⟨[],H⟩ (.app ty esz b) [.ls [],x]with
    | none=>simp[evF,RI,hf,gd,evC,BW,Ek,AH,Bu,Ah,evA,evO,Ar,FM,CR,Cd,Dp,Nat.blt,Nat.ble,GP,hn,vb,Ei,Rx,tup,BO,hl]
    | some p =>
     cases h1:EG 2 p.1 with
     | false=>simp[evF,RI,hf,gd,evC,BW,Ek,AH,Bu,Ah,evA,evO,Ar,FM,CR,Cd,Dp,Nat.blt,Nat.ble,GP,hn,vb,Ei,Rx,tup,BO,hl,h1]
     | true =>
      cases h2:Az p.1 with
      | false=>simp[evF,RI,hf,gd,evC,BW,Ek,AH,Bu,Ah,evA,evO,Ar,FM,CR,Cd,Dp,Nat.blt,Nat.ble,GP,hn,vb,Ei,Rx,tup,BO,hl,h1,h2]
      | true=>simp[evF,RI,hf,gd,evC,BW,Ek,AH,Bu,Ah,evA,evO,Ar,FM,CR,Cd,Dp,Nat.blt,Nat.ble,GP,hn,vb,Ei,Rx,tup,BO,hl,h1,h2]
theorem NY {x:V}(u:FF 4 x=some false)(call:Bt)(ty esz b:Nat)(K:Hp):An call ⟨[],K⟩ (.app ty esz b) [.ls [],x]=(elems K x).bind fun xs=>Et ⟨[],K⟩ ty esz b (.ls []) xs:=by
 cases x with
 | m i=>cases i <;> first|rfl|simp[FF]at u
 | _=>rfl
variable {ty esz:Nat} {z:List V}
theorem TU {call:Bt}{b:Nat}{vs:List V}{H H':Hp}{v:V}(h:evF call n (RI ty esz b z) vs H=some (v,H')):
  ∃u,H'=H++u /\ ∀K,Le H K->K.length=H.length->evF call n (RI ty esz b z) vs K=some (v,K++u):=by
 match vs,h with
 | [],h=>simp[evF,RI,gd,Nat.beq]at h
 | _::_::_,h =>
  unfold evF at h
  simp only[Ag,Ahs,AhL]at h
  simp[RI]at h
 | [x],h =>
  simp only[Afm,Ag,Ahn]at h ⊢
  obtain⟨W,t,E,h⟩:=h
  cases t with
  | true =>
   simp only[Aho,Ahp]at h
   obtain⟨rfl,rfl⟩:=h
   exact⟨[],by simp,fun K _ _=>⟨W,true,E,by simp⟩⟩
  | false =>
   simp only[NY E,Ahn,Ag,Aho,Ahp]at h
   obtain⟨p,⟨xs,Y,N⟩,h1,h2,rfl,rfl⟩:=h
   cases xs with
   | nil =>
    simp only[Et,Aho]at N
    subst N
    refine⟨[],by simp,fun K U _=>⟨W,false,E,?_⟩⟩
    simp only[NY E,Ahn,Ag,Aho,Ahp]
    exact⟨(.ls [],⟨[],K⟩),⟨[],U.elems Y,rfl⟩,h1,h2,rfl,by simp⟩
   | cons y J =>
    simp only[Et,Bs,Ag,Aho]at N
    obtain⟨Z,rfl⟩:=N
    refine⟨_,rfl,fun K U hl=>⟨W,false,E,?_⟩⟩
    simp only[NY E,Ahn,Ag,Aho,Ahp]
    refine⟨(.sl K.length (Bn []++y::J).length esz 0 (Bn []++y::J).length false,⟨[],K++[.cs ty esz (Bn []++y::J) 0 false]⟩),⟨y::J,U.elems Y,?_⟩,rfl,rfl,by rw[hl],rfl⟩
    simp only[Et,Bs,Ag]
    exact⟨Z,True.intro⟩
theorem PL {G:Cfg}{f b:Nat}(E:G.prim f=none)(J:G.fn f=some (RI ty esz b z))(hs:G.sh f=true):∀ {n:Nat} {vs:List V} {H H':Hp} {v:V},BE G n f vs H=some (v,H') ->
  ∃u,H'=H++u /\ ∀K,Le H K->K.length=H.length->BE G n f vs K=some (v,K++u)
 | 0,_,_,_,_,h=>by simp[BE]at h
 | n+1,vs,H,H',v,h=>by
  simp only[BE,E,J,hs]at h ⊢
  exact TU h
structure CfgOk (P:Program)(gl:Nat->Option (List I))(G:Cfg):Prop where
 mixed:P.follows .mixedOrders=true
 fn : ∀ f fn, G.prim f = none -> G.fn f = some fn -> ∃ func hi dr, P.funcs[f]? = some func /\ (func.name == "runtime.NumGoroutine") = false /\ Aef P hi gl G.sh dr func = some fn
 prim:∀f p,G.prim f=some p->PrimOk P gl G.sh f p
 shY:G.sh yN=true
 fnY:G.fn yN=none
 prY:G.prim yN=none
 rel:∀hi dr a c,cmpC P hi gl G.sh dr a=some c->RelC hi dr a c
 ler:∀hi dr a c,RelC hi dr a c->cmpC P hi gl G.sh dr a=some c
 mks:∀n,Wp G.sh (BE G n)
def Good (P : Program) (gl : Nat -> Option (List I)) (sh : Nat -> Bool) (p : Nat × F) : Prop := ∃ func hi dr, P.funcs[p.1]? = some func /\ (func.name == "runtime.NumGoroutine") = false /\ Aef P hi gl sh dr func = some p.2
def Goods (P:Program)(gl:Nat->Option (List I))(sh:Nat->Bool):List (Nat×F)->Prop
 | []=>True
 | p::r=>Good P gl sh p/\Goods P gl sh r
theorem Goods.mem {l:List (Nat×F)}(h:Goods P gl sh l):∀p,p∈l->Good P gl sh p:=by
 induction l with
 | nil=>intro p u;simp at u
 | cons q l E =>
  intro p u
  rcases AhO.1 u with rfl|u
  ·exact h.1
  ·exact E h.2 p u
theorem T.look_mem:∀ {t:T} {n:Nat} {f:F},t.look n=some f->(n,f)∈t.all
 | .nil,n,f,h=>by simp[T.look]at h
 | .lf k g,n,f,h=>by
  simp only[T.look]at h
  split at h
  ·rename_i u
   have:=AhI u
   subst this
   simp only[Aho]at h
   subst h
   simp[T.all]
  ·cases h
 | .nd m a b,n,f,h=>by
  simp only[T.look]at h
  simp only[T.all,Aig]
  split at h
  ·exact .inl (T.look_mem h)
  ·exact .inr (T.look_mem h)
theorem Mv {G:Cfg}(u:CfgOk P gl G):∀n,Du P gl (BE G n)/\BC G.sh (BE G n)
 | 0=>⟨fun f vs H v H' h=>by simp[BE]at h,fun f _ vs H v H' h=>by simp[BE]at h,u.mks 0⟩
 | n+1=>by
  obtain⟨J,W⟩:=Mv u n
  refine⟨fun f vs H v H' h=>⟨fun Y=>?_,fun hf=>?_⟩,fun f E vs H v H' h=>?_,u.mks (n+1)⟩
  ·unfold BE at h
   split at h
   ·rename_i p hp
    have:=u.prim f p hp
    exact⟨this.enters,fun w S ρ β B args U N h3=>this.ok _ _ _ _ _ J h w S ρ β B args U N h3⟩
   ·rename_i hp
    split at h
    ·rename_i fn a1
     obtain⟨func,hi,dr,hf,a0,hc⟩:=u.fn f fn hp a1
     have hen:Hq P f:=⟨func,hf,a0,by
      simp only[Aef,Ahn]at hc
      obtain⟨code,Z,_⟩:=hc
      rw[Z]
      rfl⟩
     refine⟨hen,fun w S ρ β B args U N h3=>?_⟩
     split at h
     ·exact TM hf hc J W u.mixed u.rel h U N h3
     ·exact TW hf hc J W u.mixed u.rel h U N h3
    ·simp only[Ag,AhL]at h
     exact absurd h.1 Y
  ·subst hf
   unfold BE at h
   rw[u.prY,u.fnY]at h
   simp only[Ag,Nat.beq_refl,true_and]at h
   have hvs:∃r xs,vs=.yl r::xs:=by
    unfold Er at h
    split at h
    ·exact⟨_,_,rfl⟩
    ·cases h
   obtain⟨r,xs,rfl⟩:=hvs
   exact⟨r,xs,rfl,fun w S ρ β B args U N h3=>Tf J W u.mixed u.rel u.ler h U N h3⟩
  ·have Y:f≠yN:=fun e=>by subst e;rw[u.shY]at E;cases E
   unfold BE at h
   split at h
   ·rename_i p hp
    have:=(u.prim f p hp).shared
    rw[this]at E
    cases E
   ·rename_i hp
    split at h
    ·rename_i fn a1
     rw[E]at h
     obtain⟨rs,U,N⟩:=Oa h
     refine⟨rs,U,fun K K' hle hf2=>?_⟩
     unfold BE
     simp only[hp,a1,E]
     exact N K K' hle hf2
    ·simp only[Ag,AhL]at h
     exact absurd h.1 Y
end
end Go.Mx
set_option linter.unusedVariables false
namespace Go.Mx
variable {P:Program}
def ccX (ty:Nat)(_:Bt)(vs:List V)(H:Hp):Option (V×Hp):=match vs with
 | [.pt r ver 0 0]=>(nth H r).bind fun row=>match row with
  | .cs ty' esz [[a,b]] _ false=>gd (Nat.beq ty ty'&&Nat.beq ver 1&&Nat.beq esz 2) (match a with
   | .m (.nl 0)=>(AN H r (.cs ty' esz [[.pt r 1 0 0,b]] 1 false)).bind fun H'=>some (.tu [],H')
   | .pt r' ver' 0 0=>gd (Nat.beq r r'&&Nat.beq ver' 1) (some (.tu [],H))
   | _=>none)
  | _=>none
 | _=>none
def Wq (P:Program)(f ty:Nat):Prop:=∀(b cells:Nat) (w:World),w.cell? ⟨b,0,none⟩=some (.pointer none)->w.shape? b=some (ty,cells)->0<cells->liesAt P P.depth ty (cells / P.cellsOf ty) 0 ty 1=true->w.frozen? ⟨b,0,none⟩=false ->
 Calls P f #[.pointer (some ⟨b,0,none⟩)] w fun e w'=>e=.returned (.tuple #[])/\w'=w.setCell ⟨b,0,none⟩ (.pointer (some ⟨b,0,none⟩))
def Aat (P:Program)(f:Nat):Prop:=∀(b:Nat) (w:World),w.cell? ⟨b,0,none⟩=some (.pointer (some ⟨b,0,none⟩))->Calls P f #[.pointer (some ⟨b,0,none⟩)] w fun e w'=>e=.returned (.tuple #[])/\w'=w
variable {T:TypeId}
theorem Tx {n:Nat}(hs:P.cellsOf T≠0)(N:1<=n):liesAt P P.depth T n 0 T 1=true:=by
 have u:∃d,P.depth=d+1:=⟨2*(P.types.size+Made.depth)+1,by simp[Program.depth]⟩
 obtain⟨d,u⟩:=u
 have E:sameLayout P P.depth T T=true:=by rw[u];simp[sameLayout]
 have J:rowAt P (sameLayout P P.depth · T) P.depth T n 0 1=true:=by
  rw[u]at E ⊢
  simp[rowAt,hs,N,E]
 rw[u]at J ⊢
 simp only[liesAt]
 rw[u,J]
 rfl
theorem NA {w:World}{g:Nat}{cur:Array Value}{v:Value}{mk:Nat×Nat}(u:w.heap[g]? = some (.cells cur T mk)):w.setCell ⟨g,0,none⟩ v=w.setRow g (cur.setIfInBounds 0 v):=by
 have E:=(AhY.1 u).1
 have J:w.heap[g]=.cells cur T mk:=(AhY.1 u).2
 unfold World.setCell World.setRow
 congr 1
 apply Array.ext_getElem?
 intro i
 simp only[Array.getElem?_modify]
 by_cases h:g=i
 ·subst h
  simp[u]
 ·simp[h]
theorem cc_ok {f ty:Nat}(a0:Wq P f ty)(a7:Aat P f){sh:Nat->Bool}{gl:Nat->Option (List I)}(hen:Hq P f)(hsh:sh f=true)(hcz:P.cellsOf ty=2):PrimOk P gl sh f (ccX ty) where
 shared:=hsh
 enters:=hen
 ok:=by
  intro call vs H v H' _ E w S ρ β B args a6 hG hv
  unfold ccX at E
  split at E
  ·rename_i r ver
   simp only[Ahn,AU]at E
   obtain⟨row,W,E⟩:=E
   split at E
   ·rename_i ty' esz x y a1
    simp only[Ag,Ahs,AhL]at E
    obtain⟨⟨⟨rfl,rfl⟩,rfl⟩,E⟩:=E
    obtain⟨c,U,hx⟩:=hv.inv1
    have hV:=RepX.toV rfl hx
    cases hV with|pt _ _ _ _ ty2 esz2 es2 base2 fz2 q N h2 hix hb =>
    rw[W]at N
    simp only[Aho,Row.cs.injEq]at N
    obtain⟨rfl,rfl,rfl,rfl,rfl⟩:=N
    have Y:(⟨B,H⟩:Mem).H[r]? = some (Row.cs ty 2 [[x,y]] a1 false):=W
    obtain⟨hbl,hpos,hU,_,hns,u,cap,mk,hh,Z,hcs,a2,hcm,hr⟩:=a6.rows r _ Y
    have Z:=Z rfl
    simp only[Aiu]at hbl a2 hr
    obtain⟨b,rfl,hA⟩:=hb (by omega)
    have hbe:b=ρ r:=by
     rcases hA with hA|⟨_,a5,_⟩
     ·exact hA
     ·exact absurd rfl a5
    subst hbe
    have U:args=#[.pointer (some ⟨ρ r,0,none⟩)]:=by
     apply Array.ext'
     rw[U]
    subst U
    have hfl:([[x,y]]:L0).flatten=[x,y]:=rfl
    rw[hfl]at hr
    obtain⟨c0,rest,a3,hc0,hr1⟩:=hr.inv_cons
    obtain⟨c1,rest1,a8,hc1,hr2⟩:=hr1.inv_cons
    have:=hr2.inv_nil
    subst this
    subst a8
    have hsz2:2<=u.size:=by omega
    have g0:u[0]? = some c0:=by
     have:(u.toList.take (1*2))[0]? = some c0:=by rw[a3];rfl
     rw[AhX,Ahv (by omega)]at this
     simpa using this
    have g1:u[1]? = some c1:=by
     have:(u.toList.take (1*2))[1]? = some c1:=by rw[a3];rfl
     rw[AhX,Ahv (by omega)]at this
     simpa using this
    have k0:w.cell? ⟨ρ r,0,none⟩=some c0:=by rw[cell_of_row w _ 0 u _ _ hh];exact g0
    split at E
    ·simp only[Ahn,Aho,Ahp]at E
     obtain⟨H2,hH2,rfl,rfl⟩:=E
     obtain⟨hrl,rfl⟩:=Bw hH2
     have e0:c0=.pointer none:=by have:=hc0.imm;cases this;rfl
     subst e0
     refine(a0 (ρ r) u.size w k0 (by unfold World.shape?;rw[hh]) (by omega) (Tx (by rw[hcz];decide) (by rw[hcz];omega)) (Jn hh Z (by omega))).mono fun e w' h=>?_
     obtain⟨rfl,rfl⟩:=h
     rw[NA hh]
     have a4:RepV w S ρ H (.pt r 1 0 0) (.pointer (some ⟨ρ r,0,none⟩)):=by
      have:=RepV.pt (w:=w) (S:=S) (ρ:=ρ) (H:=H) r 1 0 0 ty 2 [[.m (.nl 0),y]] a1 false ⟨ρ r,0,none⟩ W (by simp) (by omega) (fun _=>⟨ρ r,by simp,.inl rfl⟩)
      exact this
     obtain⟨ok',st'⟩:=SX (es':=[[.pt r 1 0 0,y]]) (arr:=u.setIfInBounds 0 (.pointer (some ⟨ρ r,0,none⟩))) a6 Y hh Z (fun e E=>by simp at E;subst E;rfl) rfl (by simp) hcs (by simpa using a2) hcm (by
      have e1:(u.setIfInBounds 0 (.pointer (some ⟨ρ r,0,none⟩))).toList.take (1*2)=[.pointer (some ⟨ρ r,0,none⟩),c1]:=by
       rw[Array.toList_setIfInBounds,List.take_set,a3]
       rfl
      show RepL w S ρ H [.pt r 1 0 0,y] ((u.setIfInBounds 0 (.pointer (some ⟨ρ r,0,none⟩))).toList.take (1*2))
      rw[e1]
      exact .cons a4 (.cons hc1 .nil))
     exact⟨_,S,ρ,rfl,ok',st',RepL.toTu (cs:=#[]) .nil⟩
    ·rename_i r' ver'
     simp only[Ag,Ahs,AhL,Aho,Ahp]at E
     obtain⟨⟨rfl,rfl⟩,rfl,rfl⟩:=E
     have e0:c0=.pointer (some ⟨ρ r,0,none⟩):=by
      cases hc0 with|pt _ _ _ _ ty3 esz3 es3 base3 fz3 q3 J h3 hix3 hb3 =>
      rw[W]at J
      simp only[Aho,Row.cs.injEq]at J
      obtain⟨rfl,rfl,rfl,rfl,rfl⟩:=J
      obtain⟨b,rfl,hA3⟩:=hb3 (by omega)
      rcases hA3 with rfl|⟨_,a5,_⟩
      ·rfl
      ·exact absurd rfl a5
     subst e0
     refine(a7 (ρ r) w k0).mono fun e w' h=>?_
     obtain⟨rfl,rfl⟩:=h
     exact⟨_,S,ρ,rfl,a6,Stp.refl _ _ _ _ _,RepL.toTu (cs:=#[]) .nil⟩
    ·cases E
   ·cases E
  ·cases E
end Go.Mx
set_option linter.unusedVariables false
namespace Go.Mx
variable {P:Program}
def puX (g:List I->Option I)(_:Bt)(vs:List V)(H:Hp):Option (V×Hp):=(BF vs).bind fun is=>(g is).bind fun i=>some (.m i,H)
theorem PV {w:World}{S:Nat->Prop}{ρ β:Nat->Nat}{H:Hp}:∀ {vs:List V} {is:List I} {l:List Value},BF vs=some is->All2 (RepX w S ρ β H) vs l->All2 (RepI w S) is l
 | [],is,l,h,hv=>by
  simp only[BF,Aho]at h
  subst h
  cases hv
  exact .nil
 | .m x::r,is,l,h,hv=>by
  simp only[BF,Ahn,Aho]at h
  obtain⟨J,hl,rfl⟩:=h
  cases hv with
  | cons E u=>exact .cons (RepV.imm (RepX.toV rfl E)) (PV hl u)
 | .un::_,is,l,h,_=>by simp[BF]at h
 | .ls _::_,is,l,h,_=>by simp[BF]at h
 | .sl .. :: _,is,l,h,_=>by simp[BF]at h
 | .pt .. :: _,is,l,h,_=>by simp[BF]at h
 | .fa .. :: _,is,l,h,_=>by simp[BF]at h
 | .mp _::_,is,l,h,_=>by simp[BF]at h
 | .fn .. :: _,is,l,h,_=>by simp[BF]at h
 | .ag _::_,is,l,h,_=>by simp[BF]at h
 | .tu _::_,is,l,h,_=>by simp[BF]at h
def PuOk (P:Program)(f:Nat)(g:List I->Option I):Prop:=∀(is:List I) (i:I),g is=some i -> ∀(w:World) (S:Nat->Prop) (args:Array Value),All2 (RepI w S) is args.toList->Calls P f args w fun e w'=>(∃c,e=.returned c/\RepI w S i c)/\w'=w
theorem pu_ok {f:Nat}{g:List I->Option I}(W:PuOk P f g){sh:Nat->Bool}{gl:Nat->Option (List I)}(u:Hq P f)(J:sh f=true):PrimOk P gl sh f (puX g) where
 shared:=J
 enters:=u
 ok:=by
  intro call vs H v H' _ U w S ρ β B args N hG Z
  simp only[puX,Ahn,Aho,Ahp]at U
  obtain⟨is,E,i,hi,rfl,rfl⟩:=U
  refine(W is i hi w S args (PV E Z)).mono fun e w' h=>?_
  obtain⟨⟨c,rfl,Y⟩,rfl⟩:=h
  exact⟨c,S,ρ,rfl,N,Stp.refl _ _ _ _ _,.m Y⟩
def ixB:List Nat->Nat->Nat->Int
 | [],_,_=>-1
 | x::r,c,k=>match Nat.beq x c with
  | true=>Int.ofNat k
  | false=>ixB r c (k+1)
def ibG:List I->Option I
 | [.s l,.i .u8 (.ofNat c)]=>gd (Nat.blt c 256) (some (.i .i64 (ixB l c 0)))
 | _=>none
theorem ZB (c:Nat)(N:c<256):∀(l:List UInt8) (k:Nat),ixB (l.map UInt8.toNat) c k=(if Lib.indexByte l c.toUInt8=-1 then -1 else Lib.indexByte l c.toUInt8+k)
 | [],k=>rfl
 | b::l,k=>by
  have J:=ZB c N l (k+1)
  have E:=Lib.indexByte_ge l c.toUInt8
  have u:(b==c.toUInt8)=Nat.beq b.toNat c:=by
   rw[Aio]
   simp only[beq_iff_eq,AhL]
   constructor
   ·intro h
    subst h
    simp only[Nat.toUInt8,UInt8.toNat_ofNat',Nat.reducePow]
    omega
   ·intro h
    subst h
    apply UInt8.toNat.inj
    simp
  simp only[AhV,ixB,Lib.indexByte,u]
  cases Nat.beq b.toNat c with
  | true=>simp
  | false =>
   simp only[J,AiQ,if_false,beq_iff_eq]
   by_cases h:Lib.indexByte l c.toUInt8=-1
   ·simp[h]
   ·simp only[h,if_false]
    have:¬Lib.indexByte l c.toUInt8+1=-1:=by omega
    rw[Aht this]
    omega
def Aas (P:Program)(f:Nat):Prop:=∀(s:ByteArray) (c:Int) (w:World),Calls P f #[.string s,.int .u8 c] w fun e w'=>e=.returned (.int .i64 (Lib.indexByte s.data.toList c.toNat.toUInt8))/\w'=w
theorem ib_pu {f:Nat}(h:Aas P f):PuOk P f ibG:=fun is i u w S args Y=>by
 unfold ibG at u
 split at u
 ·rename_i l c
  simp only[Ag,AiL,Aho]at u
  obtain⟨hc,rfl⟩:=u
  obtain⟨a1,W⟩:∃a b,args.toList=[a,b]/\RepI w S (.s l) a/\RepI w S (.i .u8 (.ofNat c)) b:=by
   generalize args.toList=m at Y
   cases Y with
   | cons J t =>
    cases t with
    | cons E t =>
     cases t
     exact⟨_,_,rfl,J,E⟩
  obtain⟨b1,U,J,E⟩:=W
  cases J with
  | s x _ Z =>
   cases E
   have U:args=#[.string x,.int .u8 (Int.ofNat c)]:=by
    apply Array.ext'
    rw[U]
   subst U
   refine(h x (Int.ofNat c) w).mono fun e w' he=>?_
   obtain⟨rfl,rfl⟩:=he
   refine⟨⟨_,rfl,?_⟩,rfl⟩
   have N:=ZB c hc x.data.toList 0
   rw[Z]at N
   have e2:(if Lib.indexByte x.data.toList c.toUInt8=-1 then -1 else Lib.indexByte x.data.toList c.toUInt8+((0:Nat):Int))=Lib.indexByte x.data.toList c.toUInt8:=by
    split <;> omega
   rw[e2]at N
   rw[N]
   exact .i _ _
 ·cases u
end Go.Mx
