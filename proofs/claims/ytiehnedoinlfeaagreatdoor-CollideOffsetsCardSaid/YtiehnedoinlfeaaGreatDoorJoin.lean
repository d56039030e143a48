/- From the rows' readings to the machine's values: whatever can be read as data stands for immutable values, typed as the type says, bounded as the bulk is. -/
import Derived.Test.YtiehnedoinlfeaaGreatDoorBd
import Derived.Test.YtiehnedoinlfeaaGreatDoorRows
import Derived.ProofKit
set_option linter.unusedSimpArgs false
set_option linter.unusedVariables false
set_option linter.unusedSectionVars false
namespace Go.Mx
open Go.Proofs.YtiehnedoinlfeaaGreatDoor (Rows.uptoBulk Rows.uptoBulkAll)
section
variable {P:Program} {W:World} {S:Nat->Prop} {H:Type} {enc:TypeId×Value->H} {base:Nat} {sp:Nat->Bool} {held:Bool}
def Hb (g:TypeId->List I->Prop):List Field->List I->Prop
 | [],l=>l=[]
 | f::r,l=>∃x y,l=x++y/\g f.type x/\Hb g r y
def Fits (P:Program)(B:Nat):Nat->TypeId->List I->Prop
 | 0,_,_=>False
 | n+1,t,l=>match P.underlying t with
  | some .bool=>∃x,l=[.b x]
  | some (.int k)=>∃x,l=[.i k x]/\k.min<=x/\x<=k.max
  | some .string=>∃s,l=[.s s]/\s.length<=B /\ ∀c,c∈s->c<256
  | some (.slice e)=>l=[.nl 4] \/ ∃es,l=[.sl es]/\es.length<=B /\ ∀x,x∈es->Fits P B n e x
  | some (.pointer e)=>l=[.nl 0] \/ ∃x,l=[.pt x]/\Fits P B n e x
  | some (.array m e)=>∃es:List (List I),l=es.flatten/\es.length=m /\ ∀x,x∈es->Fits P B n e x
  | some (.struct fs)=>Hb (Fits P B n) fs.toList l
  | _=>False
def ZA (g:TypeId->Option Nat):Nat->List Field->Option Nat
 | o,[]=>some o
 | o,f::r=>(g f.type).bind fun s=>gd (Nat.beq f.offset o) (ZA g (o+s) r)
def Lj (P:Program):Nat->TypeId->Option Nat
 | 0,_=>none
 | n+1,t=>match P.underlying t with
  | some .bool=>some 1
  | some (.int _)=>some 1
  | some .string=>some 1
  | some (.slice e)=>(Lj P n e).bind fun s=>gd (Nat.beq s (P.cellsOf e)&&Nat.ble 1 s) (some 1)
  | some (.pointer e)=>(Lj P n e).bind fun s=>gd (Nat.beq s (P.cellsOf e)&&Nat.ble 1 s) (some 1)
  | some (.array m e)=>(Lj P n e).bind fun s=>gd (Nat.beq s (P.cellsOf e)&&Nat.beq (m*s) (P.cellsOf t)) (some (m*s))
  | some (.struct fs)=>(ZA (fun u=>(Lj P n u).bind fun s=>gd (Nat.beq s (P.cellsOf u)) (some s)) 0 fs.toList).bind fun s=>gd (Nat.beq s (P.cellsOf t)) (some s)
  | _=>none
def toIs (g:TypeId->DataW H->Option (List I)):List Field->List (DataW H)->Option (List I)
 | [],[]=>some []
 | f::r,d::ds=>(g f.type d).bind fun x=>(toIs g r ds).bind fun y=>some (x++y)
 | _,_=>none
def toI (P:Program):Nat->TypeId->DataW H->Option (List I)
 | 0,_,_=>none
 | n+1,t,d=>match P.underlying t,d with
  | some .bool,.lit (.bool b)=>some [.b b]
  | some (.int _),.lit (.int k x)=>some [.i k x]
  | some .string,.lit (.string l)=>some [.s (l.map UInt8.toNat)]
  | some (.slice _),.nil=>some [.nl 4]
  | some (.slice e),.slice els _=>(Ah (toI P n e) els).bind fun es=>some [.sl es]
  | some (.pointer _),.nil=>some [.nl 0]
  | some (.pointer e),.ptr x=>(toI P n e x).bind fun l=>some [.pt l]
  | some (.array _ e),.agg parts=>(Ah (toI P n e) parts).bind fun es=>some es.flatten
  | some (.struct fs),.agg parts=>toIs (toI P n) fs.toList parts
  | _,_=>none
def Reps (W:World)(S:Nat->Prop)(l:List I)(cs:List Value):Prop:=l.length=cs.length /\ ∀(j:Nat) x,l[j]? = some x -> ∃c,cs[j]? = some c/\RepI W S x c
theorem Reps.one {x:I}{c:Value}(h:RepI W S x c):Reps W S [x] [c]:=⟨rfl,fun j y u=>by
 cases j with
 | zero=>simp at u;subst u;exact⟨c,rfl,h⟩
 | succ j=>simp at u⟩
variable {cs:List Value}
theorem Reps.append {l N:List I}{u:List Value}(h:Reps W S l cs)(k:Reps W S N u):Reps W S (l++N) (cs++u):=by
 refine⟨by simp[h.1,k.1],fun j x z=>?_⟩
 by_cases Q:j<l.length
 ·rw[AhM Q]at z
  obtain⟨c,J,E⟩:=h.2 j x z
  exact⟨c,by rw[AhM (by rw[<-h.1];exact Q)];exact J,E⟩
 ·rw[AhZ (by omega)]at z
  obtain⟨c,J,E⟩:=k.2 _ x z
  exact⟨c,by rw[AhZ (by rw[<-h.1];omega),<-h.1];exact J,E⟩
theorem EH {u β:Type}{f:u->Option β}:∀ {l:List u} {m:List β},l.mapM f=some m->Ah f l=some m
 | [],m,h=>by simp at h;subst h;rfl
 | a::l,m,h=>by
  simp only[List.mapM_cons,Option.bind_eq_bind,Ahn,Option.pure_def,Aho]at h
  obtain⟨b,z,r,E,rfl⟩:=h
  simp[Ah,z,EH E]
theorem IE {a:Addr}{n:Nat}(h:W.cells? base a n=some cs)(hn:1<=n):∃b off,a=⟨b,off,none⟩/\b<W.heap.size/\cs.length=n /\ ∀(j:Nat) c,cs[j]? = some c->W.cell? ⟨b,off+j,none⟩=some c:=by
 unfold World.cells? at h
 split at h
 ·have h:=EH h
  obtain⟨Y,U⟩:=optMap_get h
  rw[List.length_range]at Y
  obtain⟨b,off,u⟩:=a
  have h0:∃c,W.cell? ⟨b,off,u⟩=some c:=by
   obtain⟨x,z,J⟩:=U 0 (cs[0]'(by omega)) (Ahr (by omega))
   rw[List.getElem?_range (by omega)]at z
   cases z
   exact⟨_,by simpa[Addr.add]using J⟩
  obtain⟨c,E⟩:=h0
  unfold World.cell? at E
  split at E
  ·rename_i cc e fr Z
   have N:u=none:=by
    cases u with
    | none=>rfl
    | some s=>simp at E
   subst N
   refine⟨b,off,rfl,(AhY.1 Z).1,Y,fun j c Q=>?_⟩
   obtain⟨x,z,J⟩:=U j c Q
   rw[List.getElem?_range (by have:=(Ahq.1 Q).1;omega)]at z
   cases z
   rw[By]at J
   exact J
  ·cases E
 ·cases h
theorem XM {d:DataW H}{l:List (DataW H)}(h:d∈l):Rows.uptoBulk d<=Rows.uptoBulkAll l:=by
 induction l with
 | nil=>cases h
 | cons x r u =>
  simp only[Rows.uptoBulkAll]
  cases AhO.1 h with
  | inl e=>subst e;omega
  | inr e=>have:=u e;omega
theorem XL (d:DataW H):1<=Rows.uptoBulk d:=by
 cases d with
 | lit l=>cases l <;> simp[Rows.uptoBulk]
 | _=>simp[Rows.uptoBulk]
theorem XN (l:List (DataW H)):l.length<=Rows.uptoBulkAll l:=by
 induction l with
 | nil=>simp[Rows.uptoBulkAll]
 | cons x r u=>have:=XL x;simp only[Rows.uptoBulkAll,Aib];omega
def Ahm (P:Program)(W:World)(S:Nat->Prop)(B n:Nat)(t:TypeId)(cs:List Value)(d:DataW H):Prop :=
 ∃l,toI P n t d=some l/\Fits P B n t l/\Reps W S l cs
theorem In:∀ {n:Nat} {t:TypeId} {s:Nat} {B:Nat} {l:List I},Lj P n t=some s->Fits P B n t l->l.length=s
 | 0,t,s,B,l,h,_=>by simp[Lj]at h
 | n+1,t,s,B,l,h,z=>by
  unfold Lj at h
  unfold Fits at z
  split at h
  ·rename_i E;simp only[E]at z;obtain⟨x,rfl⟩:=z;cases h;rfl
  ·rename_i E;simp only[E]at z;obtain⟨x,rfl,_⟩:=z;cases h;rfl
  ·rename_i E;simp only[E]at z;obtain⟨x,rfl,_⟩:=z;cases h;rfl
  ·rename_i E
   simp only[E]at z
   simp only[Ahn,Ag,Aho]at h
   obtain⟨_,_,_,rfl⟩:=h
   rcases z with rfl|⟨Q,rfl,_⟩ <;> rfl
  ·rename_i E
   simp only[E]at z
   simp only[Ahn,Ag,Aho]at h
   obtain⟨_,_,_,rfl⟩:=h
   rcases z with rfl|⟨Q,rfl,_⟩ <;> rfl
  ·rename_i m e E
   simp only[E]at z
   simp only[Ahn,Ag,Aho]at h
   obtain⟨Y,J,_,rfl⟩:=h
   obtain⟨Q,rfl,hl,Z⟩:=z
   have:Uni Y Q:=fun x a0=>In J (Z x a0)
   rw[this.len,hl]
  ·rename_i N E
   simp only[E]at z
   simp only[Ahn,Ag,Aho]at h
   obtain⟨Y,J,_,rfl⟩:=h
   have U:∀(N:List Field) (o s:Nat) (l:List I),ZA (fun u=>(Lj P n u).bind fun s=>gd (Nat.beq s (P.cellsOf u)) (some s)) o N=some s->Hb (Fits P B n) N l->o+l.length=s:=by
    intro N
    induction N with
    | nil=>intro o s l h z;simp only[ZA,Aho]at h;simp only[Hb]at z;subst z;simpa using h
    | cons f r ih =>
     intro o s l h z
     simp only[ZA,Ahn,Ag,Aho]at h
     obtain⟨s1,⟨s2,h2,_,rfl⟩,_,h⟩:=h
     obtain⟨x,y,rfl,Z,hy⟩:=z
     have:=ih _ _ _ h hy
     have:=In h2 Z
     simp only[AhF]
     omega
   have:=U N.toList 0 Y l J z
   omega
  ·cases h
theorem If {B:Nat}(hS:∀b,b<W.heap.size->S b):∀(n:Nat) (t:TypeId) (s:Nat),Lj P n t=some s -> ∀(Y:Nat) (cs:List Value) (d:DataW H) (ps:List MemPlace),DataW.trod enc P W base sp held Y t cs=some (d,ps) ->
  (maxLen<=B\/Rows.uptoBulk d<=B)->Ahm P W S B n t cs d
 | 0,t,s,h,_,_,_,_,_,_=>by simp[Lj]at h
 | n+1,t,s,h,0,cs,d,ps,E,_=>by simp[DataW.trod]at E
 | n+1,t,s,h,Y+1,cs,d,ps,E,U=>by
  have ih:=fun(t:TypeId) (s:Nat) (h:Lj P n t=some s) (cs:List Value) (d:DataW H) (ps:List MemPlace) (E:DataW.trod enc P W base sp held Y t cs=some (d,ps)) (U:maxLen<=B\/Rows.uptoBulk d<=B)=>If hS n t s h Y cs d ps E U
  have part:∀ {k:Nat} {l:List (DataW H)} {d:DataW H},(maxLen<=B\/k<=B)->d∈l->Rows.uptoBulkAll l<=k->maxLen<=B\/Rows.uptoBulk d<=B:=fun {k l d} h hm hk=>h.imp id fun h=>by have:=XM hm;omega
  unfold Lj at h
  unfold DataW.trod at E
  split at h
  ·rename_i N
   simp only[N]at E
   obtain⟨c,rfl⟩:∃c,cs=[c]:=by
    rcases cs with _|⟨c,_|⟨c2,r⟩⟩
    ·simp at E
    ·exact⟨c,rfl⟩
    ·simp at E
   cases c with
   | bool b =>
    simp only[Aho,Ahp]at E
    obtain⟨rfl,rfl⟩:=E
    exact⟨[.b b],by simp only[toI,N],by simp only[Fits,N];exact⟨_,rfl⟩,.one (.b _)⟩
   | _=>simp at E
  ·rename_i k N
   simp only[N]at E
   obtain⟨c,rfl⟩:∃c,cs=[c]:=by
    rcases cs with _|⟨c,_|⟨c2,r⟩⟩
    ·simp at E
    ·exact⟨c,rfl⟩
    ·simp at E
   cases c with
   | int k' x =>
    simp only[Option.ite_none_right_eq_some,Aho,Ahp]at E
    obtain⟨⟨rfl,hwf⟩,rfl,rfl⟩:=E
    simp only[Lit.wf,Ahs,AhC]at hwf
    exact⟨[.i k' x],by simp only[toI,N],by simp only[Fits,N];exact⟨_,rfl,hwf⟩,.one (.i _ _)⟩
   | _=>simp at E
  ·rename_i N
   simp only[N]at E
   obtain⟨c,rfl⟩:∃c,cs=[c]:=by
    rcases cs with _|⟨c,_|⟨c2,r⟩⟩
    ·simp at E
    ·exact⟨c,rfl⟩
    ·simp at E
   cases c with
   | string str =>
    simp only[Option.ite_none_right_eq_some,Aho,Ahp]at E
    obtain⟨hl,rfl,rfl⟩:=E
    refine⟨[.s (str.data.toList.map UInt8.toNat)],by simp only[toI,N],?_,.one (.s str _ rfl)⟩
    simp only[Fits,N]
    refine⟨_,rfl,?_,fun c hc=>?_⟩
    ·rw[AhD]
     rcases U with U|U
     ·have:str.data.toList.length=str.size:=by simp
      omega
     ·simp only[Rows.uptoBulk]at U;omega
    ·obtain⟨x,_,rfl⟩:=AhP.1 hc
     exact x.toNat_lt
   | _=>simp at E
  ·rename_i e N
   simp only[N]at E
   simp only[Ahn,Ag,Ahs,AhL,Aid,Aho]at h
   obtain⟨s',hs',⟨rfl,hs1⟩,rfl⟩:=h
   obtain⟨c,rfl⟩:∃c,cs=[c]:=by
    rcases cs with _|⟨c,_|⟨c2,r⟩⟩
    ·simp at E
    ·exact⟨c,rfl⟩
    ·simp at E
   have hc:c=.slice none 0 0 \/ ∃a len cap,c=.slice (some a) len cap:=by
    cases c with
    | slice o len cap =>
     cases o with
     | some a=>exact .inr ⟨a,len,cap,rfl⟩
     | none =>
      cases len with
      | zero =>
       cases cap with
       | zero=>exact .inl rfl
       | succ n=>simp at E
      | succ n=>simp at E
    | _=>simp at E
   rcases hc with rfl|⟨a,len,cap,rfl⟩
   ·simp only[Aho,Ahp]at E
    obtain⟨rfl,rfl⟩:=E
    exact⟨[.nl 4],by simp only[toI,N],by simp only[Fits,N];exact .inl Aii,.one .nls⟩
   ·simp only[Option.ite_none_right_eq_some,Ahn,AhW,Ahp]at E
    obtain⟨⟨hb,hlc,hcm⟩,elems,hel,rest,_,rfl,rfl⟩:=E
    have hel:=EH hel
    obtain⟨hlen,hget⟩:=optMap_get hel
    rw[List.length_range]at hlen
    have each:∀(i:Nat) x,elems[i]? = some x -> ∃cs,W.cells? base (a.add (i*P.cellsOf e)) (P.cellsOf e)=some cs/\Ahm P W S B n e cs x.1:=fun i x hx=>by
     obtain⟨j,hj,hf⟩:=hget i x hx
     rw[List.getElem?_range (by have:=(Ahq.1 hx).1;omega)]at hj
     cases hj
     simp only[Ahn]at hf
     obtain⟨cs,hcs,hf⟩:=hf
     have hk:Rows.uptoBulkAll (elems.map (·.1))<=Rows.uptoBulk (DataW.slice (elems.map (·.1)) (rest.map (·.1))):=by
      simp only[Rows.uptoBulk]
      omega
     exact⟨cs,hcs,ih e _ hs' cs x.1 x.2 hf (part (l:=elems.map (·.1)) U (AhP.2 ⟨x,Ahw hx,rfl⟩) hk)⟩
    have hto:∃Q,Ah (toI P n e) (elems.map (·.1))=some Q:=by
     have:∀(l:List (DataW H×List MemPlace)),(∀x,x∈l -> ∃y,toI P n e x.1=some y) -> ∃Q,Ah (toI P n e) (l.map (·.1))=some Q:=by
      intro l
      induction l with
      | nil=>intro _;exact⟨[],rfl⟩
      | cons x l ihl =>
       intro h
       obtain⟨y,hy⟩:=h x (by simp)
       obtain⟨Q,hes⟩:=ihl fun z hz=>h z (by simp[hz])
       exact⟨y::Q,by simp[Ah,hy,hes]⟩
     refine this elems fun x hx=>?_
     obtain⟨i,hi,rfl⟩:=List.getElem_of_mem hx
     obtain⟨cs,_,l,h1,_⟩:=each i _ (Ahr hi)
     exact⟨l,h1⟩
    obtain⟨Q,hes⟩:=hto
    obtain⟨g1,g2⟩:=optMap_get hes
    have hesl:Q.length=len:=by rw[g1];simp[hlen]
    have at_:∀(i:Nat) l,Q[i]? = some l -> ∃cs,W.cells? base (a.add (i*P.cellsOf e)) (P.cellsOf e)=some cs/\Fits P B n e l/\Reps W S l cs:=fun i l hl=>by
     obtain⟨dd,hd1,hd2⟩:=g2 i l hl
     rw[AhN]at hd1
     obtain⟨x,hx,rfl⟩:=AhW.1 hd1
     obtain⟨cs,hcs,l',h1,h2,h3⟩:=each i x hx
     rw[hd2]at h1
     cases h1
     exact⟨cs,hcs,h2,h3⟩
    have hU:∀l,l∈Q->l.length=P.cellsOf e:=fun l hl=>by
     obtain⟨i,hi,rfl⟩:=List.getElem_of_mem hl
     obtain⟨cs,_,h2,_⟩:=at_ i _ (Ahr hi)
     exact In hs' h2
    refine⟨[.sl Q],by simp only[toI,N,hes,Ahz],?_,.one ?_⟩
    ·simp only[Fits,N]
     refine .inr ⟨Q,rfl,?_,fun l hl=>?_⟩
     ·rcases U with U|U
      ·omega
      ·simp only[Rows.uptoBulk]at U
       have:=XN (elems.map (·.1))
       rw[AhD]at this
       omega
     ·obtain⟨i,hi,rfl⟩:=List.getElem_of_mem hl
      obtain⟨cs,_,h2,_⟩:=at_ i _ (Ahr hi)
      exact h2
    ·by_cases h0:Q=[]
     ·subst h0
      have:len=0:=by simpa using hesl.symm
      subst this
      exact .sl [] (some a) cap 0 0 0 (fun _ _=>undef) (by simp) hcm (by simp) (fun h=>absurd rfl h) ⟨_,rfl⟩ (by simp) (by simp)
     ·have hpos:0<Q.length:=AiX.2 h0
      obtain⟨cs0,hcs0,_⟩:=at_ 0 _ (Ahr hpos)
      have e0:a.add (0*P.cellsOf e)=a:=by simp[Addr.add]
      rw[e0]at hcs0
      obtain⟨b,off,rfl,hbl,_,_⟩:=IE hcs0 hs1
      have Z:∀(i:Nat) l (j:Nat) x,Q[i]? = some l->l[j]? = some x -> ∃c,W.cell? ⟨b,off+(i*P.cellsOf e+j),none⟩=some c/\RepI W S x c:=fun i l j x hi hj=>by
       obtain⟨cs,hcs,_,hr⟩:=at_ i l hi
       rw[By]at hcs
       obtain⟨b',off',he,_,_,hc⟩:=IE hcs hs1
       cases he
       obtain⟨c,h1,h2⟩:=hr.2 j x hj
       exact⟨c,by rw[<-Nat.add_assoc];exact hc j c h1,h2⟩
      rw[<-hesl]
      exact .sl Q (some ⟨b,off,none⟩) cap (P.cellsOf e) b off (fun i j=>(W.cell? ⟨b,off+(i*P.cellsOf e+j),none⟩).getD undef) (by omega) hcm hU (fun _=>⟨rfl,hS b hbl⟩) ⟨_,rfl⟩
       (fun i l j x hi hj=>by obtain⟨c,h1,_⟩:=Z i l j x hi hj;rw[h1];rfl) (fun i l j x hi hj=>by obtain⟨c,h1,h2⟩:=Z i l j x hi hj;simp only[h1,AiT];exact h2)
  ·rename_i e N
   simp only[N]at E
   simp only[Ahn,Ag,Ahs,AhL,Aid,Aho]at h
   obtain⟨s',hs',⟨rfl,hs1⟩,rfl⟩:=h
   obtain⟨c,rfl⟩:∃c,cs=[c]:=by
    rcases cs with _|⟨c,_|⟨c2,r⟩⟩
    ·simp at E
    ·exact⟨c,rfl⟩
    ·simp at E
   have hc:c=.pointer none \/ ∃a,c=.pointer (some a):=by
    cases c with
    | pointer o =>
     cases o with
     | some a=>exact .inr ⟨a,rfl⟩
     | none=>exact .inl rfl
    | _=>simp at E
   rcases hc with rfl|⟨a,rfl⟩
   ·simp only[Aho,Ahp]at E
    obtain⟨rfl,rfl⟩:=E
    exact⟨[.nl 0],by simp only[toI,N],by simp only[Fits,N];exact .inl Aii,.one .nlp⟩
   ·simp only[AhW,Ahn,Ahp]at E
    obtain⟨x,⟨cs,hcs,hf⟩,rfl,rfl⟩:=E
    obtain⟨b,off,rfl,hbl,_,hc⟩:=IE hcs hs1
    obtain⟨l,h1,h2,h3⟩:=ih e _ hs' cs x.1 x.2 hf (U.imp id fun h=>by simp only[Rows.uptoBulk]at h;omega)
    refine⟨[.pt l],by simp only[toI,N,h1,Ahz],by simp only[Fits,N];exact .inr ⟨l,rfl,h2⟩,.one ?_⟩
    have Z:∀(j:Nat) x,l[j]? = some x -> ∃c,W.cell? ⟨b,off+j,none⟩=some c/\RepI W S x c:=fun j x hj=>by
     obtain⟨c,k1,k2⟩:=h3.2 j x hj
     exact⟨c,hc j c k1,k2⟩
    exact .pt l b off (fun j=>(W.cell? ⟨b,off+j,none⟩).getD undef) (hS b hbl) (fun j x hj=>by obtain⟨c,h1,_⟩:=Z j x hj;rw[h1];rfl) (fun j x hj=>by obtain⟨c,h1,h2⟩:=Z j x hj;simp only[h1,AiT];exact h2)
  ·rename_i m e N
   simp only[N]at E
   simp only[Ahn,Ag,Ahs,AhL,Aho]at h
   obtain⟨s',hs',⟨rfl,hct⟩,rfl⟩:=h
   simp only[Option.ite_none_right_eq_some,AhW,Ahp]at E
   obtain⟨hcl,xs,J,rfl,rfl⟩:=E
   have J:=EH J
   have Z:∀(m i:Nat) (xs:List (DataW H×List MemPlace)),i*P.cellsOf e+m*P.cellsOf e<=cs.length->Ah (fun i=>DataW.trod enc P W base sp held Y e ((cs.drop (i*P.cellsOf e)).take (P.cellsOf e))) (List.range' i m)=some xs ->
     (maxLen<=B\/Rows.uptoBulkAll (xs.map (·.1))<=B) -> ∃Q,Ah (toI P n e) (xs.map (·.1))=some Q/\Q.length=m/\(∀x,x∈Q->Fits P B n e x)/\Reps W S Q.flatten ((cs.drop (i*P.cellsOf e)).take (m*P.cellsOf e)):=by
    intro m
    induction m with
    | zero =>
     intro i xs _ J _
     simp only[List.range'_zero,Ah,Aho]at J
     subst J
     exact⟨[],rfl,rfl,by simp,⟨by simp,by simp⟩⟩
    | succ m ihm =>
     intro i xs hle J U
     simp only[List.range'_succ,Ah,Ahn,Aho]at J
     obtain⟨x,hx,l,hl,rfl⟩:=J
     rw[Nat.succ_mul]at hle
     simp only[AhV,Rows.uptoBulkAll]at U
     obtain⟨y,h1,h2,h3⟩:=ih e _ hs' _ x.1 x.2 hx (U.imp id fun h=>by omega)
     obtain⟨Q,k1,k2,k3,k4⟩:=ihm (i+1) l (by rw[Aif];omega) hl (U.imp id fun h=>by omega)
     refine⟨y::Q,by simp[Ah,h1,k1],by simp[k2],fun z hz=>?_,?_⟩
     ·rcases AhO.1 hz with rfl|hz
      ·exact h2
      ·exact k3 z hz
     ·rw[Ain,Nat.succ_mul,Nat.add_comm (m*P.cellsOf e),List.take_add,AiH]
      rw[show i*P.cellsOf e+P.cellsOf e=(i+1)*P.cellsOf e by rw[Aif,Nat.one_mul]]
      exact h3.append k4
   rw[List.range_eq_range']at J
   obtain⟨Q,k1,k2,k3,k4⟩:=Z m 0 xs (by omega) J (U.imp id fun h=>by simp only[Rows.uptoBulk]at h;omega)
   refine⟨Q.flatten,by simp only[toI,N,k1,Ahz],by simp only[Fits,N];exact⟨Q,rfl,k2,k3⟩,?_⟩
   rw[Nat.zero_mul,AiA,AhJ (by omega)]at k4
   exact k4
  ·rename_i fs N
   simp only[N]at E
   simp only[Ahn,Ag,AhL,Aho]at h
   obtain⟨s',hs',hst,rfl⟩:=h
   simp only[Option.ite_none_right_eq_some,AhW,Ahp]at E
   obtain⟨hcl,xs,J,rfl,rfl⟩:=E
   have J:=EH J
   have Z:∀(fs:List Field) (o s:Nat) (xs:List (DataW H×List MemPlace)),ZA (fun u=>(Lj P n u).bind fun s=>gd (Nat.beq s (P.cellsOf u)) (some s)) o fs=some s->s<=cs.length ->
     Ah (fun f:Field=>DataW.trod enc P W base sp held Y f.type ((cs.drop f.offset).take (P.cellsOf f.type))) fs=some xs->(maxLen<=B\/Rows.uptoBulkAll (xs.map (·.1))<=B) ->
     o<=s /\ ∃l,toIs (toI P n) fs (xs.map (·.1))=some l/\Hb (Fits P B n) fs l/\Reps W S l ((cs.drop o).take (s-o)):=by
    intro fs
    induction fs with
    | nil =>
     intro o s xs hl _ J _
     simp only[ZA,Aho]at hl
     subst hl
     simp only[Ah,Aho]at J
     subst J
     exact⟨Ahu _,[],rfl,rfl,⟨by simp,by simp⟩⟩
    | cons f r ihf =>
     intro o s xs hl hle J U
     simp only[ZA,Ahn,Ag,Aho,AhL]at hl
     obtain⟨s1,⟨s2,h2,hc2,rfl⟩,ho,hl⟩:=hl
     simp only[Ah,Ahn,Aho]at J
     obtain⟨x,hx,l,hl2,rfl⟩:=J
     simp only[AhV,Rows.uptoBulkAll]at U
     obtain⟨k0,y,k1,k2,k3⟩:=ihf _ _ l hl hle hl2 (U.imp id fun h=>by omega)
     obtain⟨z,j1,j2,j3⟩:=ih f.type _ h2 _ x.1 x.2 hx (U.imp id fun h=>by omega)
     refine⟨by omega,z++y,by simp[toIs,j1,k1],⟨z,y,rfl,j2,k2⟩,?_⟩
     rw[ho,<-hc2]at j3
     rw[show s-o=s2+(s-(o+s2)) by omega,List.take_add,AiH]
     exact j3.append k3
   obtain⟨_,l,k1,k2,k3⟩:=Z fs.toList 0 s' xs hs' (by omega) J (U.imp id fun h=>by simp only[Rows.uptoBulk]at h;omega)
   refine⟨l,by simp only[toI,N,k1],by simp only[Fits,N];exact k2,?_⟩
   rw[Nat.sub_zero,AiA,AhJ (by omega)]at k3
   exact k3
  ·cases h
end
end Go.Mx
