/- Trees at the machine: Right, value, Quiet. -/
import Derived.Test.YtlhjjcaifenlbaaGreatDoorSeav
import Derived.Test.YtlhjjcaifenlbaaGreatDoorLaw
import Derived.Test.YtlhjjcaifenlbaaGreatDoorWb
import Derived.Test.YtlhjjcaifenlbaaGreatDoorSrx
import Derived.KernelRfl
import Derived.Test.YtlhjjcaifenlbaaGreatDoorSz
set_option linter.unusedSimpArgs false
set_option linter.unusedVariables false
set_option linter.unusedSectionVars false
set_option maxRecDepth 100000
namespace Go.Mx.Tryz
structure Ce where
 x:Int
 y:Int
 s:Int
def Ce.i (c:Ce):List I:=[.i .i64 c.x,.i .i64 c.y,.i .i64 c.s]
def Aj (p:List Ce):List (List I):=p.map Ce.i
@[simp] theorem Rx (p:List Ce):(Aj p).length=p.length:=by simp[Aj]
theorem AJ {p:List Ce}{i:Nat}{c:Ce}(h:p[i]? = some c):nth (Aj p) i=some [.i .i64 c.x,.i .i64 c.y,.i .i64 c.s]:=by
 rw[AP]
 simp[Aj,h,Ce.i]
def placed (x y:Int):Bool:=decide (-1048576<=x/\x<=1048576 /\ -1048576<=y/\y<=1048576)
def AZ (a b:Ce):Bool:=decide (a.y<b.y\/(a.y=b.y/\a.x<b.x))
def DB (c:Ce):Bool:=placed c.x c.y&&decide (1<=c.s)&&decide (c.s<8)
def DU:Option Ce->List Ce->Bool
 | _,[]=>true
 | none,c::r=>DB c&&DU (some c) r
 | some a,c::r=>DB c&&AZ a c&&DU (some c) r
def right (p:List Ce):Bool:=decide (p.length<=5000)&&DU none p
theorem Ht (x y:Int)(H:Hp):Gives G 66 [.m (.ag [.i .i64 x,.i .i64 y])] H (.m (.b (placed x y))) H:=by
 refine Al rfl rfl rfl rfl rfl ?_
 simp (contextual:=true) [Ah,-Int.not_lt,-Int.not_le,-Nat.not_lt,-Nat.not_le,-List.map_take,placed]
 grind
theorem AcO (c:Ce)(H:Hp):Gives G 67 [.m (.ag [.i .i64 c.x,.i .i64 c.y,.i .i64 c.s])] H (.m (.ag [.i .i64 c.x,.i .i64 c.y])) H:=by
 refine Al rfl rfl rfl rfl rfl ?_
 simp
theorem nan_s (x:Int)(H:Hp):Gives G 177 [.m (.i .i64 x)] H (.m (.b false)) H:=by
 refine Al rfl rfl rfl rfl rfl ?_
 simp
def DT (x y:Int):Int:=if x<y then -1 else if y<x then 1 else 0
theorem AhY (x y:Int)(H:Hp):Gives G 149 [.m (.i .i64 x),.m (.i .i64 y)] H (.m (.i .i64 (DT x y))) H:=by
 refine Al rfl rfl rfl rfl rfl ?_
 simp (contextual:=true) [Ag,-Int.not_lt,-Int.not_le,-Nat.not_lt,-Nat.not_le,-List.map_take,cl (nan_s _ _),DT]
theorem Ahx (a b:Int)(H:Hp):Gives G 148 [.m (.sl [[.i .i64 a],[.i .i64 b]])] H (.m (.i .i64 (if a=0 then b else a))) H:=by
 refine Al rfl rfl rfl rfl rfl ?_
 simp (contextual:=true) [Ag,-Int.not_lt,-Int.not_le,-Nat.not_lt,-Nat.not_le,-List.map_take,Aa,c148_B0]
def HC (x y z w:Int):Int:=if DT y w=0 then DT x z else DT y w
theorem Ub (x y z w:Int)(H:Hp):Gives G 110 [.m (.ag [.i .i64 x,.i .i64 y]),.m (.ag [.i .i64 z,.i .i64 w])] H (.m (.i .i64 (HC x y z w))) H:=by
 refine Al rfl rfl rfl rfl rfl ?_
 have hv:=Ba (vs:=[.ls [[.i .i64 (DT y w)],[.i .i64 (DT x z)]]]) (H:=[]) rfl rfl (Ahx (DT y w) (DT x z) []) rfl (.inl ⟨rfl,rfl⟩)
 simp[cl (AhY _ _ _),cl hv,HC]
theorem Ug (a b:Ce)(H:Hp):Gives G 69 [.m (.ag [.i .i64 a.x,.i .i64 a.y,.i .i64 a.s]),.m (.ag [.i .i64 b.x,.i .i64 b.y,.i .i64 b.s])] H (.m (.i .i64 (HC a.x a.y b.x b.y))) H:=by
 refine Al rfl rfl rfl rfl rfl ?_
 simp[cl (AcO _ _),cl (Ub _ _ _ _ _)]
theorem UU (a b:Ce):(0<=HC a.x a.y b.x b.y)↔AZ a b=false:=by
 unfold AZ HC DT
 grind
def RG (p:List Ce):Nat->Option Ce
 | 0=>none
 | i+1=>p[i]?
theorem Ru {p:List Ce}{i:Nat}{c:Ce}(hx:p[i]? = some c)(hi:∀j,i=j+1->j<p.length):DU (RG p i) (c::p.drop (i+1))=(DB c&&(match RG p i with|none=>true|some a=>AZ a c)&&DU (RG p (i+1)) (p.drop (i+1))):=by
 have:RG p (i+1)=some c:=hx
 rw[this]
 cases RG p i with
 | none=>show (DB c&&DU (some c) _)=_;simp
 | some a=>show (DB c&&AZ a c&&DU (some c) _)=_;simp
theorem Ef {v:I}{p:List Ce}(hv:IsSl v (Aj p))(hl:(p.length:Int)<=9223372036854775807)(H:Hp):Gives G 62 [.m v] H (.m (.b (right p))) H:=by
 refine Al rfl rfl rfl rfl rfl ?_
 simp (contextual:=true) [Ag,-Int.not_lt,-Int.not_le,-Nat.not_lt,-Nat.not_le,-List.map_take,hv.rules]
 refine⟨fun h=>?_,fun h=>?_⟩
 ·unfold right
  grind
 refine(?key:∀(i:Nat) (B:List (Nat×List V)),i<=p.length->right p=DU (RG p i) (p.drop i)->Run G c62_B0 (S62_0 (.m v) (.m v) (.m (.i .i64 p.length)) (.m (.i .i64 i)) B []) _) 0 [] (AiD _) ?_
 case key =>
  refine BN (fun i:Nat=>p.length-i) fun i ih B hi hr=>?_
  unfold c62_B0
  cases hx:p[i]? with
  | none =>
   have:i=p.length:=by have:=AiC.1 hx;omega
   subst this
   have:DU (RG p p.length) []=true:=by cases RG p p.length <;> rfl
   simp[hr,this]
  | some c =>
   have hlt:=(Aq hx).1
   have hn:=AJ hx
   rw[(Aq hx).2,Ru hx (by omega)]at hr
   have hg:DB c=(placed c.x c.y&&decide (1<=c.s)&&decide (c.s<8)):=rfl
   cases i with
   | zero =>
    simp (contextual:=true) (maxSteps:=2000000) (disch:=omega) [Ag,Ah,Ac,-Int.not_lt,-Int.not_le,-Nat.not_lt,-Nat.not_le,-List.map_take,hv.rules,hn,hlt,cl (AcO _ _),cl (Ht _ _ _),Aa]
    repeat' first|with_reducible apply And.intro|intro _
    all_goals first
     | (refine ih 1 (by omega) _ (by omega) ?_;grind [RG])
     | grind [RG]
   | succ j =>
    obtain⟨c0,hx0⟩:∃c0,p[j]? = some c0:=⟨p[j],Aip (by omega)⟩
    have hn0:=AJ hx0
    have e3:(j:Int)+1<p.length:=by omega
    have e4:(j:Int)<p.length:=by omega
    have e6:(0:Int)<=j+1:=by omega
    have e7:((j:Int)+1).toNat=j+1:=by omega
    have hp0:RG p (j+1)=some c0:=hx0
    simp only[hp0]at hr
    simp (contextual:=true) (maxSteps:=2000000) (disch:=omega) [Ag,Ah,Ac,-Int.not_lt,-Int.not_le,-Nat.not_lt,-Nat.not_le,-List.map_take,hv.rules,hn,hn0,e3,e7,cl (AcO _ _),cl (Ht _ _ _),cl (Ug _ _ _),Aa,UU]
    repeat' first|with_reducible apply And.intro|intro _
    all_goals first
     | (refine ih (j+2) (by omega) _ (by omega) ?_;grind)
     | grind
 ·have:p.length<=5000:=by omega
  simp[right,this,RG]
theorem BG {B n:Nat}{l:List I}(h:Fits Go.Proofs.Tryz.prog B (n+1) 3 l):∃x:Int,l=[.i .i64 x] /\ -9223372036854775808<=x/\x<=9223372036854775807:=by
 unfold Fits at h
 rw[Go.Proofs.Tryz.underlying3]at h
 simp only at h
 obtain⟨x,rfl,hx⟩:=h
 have e1:IntKind.i64.min=-9223372036854775808:=by decide
 have e2:IntKind.i64.max=9223372036854775807:=by decide
 rw[e1,e2]at hx
 exact⟨x,rfl,hx⟩
theorem XO {B n:Nat}{l:List I}(h:Fits Go.Proofs.Tryz.prog B (n+2) 73 l):∃d:Ce,l=d.i:=by
 unfold Fits at h
 rw[Go.Proofs.Tryz.underlying73]at h
 simp only[FitsF]at h
 obtain⟨x1,y1,rfl,k1,x2,y2,rfl,k2,x3,y3,rfl,k3,rfl⟩:=h
 obtain⟨u,rfl,_⟩:=BG k1
 obtain⟨v,rfl,_⟩:=BG k2
 obtain⟨w,rfl,_⟩:=BG k3
 exact⟨⟨u,v,w⟩,rfl⟩
theorem UM {es:List (List I)}(h:∀x,x∈es -> ∃d:Ce,x=d.i):∃p:List Ce,es=Aj p:=by
 induction es with
 | nil=>exact⟨[],rfl⟩
 | cons x r ih =>
  obtain⟨d,rfl⟩:=h x (by simp)
  obtain⟨p,rfl⟩:=ih fun x hx=>h x (by simp[hx])
  exact⟨d::p,rfl⟩
theorem AcG {B n:Nat}{l:List I}(h:Fits Go.Proofs.Tryz.prog B (n+3) 29 l):∃(p:List Ce) (v:I),l=[v]/\IsSl v (Aj p)/\p.length<=B:=by
 unfold Fits at h
 rw[Go.Proofs.Tryz.underlying29]at h
 simp only at h
 rcases h with rfl|⟨es,rfl,hle,hes⟩
 ·exact⟨[],_,rfl,Bc,by simp⟩
 ·obtain⟨p,rfl⟩:=UM fun x hx=>XO (hes x hx)
  exact⟨p,_,rfl,Bp _,by rw[Rx]at hle;exact hle⟩
def mnF (m:Int)(l:List Int):Int:=l.foldl min m
def mxF (m:Int)(l:List Int):Int:=l.foldl max m
theorem Xs (m:Int)(l:List Int)(x:Int):mnF m (l++[x])=min (mnF m l) x:=by simp[mnF]
theorem Xr (m:Int)(l:List Int)(x:Int):mxF m (l++[x])=max (mxF m l) x:=by simp[mxF]
def Qg (p:List Ce):List Int:=match p with
 | []=>[0,0,0,0]
 | c::r=>if right (c::r)=true then
   [mnF c.x ((c::r).map Ce.x),c.y,wr .i64 (wr .i64 (mxF c.x ((c::r).map Ce.x)-mnF c.x ((c::r).map Ce.x))+1),wr .i64 (wr .i64 (((c::r).getLast (by simp)).y-c.y)+1)]
  else [0,0,0,0]
def YS (p:List Ce):V:=.tu [.m (.ag ((Qg p).map (.i .i64))),.m (.b (!p.isEmpty&&right p))]
theorem KD {α β:Type}{p:List α}{i:Nat}{c:α}(f:α->β)(h:p[i]? = some c):(p.take (i+1)).map f=(p.take i).map f++[f c]:=by rw[Az h];simp
theorem Aid {v:I}{p:List Ce}(hv:IsSl v (Aj p))(hl:(p.length:Int)<=9223372036854775807)(H:Hp):Gives G 103 [.m v] H (YS p) H:=by
 refine Al rfl rfl rfl rfl rfl ?_
 have g:=Ef hv hl []
 cases hp:p with
 | nil=>subst hp;simp (contextual:=true) (maxSteps:=2000000) (disch:=omega) [Ag,Ac,-Int.not_lt,-Int.not_le,-Nat.not_lt,-Nat.not_le,-List.map_take,hv.rules,YS,Qg]
 | cons c r =>
  rw[<-hp]
  have h0:p[0]? = some c:=by rw[hp];rfl
  have hn0:=AJ h0
  have e1:0<p.length:=by rw[hp];simp
  obtain⟨cl,hcl⟩:∃d,p[p.length-1]? = some d:=⟨p[p.length-1],Aip (by omega)⟩
  have hnl:=AJ hcl
  have hla:∀h,(c::r).getLast h=cl:=fun h=>by
   have:p.getLast (by rw[hp];simp)=cl:=by rw[List.getLast_eq_getElem,<-Ail,<-hcl,Aip]
   simpa[hp]using this
  have hw:wr .i64 ((p.length:Int)-1)=((p.length-1:Nat):Int):=by rw[Aa] <;> omega
  have e2:¬((p.length:Int)=0):=by omega
  have e4:¬p=[]:=by rw[hp];simp
  simp (contextual:=true) (maxSteps:=2000000) (disch:=omega) [Ag,Ac,-Int.not_lt,-Int.not_le,-Nat.not_lt,-Nat.not_le,-List.map_take,hv.rules,Mx.Tryz.cl g,hn0,e4]
  refine⟨fun hr=>?_,fun hr=>?_⟩
  ·rw[hp]at hr ⊢;simp[YS,Qg,hr]
  refine(?key:∀(i:Nat) (B:List (Nat×List V)),i<=p.length->(∃a b d e,getB B 2=some [a,b,d,e])->Run G c103_B0 (S103_0 (.m v) (.fa 2 0) (.m (.i .i64 (mnF c.x ((p.take i).map Ce.x)))) (.m (.i .i64 (mxF c.x ((p.take i).map Ce.x)))) (.m v) (.m (.i .i64 p.length)) (.m (.i .i64 i)) B []) _) 0 _ (AiD _) ⟨_,_,_,_,rfl⟩
  refine BN (fun i:Nat=>p.length-i) fun i ih B hi hB=>?_
  unfold c103_B0
  cases hx:p[i]? with
  | none =>
   have:i=p.length:=by have:=AiC.1 hx;omega
   subst this
   obtain⟨a,b,d,e,hB⟩:=hB
   have hlt:p.length-1<p.length:=by omega
   have e3:((p.length:Int)-1).toNat=p.length-1:=by omega
   simp (contextual:=true) (maxSteps:=2000000) (disch:=omega) [hv.rules,hn0,hnl,hB,e3,Aa,Ag,-Int.not_lt,-Int.not_le,-Nat.not_lt,-Nat.not_le,-List.map_take]
   rw[hp]at hr ⊢
   simp[YS,Qg,hr,hla]
  | some d =>
   have hlt:=(Aq hx).1
   have hn:=AJ hx
   have ih:=ih (i+1) (by omega)
   simp only[KD _ hx,Xs,Xr]at ih
   simp (contextual:=true) (maxSteps:=2000000) (disch:=omega) [Ag,-Int.not_lt,-Int.not_le,-Nat.not_lt,-Nat.not_le,-List.map_take,hv.rules,hn,hlt,Aa]
   exact ih _ (by omega) (by simpa using hB)
theorem CS {a b c:Ce}(h1:AZ a b=true)(h2:AZ b c=true):AZ a c=true:=by
 unfold AZ at *
 grind
theorem MK:∀(p:List Ce) (o:Option Ce),DU o p=true->p.Pairwise (fun a b=>AZ a b=true)/\(∀a,o=some a -> ∀d,d∈p->AZ a d=true) /\ ∀d,d∈p->DB d=true
 | [],_,_=>⟨.nil,fun _ _ d hd=>by simp at hd,fun d hd=>by simp at hd⟩
 | c::r,o,h=>by
  have h':DB c=true/\(∀a,o=some a->AZ a c=true)/\DU (some c) r=true:=by
   cases o with
   | none =>
    have:(DB c&&DU (some c) r)=true:=h
    rw[Aio]at this
    exact⟨this.1,fun _ h=>(by cases h),this.2⟩
   | some a =>
    have:(DB c&&AZ a c&&DU (some c) r)=true:=h
    simp only[Aio]at this
    exact⟨this.1.1,fun _ h=>(by cases h;exact this.1.2),this.2⟩
  obtain⟨g1,g2,g3⟩:=h'
  obtain⟨i1,i2,i3⟩:=MK r (some c) g3
  refine⟨AiO.2 ⟨fun d hd=>i2 c rfl d hd,i1⟩,fun a ha d hd=>?_,fun d hd=>?_⟩
  ·rcases AiK.1 hd with rfl|hd
   ·exact g2 a ha
   ·exact CS (g2 a ha) (i2 c rfl d hd)
  ·rcases AiK.1 hd with rfl|hd
   ·exact g1
   ·exact i3 d hd
theorem EG {p:List Ce}(h:right p=true):p.Pairwise (fun a b=>AZ a b=true)/\(∀d,d∈p->DB d=true)/\p.length<=5000:=by
 unfold right at h
 simp only[Aio,Aix]at h
 have:=MK p none h.2
 exact⟨this.1,this.2.2,h.1⟩
theorem JH:∀(l:List Int) (m x:Int),(x<=m /\ ∀y,y∈l->x<=y)->x<=mnF m l
 | [],m,x,h=>h.1
 | y::r,m,x,h=>JH r (min m y) x ⟨by have:=h.1;have:=h.2 y (by simp);omega,fun z hz=>h.2 z (by simp[hz])⟩
theorem II:∀(l:List Int) (m:Int),mnF m l<=m /\ ∀y,y∈l->mnF m l<=y
 | [],m=>⟨Int.le_refl _,fun y hy=>by simp at hy⟩
 | y::r,m=>by
  obtain⟨h1,h2⟩:=II r (min m y)
  refine⟨by show mnF (min m y) r<=m;omega,fun z hz=>?_⟩
  show mnF (min m y) r<=z
  rcases AiK.1 hz with rfl|hz
  ·omega
  ·exact h2 z hz
theorem PK:∀(l:List Int) (m:Int),m<=mxF m l /\ ∀y,y∈l->y<=mxF m l
 | [],m=>⟨Int.le_refl _,fun y hy=>by simp at hy⟩
 | y::r,m=>by
  obtain⟨h1,h2⟩:=PK r (max m y)
  refine⟨by show m<=mxF (max m y) r;omega,fun z hz=>?_⟩
  show z<=mxF (max m y) r
  rcases AiK.1 hz with rfl|hz
  ·omega
  ·exact h2 z hz
theorem Ur:∀(l:List Int) (m x:Int),(m<=x /\ ∀y,y∈l->y<=x)->mxF m l<=x
 | [],m,x,h=>h.1
 | y::r,m,x,h=>Ur r (max m y) x ⟨by have:=h.1;have:=h.2 y (by simp);omega,fun z hz=>h.2 z (by simp[hz])⟩
theorem Pv {c d:Ce}{r:List Ce}(h:right (c::r)=true)(hd:(c::r)[(c::r).length-1]? = some d):mnF c.y ((c::r).map Ce.y)=c.y/\mxF c.y ((c::r).map Ce.y)=d.y:=by
 obtain⟨pw,_,_⟩:=EG h
 have first:∀y,y∈(c::r).map Ce.y->c.y<=y:=fun y hy=>by
  obtain⟨e,he,rfl⟩:=AiH.1 hy
  rcases AiK.1 he with rfl|he
  ·exact Int.le_refl _
  ·have:=(AiO.1 pw).1 e he
   unfold AZ at this
   simp only[Aix]at this
   omega
 have last:∀y,y∈(c::r).map Ce.y->y<=d.y:=fun y hy=>by
  obtain⟨e,he,rfl⟩:=AiH.1 hy
  obtain⟨i,hi,rfl⟩:=List.mem_iff_getElem.1 he
  by_cases hil:i=(c::r).length-1
  ·subst hil
   rw[Aip hi]at hd
   cases hd
   exact Int.le_refl _
  ·have hj:(c::r).length-1<(c::r).length:=by simp
   have:=AjH.1 pw i ((c::r).length-1) hi hj (by omega)
   rw[Aip hj]at hd
   cases hd
   unfold AZ at this
   simp only[Aix]at this
   omega
 have dm:d.y∈(c::r).map Ce.y:=AiH.2 ⟨d,Aiu hd,rfl⟩
 have c0:=II ((c::r).map Ce.y) c.y
 have c1:=JH ((c::r).map Ce.y) c.y c.y ⟨Int.le_refl _,first⟩
 have c2:=PK ((c::r).map Ce.y) c.y
 have c3:=Ur ((c::r).map Ce.y) c.y d.y ⟨last _ (by simp),last⟩
 have c4:=c2.2 _ dm
 constructor <;> omega
def MP (p:List Ce)(x y:Int):Int:=match p with
 | []=>0
 | c::r=>if c.x=x/\c.y=y then c.s else MP r x y
open Go.Lib
structure TreeC where
 states:Int
 hood:List (Int×Int)
 nodes:List (Int×List Int)
def Rj (a b:Int×Int):Bool:=decide (a.2<b.2\/(a.2=b.2/\a.1<b.1))
def GM (p:Int×Int):Bool:=decide ((-2<=p.1/\p.1<=2)/\(-2<=p.2/\p.2<=2))
def Qc:Option (Int×Int)->List (Int×Int)->Bool
 | _,[]=>true
 | none,p::r=>GM p&&Qc (some p) r
 | some a,p::r=>GM p&&Rj a p&&Qc (some p) r
def CG (l:List (Int×Int)):Bool:=decide (1<=l.length/\l.length<=25)&&Qc none l
theorem KP:∀(l:List (Int×Int)) (a:Option (Int×Int)),Qc a l=true -> ∀p,p∈l->GM p=true
 | [],_,_,p,hp=>by cases hp
 | q::r,a,h,p,hp=>by
  have h':GM q=true/\Qc (some q) r=true:=by
   cases a with
   | none=>exact(Aio _ _).mp h
   | some b =>
    have h:(GM q&&Rj b q&&Qc (some q) r)=true:=h
    rw[Aio,Aio]at h
    exact⟨h.1.1,h.2⟩
  rcases AiK.1 hp with rfl|hp
  ·exact h'.1
  ·exact KP r _ h'.2 p hp
def levAt (nodes:List (Int×List Int))(k:Int):Int:=match nodes[k.toNat]? with
 | some n=>n.1
 | none=>0
def YR (t:TreeC)(i:Nat)(lev k:Int):Bool:=decide (¬k<0 /\ ¬(lev=1/\t.states<=k) /\ ¬(1<lev/\((i:Int)<=k \/ ¬levAt t.nodes k=lev-1)))
def EH (t:TreeC)(i:Nat)(n:Int×List Int):Bool:=decide (1<=n.1/\n.1<=t.hood.length/\(n.2.length:Int)=t.states)&&n.2.all (YR t i n.1)
def nodesOk (t:TreeC):Nat->List (Int×List Int)->Bool
 | _,[]=>true
 | i,n::r=>EH t i n&&nodesOk t (i+1) r
def Bs (t:TreeC):Bool:=decide (2<=t.states/\t.states<=8)&&(CG t.hood&&(decide (1<=t.nodes.length/\t.nodes.length<=4096)&&(decide (levAt t.nodes (t.nodes.length-1)=t.hood.length)&&nodesOk t 0 t.nodes)))
theorem GN (t:TreeC):∀(l:List (Int×List Int)) (i:Nat),nodesOk t i l=true -> ∀(j:Nat) n,l[j]? = some n->EH t (i+j) n=true
 | [],_,_,j,n,h=>by simp at h
 | m::r,i,h,j,n,hn=>by
  have h:(EH t i m&&nodesOk t (i+1) r)=true:=h
  rw[Aio]at h
  cases j with
  | zero=>simp at hn;subst hn;exact h.1
  | succ j =>
   have:=GN t r (i+1) h.2 j n (by simpa using hn)
   rw[show i+(j+1)=i+1+j from by omega]
   exact this
structure TreeR (t:TreeC):Prop where
 s2:2<=t.states
 s8:t.states<=8
 hood:CG t.hood=true
 n1:1<=t.nodes.length
 n2:t.nodes.length<=4096
 root:levAt t.nodes (t.nodes.length-1)=t.hood.length
 node:∀(j:Nat) n,t.nodes[j]? = some n->EH t j n=true
theorem Pm {t:TreeC}(h:Bs t=true):TreeR t:=by
 unfold Bs at h
 simp only[Aio,Aix]at h
 obtain⟨⟨a,b⟩,c,⟨d,e⟩,f,g⟩:=h
 exact⟨a,b,c,d,e,f,fun j n hn=>by have:=GN t _ 0 g j n hn;rwa[Ajw]at this⟩
theorem DQ {l:List (Int×Int)}(h:CG l=true):1<=l.length/\l.length<=25:=by
 unfold CG at h
 simp only[Aio,Aix]at h
 exact h.1
theorem GP {l:List (Int×Int)}(h:CG l=true):∀p,p∈l->(-2<=p.1/\p.1<=2)/\(-2<=p.2/\p.2<=2):=fun p hp=>by
 unfold CG at h
 rw[Aio]at h
 have:=KP _ _ h.2 p hp
 unfold GM at this
 exact of_decide_eq_true this
def Gj (nodes:List (Int×List Int))(k s:Int):Int:=match nodes[k.toNat]? with
 | some n=>(n.2[s.toNat]?).getD 0
 | none=>0
def valF (nodes:List (Int×List Int)):Int->List Int->Int
 | k,[]=>k
 | k,s::r=>valF nodes (Gj nodes k s) r
theorem Mh (nodes:List (Int×List Int)):∀(l:List Int) (k s:Int),valF nodes k (l++[s])=Gj nodes (valF nodes k l) s
 | [],_,_=>rfl
 | x::r,k,s=>Mh nodes r (Gj nodes k x) s
def QY (t:TreeC)(ins:List Int):Int:=valF t.nodes (t.nodes.length-1) ins
theorem Gf (t:TreeC)(l:List Int)(s:Int):QY t (l++[s])=Gj t.nodes (QY t l) s:=Mh _ _ _ _
def Vd (t:TreeC)(lev:Int)(k:Int):Prop:=∃(j:Nat) (n:Int×List Int),k=j/\t.nodes[j]? = some n/\n.1=lev/\(n.2.length:Int)=t.states
theorem My {t:TreeC}(h:TreeR t){lev k s:Int}(ha:Vd t lev k)(hs:0<=s/\s<t.states):(lev=1->0<=Gj t.nodes k s/\Gj t.nodes k s<t.states)/\(1<lev->Vd t (lev-1) (Gj t.nodes k s))/\1<=lev:=by
 obtain⟨j,n,rfl,hn,hl,hlen⟩:=ha
 have hok:=h.node j n hn
 unfold EH at hok
 simp only[Aio,Aix,Aiw]at hok
 obtain⟨⟨a1,a2,a3⟩,a4⟩:=hok
 have hsl:s.toNat<n.2.length:=by omega
 have e:Gj t.nodes j s=n.2[s.toNat]:=by
  unfold Gj
  rw[show ((j:Int)).toNat=j from rfl,hn]
  dsimp only
  rw[Aip hsl]
  rfl
 have hel:=a4 (n.2[s.toNat]) (List.getElem_mem hsl)
 rw[<-e]at hel
 unfold YR at hel
 have hel:=of_decide_eq_true hel
 refine⟨fun h1=>?_,fun h1=>?_,by omega⟩
 ·have:=hel.2.1;omega
 ·have h2:=hel.2.2
  have h3:¬(j:Int)<=Gj t.nodes j s:=fun hh=>h2 ⟨by omega,.inl hh⟩
  have h4:levAt t.nodes (Gj t.nodes j s)=n.1-1:=Ajp fun hh=>h2 ⟨by omega,.inr hh⟩
  generalize Gj t.nodes j s=k' at *
  have h0:¬k'<0:=hel.1
  obtain⟨i,rfl⟩:=AiN (show 0<=k' by omega)
  have hjl:=(Ain.1 hn).1
  have hil:i<t.nodes.length:=by omega
  refine⟨i,t.nodes[i],rfl,Aip hil,?_,?_⟩
  ·unfold levAt at h4
   rw[show ((i:Int)).toNat=i from rfl,Aip hil]at h4
   dsimp only at h4
   omega
  ·have:=h.node i _ (Aip hil)
   unfold EH at this
   simp only[Aio,Aix]at this
   exact this.1.2.2
theorem Pj {t:TreeC}(h:TreeR t):∀(m:Nat) (ins:List Int),ins.length=m->m<t.hood.length->(∀s,s∈ins->0<=s/\s<t.states)->Vd t (t.hood.length-m) (QY t ins)
 | 0,ins,hl,hm,hs=>by
  have:ins=[]:=AiP hl
  subst this
  have h1:=h.n1
  have hlt:t.nodes.length-1<t.nodes.length:=by omega
  refine⟨t.nodes.length-1,t.nodes[t.nodes.length-1],?_,Aip hlt,?_,?_⟩
  ·show ((t.nodes.length:Int)-1)=_
   omega
  ·have:=h.root
   unfold levAt at this
   rw[show ((t.nodes.length:Int)-1).toNat=t.nodes.length-1 from by omega,Aip hlt]at this
   dsimp only at this
   rw[this]
   simp
  ·have:=h.node _ _ (Aip hlt)
   unfold EH at this
   simp only[Aio,Aix]at this
   exact this.1.2.2
 | m+1,ins,hl,hm,hs=>by
  obtain⟨q,c,rfl⟩:∃q c,ins=q++[c]:=⟨ins.dropLast,ins.getLast (by intro e;rw[e]at hl;simp at hl),(List.dropLast_concat_getLast _).symm⟩
  have ih:=Pj h m q (by simpa using hl) (by omega) fun s hs'=>hs s (by simp[hs'])
  rw[Gf]
  have:=(My h ih (hs c (by simp))).2.1 (by omega)
  rw[show ((t.hood.length:Int)-((m+1:Nat):Int))=t.hood.length-m-1 from by omega]
  exact this
theorem AaT {t:TreeC}(h:TreeR t){ins:List Int}(hl:ins.length=t.hood.length)(hs:∀s,s∈ins->0<=s/\s<t.states):0<=QY t ins/\QY t ins<t.states:=by
 have h1:=(DQ h.hood).1
 obtain⟨q,c,rfl⟩:∃q c,ins=q++[c]:=⟨ins.dropLast,ins.getLast (by intro e;rw[e]at hl;simp at hl;omega),(List.dropLast_concat_getLast _).symm⟩
 have hlq:q.length+1=t.hood.length:=by simpa using hl
 have ih:=Pj h q.length q rfl (by omega) fun s hs'=>hs s (by simp[hs'])
 rw[Gf]
 exact(My h ih (hs c (by simp))).1 (by omega)
def Bl (t:TreeC):Bool:=Bs t&&decide (QY t (List.replicate t.hood.length 0)=0)
def RH (t:TreeC)(p:List Ce)(x y:Int):List Int:=t.hood.map fun o=>MP p (x+o.1) (y+o.2)
def CF (t:TreeC)(p:List Ce)(x y:Int):Int:=QY t (RH t p x y)
def FC (t:TreeC)(p:List Ce):Prop:=∀c,c∈p->0<=c.s/\c.s<t.states
theorem KJ {t:TreeC}(h:TreeR t):∀ {p:List Ce},FC t p -> ∀x y,0<=MP p x y/\MP p x y<t.states
 | [],_,x,y=>by have:=h.s2;show 0<=(0:Int)/\(0:Int)<t.states;omega
 | c::r,hp,x,y=>by
  have e:MP (c::r) x y=if c.x=x/\c.y=y then c.s else MP r x y:=rfl
  rw[e]
  split
  ·exact hp c (AiM ..)
  ·exact KJ h (fun d hd=>hp d (AiW _ hd)) x y
theorem PJ {t:TreeC}(h:TreeR t){p:List Ce}(hp:FC t p){x y:Int}:∀s,s∈RH t p x y->0<=s/\s<t.states:=fun s hs=>by
 obtain⟨o,_,rfl⟩:=AiH.1 hs
 exact KJ h hp _ _
theorem KB (t:TreeC)(p:List Ce)(x y:Int):(RH t p x y).length=t.hood.length:=by unfold RH;simp
theorem Hu {t:TreeC}(h:TreeR t){p:List Ce}(hp:FC t p)(x y:Int):0<=CF t p x y/\CF t p x y<t.states:=AaT h (KB t p x y) (PJ h hp)
theorem Up {t:TreeC}(hq:Bl t=true){p:List Ce}{x y:Int}(h:∀o,o∈t.hood->MP p (x+o.1) (y+o.2)=0):CF t p x y=0:=by
 unfold Bl at hq
 rw[Aio,Aix]at hq
 have e:RH t p x y=List.replicate t.hood.length 0:=by
  unfold RH
  rw[List.map_congr_left h,List.map_const']
 unfold CF
 rw[e]
 exact hq.2
theorem GL {t:TreeC}(hq:Bl t=true):TreeR t:=by
 unfold Bl at hq
 rw[Aio]at hq
 exact Pm hq.1
theorem XI {p:List Ce}{x y:Int}(h:¬MP p x y=0):∃c,c∈p/\c.x=x/\c.y=y/\c.s=MP p x y:=by
 induction p with
 | nil=>exact absurd rfl h
 | cons c r ih =>
  have e:MP (c::r) x y=if c.x=x/\c.y=y then c.s else MP r x y:=rfl
  rw[e]at h ⊢
  by_cases hc:c.x=x/\c.y=y
  ·rw[Air hc]
   exact⟨c,AiM ..,hc.1,hc.2,rfl⟩
  ·rw[Aiq hc]at h ⊢
   obtain⟨d,h1,h2⟩:=ih h
   exact⟨d,AiW _ h1,h2⟩
theorem KA {t:TreeC}(hq:Bl t=true){p:List Ce}{x y:Int}(h:¬CF t p x y=0):∃c o,c∈p/\o∈t.hood/\x=c.x-o.1/\y=c.y-o.2:=by
 have:∃o,o∈t.hood /\ ¬MP p (x+o.1) (y+o.2)=0:=Ajp fun hn=>h (Up hq fun o ho=>Ajp fun hh=>hn ⟨o,ho,hh⟩)
 obtain⟨o,ho,hg⟩:=this
 obtain⟨c,hc,h1,h2,_⟩:=XI hg
 exact⟨c,o,hc,ho,by omega,by omega⟩
def Ky (p:List Ce):List ((Int×Int)×Int):=p.map fun c=>((c.x,c.y),c.s)
theorem TY (p:List Ce):(Ky p).map Prod.fst=p.map fun c=>(c.x,c.y):=by simp[Ky]
theorem Rg (p:List Ce)(x y:Int):(Cp (Ky p) (x,y)).getD 0=MP p x y:=by
 induction p with
 | nil=>rfl
 | cons c r ih =>
  by_cases h:c.x=x/\c.y=y
  ·simp[Ky,Cp,MP,h]
  ·have:¬(c.x,c.y)=(x,y):=by simpa using h
   simp only[Ky,AiT,Cp,Aiq this,MP,Aiq h]
   exact ih
theorem Us {q r:List Ce}{c:Ce}(h:(q++c::r).Pairwise fun a b=>AZ a b=true):MO (Ky q) (c.x,c.y) c.s=Ky (q++[c]):=by
 rw[JV]
 ·simp[Ky]
 ·rw[TY]
  intro hm
  obtain⟨d,hd,he⟩:=AiH.1 hm
  have:=(AjB.1 h).2.2 d hd c (by simp)
  unfold AZ at this
  grind
theorem YE:∀ {p q:List Ce},p.Pairwise (fun a b=>AZ a b=true)->q.Pairwise (fun a b=>AZ a b=true)->(∀c,c∈p↔c∈q)->p=q
 | [],[],_,_,_=>rfl
 | [],d::s,_,_,h=>by have:=(h d).2 (AiM ..);cases this
 | c::r,[],_,_,h=>by have:=(h c).1 (AiM ..);cases this
 | c::r,d::s,hp,hq,h=>by
  obtain⟨p1,p2⟩:=AiO.1 hp
  obtain⟨q1,q2⟩:=AiO.1 hq
  have irr:∀a:Ce,¬AZ a a=true:=fun a ha=>by unfold AZ at ha;simp at ha
  have e:c=d:=by
   rcases AiK.1 ((h c).1 (AiM ..)) with e|h1
   ·exact e
   ·rcases AiK.1 ((h d).2 (AiM ..)) with e|h2
    ·exact e.symm
    ·exact absurd (CS (p1 d h2) (q1 c h1)) (irr c)
  subst e
  congr 1
  refine YE p2 q2 fun x=>⟨fun hx=>?_,fun hx=>?_⟩
  ·rcases AiK.1 ((h x).1 (AiW _ hx)) with rfl|h1
   ·exact absurd (p1 _ hx) (irr _)
   ·exact h1
  ·rcases AiK.1 ((h x).2 (AiW _ hx)) with rfl|h1
   ·exact absurd (q1 _ hx) (irr _)
   ·exact h1
def Fj (t:TreeC)(p:List Ce)(res:List Ce×Int):Prop :=
 (res=([],5) /\ ∃x y,¬CF t p x y=0/\placed x y=false) \/
 ((∀x y,¬CF t p x y=0->placed x y=true) /\ ∃q:List Ce,q.Pairwise (fun a b=>AZ a b=true)/\(∀c,c∈q↔c.s=CF t p c.x c.y /\ ¬c.s=0)/\res=if 5000<q.length then ([],6) else (q,0))
theorem Rc {t:TreeC}{p:List Ce}{a b:List Ce×Int}(ha:Fj t p a)(hb:Fj t p b):a=b:=by
 rcases ha with ⟨rfl,x,y,h1,h2⟩|⟨h1,q,h2,h3,rfl⟩ <;> rcases hb with ⟨rfl,u,v,k1,k2⟩|⟨k1,r,k2,k3,rfl⟩
 ·rfl
 ·rw[k1 x y h1]at h2;cases h2
 ·rw[h1 u v k1]at k2;cases k2
 ·rw[YE h2 k2 fun c=>(h3 c).trans (k3 c).symm]
theorem WT {t:TreeC}(h:TreeR t){p q:List Ce}(hp:FC t p)(hs:Fj t p (q,0)):q.Pairwise (fun a b=>AZ a b=true)/\(∀c,c∈q->DB c=true)/\q.length<=5000/\FC t q:=by
 rcases hs with ⟨e,_⟩|⟨h1,r,h2,h3,e⟩
 ·cases e
 ·split at e
  ·cases e
  ·rename_i hl
   cases e
   have hr:=fun c (hc:c∈q)=>Hu h hp c.x c.y
   have s8:=h.s8
   refine⟨h2,fun c hc=>?_,by omega,fun c hc=>?_⟩
   ·have k1:=(h3 c).1 hc
    have k2:=h1 c.x c.y (by rw[<-k1.1];exact k1.2)
    have k3:=hr c hc
    rw[<-k1.1]at k3
    have k4:=k1.2
    unfold DB
    rw[k2]
    simp only[Bool.true_and,Aio,Aix]
    omega
   ·have k1:=(h3 c).1 hc
    have k3:=hr c hc
    rw[<-k1.1]at k3
    exact k3
open Go.Proofs
def AB (l:List (Int×Int)):List (List I):=l.map fun p=>[.i .i64 p.1,.i .i64 p.2]
@[simp] theorem CT (l:List (Int×Int)):(AB l).length=l.length:=by simp[AB]
theorem Fc {l:List (Int×Int)}{i:Nat}{c:Int×Int}(h:l[i]? = some c):nth (AB l) i=some [.i .i64 c.1,.i .i64 c.2]:=by
 rw[AP];simp[AB,h]
def ID (p:List (Int×Int)):Nat->Option (Int×Int)
 | 0=>none
 | i+1=>p[i]?
theorem UX {p:List (Int×Int)}{i:Nat}{c:Int×Int}(hx:p[i]? = some c):Qc (ID p i) (c::p.drop (i+1))=(GM c&&(match ID p i with|none=>true|some a=>Rj a c)&&Qc (ID p (i+1)) (p.drop (i+1))):=by
 have:ID p (i+1)=some c:=hx
 rw[this]
 cases ID p i with
 | none=>show (GM c&&Qc (some c) _)=_;simp
 | some a=>show (GM c&&Rj a c&&Qc (some c) _)=_;simp
theorem Rt (a b:Int×Int):(0<=HC a.1 a.2 b.1 b.2)↔Rj a b=false:=by
 unfold Rj HC DT
 grind
theorem Uj (c:Int×Int):GM c=(decide (-2<=c.1)&&decide (c.1<=2)&&decide (-2<=c.2)&&decide (c.2<=2)):=by
 unfold GM
 grind
set_option maxHeartbeats 1000000 in
theorem AhQ {v:I}{p:List (Int×Int)}(hv:IsSl v (AB p))(hl:(p.length:Int)<=9223372036854775807)(H:Hp):Gives G 135 [.m v] H (.m (.b (CG p))) H:=by
 have hr0:=hv.rules
 simp only[CT]at hr0
 refine Al rfl rfl rfl rfl rfl ?_
 by_cases h1:1<=p.length/\p.length<=25
 rotate_left
 ·have e:CG p=false:=by unfold CG;rw[AiE h1];rfl
  by_cases h2:(p.length:Int)<1
  ·simp (maxSteps:=2000000) (disch:=omega) [hr0,h2,e]
  ·have h3:(25:Int)<p.length:=by omega
   simp (maxSteps:=2000000) (disch:=omega) [hr0,h2,h3,e]
 have h2:¬(p.length:Int)<1:=by omega
 have h3:¬(25:Int)<p.length:=by omega
 have hR:CG p=Qc none p:=by unfold CG;rw[Aiv h1];rfl
 rw[hR]
 simp (maxSteps:=2000000) (disch:=omega) [hr0,h2,h3]
 refine(?key:∀(i:Nat) (B:List (Nat×List V)),i<=p.length->Qc none p=Qc (ID p i) (p.drop i)->Run G c135_B0 (S135_0 (.m v) (.m v) (.m (.i .i64 p.length)) (.m (.i .i64 i)) B []) _) 0 [] (AiD _) rfl
 refine BN (fun i:Nat=>p.length-i) fun i ih B hi hr=>?_
 unfold c135_B0
 cases hx:p[i]? with
 | none =>
  have:i=p.length:=by have:=AiC.1 hx;omega
  subst this
  have:Qc (ID p p.length) []=true:=by cases ID p p.length <;> rfl
  simp[hr,this]
 | some c =>
  have hlt:=(Aq hx).1
  have hn:=Fc hx
  rw[(Aq hx).2,UX hx,Uj]at hr
  cases i with
  | zero =>
   simp (contextual:=true) (maxSteps:=2000000) (disch:=omega) [Ag,Ah,Ac,-Int.not_lt,-Int.not_le,-Nat.not_lt,-Nat.not_le,-List.map_take,hr0,hn,hlt,Aa]
   repeat' first|with_reducible apply And.intro|intro _
   all_goals first
    | (refine ih 1 (by omega) _ (by omega) ?_;grind [ID])
    | grind [ID]
  | succ j =>
   obtain⟨c0,hx0⟩:∃c0,p[j]? = some c0:=⟨p[j],Aip (by omega)⟩
   have hn0:=Fc hx0
   have e3:(j:Int)+1<p.length:=by omega
   have e4:(j:Int)<p.length:=by omega
   have e6:(0:Int)<=j+1:=by omega
   have e7:((j:Int)+1).toNat=j+1:=by omega
   have hp0:ID p (j+1)=some c0:=hx0
   simp only[hp0]at hr
   simp (contextual:=true) (maxSteps:=2000000) (disch:=omega) [Ag,Ah,Ac,-Int.not_lt,-Int.not_le,-Nat.not_lt,-Nat.not_le,-List.map_take,hr0,hn,hn0,e3,e7,cl (Ub _ _ _ _ _),Aa,Rt]
   repeat' first|with_reducible apply And.intro|intro _
   all_goals first
    | (refine ih (j+2) (by omega) _ (by omega) ?_;grind)
    | grind
abbrev Nd:=Int×List Int
theorem El {y:I}{es:List (List I)}(h:IsSl y es):BM (.m y)=true:=by
 rcases h with rfl|⟨rfl,_⟩ <;> rfl
def dEn:List I->Int
 | [.i _ x]=>x
 | _=>0
def dIn:I->List Int
 | .sl es=>es.map dEn
 | _=>[]
def dNd:List I->Int×List Int
 | [.i _ x,z]=>(x,dIn z)
 | _=>(0,[])
def Qp (es:List (List I)):Prop:=∀e,e∈es -> ∃(x:Int) (z:I),e=[.i .i64 x,z]/\IsSl z (Cr (dIn z))/\(dIn z).length<=9223372036854775807 /\ ∀k,k∈dIn z -> -9223372036854775808<=k/\k<=9223372036854775807
structure TreeV (t:TreeC)(h n:I)(es:List (List I)):Prop where
 hd:IsSl h (AB t.hood)
 nd:IsSl n es
 ok:Qp es
 eq:t.nodes=es.map dNd
 hl:t.hood.length<=9223372036854775807
 nl:es.length<=9223372036854775807
theorem DN {t:TreeC}{h n:I}{es:List (List I)}(hT:TreeV t h n es):t.nodes.length=es.length:=by rw[hT.eq,AiB]
theorem Dn {t:TreeC}{h n:I}{es:List (List I)}(hT:TreeV t h n es){j:Nat}{nd:Int×List Int}(hj:t.nodes[j]? = some nd):∃z,nth es j=some [.i .i64 nd.1,z]/\IsSl z (Cr nd.2)/\nd.2.length<=9223372036854775807 /\ ∀k,k∈nd.2 -> -9223372036854775808<=k/\k<=9223372036854775807:=by
 rw[hT.eq,AiL]at hj
 cases he:es[j]? with
 | none=>rw[he]at hj;cases hj
 | some e =>
  rw[he]at hj
  cases hj
  obtain⟨x,z,rfl,h1,h2,h3⟩:=hT.ok e (Aiu he)
  exact⟨z,by rw[AP];exact he,h1,h2,h3⟩
theorem Mw (t:TreeC)(i:Nat)(n:Int×List Int)(r:List (Int×List Int)):nodesOk t i (n::r)=(EH t i n&&nodesOk t (i+1) r):=rfl
theorem PQ {nodes:List (Int×List Int)}{j:Nat}{nd:Int×List Int}(h:nodes[j]? = some nd):levAt nodes (j:Int)=nd.1:=by
 unfold levAt
 rw[show ((j:Int)).toNat=j from rfl,h]
theorem Pn {α:Type}{l m:List α}{i:Nat}{x y:α}(h:l.take i=m.take i)(hx:l[i]? = some x)(hy:m[i]? = some y)(e:x=y):l.take (i+1)=m.take (i+1):=by
 rw[Az hx,Az hy,h,e]
def Vl (t:TreeC):Bool:=decide (t.hood.length<=40)&&(decide (t.nodes.length<=400)&&t.nodes.all fun n=>decide (n.2.length<=20))
set_option maxHeartbeats 1000000 in
theorem AhU {t:TreeC}{h n:I}{es:List (List I)}(hT:TreeV t h n es)(H:Hp):Gives G 10 [.m (.ag [.i .i64 t.states,h,n])] H (.m (.b (Vl t))) H:=by
 have hrn:=hT.nd.rules
 have hln:=DN hT
 have hrh:=hT.hd.rules
 simp only[CT]at hrh
 have hl1:=hT.hl
 have hl2:=hT.nl
 have eF:Vl t=(decide (t.hood.length<=40)&&(decide (t.nodes.length<=400)&&t.nodes.all fun n=>decide (n.2.length<=20))):=rfl
 refine Al rfl rfl rfl rfl rfl ?_
 by_cases h1:(40:Int)<t.hood.length
 ·have e:Vl t=false:=by rw[eF,AiE (by omega)];rfl
  simp (maxSteps:=2000000) (disch:=omega) [hrh,h1,e]
 by_cases h2:(400:Int)<es.length
 ·have e:Vl t=false:=by rw[eF,AiE (by omega:¬t.nodes.length<=400)];simp
  simp (maxSteps:=2000000) (disch:=omega) [hrn,hrh,h1,h2,e]
 have e:Vl t=t.nodes.all fun n=>decide (n.2.length<=20):=by rw[eF,Aiv (by omega),Aiv (by omega:t.nodes.length<=400)];simp
 rw[e]
 simp (maxSteps:=2000000) (disch:=omega) [hrn,hrh,h1,h2]
 refine(?key:∀(i:Nat) (B:List (Nat×List V)),i<=es.length->getB B 1=some [.m (.i .i64 t.states),.m h,.m n]->(t.nodes.all fun n=>decide (n.2.length<=20))=((t.nodes.drop i).all fun n=>decide (n.2.length<=20))->Run G c10_B0 (S10_0 (.fa 1 0) (.m (.i .i64 es.length)) (.m (.i .i64 (i:Int))) B []) _) 0 _ (AiD _) rfl rfl
 refine BN (fun i:Nat=>es.length-i) fun i ih B hi hB hI=>?_
 unfold c10_B0
 cases hx:t.nodes[i]? with
 | none =>
  have:i=es.length:=by have:=AiC.1 hx;omega
  subst this
  rw[<-hln,Ajs]at hI
  have hI:(t.nodes.all fun n=>decide (n.2.length<=20))=true:=hI
  simp (maxSteps:=2000000) (disch:=omega) [hI]
 | some nd =>
  have hlt:=(Aq hx).1
  have hlt1:i<es.length:=by omega
  have hlt2:(i:Int)<es.length:=by omega
  obtain⟨z,hz,hzs,hzl,_⟩:=Dn hT hx
  have hrz:=hzs.rules
  simp only[BT]at hrz
  have wi:wr .i64 ((i:Int)+1)=((i+1:Nat):Int):=Aa (by omega) (by omega)
  rw[(Aq hx).2,List.all_cons]at hI
  by_cases h20:(20:Int)<nd.2.length
  ·have e:(t.nodes.all fun n=>decide (n.2.length<=20))=false:=by rw[hI,AiE (by omega:¬nd.2.length<=20)];rfl
   simp (maxSteps:=2000000) (disch:=omega) [hrn,hlt2,hz,hrz,hB,h20,e]
  ·rw[Aiv (by omega:nd.2.length<=20),Bool.true_and]at hI
   have k:=ih (i+1) (by omega) B (by omega) hB hI
   simp (maxSteps:=2000000) (disch:=omega) [hrn,hlt2,hz,hrz,hB,h20,wi,-Int.natCast_add]
   exact k
theorem UL {B n:Nat}{l:List I}(h:Fits Go.Proofs.Tryz.prog B (n+2) 43 l):∃x:Int×Int,l=[.i .i64 x.1,.i .i64 x.2]:=by
 unfold Fits at h
 rw[Go.Proofs.Tryz.underlying43]at h
 simp only[FitsF]at h
 obtain⟨x1,y1,rfl,k1,x2,y2,rfl,k2,rfl⟩:=h
 obtain⟨u,rfl,_⟩:=BG k1
 obtain⟨v,rfl,_⟩:=BG k2
 exact⟨(u,v),rfl⟩
theorem Rp {es:List (List I)}(h:∀x,x∈es -> ∃d:Int×Int,x=[.i .i64 d.1,.i .i64 d.2]):∃p,es=AB p:=by
 induction es with
 | nil=>exact⟨[],rfl⟩
 | cons x r ih =>
  obtain⟨d,rfl⟩:=h x (by simp)
  obtain⟨p,rfl⟩:=ih fun x hx=>h x (by simp[hx])
  exact⟨d::p,rfl⟩
theorem Va:∀ {es:List (List I)},(∀x,x∈es -> ∃y:Int,x=[.i .i64 y])->es=Cr (es.map dEn)
 | [],_=>rfl
 | e::r,h=>by
  obtain⟨y,rfl⟩:=h e (by simp)
  have:=Va (es:=r) fun x hx=>h x (by simp[hx])
  show _::r=[I.i .i64 (dEn [I.i .i64 y])]::Cr (r.map dEn)
  rw[<-this]
  rfl
theorem XN {B n:Nat}{l:List I}(h:Fits Go.Proofs.Tryz.prog B (n+2) 63 l):∃z:I,l=[z]/\IsSl z (Cr (dIn z))/\(dIn z).length<=B /\ ∀k,k∈dIn z -> -9223372036854775808<=k/\k<=9223372036854775807:=by
 unfold Fits at h
 rw[Go.Proofs.Tryz.underlying63]at h
 simp only at h
 rcases h with rfl|⟨es,rfl,hle,hes⟩
 ·exact⟨_,rfl,Bc,by simp[dIn],by simp[dIn]⟩
 ·refine⟨_,rfl,?_,by simpa[dIn]using hle,fun k hk=>?_⟩
  ·show IsSl (.sl es) (Cr (es.map dEn))
   rw[<-Va fun x hx=>let ⟨y,h1,_⟩:=BG (hes x hx);⟨y,h1⟩]
   exact Bp _
  ·have hk:k∈es.map dEn:=hk
   obtain⟨e,he,rfl⟩:=AiH.1 hk
   obtain⟨y,rfl,hy⟩:=BG (hes e he)
   exact hy
theorem XM {B n:Nat}{l:List I}(h:Fits Go.Proofs.Tryz.prog B (n+3) 65 l):∃(x:Int) (z:I),l=[.i .i64 x,z]/\IsSl z (Cr (dIn z))/\(dIn z).length<=B /\ ∀k,k∈dIn z -> -9223372036854775808<=k/\k<=9223372036854775807:=by
 unfold Fits at h
 rw[Go.Proofs.Tryz.underlying65]at h
 simp only[FitsF]at h
 obtain⟨x1,y1,rfl,k1,x2,y2,rfl,k2,rfl⟩:=h
 obtain⟨u,rfl,_⟩:=BG k1
 obtain⟨z,rfl,h1,h2,h3⟩:=XN k2
 exact⟨u,z,rfl,h1,h2,h3⟩
theorem AcP:Ci Go.Proofs.Tryz.prog 25=some true:=by unfold Ci;rw[Go.Proofs.Tryz.underlying25];rfl
theorem Ql {B n:Nat}{ts:List TypeId}{us:List V}(hB:B<=9223372036854775807)(h:Do Go.Proofs.Tryz.prog B (n+5) (25::ts) us):
  ∃(t:TreeC) (hh nn:I) (es:List (List I)) (r:List V),us=.m (.ag [.i .i64 t.states,hh,nn])::r/\TreeV t hh nn es/\Do Go.Proofs.Tryz.prog B (n+5) ts r:=by
 obtain⟨l,r,rfl,hl,h'⟩:=It h
 unfold Fits at hl
 rw[Go.Proofs.Tryz.underlying25]at hl
 simp only[FitsF]at hl
 obtain⟨x1,y1,rfl,k1,x2,y2,rfl,k2,x3,y3,rfl,k3,rfl⟩:=hl
 obtain⟨u,rfl,_⟩:=BG k1
 unfold Fits at k2 k3
 rw[Go.Proofs.Tryz.underlying22]at k2
 rw[Go.Proofs.Tryz.underlying23]at k3
 simp only at k2 k3
 have hh:∃(v:I) (p:List (Int×Int)),x2=[v]/\IsSl v (AB p)/\p.length<=B:=by
  rcases k2 with rfl|⟨es,rfl,hle,hes⟩
  ·exact⟨_,[],rfl,Bc,by simp⟩
  ·obtain⟨p,rfl⟩:=Rp fun x hx=>UL (hes x hx)
   exact⟨_,p,rfl,Bp _,by simpa using hle⟩
 have hn:∃(v:I) (es:List (List I)),x3=[v]/\IsSl v es/\Qp es/\es.length<=B:=by
  rcases k3 with rfl|⟨es,rfl,hle,hes⟩
  ·exact⟨_,[],rfl,Bc,fun e he=>(by cases he),by simp⟩
  ·refine⟨_,es,rfl,Bp _,fun e he=>?_,hle⟩
   obtain⟨x,z,h1,h2,h3,h4⟩:=XM (hes e he)
   exact⟨x,z,h1,h2,by omega,h4⟩
 obtain⟨hv,p,rfl,h1,h2⟩:=hh
 obtain⟨nv,es,rfl,h3,h4,h5⟩:=hn
 rw[Ty AcP]
 exact⟨⟨u,p,es.map dNd⟩,hv,nv,es,r,rfl,⟨h1,h3,h4,rfl,by show p.length<=_;omega,by omega⟩,h'⟩
end Go.Mx.Tryz
namespace Go.Mx.Tryz
@[simp] theorem rx_ldb (M:Mem)(ag:Bool)(sz d off:Nat):readX M (.ldb ag sz) [.fa d off]=(readA M sz (.fa d off)).bind fun cs=>Dk ag cs:=rfl
@[simp] theorem px_slc_r (esz:Nat)(lo hi mx:Bool)(r ver e st len:Nat)(lim:Bool)(vs:List V):Ap (.slc esz lo hi mx) (.sl r ver e st len lim::vs)=gd (eqB false (Nat.beq esz 0)) (gd (Nat.beq esz e) ((IW len lo hi mx vs).bind fun p=>some (.sl r ver e (st+p.1) (p.2-p.1) (mx||(lim&&Nat.beq p.2 len))))):=rfl
@[simp] theorem allM_sl (a b c d e:Nat)(f:Bool)(r:List V):Bz (.sl a b c d e f::r)=none:=rfl
@[simp] theorem Afk (H:Hp)(cs:List V):view 20 H (.ag cs)=(Af (view 19 H) cs).bind fun l=>some (.ag l):=rfl
@[simp] theorem eqB_ff:eqB false false=true:=rfl
theorem AS {α:Type}{l:List α}{i:Nat}{x:α}(h:nth l i=some x):i<l.length:=by
 rw[AP]at h
 exact(Ain.1 h).1
theorem AhD {α:Type}(l:List α)(i j:Nat)(x:α)(h:i<l.length):nth (l.set i x) j=if i=j then some x else nth l j:=by
 rw[AP,AP,List.getElem?_set]
 by_cases e:i=j
 ·subst e;simp[h]
 ·simp[e]
theorem AG {α:Type}{l:List α}{i j:Nat}{x:α}(h:i≠j):nth (l.set i x) j=nth l j:=by
 rw[AP,AP,List.getElem?_set,Aiq h]
theorem Be {α:Type}{l:List α}{i:Nat}{x:α}(h:i<l.length):nth (l.set i x) i=some x:=by
 rw[AhD _ _ _ _ h,Air rfl]
theorem BL {α:Type}(l m:List α)(j:Nat)(h:j<l.length):nth (l++m) j=nth l j:=by
 rw[AP,AP,AiI h]
theorem De {α:Type}(l m:List α)(j:Nat):nth (l++m) (l.length+j)=nth m j:=by
 rw[AP,AP,AiX (by omega)]
 congr 1
 omega
theorem Dz {M:Mem}{ty esz bytes r base:Nat}{es xs:List (List V)}(h:nth M.H r=some (.cs ty esz es base false))(hx:xs≠[])(hb:(es.length+xs.length)*bytes<=140737488355328)(hal:(xs.all fun e=>Nat.beq e.length esz&&e.all BM)=true):
  Fi M ty esz bytes (.sl r es.length esz 0 es.length false) xs=some (.sl r (es.length+xs.length) esz 0 (es.length+xs.length) false,{ M with H:=M.H.set r (.cs ty esz (es++xs) base false) }):=by
 obtain⟨x,t,rfl⟩:=AjO hx
 have e:=AE M.H r (.cs ty esz (es++x::t) base false) (AS h)
 have h2:Nat.ble ((es.length+(x::t).length)*bytes) 140737488355328=true:=by rw[Bb];exact Aiv hb
 show Option.bind (nth M.H r) _=_
 rw[h]
 show gd (!false&&Nat.beq ty ty&&Nat.beq esz esz&&Nat.beq esz esz&&Nat.beq 0 0&&Nat.beq es.length es.length&&Nat.beq es.length es.length&&Nat.ble ((es.length+(x::t).length)*bytes) 140737488355328&&((x::t).all fun e=>Nat.beq e.length esz&&e.all BM)) _=_
 simp only[Nat.beq_refl,h2,hal,Bool.and_self,Bool.not_false,gd]
 rw[e]
 rfl
@[reducible] def strR (s:List Nat)(b:Nat):Row:=.cs 9 1 [[.m (.s s)]] b false
@[reducible] def zerR (b:Nat):Row:=.cs 3 1 [[.m (.i .i64 0)]] b false
def Ahe (ws:List (List Nat)):List (List V):=ws.map fun w=>[.m (.s w)]
@[simp] theorem Ahd (ws:List (List Nat)):(Ahe ws).length=ws.length:=by simp[Ahe]
theorem Am {s:St}{n:Nat}{x:V}(h:AA x=true):Di s (.v n) x=some { s with E:=BV s.E n x }:=by
 cases x with
 | fa d o=>cases h
 | _=>first|rfl|simp
open Go.Sort Go.Lib
instance:Inhabited Ce:=⟨⟨0,0,0⟩⟩
def Qe:Rw Ce 3 true where
 enc c:=c.i.map .m
 val c:=.m (.ag c.i)
 len c:=rfl
 pos:=by decide
 one c:=rfl
 ld c:=by simp[Ce.i]
 st c:=by simp[Ce.i]
def ceCmp (A:Hp):Cmp Qe A 69 AZ where
 ok _:=True
 ext _ _ _:=Aje
 cmp a b:=HC a.x a.y b.x b.y
 neg a b:=by
  unfold HC AZ
  grind [DT]
 run a b row C _:=Ug a b _
theorem PR:SWO AZ where
 irrefl x:=by simp[AZ]
 trans x y z h1 h2:=by simp only[AZ,Aix]at *;omega
 ntrans x y z h1 h2:=by simp only[AZ,decide_eq_false_iff_not]at *;omega
open Go.Proofs
def ML (c:Ce):Option Int:=if placed c.x c.y=false then some 5 else if c.s<0\/8<=c.s then some 10 else none
def bad:List Ce->Option Int
 | []=>none
 | c::r=>match ML c with
  | some e=>some e
  | none=>bad r
def liv (p:List Ce):List Ce:=p.filter fun c=>decide (0<c.s)
def AK (p:List Ce):List (List V):=p.map Qe.enc
@[simp] theorem DP (p:List Ce):(AK p).length=p.length:=by simp[AK]
theorem CE {p:List Ce}{i:Nat}{c:Ce}(h:p[i]? = some c):nth (AK p) i=some [.m (.i .i64 c.x),.m (.i .i64 c.y),.m (.i .i64 c.s)]:=by
 rw[AP]
 simp[AK,h,Qe,Ce.i]
def zP (p:List Ce):I:=if p=[] then .nl 4 else .sl (Aj p)
theorem Ge (p:List Ce):IsSl (zP p) (Aj p):=by
 unfold zP
 split
 ·rename_i h;subst h;exact Bc
 ·exact Bp _
def OutP (f:List Ce)(o:V)(H:Hp):Prop:=(f=[]/\o=.m (.nl 4)/\H=[])\/(f≠[]/\o=.sl 0 f.length 3 0 f.length false/\H=[.cs 73 3 (AK f) 0 false])
theorem Ud {f:List Ce}{o:V}{H:Hp}(h:OutP f o H)(hl:f.length<=1000000)(c:Ce):∃o1 H1,(∀B,Fi ⟨B,H⟩ 73 3 24 o [[.m (.i .i64 c.x),.m (.i .i64 c.y),.m (.i .i64 c.s)]]=some (o1,⟨B,H1⟩))/\AA o1=true/\OutP (f++[c]) o1 H1:=by
 rcases h with ⟨rfl,rfl,rfl⟩|⟨hne,rfl,rfl⟩
 ·exact⟨_,_,fun B=>rfl,rfl,.inr ⟨by simp,rfl,rfl⟩⟩
 ·have ha:=fun B=>Dz (M:=⟨B,[.cs 73 3 (AK f) 0 false]⟩) (r:=0) (bytes:=24) (xs:=[[.m (.i .i64 c.x),.m (.i .i64 c.y),.m (.i .i64 c.s)]]) rfl (by simp) (by simp;omega) rfl
  simp only[DP,Ajf,Ajj,Ajw,List.set_cons_zero]at ha
  have e:AK f++[[.m (.i .i64 c.x),.m (.i .i64 c.y),.m (.i .i64 c.s)]]=AK (f++[c]):=by simp[AK,Qe,Ce.i]
  rw[e]at ha
  exact⟨_,_,ha,rfl,.inr ⟨by simp,by simp,rfl⟩⟩
def tw:List Ce->Bool
 | []=>false
 | [_]=>false
 | a::b::r=>decide (a.x=b.x/\a.y=b.y)||tw (b::r)
def Adx (q:List Ce):V:=if tw q=true then .tu [.m (.nl 4),.m (.i .i64 8)] else if 5000<q.length then .tu [.m (.nl 4),.m (.i .i64 6)] else .tu [.m (zP q),.m (.i .i64 0)]
def Asc (q:List Ce):Prop:=∀(i j:Nat) (a b:Ce),i<j->q[i]? = some a->q[j]? = some b->AZ b a=false
theorem WY (H:Hp):Gives G 68 [.m (.nl 4),.m (.fn 69 [])] H (.tu []) H:=⟨40,by kernel_rfl⟩
theorem WP {r b n:Nat}{X A:Hp}{q:List Ce}(hn:q.length=n)(hb:b<=n)(k:Nat):view (k+2) (.cs 73 3 (AK q) b false::X) (.sl 0 n 3 0 n false)=some (.sl (Aj q)):=by
 have e:elems (.cs 73 3 (AK q) b false::X) (.sl 0 n 3 0 n false)=some (AK q):=by
  show gd (Nat.ble b n&&Nat.beq 3 3) (some (((AK q).drop 0).take n))=_
  rw[Bb,Aiv hb,AjP,AiJ (by simp;omega)]
  rfl
 show Option.bind (elems _ (.sl 0 n 3 0 n false)) _=_
 rw[e]
 show Option.bind (Af _ (AK q)) _=_
 have ho:∀(H:Hp) (m:List Ce),Af (fun e=>Af (view (k+1) H) e) (AK m)=some (Aj m):=by
  intro H m
  induction m with
  | nil=>rfl
  | cons x t ih =>
   show Option.bind (some [I.i .i64 x.x,.i .i64 x.y,.i .i64 x.s]) _=_
   simp only[Ait]
   show Option.bind (Af _ (AK t)) _=_
   rw[ih]
   rfl
 rw[ho]
 rfl
theorem JG {f:List Ce}{d':Array Ce}(h:PermIn 0 f.length f.toArray d'):d'.toList.Perm f/\d'.size=f.length:=by
 have hs:d'.size=f.length:=by rw[h.1];simp
 refine⟨?_,hs⟩
 have hp:=h.2.2
 have e1:(d'.extract 0 f.length)=d':=by rw[<-hs];simp
 have e2:(f.toArray.extract 0 f.length)=f.toArray:=by
  have:f.length=f.toArray.size:=by simp
  rw[this];simp
 rw[e1,e2]at hp
 simpa using hp
theorem YT {d':Array Ce}{n:Nat}(hs:d'.size=n)(h:SortedIn AZ 0 n d'):Asc d'.toList:=fun i j a b hij ha hb=>by
 obtain⟨h1,rfl⟩:=Ain.1 ha
 obtain⟨h2,rfl⟩:=Ain.1 hb
 have h1':i<d'.size:=by simpa using h1
 have h2':j<d'.size:=by simpa using h2
 have:=h i j (AiD _) hij (by omega)
 rw[getElem!_pos d' j h2',getElem!_pos d' i h1']at this
 simpa using this
theorem Kw (es:List (List V))(ix:Nat):Dq 3 es ix 0 3=(nth es ix).bind fun e=>CV 3 e:=rfl
set_option maxHeartbeats 2000000 in
theorem YO {v:I}{p:List Ce}(hv:IsSl v (Aj p))(hl:p.length<=1000000)(H:Hp):
  (∃e,bad p=some e/\Gives G 35 [.m v] H (.tu [.m (.nl 4),.m (.i .i64 e)]) H)\/(bad p=none /\ ∃q,q.Perm (liv p)/\Asc q/\Gives G 35 [.m v] H (Adx q) H):=by
 have hr:=hv.rules
 have key:∃x H',Gives G 35 [.m v] H x H'/\(H'=H/\((∃e,bad p=some e/\x=.tu [.m (.nl 4),.m (.i .i64 e)])\/(bad p=none /\ ∃q,q.Perm (liv p)/\Asc q/\x=Adx q))):=by
  refine Bn ?_
  refine Fv rfl rfl rfl rfl rfl ?_
  simp (maxSteps:=2000000) (disch:=omega) [hr]
  refine(?key:∀(i:Nat) (o:V) (B:List (Nat×List V)) (H1:Hp),i<=p.length->OutP (liv (p.take i)) o H1->bad (p.take i)=none->bad p=bad (p.drop i)->Run G c35_B0 (S35_0 o (.m v) (.m (.i .i64 p.length)) (.m (.i .i64 (i:Int))) B H1) _) 0 (.m (.nl 4)) [] [] (AiD _) (.inl ⟨rfl,rfl,rfl⟩) rfl rfl
  refine BN (fun i:Nat=>p.length-i) fun i ih o B H1 hi ho hbt hb=>?_
  have hnf:AA o=true:=by
   rcases ho with ⟨_,rfl,_⟩|⟨_,rfl,_⟩ <;> rfl
  have hfl:(liv (p.take i)).length<=i:=AjF (List.length_filter_le _ _) (by rw[AiG];omega)
  unfold c35_B0
  cases hx:p[i]? with
  | some c =>
   have hlt:=(Aq hx).1
   have hlt':(i:Int)<p.length:=by omega
   have hn:=AJ hx
   have wi:wr .i64 ((i:Int)+1)=(i:Int)+1:=Aa (by omega) (by omega)
   have g1:=fun H=>AcO c H
   have g2:=fun H=>Ht c.x c.y H
   have e1:bad (c::p.drop (i+1))=match ML c with|some e=>some e|none=>bad (p.drop (i+1)):=rfl
   rw[(Aq hx).2,e1]at hb
   have htk:p.take (i+1)=p.take i++[c]:=Az hx
   by_cases hp:placed c.x c.y=true
   ·rw[hp]at g2
    by_cases hs0:c.s<0
    ·have hbc:ML c=some 10:=by unfold ML;rw[Aiq (by rw[hp];simp),Air (.inl hs0)]
     rw[hbc]at hb
     simp (maxSteps:=2000000) (disch:=omega) [Ab,hr,hlt',hn,cl (g1 _),cl (g2 _),hs0,hb]
    by_cases hs8:8<=c.s
    ·have hbc:ML c=some 10:=by unfold ML;rw[Aiq (by rw[hp];simp),Air (.inr hs8)]
     rw[hbc]at hb
     simp (maxSteps:=2000000) (disch:=omega) [Ab,hr,hlt',hn,cl (g1 _),cl (g2 _),hs0,hs8,hb]
    have hbc:ML c=none:=by unfold ML;rw[Aiq (by rw[hp];simp),Aiq (by omega)]
    rw[hbc]at hb
    replace hb:bad p=bad (p.drop (i+1)):=hb
    have hbt2:bad (p.take (i+1))=none:=by
     rw[htk]
     have:∀l:List Ce,bad l=none->bad (l++[c])=none:=fun l=>by
      induction l with
      | nil=>intro _;show (match ML c with|some e=>some e|none=>none)=none;rw[hbc]
      | cons d r ih =>
       intro h
       have f1:bad (d::r)=match ML d with|some e=>some e|none=>bad r:=rfl
       have f2:bad (d::(r++[c]))=match ML d with|some e=>some e|none=>bad (r++[c]):=rfl
       rw[Aji,f2]
       rw[f1]at h
       cases hd:ML d with
       | some e=>rw[hd]at h;cases h
       | none=>rw[hd]at h;exact ih h
     exact this _ hbt
    by_cases hs1:0<c.s
    ·have hlv:liv (p.take (i+1))=liv (p.take i)++[c]:=by
      rw[htk]
      unfold liv
      rw[List.filter_append]
      simp[hs1]
     obtain⟨o1,H2,ha,hn1,ho1⟩:=Ud ho (by omega) c
     rw[<-hlv]at ho1
     simp (maxSteps:=2000000) (disch:=omega) [Ab,hr,hlt',hn,cl (g1 _),cl (g2 _),hs0,hs8,hs1,ha,Am hn1,wi]
     exact ih (i+1) (by omega) _ _ _ (by omega) ho1 hbt2 hb
    ·have hlv:liv (p.take (i+1))=liv (p.take i):=by
      rw[htk]
      unfold liv
      rw[List.filter_append]
      simp[hs1]
     rw[<-hlv]at ho
     simp (maxSteps:=2000000) (disch:=omega) [Ab,hr,hlt',hn,cl (g1 _),cl (g2 _),hs0,hs8,hs1,wi]
     exact ih (i+1) (by omega) _ _ _ (by omega) ho hbt2 hb
   ·rw[Bool.not_eq_true]at hp
    rw[hp]at g2
    have hbc:ML c=some 5:=by unfold ML;rw[Air hp]
    rw[hbc]at hb
    simp (maxSteps:=2000000) (disch:=omega) [Ab,hr,hlt',hn,cl (g1 _),cl (g2 _),hb]
  | none =>
   have:i=p.length:=by have:=AiC.1 hx;omega
   subst this
   have hb0:bad p=none:=by rw[hb,Ajs];rfl
   rw[Ajc]at ho
   rcases ho with ⟨hf,rfl,rfl⟩|⟨hf,rfl,rfl⟩
   ·have gs:=fun H=>WY H
    simp (maxSteps:=2000000) (disch:=omega) [cl (gs _),hb0]
    unfold c35_B1
    simp (maxSteps:=2000000) (disch:=omega) []
    exact⟨[],by rw[hf],fun i j a b _ h=>by simp at h,rfl⟩
   ·generalize hfe:liv p=f at *
    clear ih hx
    have hfl2:f.length<=1000000:=by rw[<-hfe];exact AjF (List.length_filter_le _ _) (by omega)
    simp (maxSteps:=2000000) (disch:=omega) []
    rw[Ao]
    have hrow:Row.cs 73 3 (AK f) 0 false=.cs 73 3 (Bk Qe f.toArray) 0 false:=by simp[Bk,AK]
    rw[hrow]
    refine TM (A:=[]) (ceCmp []) PR (n:=f.length) (by omega) [] Aje f.toArray 0 (by simp) (AiD _) _ fun d' b1 X hp hso hb1=>?_
    obtain⟨hperm,hsz⟩:=JG hp
    have hasc:=YT hsz hso
    have hrow2:Bk Qe d'=AK d'.toList:=rfl
    have hql:d'.toList.length=f.length:=by simpa using hsz
    rw[hrow2]
    generalize d'.toList=q at *
    have hres:Adx q=if tw q=true then .tu [.m (.nl 4),.m (.i .i64 8)] else if 5000<q.length then .tu [.m (.nl 4),.m (.i .i64 6)] else .tu [.m (zP q),.m (.i .i64 0)]:=rfl
    have hq0:q≠[]:=fun e=>by subst e;simp at hql;exact hf (AiP hql.symm)
    obtain⟨a0,r0,hqe⟩:=AjO hq0
    simp (maxSteps:=2000000) (disch:=omega) []
    refine(?key2:∀(j:Nat) (B:List (Nat×List V)),1<=j->j<=q.length->tw q=tw (q.drop (j-1))->Run G c35_B1 (S35_1 (.sl 0 f.length 3 0 f.length false) (.m (.i .i64 (j:Int))) B (.cs 73 3 (AK q) b1 false::X)) _) 1 _ (Ais _) (by have:=List.length_pos_iff.2 hq0;omega) rfl
    refine BN (fun j:Nat=>q.length-j) fun j ih B h1j hj htw=>?_
    unfold c35_B1
    have wj:wr .i64 ((j:Int)+1)=(j:Int)+1:=Aa (by omega) (by omega)
    have wj1:wr .i64 ((j:Int)-1)=(j:Int)-1:=Aa (by omega) (by omega)
    cases hx:q[j]? with
    | some c =>
     have hlt:=(Aq hx).1
     obtain⟨a,ha⟩:∃a,q[j-1]? = some a:=⟨q[j-1]'(by omega),Aip _⟩
     have hlt':(j:Int)<f.length:=by omega
     have hltn:j<f.length:=by omega
     have hltm:(j:Int)-1<f.length:=by omega
     have h0m:(0:Int)<=(j:Int)-1:=by omega
     have htn:((j:Int)-1).toNat=j-1:=by omega
     have hn:=CE hx
     have hna:=CE ha
     have e0:q.drop (j-1)=a::c::q.drop (j+1):=by
      have:=(Aq ha).2
      rw[this,show j-1+1=j by omega,(Aq hx).2]
     have e1:tw (a::c::q.drop (j+1))=(decide (a.x=c.x/\a.y=c.y)||tw (c::q.drop (j+1))):=rfl
     rw[e0,e1]at htw
     have g1:=fun H=>AcO a H
     have g2:=fun H=>AcO c H
     by_cases heq:a.x=c.x/\a.y=c.y
     ·rw[Aiv heq,Bool.true_or]at htw
      rw[htw,Air rfl]at hres
      have heq1:(decide (a.x=c.x)&&decide (a.y=c.y))=true:=by simpa using heq
      simp (maxSteps:=2000000) (disch:=omega) [Ab,hlt',htn,wj1,hb1,Kw,hn,hna,cl (g1 _),cl (g2 _),heq1,hb0]
      exact⟨q,hperm,hasc,hres.symm⟩
     ·rw[AiE heq,Bool.false_or]at htw
      have heq2:(decide (a.x=c.x)&&decide (a.y=c.y))=false:=by
       rw[Bool.eq_false_iff]
       simpa using heq
      simp (maxSteps:=2000000) (disch:=omega) [Ab,hlt',htn,wj1,hb1,Kw,hn,hna,cl (g1 _),cl (g2 _),heq2,wj]
      exact ih (j+1) (by omega) _ (by omega) (by omega) (by rw[htw,show j+1-1=j by omega,(Aq hx).2])
    | none =>
     have:j=q.length:=by have:=AiC.1 hx;omega
     have hlt':¬(j:Int)<f.length:=by omega
     have htw0:tw q=false:=by
      rw[htw]
      have:(q.drop (j-1)).length=1:=by rw[AiY];omega
      match hm:q.drop (j-1),this with
      | [x],_=>rfl
     rw[htw0,Aiq (by simp)]at hres
     by_cases h5:5000<q.length
     ·have h5':(5000:Int)<f.length:=by omega
      rw[Air h5]at hres
      simp (maxSteps:=2000000) (disch:=omega) [hlt',h5',hb0]
      exact⟨q,hperm,hasc,hres.symm⟩
     ·have h5':¬(5000:Int)<f.length:=by omega
      rw[Aiq h5]at hres
      have hv:=WP (r:=0) (X:=X) (A:=[]) hql hb1 18
      simp (maxSteps:=2000000) (disch:=omega) [hlt',h5',hb0,hv]
      refine⟨q,hperm,hasc,?_⟩
      rw[hres]
      unfold zP
      rw[Aiq hq0]
 obtain⟨x,H',h1,rfl,h2⟩:=key
 rcases h2 with ⟨e,h3,rfl⟩|⟨h3,q,h4,h5,rfl⟩
 ·exact .inl ⟨e,h3,h1⟩
 ·exact .inr ⟨h3,q,h4,h5,h1⟩
end Go.Mx.Tryz
namespace Go.Mx.Tryz
open Go.Lib
theorem Yy {H:Hp}{r b:Nat}{q:List Ce}(h:nth H r=some (.cs 73 3 (AK q) b false))(hb:b<=q.length)(k:Nat):view (k+2) H (.sl r q.length 3 0 q.length false)=some (.sl (Aj q)):=by
 have e:elems H (.sl r q.length 3 0 q.length false)=some (AK q):=by
  show Option.bind (nth H r) _=_
  rw[h]
  show gd (Nat.ble b q.length&&Nat.beq 3 3) (some (((AK q).drop 0).take q.length))=_
  rw[Bb,Aiv hb,AjP,AiJ (by simp)]
  rfl
 show Option.bind (elems H (.sl r q.length 3 0 q.length false)) _=_
 rw[e]
 show Option.bind (Af _ (AK q)) _=_
 have ho:∀(H:Hp) (m:List Ce),Af (fun e=>Af (view (k+1) H) e) (AK m)=some (Aj m):=by
  intro H m
  induction m with
  | nil=>rfl
  | cons x t ih =>
   show Option.bind (some [I.i .i64 x.x,.i .i64 x.y,.i .i64 x.s]) _=_
   simp only[Ait]
   show Option.bind (Af _ (AK t)) _=_
   rw[ih]
   rfl
 rw[ho]
 rfl
theorem TV (q:List Ce):((AK q).all fun e=>e.all isM)=true:=by
 simp[AK,Qe,Ce.i,isM]
def apart (a b:Ce):Prop:=¬(a.x=b.x/\a.y=b.y)
theorem Qd:∀(p:List Ce) (o:Option Ce),DU o p=true->p.Pairwise (fun a b=>AZ a b=true)/\(∀a,o=some a -> ∀d,d∈p->AZ a d=true) /\ ∀d,d∈p->DB d=true
 | [],_,_=>⟨.nil,fun _ _ d hd=>by simp at hd,fun d hd=>by simp at hd⟩
 | c::r,o,h=>by
  have h':DB c=true/\(∀a,o=some a->AZ a c=true)/\DU (some c) r=true:=by
   cases o with
   | none =>
    have:(DB c&&DU (some c) r)=true:=h
    rw[Aio]at this
    exact⟨this.1,fun _ h=>(by cases h),this.2⟩
   | some a =>
    have:(DB c&&AZ a c&&DU (some c) r)=true:=h
    simp only[Aio]at this
    exact⟨this.1.1,fun _ h=>(by cases h;exact this.1.2),this.2⟩
  obtain⟨g1,g2,g3⟩:=h'
  obtain⟨i1,i2,i3⟩:=Qd r (some c) g3
  refine⟨AiO.2 ⟨fun d hd=>i2 c rfl d hd,i1⟩,fun a ha d hd=>?_,fun d hd=>?_⟩
  ·rcases AiK.1 hd with rfl|hd
   ·exact g2 a ha
   ·have h1:=g2 a ha
    have h2:=i2 c rfl d hd
    unfold AZ at *
    grind
  ·rcases AiK.1 hd with rfl|hd
   ·exact g1
   ·exact i3 d hd
theorem AI {p:List Ce}(h:right p=true):p.Pairwise (fun a b=>AZ a b=true)/\(∀d,d∈p->DB d=true)/\p.length<=5000:=by
 unfold right at h
 simp only[Aio,Aix]at h
 have:=Qd p none h.2
 exact⟨this.1,this.2.2,h.1⟩
theorem HE:∀ {p:List Ce},(∀c,c∈p->DB c=true)->bad p=none
 | [],_=>rfl
 | c::r,h=>by
  have hc:=h c (by simp)
  unfold DB at hc
  simp only[Aio,Aix]at hc
  have e:ML c=none:=by
   unfold ML
   rw[Aiq (by rw[hc.1.1];simp),Aiq (by omega)]
  have e2:bad (c::r)=match ML c with|some e=>some e|none=>bad r:=rfl
  rw[e2,e]
  exact HE fun d hd=>h d (by simp[hd])
theorem AaV:∀ {p:List Ce},p.Pairwise (fun a b=>AZ a b=true)->tw p=false
 | [],_=>rfl
 | [_],_=>rfl
 | a::b::r,h=>by
  have e:tw (a::b::r)=(decide (a.x=b.x/\a.y=b.y)||tw (b::r)):=rfl
  obtain⟨h1,h2⟩:=AiO.1 h
  have:=h1 b (by simp)
  rw[e,AaV h2,Bool.or_false]
  unfold AZ at this
  simp at this ⊢
  omega
theorem Aif {p q:List Ce}(hw:p.Pairwise (fun a b=>AZ a b=true))(hq:Asc q)(hpm:q.Perm p):q=p:=by
 have hqp:q.Pairwise (fun a b=>AZ b a=false):=by
  rw[AjH]
  intro i j hi hj hij
  exact hq i j _ _ hij (Aip hi) (Aip hj)
 have hpp:p.Pairwise (fun a b=>AZ b a=false):=hw.imp fun {a b} h=>by
  unfold AZ at *
  simp at h ⊢
  omega
 refine hpm.eq_of_pairwise (fun a b ha hb h1 h2=>?_) hqp hpp
 have ha':a∈p:=hpm.mem_iff.1 ha
 obtain⟨i,hi,rfl⟩:=List.mem_iff_getElem.1 ha'
 obtain⟨j,hj,rfl⟩:=List.mem_iff_getElem.1 hb
 rcases Nat.lt_trichotomy i j with h|h|h
 ·have:=AjH.1 hw i j hi hj h
  rw[this]at h2;cases h2
 ·subst h;rfl
 ·have:=AjH.1 hw j i hj hi h
  rw[this]at h1;cases h1
theorem Fe {p q:List Ce}(h:q.Perm p)(ha:p.Pairwise apart):q.Pairwise apart:=by
 refine(h.pairwise_iff (fun {a b} hab=>?_)).2 ha
 exact fun⟨h1,h2⟩=>hab ⟨h1.symm,h2.symm⟩
theorem Vb {q:List Ce}(ha:Asc q)(hp:q.Pairwise apart):q.Pairwise (fun a b=>AZ a b=true):=by
 rw[AjH]at hp ⊢
 intro i j hi hj hij
 have h1:=ha i j _ _ hij (Aip hi) (Aip hj)
 have h2:=hp i j hi hj hij
 unfold AZ at *
 unfold apart at h2
 simp at *
 omega
theorem XH {c:Ce}(h:DB c=true):placed c.x c.y=true/\1<=c.s/\c.s<8:=by
 unfold DB at h
 simp only[Aio,Aix]at h
 exact⟨h.1.1,h.1.2,h.2⟩
theorem PP {p:List Ce}(h:∀c,c∈p->DB c=true):liv p=p:=by
 unfold liv
 rw[List.filter_eq_self]
 intro c hc
 have:=XH (h c hc)
 exact Aiv (by omega)
theorem Gh:∀ {p:List Ce},p.Pairwise (fun a b=>AZ a b=true)->(∀c,c∈p->DB c=true)->p.length<=5000->right p=true:=fun {p} h1 h2 h3=>by
 have key:∀(p:List Ce) (o:Option Ce),p.Pairwise (fun a b=>AZ a b=true)->(∀a,o=some a -> ∀d,d∈p->AZ a d=true)->(∀c,c∈p->DB c=true)->DU o p=true:=by
  intro p
  induction p with
  | nil=>intro o _ _ _;cases o <;> rfl
  | cons c r ih =>
   intro o h1 h2 h3
   obtain⟨h4,h5⟩:=AiO.1 h1
   have i:=ih (some c) h5 (fun a ha d hd=>by cases ha;exact h4 d hd) (fun d hd=>h3 d (AiW _ hd))
   cases o with
   | none =>
    show (DB c&&DU (some c) r)=true
    rw[h3 c (AiM ..),i]
    rfl
   | some a =>
    show (DB c&&AZ a c&&DU (some c) r)=true
    rw[h3 c (AiM ..),i,h2 a rfl c (AiM ..)]
    rfl
 unfold right
 rw[Aiv h3,key p none h1 (fun a h=>by cases h) h2]
 rfl
open Go.Sort Go.Proofs
def YM (c:Ce):List Ce->List Ce
 | []=>[c]
 | d::r=>if AZ c d=true then c::d::r else d::YM c r
theorem IM (c:Ce):∀p,(YM c p).Perm (c::p)
 | []=>List.Perm.refl _
 | d::r=>by
  unfold YM
  split
  ·exact List.Perm.refl _
  ·exact((IM c r).cons d).trans (List.Perm.swap c d r)
theorem AcB {a b c:Ce}(h1:AZ a b=true)(h2:AZ b c=true):AZ a c=true:=by
 unfold AZ at *
 simp at *
 omega
theorem Ri {a b:Ce}(h:apart a b)(h1:AZ a b=false):AZ b a=true:=by
 unfold AZ at *
 unfold apart at h
 simp at *
 omega
theorem Fd {a b:Ce}(h:apart a b):apart b a:=fun⟨h1,h2⟩=>h ⟨h1.symm,h2.symm⟩
theorem UB (c:Ce):∀p:List Ce,p.Pairwise (fun a b=>AZ a b=true)->(∀d,d∈p->apart c d)->(YM c p).Pairwise (fun a b=>AZ a b=true)
 | [],_,_=>by simp[YM]
 | d::r,h,ha=>by
  obtain⟨h1,h2⟩:=AiO.1 h
  unfold YM
  split
  ·rename_i hl
   refine AiO.2 ⟨fun e he=>?_,h⟩
   rcases AiK.1 he with rfl|he
   ·exact hl
   ·exact AcB hl (h1 e he)
  ·rename_i hl
   refine AiO.2 ⟨fun e he=>?_,UB c r h2 fun e he=>ha e (AiW _ he)⟩
   rcases AiK.1 ((IM c r).mem_iff.1 he) with rfl|he
   ·exact Ri (ha d (AiM ..)) (by simpa using hl)
   ·exact h1 e he
def AR (p:List Ce):List Ce:=p.foldl (fun a c=>YM c a) []
theorem Rd (p:List Ce)(c:Ce):AR (p++[c])=YM c (AR p):=by simp[AR]
theorem GK:∀n (p:List Ce),p.length=n->(AR p).Perm p/\(p.Pairwise apart->(AR p).Pairwise (fun a b=>AZ a b=true))
 | 0,p,h=>by
  have:p=[]:=AiP h
  subst this
  exact⟨List.Perm.refl _,fun _=>List.Pairwise.nil⟩
 | n+1,p,h=>by
  obtain⟨q,c,rfl⟩:∃q c,p=q++[c]:=⟨p.dropLast,p.getLast (by intro e;rw[e]at h;simp at h),(List.dropLast_concat_getLast _).symm⟩
  have hq:q.length=n:=by simpa using h
  obtain⟨h1,h2⟩:=GK n q hq
  rw[Rd]
  refine⟨(IM c _).trans ((h1.cons c).trans (List.perm_append_singleton c q).symm),fun hp=>?_⟩
  rw[AjB]at hp
  refine UB c _ (h2 hp.1) fun d hd=>?_
  exact Fd (hp.2.2 d (h1.mem_iff.1 hd) c (List.mem_singleton_self c))
theorem Bf (p:List Ce):(AR p).Perm p:=(GK _ p rfl).1
theorem CQ {p:List Ce}(h:p.Pairwise apart):(AR p).Pairwise (fun a b=>AZ a b=true):=(GK _ p rfl).2 h
theorem Dd (p:List Ce):(AR p).length=p.length:=(Bf p).length_eq
theorem IB {p q:List Ce}(hp:p.Pairwise (fun a b=>AZ a b=true))(hq:q.Pairwise (fun a b=>AZ a b=true))(h:q.Perm p):q=p:=by
 refine Aif hp (fun i j a b hij ha hb=>?_) h
 obtain⟨h1,rfl⟩:=Ain.1 ha
 obtain⟨h2,rfl⟩:=Ain.1 hb
 have:=AjH.1 hq i j h1 h2 hij
 unfold AZ at *
 simp at *
 omega
end Go.Mx.Tryz
set_option maxHeartbeats 4000000
namespace Go.Mx.Tryz
open Go.Sort Go.Lib Go.Proofs
def mvC (a b:Int)(c:Ce):Ce:=⟨c.x-a,c.y-b,c.s⟩
def tnC (k:Nat)(c:Ce):Ce:=⟨(Gl k c.x c.y).1,(Gl k c.x c.y).2,c.s⟩
def MB:List Ce->Int
 | []=>0
 | c::r=>mnF c.x ((c::r).map Ce.x)
def KU:List Ce->Int
 | []=>0
 | c::r=>mnF c.y ((c::r).map Ce.y)
def Cq (p:List Ce):List Ce:=p.map (mvC (MB p) (KU p))
theorem JF (f:List Ce)(c:Ce):AK f++[[.m (.i .i64 c.x),.m (.i .i64 c.y),.m (.i .i64 c.s)]]=AK (f++[c]):=by simp[AK,Qe,Ce.i]
theorem Ms (f:List Ce)(hl:f.length<=1000000)(c:Ce)(B:List (Nat×List V)):Fi ⟨B,[.cs 73 3 (AK f) 0 false]⟩ 73 3 24 (.sl 0 f.length 3 0 f.length false) [[.m (.i .i64 c.x),.m (.i .i64 c.y),.m (.i .i64 c.s)]]=some (.sl 0 (f++[c]).length 3 0 (f++[c]).length false,⟨B,[.cs 73 3 (AK (f++[c])) 0 false]⟩):=by
 have ha:=Dz (M:=⟨B,[.cs 73 3 (AK f) 0 false]⟩) (r:=0) (bytes:=24) (xs:=[[.m (.i .i64 c.x),.m (.i .i64 c.y),.m (.i .i64 c.s)]]) rfl (by simp) (by simp;omega) rfl
 simp only[DP,Ajf,Ajj,Ajw,List.set_cons_zero,JF]at ha
 rw[ha]
 simp
theorem Bt {p:List Ce}(h:right p=true){c:Ce}(hc:c∈p):(-1048576<=c.x/\c.x<=1048576)/\(-1048576<=c.y/\c.y<=1048576)/\1<=c.s/\c.s<8:=by
 have:=(AI h).2.1 c hc
 unfold DB placed at this
 simp only[Aio,Aix]at this
 omega
theorem Xy {p:List Ce}(h:right p=true):-1048576<=MB p/\MB p<=1048576:=by
 cases p with
 | nil=>simp[MB]
 | cons c r =>
  have hb:=Bt h (AiM ..)
  have h1:mnF c.x ((c::r).map Ce.x)<=c.x:=(II _ _).1
  have h2:-1048576<=mnF c.x ((c::r).map Ce.x):=JH _ _ _ ⟨by omega,fun y hy=>by
   obtain⟨d,hd,rfl⟩:=AiH.1 hy
   have:=Bt h hd
   omega⟩
  show -1048576<=mnF c.x ((c::r).map Ce.x)/\mnF c.x ((c::r).map Ce.x)<=1048576
  omega
theorem Xx {p:List Ce}(h:right p=true):-1048576<=KU p/\KU p<=1048576:=by
 cases p with
 | nil=>simp[KU]
 | cons c r =>
  have hb:=Bt h (AiM ..)
  have h1:mnF c.y ((c::r).map Ce.y)<=c.y:=(II _ _).1
  have h2:-1048576<=mnF c.y ((c::r).map Ce.y):=JH _ _ _ ⟨by omega,fun y hy=>by
   obtain⟨d,hd,rfl⟩:=AiH.1 hy
   have:=Bt h hd
   omega⟩
  show -1048576<=mnF c.y ((c::r).map Ce.y)/\mnF c.y ((c::r).map Ce.y)<=1048576
  omega
theorem YN {v:I}{p:List Ce}(hv:IsSl v (Aj p))(hp:right p=true)(H:Hp):Gives G 88 [.m v] H (.m (if p=[] then v else .sl (Aj (Cq p)))) H:=by
 have hl:p.length<=5000:=(AI hp).2.2
 have hr:=hv.rules
 have gb:=fun H=>Aid hv (by omega) H
 have gr:=fun H=>Ef hv (by omega) H
 rw[hp]at gr
 refine Al rfl rfl rfl rfl rfl ?_
 cases hpe:p with
 | nil =>
  subst hpe
  simp (maxSteps:=2000000) (disch:=omega) [Ab,Ac,cl (gb _),YS,Qg]
 | cons c0 r0 =>
  have hne:p≠[]:=by rw[hpe];simp
  rw[<-hpe]
  obtain⟨bw,bh,hbc⟩:∃bw bh,Qg p=[MB p,KU p,bw,bh]:=by
   obtain⟨d,hd⟩:∃d,(c0::r0)[(c0::r0).length-1]? = some d:=⟨_,Aip (by simp)⟩
   have hy:=(Pv (by rw[<-hpe];exact hp) hd).1
   have hlow:KU (c0::r0)=c0.y:=hy
   have hp':right (c0::r0)=true:=by rw[<-hpe];exact hp
   rw[hpe]
   simp only[Qg]
   rw[Air hp',hlow]
   exact⟨_,_,rfl⟩
  have hbv:YS p=.tu [.m (.ag [.i .i64 (MB p),.i .i64 (KU p),.i .i64 bw,.i .i64 bh]),.m (.b true)]:=by
   unfold YS
   rw[hbc,hp]
   simp[hne]
  rw[hbv]at gb
  have hlx:=Xy hp
  have hly:=Xx hp
  have hnc:Nat.beq 0 p.length=false:=by cases hq:p with|nil=>exact absurd hq hne|cons _ _=>rfl
  simp only[show (Aj p).length=p.length from by simp[Aj]]at hr
  have hcap:p.length*24<=281474976710656:=by omega
  have hcap2:p.length<=9223372036854775807:=by omega
  have hdc:decide (0=p.length)=false:=by rw[<-FA];exact hnc
  simp (maxSteps:=2000000) (disch:=omega) [Ab,hr,Ac,cl (gb _),cl (gr _),hne,hcap,hcap2,hdc]
  refine(?key:∀(i:Nat) (f:List Ce) (B:List (Nat×List V)),i<=p.length->f=(p.take i).map (mvC (MB p) (KU p))->getB B 3=some [.m (.i .i64 (MB p)),.m (.i .i64 (KU p)),.m (.i .i64 bw),.m (.i .i64 bh)]->Run G c88_B0 (S88_0 (.fa 3 0) (.sl 0 f.length 3 0 f.length false) (.m v) (.m (.i .i64 p.length)) (.m (.i .i64 (i:Int))) B [.cs 73 3 (AK f) 0 false]) _) 0 [] [(3,[.m (.i .i64 (MB p)),.m (.i .i64 (KU p)),.m (.i .i64 bw),.m (.i .i64 bh)])] (AiD _) rfl rfl
  refine BN (fun i:Nat=>p.length-i) fun i ih f B hi hf0 hB=>?_
  unfold c88_B0
  cases hx:p[i]? with
  | some c =>
   have hlt:=(Aq hx).1
   have hlt':(i:Int)<p.length:=by omega
   have hn:=AJ hx
   have wi:wr .i64 ((i:Int)+1)=(i:Int)+1:=Aa (by omega) (by omega)
   have htk:p.take (i+1)=p.take i++[c]:=Az hx
   have hb:=Bt hp (Aiu hx)
   have w1:wr .i64 (c.x-MB p)=c.x-MB p:=Aa (by omega) (by omega)
   have w2:wr .i64 (c.y-KU p)=c.y-KU p:=Aa (by omega) (by omega)
   have hf:f.length<=1000000:=by rw[hf0,AiB,AiG];omega
   have ha:=fun B=>Ms f hf (mvC (MB p) (KU p) c) B
   have e:f++[mvC (MB p) (KU p) c]=(p.take (i+1)).map (mvC (MB p) (KU p)):=by rw[htk,hf0];simp
   have ih':=ih (i+1) (by omega) (f++[mvC (MB p) (KU p) c])
   clear ih hf0
   generalize f++[mvC (MB p) (KU p) c]=f' at *
   simp only[mvC]at ha
   simp (maxSteps:=2000000) (disch:=omega) [Ab,hr,hlt',hn,wi,hB,w1,w2,ha]
   exact ih' _ (by omega) e (by simpa using hB)
  | none =>
   have:i=p.length:=by have:=AiC.1 hx;omega
   subst this
   clear ih
   rw[Ajc]at hf0
   have hvv:=WP (r:=0) (b:=0) (X:=[]) (A:=[]) (q:=Cq p) (n:=(Cq p).length) rfl (AiD _) 18
   have e:f=Cq p:=hf0
   rw[e]
   clear e hf0
   generalize Cq p=f at *
   have hvr:viewR [.cs 73 3 (AK f) 0 false] (.sl 0 f.length 3 0 f.length false)=some (.m (.sl (Aj f))):=by
    show (view 20 _ _).bind _=_
    rw[hvv]
    rfl
   simp (maxSteps:=2000000) (disch:=omega) [hvr]
theorem PG (a b:Ce)(H:Hp):Gives G 121 [.m (.ag [.i .i64 a.x,.i .i64 a.y,.i .i64 a.s]),.m (.ag [.i .i64 b.x,.i .i64 b.y,.i .i64 b.s])] H (.m (.i .i64 (HC a.x a.y b.x b.y))) H:=by
 refine Al rfl rfl rfl rfl rfl ?_
 have hv:=Ba (vs:=[.ls [[.i .i64 (DT a.y b.y)],[.i .i64 (DT a.x b.x)]]]) (H:=[]) rfl rfl (Ahx (DT a.y b.y) (DT a.x b.x) []) rfl (.inl ⟨rfl,rfl⟩)
 simp[cl (AhY _ _ _),cl hv,HC]
def Aia (A:Hp):Cmp Qe A 121 AZ where
 ok _:=True
 ext _ _ _:=Aje
 cmp a b:=HC a.x a.y b.x b.y
 neg a b:=by
  unfold HC AZ
  grind [DT]
 run a b row C _:=PG a b _
theorem XZ {k:Nat}{x y:Int}(hx:-1048576<=x/\x<=1048576)(hy:-1048576<=y/\y<=1048576):(-1048576<=(Gl k x y).1/\(Gl k x y).1<=1048576)/\(-1048576<=(Gl k x y).2/\(Gl k x y).2<=1048576):=by
 unfold Gl
 split <;> dsimp only <;> omega
theorem XY {k:Nat}{x y z w:Int}(h1:(Gl k x y).1=(Gl k z w).1)(h2:(Gl k x y).2=(Gl k z w).2):x=z/\y=w:=by
 unfold Gl at h1 h2
 split at h1 <;> simp at h1 h2 <;> omega
theorem EZ {p:List Ce}(h:p.Pairwise (fun a b=>AZ a b=true)):p.Pairwise apart:=h.imp fun {a b} h=>by
 unfold AZ at h
 unfold apart
 simp at h
 omega
def Ry (k:Nat)(p q:List Ce):Prop:=q.Perm (p.map (tnC k))/\q.Pairwise (fun a b=>AZ a b=true)
theorem JC (k:Nat){p:List Ce}(h:p.Pairwise apart):(p.map (tnC k)).Pairwise apart:=by
 rw[List.pairwise_map]
 refine h.imp fun {a b} h h2=>h ?_
 exact XY (k:=k) h2.1 h2.2
theorem QZ {k:Nat}{p q:List Ce}(hp:right p=true)(h:Ry k p q):right q=true:=by
 obtain⟨h1,h2⟩:=h
 obtain⟨_,h4,h5⟩:=AI hp
 refine Gh h2 (fun c hc=>?_) (by rw[h1.length_eq,AiB];exact h5)
 obtain⟨d,hd,rfl⟩:=AiH.1 (h1.mem_iff.1 hc)
 have hb:=Bt hp hd
 have:=XZ (k:=k) hb.1 hb.2.1
 unfold DB placed tnC
 simp only[Aio,Aix]
 omega
theorem Yz {v:I}{p:List Ce}(hv:IsSl v (Aj p))(hp:right p=true)(k:Int)(H:Hp):∃q,Ry (Hv k) p q/\Gives G 87 [.m (.i .i64 k),.m v] H (.tu [.m (.sl (Aj q)),.m (.i .i64 0)]) H:=by
 have hl:p.length<=5000:=(AI hp).2.2
 have hr:=hv.rules
 simp only[show (Aj p).length=p.length from by simp[Aj]]at hr
 have gr:=fun H=>Ef hv (by omega) H
 rw[hp]at gr
 have key:∃x H',Gives G 87 [.m (.i .i64 k),.m v] H x H'/\(H'=H /\ ∃q,Ry (Hv k) p q/\x=.tu [.m (.sl (Aj q)),.m (.i .i64 0)]):=by
  refine Bn ?_
  refine Fv rfl rfl rfl rfl rfl ?_
  have hcap:p.length*24<=281474976710656:=by omega
  have hcap2:p.length<=9223372036854775807:=by omega
  simp (maxSteps:=2000000) (disch:=omega) [Ab,hr,cl (gr _),hcap,hcap2]
  generalize hlim:decide (0=p.length)=lim
  refine(?key:∀(i:Nat) (f:List Ce) (B:List (Nat×List V)),i<=p.length->f=(p.take i).map (tnC (Hv k))->Run G c87_B0 (S87_0 (.m (.i .i64 k)) (.sl 0 f.length 3 0 f.length lim) (.m v) (.m (.i .i64 p.length)) (.m (.i .i64 (i:Int))) B [.cs 73 3 (AK f) 0 false]) _) 0 [] [] (AiD _) rfl
  refine BN (fun i:Nat=>p.length-i) fun i ih f B hi hf0=>?_
  unfold c87_B0
  cases hx:p[i]? with
  | some c =>
   have hlt:=(Aq hx).1
   have hlt':(i:Int)<p.length:=by omega
   have hn:=AJ hx
   have wi:wr .i64 ((i:Int)+1)=(i:Int)+1:=Aa (by omega) (by omega)
   have htk:p.take (i+1)=p.take i++[c]:=Az hx
   have hb:=Bt hp (Aiu hx)
   have ga:=fun H=>Vc k c.x c.y (by omega) (by omega) H
   have hlf:lim=false:=by rw[<-hlim];exact AiE (by omega)
   subst hlf
   have hf:f.length<=1000000:=by rw[hf0,AiB,AiG];omega
   have ha:=fun B=>Ms f hf (tnC (Hv k) c) B
   have e:f++[tnC (Hv k) c]=(p.take (i+1)).map (tnC (Hv k)):=by rw[htk,hf0];simp
   have ih':=ih (i+1) (by omega) (f++[tnC (Hv k) c])
   clear ih hf0
   generalize f++[tnC (Hv k) c]=f' at *
   simp only[tnC]at ha
   simp (maxSteps:=2000000) (disch:=omega) [Ab,hr,hlt',hn,wi,cl (ga _),ha]
   exact ih' _ (by omega) e
  | none =>
   have:i=p.length:=by have:=AiC.1 hx;omega
   subst this
   clear ih
   rw[Ajc]at hf0
   have hfl:f.length<=5000:=by rw[hf0,AiB];exact hl
   simp (maxSteps:=2000000) (disch:=omega) []
   rw[Ao]
   have hrow:Row.cs 73 3 (AK f) 0 false=.cs 73 3 (Bk Qe f.toArray) 0 false:=by simp[Bk,AK]
   rw[hrow]
   refine TM (A:=[]) (Aia []) PR (n:=f.length) (by omega) [] Aje f.toArray 0 (by simp) (AiD _) _ fun d' b1 X hpm hso hb1=>?_
   obtain⟨hperm,hsz⟩:=JG hpm
   have hasc:=YT hsz hso
   have hrow2:Bk Qe d'=AK d'.toList:=rfl
   have hql:d'.toList.length=f.length:=by simpa using hsz
   rw[hrow2]
   generalize d'.toList=q at *
   have hap:(p.map (tnC (Hv k))).Pairwise apart:=JC _ (EZ (AI hp).1)
   rw[<-hf0]at hap
   have hq:Ry (Hv k) p q:=⟨by rw[<-hf0];exact hperm,Vb hasc (Fe hperm hap)⟩
   have hvv:=WP (r:=0) (X:=X) (A:=[]) hql hb1 18
   have hvl:view 20 (.cs 73 3 (AK q) b1 false::X) (.sl 0 f.length 3 0 f.length lim)=some (.sl (Aj q)):=by cases lim <;> exact hvv
   simp (maxSteps:=2000000) (disch:=omega) [hvl]
   exact⟨q,hq,rfl⟩
 obtain⟨x,H',h1,rfl,q,h2,rfl⟩:=key
 exact⟨q,h2,h1⟩
def lowK (g:Ce->Int):List Ce->Int
 | []=>0
 | c::r=>mnF (g c) ((c::r).map g)
theorem w3_x {g:List Ce}{j:Nat}{c:Ce}(h:g[j]? = some c)(x:Int):Cb 3 (AK g) j 0 [.m (.i .i64 x)]=some (AK (g.set j ⟨x,c.y,c.s⟩)):=by
 show (nth (AK g) j).bind _=_
 rw[CE h]
 show AN (AK g) j [.m (.i .i64 x),.m (.i .i64 c.y),.m (.i .i64 c.s)]=_
 rw[AE _ _ _ (by simpa using (Aq h).1)]
 simp[AK,List.map_set,Qe,Ce.i]
theorem w3_y {g:List Ce}{j:Nat}{c:Ce}(h:g[j]? = some c)(y:Int):Cb 3 (AK g) j 1 [.m (.i .i64 y)]=some (AK (g.set j ⟨c.x,y,c.s⟩)):=by
 show (nth (AK g) j).bind _=_
 rw[CE h]
 show AN (AK g) j [.m (.i .i64 c.x),.m (.i .i64 y),.m (.i .i64 c.s)]=_
 rw[AE _ _ _ (by simpa using (Aq h).1)]
 simp[AK,List.map_set,Qe,Ce.i]
theorem r3_x {g:List Ce}{j:Nat}{c:Ce}(h:g[j]? = some c):Dq 3 (AK g) j 0 1=some [.m (.i .i64 c.x)]:=by
 show (nth (AK g) j).bind _=_
 rw[CE h]
 rfl
theorem r3_y {g:List Ce}{j:Nat}{c:Ce}(h:g[j]? = some c):Dq 3 (AK g) j 1 1=some [.m (.i .i64 c.y)]:=by
 show (nth (AK g) j).bind _=_
 rw[CE h]
 rfl
theorem AhL (f:List Ce):lowK Ce.x f=MB f:=by cases f <;> rfl
theorem AhK (f:List Ce):lowK Ce.y f=KU f:=by cases f <;> rfl
theorem Ux (g:Ce->Int){p:List Ce}(hne:p≠[]):(∀c,c∈p->lowK g p<=g c) /\ ∀x,(∀c,c∈p->x<=g c)->x<=lowK g p:=by
 obtain⟨c,r,rfl⟩:=AjO hne
 refine⟨fun d hd=>(II ((c::r).map g) (g c)).2 _ (AjA hd),fun x hx=>JH _ _ _ ⟨hx c (AiM ..),fun y hy=>?_⟩⟩
 obtain⟨d,hd,rfl⟩:=AiH.1 hy
 exact hx d hd
theorem Uz (a b:Int)(c d:Ce):AZ (mvC a b c) (mvC a b d)=AZ c d:=by
 unfold AZ mvC
 rw[Ajg]
 simp only[Aix]
 omega
theorem AcD {p:List Ce}(h:p.Pairwise (fun a b=>AZ a b=true)):(Cq p).Pairwise (fun a b=>AZ a b=true):=by
 unfold Cq
 rw[List.pairwise_map]
 exact h.imp fun {a b} h=>by rw[Uz];exact h
def Span (p:List Ce):Prop:=∀c d,c∈p->d∈p->c.x-d.x<=1048576/\c.y-d.y<=1048576
theorem TL {p:List Ce}(h:Span p)(hs:∀c,c∈p->1<=c.s/\c.s<8):∀c,c∈Cq p->DB c=true:=fun c hc=>by
 obtain⟨d,hd,rfl⟩:=AiH.1 hc
 have hne:p≠[]:=fun e=>by subst e;cases hd
 obtain⟨x1,x2⟩:=Ux Ce.x hne
 obtain⟨y1,y2⟩:=Ux Ce.y hne
 have a1:=x1 d hd
 have b1:=y1 d hd
 have a2:=x2 (d.x-1048576) fun e he=>by have:=(h d e hd he).1;omega
 have b2:=y2 (d.y-1048576) fun e he=>by have:=(h d e hd he).2;omega
 rw[AhL]at a1 a2
 rw[AhK]at b1 b2
 have:=hs d hd
 unfold DB placed mvC
 simp only[Aio,Aix]
 omega
theorem Aie (p:List Ce):∃x y w h,Qg p=[x,y,w,h]:=by
 unfold Qg
 split
 ·exact⟨_,_,_,_,rfl⟩
 ·split
  ·exact⟨_,_,_,_,rfl⟩
  ·exact⟨_,_,_,_,rfl⟩
def cmpC (c d:Ce):Int:=if c.y=d.y then if c.x=d.x then DT c.s d.s else DT c.x d.x else DT c.y d.y
def Ja:List Ce->List Ce->Int
 | [],[]=>0
 | [],_::_=>-1
 | _::_,[]=>1
 | c::r,d::t=>if cmpC c d=0 then Ja r t else cmpC c d
theorem GX {x y:Int}:DT x y=0↔x=y:=by
 unfold DT
 split
 ·constructor <;> intro h <;> omega
 ·split <;> constructor <;> intro h <;> omega
theorem UV {c d:Ce}:cmpC c d=0↔c=d:=by
 obtain⟨a1,a2,a3⟩:=c
 obtain⟨b1,b2,b3⟩:=d
 unfold cmpC
 simp only[Ce.mk.injEq]
 split
 ·split
  ·rw[GX];constructor <;> intro h <;> simp_all
  ·rw[GX];constructor <;> intro h <;> simp_all
 ·rw[GX];constructor <;> intro h <;> simp_all
theorem JL:∀ {p q:List Ce},Ja p q=0↔p=q
 | [],[]=>by simp[Ja]
 | [],_::_=>by simp[Ja]
 | _::_,[]=>by simp[Ja]
 | c::r,d::t=>by
  unfold Ja
  split
  ·rename_i h
   rw[JL,UV.1 h]
   simp
  ·rename_i h
   constructor
   ·intro h2;exact absurd h2 h
   ·intro h2
    have:c=d:=(List.cons.inj h2).1
    exact absurd (UV.2 this) h
theorem Re (x y:Int)(H:Hp):Gives G 85 [.m (.i .i64 x),.m (.i .i64 y)] H (.m (.i .i64 (DT x y))) H:=by
 refine Al rfl rfl rfl rfl rfl ?_
 by_cases h1:x<y
 ·simp (maxSteps:=2000000) (disch:=omega) [h1,DT]
 ·by_cases h2:y<x
  ·simp (maxSteps:=2000000) (disch:=omega) [h1,h2,DT]
  ·simp (maxSteps:=2000000) (disch:=omega) [h1,h2,DT]
theorem PZ {p q:List Ce}{i:Nat}(h:p.drop i=[]\/q.drop i=[]):Ja (p.drop i) (q.drop i)=DT ((p.drop i).length:Int) ((q.drop i).length:Int):=by
 rcases h with h|h <;> rw[h]
 ·cases hq:q.drop i with
  | nil=>rfl
  | cons a r=>show (-1:Int)=_;unfold DT;rw[Air (by simp <;> omega)]
 ·cases hq:p.drop i with
  | nil=>rfl
  | cons a r=>show (1:Int)=_;unfold DT;rw[Aiq (by simp <;> omega),Air (by simp <;> omega)]
theorem Qa {a b i:Nat}(h1:i<=a)(h2:i<=b):DT ((a-i:Nat):Int) ((b-i:Nat):Int)=DT a b:=by
 unfold DT
 have e1:(((a-i:Nat):Int)<((b-i:Nat):Int))=((a:Int)<b):=by rw[eq_iff_iff];omega
 have e2:(((b-i:Nat):Int)<((a-i:Nat):Int))=((b:Int)<a):=by rw[eq_iff_iff];omega
 simp only[e1,e2]
set_option maxHeartbeats 2000000 in
theorem US {v w:I}{p q:List Ce}(hv:IsSl v (Aj p))(hw:IsSl w (Aj q))(hl:p.length<=1000000)(hl2:q.length<=1000000)(H:Hp):Gives G 44 [.m v,.m w] H (.m (.i .i64 (Ja p q))) H:=by
 refine Al rfl rfl rfl rfl rfl ?_
 have hr:=hv.rules
 have hr2:=hw.rules
 simp only[show (Aj p).length=p.length from by simp[Aj]]at hr
 simp only[show (Aj q).length=q.length from by simp[Aj]]at hr2
 have go:=fun x y H=>Re x y H
 simp (maxSteps:=2000000) (disch:=omega) []
 refine(?key:∀(i:Nat) (B:List (Nat×List V)),i<=p.length->i<=q.length->Ja p q=Ja (p.drop i) (q.drop i)->Run G c44_B0 (S44_0 (.m v) (.m w) (.m (.i .i64 (i:Int))) B []) _) 0 [] (AiD _) (AiD _) rfl
 refine BN (fun i:Nat=>p.length-i) fun i ih B hi hi2 hc=>?_
 unfold c44_B0
 cases hx:p[i]? with
 | none =>
  have hle:=AiC.1 hx
  have hlt':¬(i:Int)<p.length:=by omega
  rw[PZ (.inl (List.drop_eq_nil_of_le hle)),AiY,AiY,Qa hi hi2]at hc
  simp (maxSteps:=2000000) (disch:=omega) [hr,hr2,hlt',cl (go _ _ _),hc]
 | some c =>
  have hlt:=(Aq hx).1
  have hlt':(i:Int)<p.length:=by omega
  have hn:=AJ hx
  cases hy:q[i]? with
  | none =>
   have hle:=AiC.1 hy
   have hlt2':¬(i:Int)<q.length:=by omega
   rw[PZ (.inr (List.drop_eq_nil_of_le hle)),AiY,AiY,Qa hi hi2]at hc
   simp (maxSteps:=2000000) (disch:=omega) [hr,hr2,hlt',hlt2',cl (go _ _ _),hc]
  | some d =>
   have hlt2:=(Aq hy).1
   have hlt2':(i:Int)<q.length:=by omega
   have hn2:=AJ hy
   have wi:wr .i64 ((i:Int)+1)=(i:Int)+1:=Aa (by omega) (by omega)
   have e1:Ja (c::p.drop (i+1)) (d::q.drop (i+1))=if cmpC c d=0 then Ja (p.drop (i+1)) (q.drop (i+1)) else cmpC c d:=rfl
   rw[(Aq hx).2,(Aq hy).2,e1]at hc
   by_cases h1:c.y=d.y
   ·by_cases h2:c.x=d.x
    ·by_cases h3:c.s=d.s
     ·have e:cmpC c d=0:=by unfold cmpC;rw[Air h1,Air h2];exact GX.2 h3
      rw[Air e]at hc
      simp (maxSteps:=2000000) (disch:=omega) [hr,hr2,hlt',hlt2',hn,hn2,wi,h1,h2,h3]
      exact ih (i+1) (by omega) _ (by omega) (by omega) hc
     ·have e:cmpC c d=DT c.s d.s:=by unfold cmpC;rw[Air h1,Air h2]
      have h0:¬DT c.s d.s=0:=fun h=>h3 (GX.1 h)
      rw[e,Aiq h0]at hc
      simp (maxSteps:=2000000) (disch:=omega) [hr,hr2,hlt',hlt2',hn,hn2,h1,h2,h3,cl (go _ _ _),hc]
    ·have e:cmpC c d=DT c.x d.x:=by unfold cmpC;rw[Air h1,Aiq h2]
     have h0:¬DT c.x d.x=0:=fun h=>h2 (GX.1 h)
     rw[e,Aiq h0]at hc
     simp (maxSteps:=2000000) (disch:=omega) [hr,hr2,hlt',hlt2',hn,hn2,h1,h2,cl (go _ _ _),hc]
   ·have e:cmpC c d=DT c.y d.y:=by unfold cmpC;rw[Aiq h1]
    have h0:¬DT c.y d.y=0:=fun h=>h1 (GX.1 h)
    rw[e,Aiq h0]at hc
    simp (maxSteps:=2000000) (disch:=omega) [hr,hr2,hlt',hlt2',hn,hn2,h1,cl (go _ _ _),hc]
theorem Mq {v w:I}{p q:List Ce}(hv:IsSl v (Aj p))(hw:IsSl w (Aj q))(hl:p.length<=1000000)(hl2:q.length<=1000000)(H:Hp):Gives G 17 [.m v,.m w] H (.m (.b (decide (Ja p q=0)))) H:=by
 refine Al rfl rfl rfl rfl rfl ?_
 simp (maxSteps:=2000000) (disch:=omega) [cl (US hv hw hl hl2 _)]
set_option maxHeartbeats 2000000 in
theorem AcH {v w:I}{p q:List Ce}(hv:IsSl v (Aj p))(hw:IsSl w (Aj q))(hl:p.length<=1000000)(hl2:q.length<=1000000)(H:Hp):Gives G 83 [.m v,.m w] H (.m (.b (decide (Ja p q=0)))) H:=by
 refine Al rfl rfl rfl rfl rfl ?_
 have hr:=hv.rules
 have hr2:=hw.rules
 simp only[show (Aj p).length=p.length from by simp[Aj]]at hr
 simp only[show (Aj q).length=q.length from by simp[Aj]]at hr2
 by_cases hlen:p.length=q.length
 ·have hlen':(p.length:Int)=q.length:=by omega
  simp (maxSteps:=2000000) (disch:=omega) [hr,hr2,hlen]
  refine(?key:∀(i:Nat) (B:List (Nat×List V)),i<=q.length->Ja p q=Ja (p.drop i) (q.drop i)->Run G c83_B0 (S83_0 (.m v) (.m w) (.m (.i .i64 q.length)) (.m (.i .i64 (i:Int))) B []) _) 0 [] (AiD _) rfl
  refine BN (fun i:Nat=>q.length-i) fun i ih B hi hc=>?_
  unfold c83_B0
  cases hy:q[i]? with
  | some d =>
   have hlt2:=(Aq hy).1
   obtain⟨c,hx⟩:∃c,p[i]? = some c:=⟨p[i]'(by omega),Aip _⟩
   have hlt:=(Aq hx).1
   have hlt2':(i:Int)<q.length:=by omega
   have hn:=AJ hx
   have hn2:=AJ hy
   have wi:wr .i64 ((i:Int)+1)=(i:Int)+1:=Aa (by omega) (by omega)
   have e1:Ja (c::p.drop (i+1)) (d::q.drop (i+1))=if cmpC c d=0 then Ja (p.drop (i+1)) (q.drop (i+1)) else cmpC c d:=rfl
   rw[(Aq hx).2,(Aq hy).2,e1]at hc
   by_cases he:c.x=d.x/\c.y=d.y/\c.s=d.s
   ·have e:cmpC c d=0:=by
     unfold cmpC
     rw[Air he.2.1,Air he.1,GX]
     exact he.2.2
    rw[Air e]at hc
    simp (maxSteps:=2000000) (disch:=omega) [hr,hr2,hlen,hlt2',hn,hn2,wi,he.1,he.2.1,he.2.2]
    exact ih (i+1) (by omega) _ (by omega) hc
   ·have e:¬cmpC c d=0:=fun h=>he (by rw[UV.1 h];exact⟨rfl,rfl,rfl⟩)
    rw[Aiq e]at hc
    have he1:(decide (c.x=d.x)&&(decide (c.y=d.y)&&decide (c.s=d.s)))=false:=by
     rw[Bool.eq_false_iff]
     simpa using he
    have he2:(decide (c.x=d.x)&&decide (c.y=d.y)&&decide (c.s=d.s))=false:=by
     rw[Bool.and_assoc];exact he1
    simp (maxSteps:=2000000) (disch:=omega) [hr,hr2,hlen,hlt2',hn,hn2,he1,hc,e]
  | none =>
   have:i=q.length:=by have:=AiC.1 hy;omega
   subst this
   rw[Ajs,List.drop_eq_nil_of_le (by omega)]at hc
   have hc':Ja p q=0:=hc
   simp (maxSteps:=2000000) (disch:=omega) [hc']
 ·have hlen':¬(p.length:Int)=q.length:=by omega
  have e:¬Ja p q=0:=fun h=>hlen (by rw[JL.1 h])
  simp (maxSteps:=2000000) (disch:=omega) [hr,hr2,hlen',e]
theorem Ahb {v w:I}{p q:List Ce}(hv:IsSl v (Aj p))(hw:IsSl w (Aj q))(hl:p.length<=1000000)(hl2:q.length<=1000000)(H:Hp):Gives G 42 [.m v,.m w] H (.m (.b (decide (Ja p q=0)))) H:=by
 refine Al rfl rfl rfl rfl rfl ?_
 simp (maxSteps:=2000000) (disch:=omega) [cl (AcH hv hw hl hl2 _)]
end Go.Mx.Tryz
namespace Go.Mx.Tryz
open Go.Lib
structure StI (t:TreeC)(p:List Ce)(D:List (Int×Int))(l:List Ce):Prop where
 al:∀c,c∈l->(c.x,c.y)∈D/\c.s=CF t p c.x c.y /\ ¬c.s=0/\placed c.x c.y=true
 cov:∀k,k∈D -> ¬CF t p k.1 k.2=0 -> ∃c,c∈l/\c.x=k.1/\c.y=k.2
 ap:l.Pairwise apart
theorem AbL (t:TreeC)(p:List Ce):StI t p [] []:=⟨by simp,by simp,.nil⟩
theorem WV {t:TreeC}{p:List Ce}{D:List (Int×Int)}{l:List Ce}(h:StI t p D l){k:Int×Int}(hk:CF t p k.1 k.2=0):StI t p (D++[k]) l :=
 ⟨fun c hc=>by obtain⟨a,b⟩:=h.al c hc;exact⟨by simp[a],b⟩,fun j hj hn=>by
  rcases Ajn.1 hj with hj|hj
  ·exact h.cov j hj hn
  ·rw[AiQ.1 hj]at hn
   exact absurd hk hn,h.ap⟩
theorem AbN {t:TreeC}{p:List Ce}{D:List (Int×Int)}{l:List Ce}(h:StI t p D l){x y:Int}(hD:(x,y) ∉ D)(hk:¬CF t p x y=0)(hp:placed x y=true):StI t p (D++[(x,y)]) (l++[⟨x,y,CF t p x y⟩]):=by
 refine⟨fun c hc=>?_,fun j hj hn=>?_,?_⟩
 ·rcases Ajn.1 hc with hc|hc
  ·obtain⟨a,b⟩:=h.al c hc
   exact⟨by simp[a],b⟩
  ·rw[AiQ.1 hc]
   exact⟨by simp,rfl,hk,hp⟩
 ·rcases Ajn.1 hj with hj|hj
  ·obtain⟨c,h1,h2⟩:=h.cov j hj hn
   exact⟨c,by simp[h1],h2⟩
  ·rw[AiQ.1 hj]
   exact⟨⟨x,y,CF t p x y⟩,by simp,rfl,rfl⟩
 ·rw[AjB]
  refine⟨h.ap,by simp,fun a ha b hb=>?_⟩
  rw[AiQ.1 hb]
  intro⟨h1,h2⟩
  have:=(h.al a ha).1
  dsimp only at h1 h2
  rw[h1,h2]at this
  exact hD this
theorem AbK {t:TreeC}{p:List Ce}{x y:Int}(hk:¬CF t p x y=0)(hp:placed x y=false):Fj t p ([],5):=.inl ⟨rfl,x,y,hk,hp⟩
theorem AbM {t:TreeC}{p:List Ce}{D:List (Int×Int)}{l q:List Ce}(hq:Bl t=true)(h:StI t p D l)(hall:∀c o,c∈p->o∈t.hood->(c.x-o.1,c.y-o.2)∈D)(hp:q.Perm l)(hs:q.Pairwise (fun a b=>AZ a b=true)):Fj t p (if 5000<q.length then ([],6) else (q,0)):=by
 have hD:∀x y,¬CF t p x y=0 -> ∃c,c∈l/\c.x=x/\c.y=y:=fun x y hn=>by
  obtain⟨c,o,hc,ho,rfl,rfl⟩:=KA hq hn
  exact h.cov _ (hall c o hc ho) hn
 refine .inr ⟨fun x y hn=>?_,q,hs,fun c=>⟨fun hc=>?_,fun hc=>?_⟩,rfl⟩
 ·obtain⟨c,hc,rfl,rfl⟩:=hD x y hn
  exact(h.al c hc).2.2.2
 ·have:=h.al c (hp.mem_iff.1 hc)
  exact⟨this.2.1,this.2.2.1⟩
 ·obtain⟨d,hd,e1,e2⟩:=hD c.x c.y (by rw[<-hc.1];exact hc.2)
  have h2:=(h.al d hd).2.1
  have:d=c:=by
   obtain⟨a1,a2,a3⟩:=d
   obtain⟨b1,b2,b3⟩:=c
   dsimp only at e1 e2 h2 hc
   subst e1 e2
   congr 1
   rw[h2]
   exact hc.1.symm
  exact hp.mem_iff.2 (this ▸ hd)
theorem WW {t:TreeC}(hr:TreeR t){p:List Ce}(ht:FC t p){D:List (Int×Int)}{l:List Ce}(h:StI t p D l):∀c,c∈l->DB c=true:=fun c hc=>by
 obtain⟨_,h1,h2,h3⟩:=h.al c hc
 have h4:=Hu hr ht c.x c.y
 rw[<-h1]at h4
 have:=hr.s8
 unfold DB
 rw[h3]
 simp only[Bool.true_and,Aio,Aix]
 omega
theorem WX {t:TreeC}(hr:TreeR t){p:List Ce}(ht:FC t p){D:List (Int×Int)}{l q:List Ce}(h:StI t p D l)(hq:q.Perm (liv l))(ha:Asc q):bad l=none/\q.Perm l/\q.Pairwise (fun a b=>AZ a b=true)/\Adx q=if 5000<q.length then .tu [.m (.nl 4),.m (.i .i64 6)] else .tu [.m (zP q),.m (.i .i64 0)]:=by
 have hg:∀c,c∈l->DB c=true:=fun c hc=>by
  obtain⟨_,h1,h2,h3⟩:=h.al c hc
  have h4:=Hu hr ht c.x c.y
  rw[<-h1]at h4
  have:=hr.s8
  unfold DB
  rw[h3]
  simp only[Bool.true_and,Aio,Aix]
  omega
 rw[PP hg]at hq
 have hw:=Vb ha (Fe hq h.ap)
 refine⟨HE hg,hq,hw,?_⟩
 unfold Adx
 rw[AaV hw,Aiq (by simp)]
end Go.Mx.Tryz
namespace Go.Mx.Tryz
def ndU (l:List Nd)(i:Nat):Nd:=(l[i]?).getD (0,[])
abbrev WSt:=List Int×List Nd
def Gk (f:Nat->WSt->WSt×Int):List Int->WSt->List Int->WSt×List Int
 | [],st,acc=>(st,acc)
 | k::r,st,acc=>Gk f r (f k.toNat st).1 (acc++[(f k.toNat st).2])
def AdB (x:Nd)(k:Nat)(r:WSt×List Int):WSt×Int:=((r.1.1.set k ((r.1.2.length+1:Nat):Int),r.1.2++[(x.1,r.2)]),((r.1.2.length:Nat):Int))
def HA (l:List Nd):Nat->Nat->WSt->WSt×Int
 | 0,_,st=>(st,0)
 | n+1,k,st=>if 0<(st.1[k]?).getD 0 then (st,(st.1[k]?).getD 0-1)
  else AdB (ndU l k) k (if 1<(ndU l k).1 then Gk (HA l n) (ndU l k).2 st [] else (st,(ndU l k).2))
def OkN (l:List Nd):Prop:=∀i,i<l.length->1<=(ndU l i).1/\(ndU l i).1<=1000/\(ndU l i).2≠[]/\(ndU l i).2.length<=100/\(∀k,k∈(ndU l i).2 -> -1000000000<=k/\k<=1000000000)/\(1<(ndU l i).1 -> ∀k,k∈(ndU l i).2->0<=k/\k.toNat<l.length/\(ndU l k.toNat).1<(ndU l i).1)
def Acc (dn:List Int):Nat:=dn.countP fun v=>decide (0<v)
structure InvW (l:List Nd)(st:WSt):Prop where
 len:st.1.length=l.length
 cnt:st.2.length<=Acc st.1
 val:∀v,v∈st.1->0<=v/\v<=(st.2.length:Int)
theorem InvW.out_le {l:List Nd}{st:WSt}(h:InvW l st):st.2.length<=l.length:=by
 have:=List.countP_le_length (p:=fun v:Int=>decide (0<v)) (l:=st.1)
 have h1:=h.cnt
 have h2:=h.len
 unfold Acc at h1
 omega
theorem PB:∀ {dn:List Int} {k:Nat} {v:Int},(dn[k]?).getD 0<=0->k<dn.length->0<v->Acc (dn.set k v)=Acc dn+1
 | [],k,v,_,h,_=>by simp at h
 | a::r,0,v,h0,_,hv=>by
  have:¬0<a:=by simp at h0;omega
  simp[Acc,hv,this]
 | a::r,k+1,v,h0,hk,hv=>by
  have ih:=PB (dn:=r) (k:=k) (v:=v) (by simpa using h0) (by simpa using hk) hv
  unfold Acc at ih ⊢
  rw[List.set_cons_succ,List.countP_cons,List.countP_cons,ih]
  omega
def GrW (l:List Nd)(m:Int)(st st':WSt):Prop:=InvW l st'/\(∀i,i<l.length->m<=(ndU l i).1->st'.1[i]? = st.1[i]?) /\ ∃t,st'.2=st.2++t
theorem GrW.refl {l:List Nd}{m:Int}{st:WSt}(h:InvW l st):GrW l m st st:=⟨h,fun _ _ _=>rfl,[],by simp⟩
theorem GrW.trans {l:List Nd}{m:Int}{a b c:WSt}(h:GrW l m a b)(k:GrW l m b c):GrW l m a c:=by
 obtain⟨_,h2,t,h3⟩:=h
 obtain⟨k1,k2,u,k3⟩:=k
 exact⟨k1,fun i hi hm=>(k2 i hi hm).trans (h2 i hi hm),t++u,by rw[k3,h3,Ajt]⟩
theorem PT {l:List Nd}{m:Int}{f:Nat->WSt->WSt×Int}:∀(ks:List Int) (st:WSt) (acc:List Int),InvW l st->(∀k,k∈ks -> ∀st,InvW l st->GrW l m st (f k.toNat st).1/\0<=(f k.toNat st).2/\(f k.toNat st).2<((f k.toNat st).1.2.length:Int))->(∀v,v∈acc->0<=v/\v<(st.2.length:Int)) ->
  GrW l m st (Gk f ks st acc).1/\(∀v,v∈(Gk f ks st acc).2->0<=v/\v<((Gk f ks st acc).1.2.length:Int))/\(Gk f ks st acc).2.length=acc.length+ks.length
 | [],st,acc,hi,_,ha=>⟨.refl hi,ha,rfl⟩
 | k::r,st,acc,hi,hf,ha=>by
  obtain⟨g1,g2,g3⟩:=hf k (AiM ..) st hi
  obtain⟨t,ht⟩:=g1.2.2
  obtain⟨i1,i2,i3⟩:=PT (m:=m) r (f k.toNat st).1 (acc++[(f k.toNat st).2]) g1.1 (fun j hj=>hf j (AiW _ hj)) fun v hv=>by
   rcases Ajn.1 hv with h|h
   ·have:=ha v h
    rw[ht,AiA]
    omega
   ·rw[AiQ]at h
    subst h
    exact⟨g2,g3⟩
  refine⟨g1.trans i1,i2,?_⟩
  show (Gk f r (f k.toNat st).1 (acc++[(f k.toNat st).2])).2.length=_
  rw[i3]
  simp
  omega
theorem UP {l:List Nd}(hl:OkN l):∀(n k:Nat) (st:WSt),InvW l st->k<l.length->(ndU l k).1<=(n:Int) ->
  GrW l ((ndU l k).1+1) st (HA l n k st).1/\0<=(HA l n k st).2/\(HA l n k st).2<((HA l n k st).1.2.length:Int)
 | 0,k,st,_,hk,hn=>by have:=(hl k hk).1;omega
 | n+1,k,st,hi,hk,hn=>by
  have e:HA l (n+1) k st=if 0<(st.1[k]?).getD 0 then (st,(st.1[k]?).getD 0-1)
   else AdB (ndU l k) k (if 1<(ndU l k).1 then Gk (HA l n) (ndU l k).2 st [] else (st,(ndU l k).2)):=rfl
  have hkl:k<st.1.length:=by rw[hi.len];exact hk
  obtain⟨v,hv⟩:∃v,st.1[k]? = some v:=⟨st.1[k],Aip hkl⟩
  have hvb:=hi.val v (Aiu hv)
  rw[e,hv]
  simp only[Option.getD_some]
  by_cases h0:0<v
  ·rw[Air h0]
   exact⟨.refl hi,by simp only;omega,by simp only;omega⟩
  ·rw[Aiq h0]
   obtain⟨o1,o2,o3,o4,o5,o6⟩:=hl k hk
   have hr:GrW l (ndU l k).1 st (if 1<(ndU l k).1 then Gk (HA l n) (ndU l k).2 st [] else (st,(ndU l k).2)).1:=by
    by_cases h1:1<(ndU l k).1
    ·rw[Air h1]
     refine(PT (m:=(ndU l k).1) _ st [] hi (fun j hj s hs=>?_) (by simp)).1
     obtain⟨q1,q2,q3⟩:=o6 h1 j hj
     obtain⟨⟨i1,i2,i3⟩,r2,r3⟩:=UP hl n j.toNat s hs q2 (by omega)
     exact⟨⟨i1,fun i hi hm=>i2 i hi (by omega),i3⟩,r2,r3⟩
    ·rw[Aiq h1]
     exact .refl hi
   generalize (if 1<(ndU l k).1 then Gk (HA l n) (ndU l k).2 st [] else (st,(ndU l k).2))=r at hr ⊢
   obtain⟨⟨r1,r2,r3⟩,hr2,t,hr3⟩:=hr
   have hkr:(r.1.1[k]?).getD 0<=0:=by rw[hr2 k hk (by omega),hv];simp only[Option.getD_some];omega
   have hkl2:k<r.1.1.length:=by rw[r1];exact hk
   refine⟨⟨⟨?_,?_,fun u hu=>?_⟩,fun i hi hm=>?_,t++[((ndU l k).1,r.2)],?_⟩,?_,?_⟩
   ·show (r.1.1.set k _).length=_
    rw[Ajd,r1]
   ·show (r.1.2++[((ndU l k).1,r.2)]).length<=Acc (r.1.1.set k _)
    rw[PB hkr hkl2 (by omega),AiA]
    simp
    exact r2
   ·have hu:u∈r.1.1.set k ((r.1.2.length+1:Nat):Int):=hu
    show 0<=u/\u<=((r.1.2++[((ndU l k).1,r.2)]).length:Int)
    rw[AiA]
    rcases List.mem_or_eq_of_mem_set hu with h|h
    ·have:=r3 u h
     simp
     omega
    ·subst h
     simp
     omega
   ·show (r.1.1.set k _)[i]? = _
    have hne:k≠i:=fun e=>by subst e;omega
    rw[Ajm hne]
    exact hr2 i hi (by omega)
   ·show r.1.2++_=_
    rw[hr3,Ajt]
   ·show (0:Int)<=((r.1.2.length:Nat):Int)
    omega
   ·show ((r.1.2.length:Nat):Int)<((r.1.2++[((ndU l k).1,r.2)]).length:Int)
    rw[AiA]
    simp
    omega
theorem optN (k:Nat)(H:Hp):∀m:List Int,Af (fun e=>Af (view (k+1) H) e) (FP m)=some (Cr m)
 | []=>rfl
 | x::r=>by
  show Option.bind (some [I.i .i64 x]) _=_
  simp only[Ait]
  have:=optN k H r
  show Option.bind (Af _ (FP r)) _=_
  rw[this]
  rfl
theorem TU (l:List Int)(a n:Nat):((FP l).drop a).take n=FP ((l.drop a).take n):=by
 unfold FP;rw[List.map_take,List.map_drop]
theorem AhW {H:Hp}{r ver st len base:Nat}{lim fz:Bool}{l:List Int}(h:nth H r=some (.cs 3 1 (FP l) base fz))(hb:base<=ver):elems H (.sl r ver 1 st len lim)=some (FP ((l.drop st).take len)):=by
 show Option.bind (nth H r) _=_
 rw[h]
 show gd (Nat.ble base ver&&Nat.beq 1 1) (some (((FP l).drop st).take len))=_
 rw[Bb,Aiv hb,TU]
 rfl
theorem viewN {H:Hp}{r ver st len base:Nat}{lim fz:Bool}{l:List Int}(h:nth H r=some (.cs 3 1 (FP l) base fz))(hb:base<=ver)(k:Nat):view (k+2) H (.sl r ver 1 st len lim)=some (.sl (Cr ((l.drop st).take len))):=by
 show Option.bind (elems H (.sl r ver 1 st len lim)) _=_
 rw[AhW h hb]
 show Option.bind (Af _ (FP _)) _=_
 rw[optN]
 rfl
open Go.Lib Go.Proofs
set_option maxHeartbeats 4000000 in
theorem Afm {t:TreeC}{h n:I}{es:List (List I)}(hT:TreeV t h n es)(H:Hp):Gives G 104 [.m (.ag [.i .i64 t.states,h,n])] H (.m (.b (Bs t))) H:=by
 have hrh:=hT.hd.rules
 simp only[CT]at hrh
 have hrn:=hT.nd.rules
 have hln:=DN hT
 have gh:=fun H=>AhQ hT.hd (by have:=hT.hl;omega) H
 have hl1:=hT.hl
 have hl2:=hT.nl
 refine Al rfl rfl rfl rfl rfl ?_
 have eO:Bs t=(decide (2<=t.states/\t.states<=8)&&(CG t.hood&&(decide (1<=t.nodes.length/\t.nodes.length<=4096)&&(decide (levAt t.nodes (t.nodes.length-1)=t.hood.length)&&nodesOk t 0 t.nodes)))):=rfl
 by_cases s2:t.states<2
 ·have:Bs t=false:=by rw[eO,AiE (by omega)];rfl
  simp (maxSteps:=2000000) (disch:=omega) [Ac,hrn,s2,this]
 by_cases s8:8<t.states
 ·have:Bs t=false:=by rw[eO,AiE (by omega)];rfl
  simp (maxSteps:=2000000) (disch:=omega) [Ac,hrn,s2,s8,this]
 cases hh:CG t.hood with
 | false =>
  have:Bs t=false:=by rw[eO,hh];simp
  rw[hh]at gh
  simp (maxSteps:=2000000) (disch:=omega) [Ac,hrn,s2,s8,cl (gh _),this]
 | true =>
  rw[hh]at gh
  by_cases n1:(es.length:Int)<1
  ·have:Bs t=false:=by rw[eO,AiE (by rw[hln];omega:¬(1<=t.nodes.length/\t.nodes.length<=4096))];simp
   simp (maxSteps:=2000000) (disch:=omega) [Ac,hrn,s2,s8,cl (gh _),n1,this]
  by_cases n2:(4096:Int)<es.length
  ·have:Bs t=false:=by rw[eO,AiE (by rw[hln];omega:¬(1<=t.nodes.length/\t.nodes.length<=4096))];simp
   simp (maxSteps:=2000000) (disch:=omega) [Ac,hrn,s2,s8,cl (gh _),n1,n2,this]
  have hlt1:es.length-1<t.nodes.length:=by omega
  obtain⟨z0,hz0,_⟩:=Dn hT (Aip hlt1)
  have hle1:es.length-1<es.length:=by omega
  have hle2:((es.length-1:Nat):Int)<es.length:=by omega
  have w1:wr .i64 ((es.length:Int)-1)=((es.length-1:Nat):Int):=by rw[Aa (by omega) (by omega)];omega
  have hlev:=PQ (Aip hlt1)
  have eroot:levAt t.nodes (t.nodes.length-1)=t.nodes[es.length-1].1:=by
   rw[<-hlev,hln]
   congr 1
   omega
  by_cases hroot:t.nodes[es.length-1].1=t.hood.length
  rotate_left
  ·have:Bs t=false:=by rw[eO,AiE (by rw[eroot];exact hroot:¬levAt t.nodes (t.nodes.length-1)=t.hood.length)];simp
   simp (maxSteps:=2000000) (disch:=omega) [Ac,hrh,hrn,s2,s8,cl (gh _),n1,n2,w1,hz0,hroot,this]
  have hR:Bs t=nodesOk t 0 t.nodes:=by
   rw[eO,hh,Aiv (by omega:2<=t.states/\t.states<=8),Aiv (by omega:1<=t.nodes.length/\t.nodes.length<=4096),Aiv (by rw[eroot];exact hroot:levAt t.nodes (t.nodes.length-1)=t.hood.length)]
   simp
  rw[hR]
  simp (maxSteps:=2000000) (disch:=omega) [Ac,hrh,hrn,s2,s8,cl (gh _),n1,n2,w1,hz0,hroot]
  refine(?key:∀(i:Nat) (B:List (Nat×List V)),i<=t.nodes.length->getB B 1=some [.m (.i .i64 t.states),.m h,.m n]->nodesOk t 0 t.nodes=nodesOk t i (t.nodes.drop i)->Run G c104_B1 (S104_1 (.fa 1 0) (.m n) (.m (.i .i64 es.length)) (.m (.i .i64 (i:Int))) B []) _) 0 _ (AiD _) rfl rfl
  refine BN (fun i:Nat=>t.nodes.length-i) fun i ih B hi hB hI=>?_
  unfold c104_B1
  cases hx:t.nodes[i]? with
  | none =>
   have:i=es.length:=by have:=AiC.1 hx;omega
   subst this
   rw[<-hln,Ajs]at hI
   have hI:nodesOk t 0 t.nodes=true:=hI
   simp (maxSteps:=2000000) (disch:=omega) [hI]
  | some nd =>
   have hlt:=(Aq hx).1
   have hlt1:i<es.length:=by omega
   have hlt2:(i:Int)<es.length:=by omega
   obtain⟨z,hz,hzs,hzl,hzb⟩:=Dn hT hx
   have hrz:=hzs.rules
   have hz1:=El hzs
   simp only[BT]at hrz
   have wi:wr .i64 ((i:Int)+1)=((i+1:Nat):Int):=Aa (by omega) (by omega)
   rw[(Aq hx).2,Mw]at hI
   have eN:EH t i nd=(decide (1<=nd.1/\nd.1<=t.hood.length/\(nd.2.length:Int)=t.states)&&nd.2.all (YR t i nd.1)):=rfl
   by_cases m1:nd.1<1
   ·have:nodesOk t 0 t.nodes=false:=by rw[hI,eN,AiE (by omega)];rfl
    simp (maxSteps:=2000000) (disch:=omega) [Ab,hrn,hlt2,hz,hz1,m1,this]
   by_cases m2:(t.hood.length:Int)<nd.1
   ·have:nodesOk t 0 t.nodes=false:=by rw[hI,eN,AiE (by omega)];rfl
    simp (maxSteps:=2000000) (disch:=omega) [Ab,hrn,hrh,hlt2,hz,hz1,hB,m1,m2,this]
   by_cases m3:(nd.2.length:Int)=t.states
   rotate_left
   ·have:nodesOk t 0 t.nodes=false:=by rw[hI,eN,AiE (by omega)];rfl
    simp (maxSteps:=2000000) (disch:=omega) [Ab,hrn,hrh,hlt2,hz,hz1,hrz,hB,m1,m2,m3,this]
   rw[eN,Aiv (by omega:1<=nd.1/\nd.1<=t.hood.length/\(nd.2.length:Int)=t.states),Bool.true_and]at hI
   simp (maxSteps:=2000000) (disch:=omega) [Ab,hrn,hrh,hlt2,hz,hz1,hrz,hB,m1,m2,m3]
   rw[<-m3]
   refine(?key2:∀(j:Nat) (B:List (Nat×List V)),j<=nd.2.length->getB B 1=some [.m (.i .i64 t.states),.m h,.m n]->getB B 5=some [.m (.i .i64 nd.1),.m z]->nodesOk t 0 t.nodes=((nd.2.drop j).all (YR t i nd.1)&&nodesOk t (i+1) (t.nodes.drop (i+1)))->Run G c104_B0 (S104_0 (.fa 1 0) (.m (.i .i64 (i:Int))) (.fa 5 0) (.m n) (.m (.i .i64 es.length)) (.m (.i .i64 (i:Int))) (.m z) (.m (.i .i64 nd.2.length)) (.m (.i .i64 (j:Int))) B []) _) 0 _ (AiD _) (by simpa using hB) (by simp) hI
   clear hI
   refine BN (fun j:Nat=>nd.2.length-j) fun j ihj B hj hB h5 hI=>?_
   unfold c104_B0
   cases hy:nd.2[j]? with
   | none =>
    have:j=nd.2.length:=by have:=AiC.1 hy;omega
    subst this
    rw[Ajs]at hI
    have k:=ih (i+1) (by omega) B (by omega) hB hI
    simp (maxSteps:=2000000) (disch:=omega) [wi,-Int.natCast_add]
    exact k
   | some k =>
    have hjl:=(Aq hy).1
    have hjl2:(j:Int)<nd.2.length:=by omega
    have hk:nth (Cr nd.2) j=some [.i .i64 k]:=Ed hy
    have wj:wr .i64 ((j:Int)+1)=((j+1:Nat):Int):=Aa (by omega) (by omega)
    have hkb:=hzb k (Aiu hy)
    rw[(Aq hy).2,List.all_cons]at hI
    have eE:YR t i nd.1 k=decide (¬k<0 /\ ¬(nd.1=1/\t.states<=k) /\ ¬(1<nd.1/\((i:Int)<=k \/ ¬levAt t.nodes k=nd.1-1))):=rfl
    have go:=fun(h:YR t i nd.1 k=true)=>ihj (j+1) (by omega) B (by omega) hB h5 (by rw[hI,h,Bool.true_and])
    have no:=fun(h:YR t i nd.1 k=false)=>(by rw[hI,h];rfl:nodesOk t 0 t.nodes=false)
    have wl:wr .i64 (nd.1-1)=nd.1-1:=Aa (by omega) (by omega)
    by_cases k0:k<0
    ·have:=no (by rw[eE];exact AiE fun h=>h.1 k0)
     simp (maxSteps:=2000000) (disch:=omega) [hrz,hjl2,hk,k0,this]
    by_cases l1:nd.1=1
    ·have l2:¬1<nd.1:=by omega
     by_cases ks:t.states<=k
     ·have:=no (by rw[eE];exact AiE fun h=>h.2.1 ⟨l1,ks⟩)
      simp (maxSteps:=2000000) (disch:=omega) [hrz,hjl2,hk,hB,h5,k0,l1,ks,this]
     ·have kk:=go (by rw[eE];exact Aiv ⟨k0,fun h=>ks h.2,fun h=>l2 h.1⟩)
      rw[l1]at h5
      simp (maxSteps:=2000000) (disch:=omega) [hrz,hjl2,hk,hB,h5,k0,ks,wj,-Int.natCast_add]
      exact kk
    ·have l2:1<nd.1:=by omega
     by_cases ki:(i:Int)<=k
     ·have:=no (by rw[eE];exact AiE fun h=>h.2.2 ⟨l2,.inl ki⟩)
      simp (maxSteps:=2000000) (disch:=omega) [hrz,hjl2,hk,h5,k0,l1,l2,ki,this]
     ·obtain⟨kn,rfl⟩:=AiN (show 0<=k by omega)
      have hkn:kn<t.nodes.length:=by omega
      have hkn1:kn<es.length:=by omega
      have hkn2:(kn:Int)<es.length:=by omega
      obtain⟨z',hz',_⟩:=Dn hT (Aip hkn)
      have hlv:=PQ (Aip hkn)
      have ki2:¬i<=kn:=by omega
      by_cases hle:t.nodes[kn].1=nd.1-1
      ·have kk:=go (by rw[eE];exact Aiv ⟨k0,fun h=>l1 h.1,fun h=>h.2.elim ki fun h2=>h2 (hlv.trans hle)⟩)
       simp (maxSteps:=2000000) (disch:=omega) [hrz,hrn,hjl2,hk,hB,h5,k0,l1,l2,ki,hz',wl,hle,wj,-Int.natCast_add]
       exact kk
      ·have:=no (by rw[eE];exact AiE fun h=>h.2.2 ⟨l2,.inr fun h2=>hle (hlv.symm.trans h2)⟩)
       simp (maxSteps:=2000000) (disch:=omega) [hrz,hrn,hjl2,hk,hB,h5,k0,l1,l2,ki,hz',wl,hle,this]
theorem PH {nodes:List (Int×List Int)}{j:Nat}{nd:Int×List Int}(h:nodes[j]? = some nd){s:Nat}{k:Int}(hk:nd.2[s]? = some k):Gj nodes (j:Int) (s:Int)=k:=by
 unfold Gj
 rw[show ((j:Int)).toNat=j from rfl,h]
 dsimp only
 rw[show ((s:Int)).toNat=s from rfl,hk]
 rfl
set_option maxHeartbeats 2000000 in
theorem AaS {t:TreeC}{h n w:I}{es:List (List I)}(hT:TreeV t h n es)(hR:TreeR t){ins:List Int}(hw:IsSl w (Cr ins))(hl:ins.length<=t.hood.length)(hs:∀s,s∈ins->0<=s/\s<t.states)(H:Hp):Gives G 105 [.m (.ag [.i .i64 t.states,h,n]),.m w] H (.m (.i .i64 (QY t ins))) H:=by
 have hrn:=hT.nd.rules
 have hln:=DN hT
 have hl2:=hT.nl
 have hrw:=hw.rules
 simp only[BT]at hrw
 have hh:=DQ hR.hood
 have n1:=hR.n1
 have n2:=hR.n2
 have w1:wr .i64 ((es.length:Int)-1)=(t.nodes.length:Int)-1:=by rw[Aa (by omega) (by omega)];omega
 refine Al rfl rfl rfl rfl rfl ?_
 simp (maxSteps:=2000000) (disch:=omega) [hrn,hrw,w1]
 refine(?key:∀(i:Nat) (k:Int) (B:List (Nat×List V)),i<=ins.length->getB B 2=some [.m (.i .i64 t.states),.m h,.m n]->k=QY t (ins.take i)->Run G c105_B0 (S105_0 (.fa 2 0) (.m (.i .i64 k)) (.m w) (.m (.i .i64 ins.length)) (.m (.i .i64 (i:Int))) B []) _) 0 _ _ (AiD _) rfl rfl
 refine BN (fun i:Nat=>ins.length-i) fun i ih k B hi hB hk=>?_
 unfold c105_B0
 cases hx:ins[i]? with
 | none =>
  have:i=ins.length:=by have:=AiC.1 hx;omega
  subst this
  rw[Ajc]at hk
  simp (maxSteps:=2000000) (disch:=omega) [hk]
 | some s =>
  have hlt:=(Aq hx).1
  have hlt2:(i:Int)<ins.length:=by omega
  have hsv:=hs s (Aiu hx)
  have hsx:nth (Cr ins) i=some [.i .i64 s]:=Ed hx
  have htl:(ins.take i).length=i:=by rw[AiG];omega
  obtain⟨j,nd,hkj,hnd,hlev,hlen⟩:=Pj hR i (ins.take i) htl (by omega) fun x hx=>hs x (Ajx hx)
  rw[<-hk]at hkj
  obtain⟨z,hz,hzs,hzl,_⟩:=Dn hT hnd
  have hrz:=hzs.rules
  simp only[BT]at hrz
  have hjl:=(Aq hnd).1
  have hjl1:j<es.length:=by omega
  have hjl2:(j:Int)<es.length:=by omega
  obtain⟨sn,rfl⟩:=AiN hsv.1
  have hsn:sn<nd.2.length:=by omega
  have hsn2:(sn:Int)<nd.2.length:=by omega
  obtain⟨k2,hk2⟩:∃k2,nd.2[sn]? = some k2:=⟨_,Aip hsn⟩
  have hk3:nth (Cr nd.2) sn=some [.i .i64 k2]:=Ed hk2
  have wi:wr .i64 ((i:Int)+1)=((i+1:Nat):Int):=Aa (by omega) (by omega)
  have e1:QY t (ins.take (i+1))=k2:=by
   rw[Az hx,Gf,<-hk,hkj]
   exact PH hnd hk2
  have kk:=ih (i+1) (by omega) k2 B (by omega) hB e1.symm
  rw[hkj]
  simp (maxSteps:=2000000) (disch:=omega) [hrw,hrn,hlt2,hsx,hB,hz,hrz,hk3,wi,-Int.natCast_add]
  exact kk
theorem Kx {t:TreeC}{h n:I}{es:List (List I)}(hT:TreeV t h n es)(H:Hp):Gives G 61 [.m (.ag [.i .i64 t.states,h,n])] H (.m (.b (Bl t))) H:=by
 have g1:=fun H=>Afm hT H
 have hrh:=hT.hd.rules
 simp only[CT]at hrh
 refine Al rfl rfl rfl rfl rfl ?_
 have eQ:Bl t=(Bs t&&decide (QY t (List.replicate t.hood.length 0)=0)):=rfl
 cases ht:Bs t with
 | false =>
  rw[ht]at g1 eQ
  have eQ:Bl t=false:=eQ
  simp (maxSteps:=2000000) (disch:=omega) [Ac,cl (g1 _),eQ]
 | true =>
  rw[ht]at g1 eQ
  rw[Bool.true_and]at eQ
  have hR:=Pm ht
  have hh:=DQ hR.hood
  have hz:∀s,s∈List.replicate t.hood.length (0:Int)->0<=s/\s<t.states:=fun s hs=>by
   have:=(List.mem_replicate.1 hs).2
   have:=hR.s2
   omega
  have hrow:(List.replicate t.hood.length ([V.m (.i .i64 0)]:List V))=FP (List.replicate t.hood.length 0):=by unfold FP;rw[List.map_replicate]
  have gv0:=AaS hT hR (Bp (Cr (List.replicate t.hood.length 0))) (by simp) hz []
  have gv:=Ba (H:=[Row.cs 3 1 (FP (List.replicate t.hood.length 0)) 0 false]) (vs:=[.m (.ag [.i .i64 t.states,h,n]),.sl 0 t.hood.length 1 0 t.hood.length true]) (is:=[.ag [.i .i64 t.states,h,n],.sl (Cr (List.replicate t.hood.length 0))]) rfl rfl gv0 (by
   have:=viewN (r:=0) (ver:=t.hood.length) (st:=0) (len:=t.hood.length) (lim:=true) (base:=0) (fz:=false) (l:=List.replicate t.hood.length 0) (H:=[Row.cs 3 1 (FP (List.replicate t.hood.length 0)) 0 false]) rfl (AiD _) 18
   rw[AjP,AiJ (by simp)]at this
   show Option.bind (some _) (fun _=>Option.bind (Option.bind (view 20 _ _) _) _)=_
   rw[this]
   rfl) (.inr ⟨by simp[DA,FR],rfl⟩)
  rw[eQ]
  have hb:(t.hood.length:Int)<=17592186044416:=by omega
  simp (maxSteps:=2000000) (disch:=omega) [Ad,Ab,Ac,cl (g1 _),hrh,hrow,cl gv]
end Go.Mx.Tryz
