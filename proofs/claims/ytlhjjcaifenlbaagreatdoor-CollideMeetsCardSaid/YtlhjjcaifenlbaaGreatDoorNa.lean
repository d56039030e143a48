/- A list of numbers that grows: none, or row 0. -/
import Derived.Test.YtlhjjcaifenlbaaGreatDoorSeav
import Derived.Test.YtlhjjcaifenlbaaGreatDoorLaw
import Derived.Test.YtlhjjcaifenlbaaGreatDoorWb
import Derived.Test.YtlhjjcaifenlbaaGreatDoorSrx
import Derived.KernelRfl
import Derived.Test.YtlhjjcaifenlbaaGreatDoorSz
set_option linter.unusedSimpArgs false
set_option linter.unusedVariables false
set_option linter.unusedSectionVars false
set_option maxRecDepth 100000
namespace Go.Mx.Tryz
structure Ce where
 x:Int
 y:Int
 s:Int
def Ce.i (c:Ce):List I:=[.i .i64 c.x,.i .i64 c.y,.i .i64 c.s]
def Af (p:List Ce):LT:=p.map Ce.i
theorem J3 (p:List Ce):(Af p).length=p.length:=by simp[Af]
@[simp] theorem Sm (p:List Ce):(Af p).length=p.length:=by simp[Af]
variable {p:List Ce} {i:Nat} {c:Ce}
theorem Ap (h:p[i]? = some c):nth (Af p) i=some [J4 c.x,J4 c.y,J4 c.s]:=by
 rw[AL]
 simp[Af,h,Ce.i]
def placed (x y:Int):Bool:=decide (-1048576<=x/\x<=1048576 /\ -1048576<=y/\y<=1048576)
def Ba (a b:Ce):Bool:=decide (a.y<b.y\/(a.y=b.y/\a.x<b.x))
def Cz (c:Ce):Bool:=placed c.x c.y&&decide (1<=c.s)&&decide (c.s<8)
def Dc:Option Ce->List Ce->Bool
 | _,[]=>true
 | none,c::r=>Cz c&&Dc (some c) r
 | some a,c::r=>Cz c&&Ba a c&&Dc (some c) r
def right (p:List Ce):Bool:=decide (p.length<=5000)&&Dc none p
theorem HC (x y:Int)(H:Hp):Gives G 66 [.m (.ag [J4 x,J4 y])] H (.m (.b (placed x y))) H:=by
 refine Ae rfl rfl rfl rfl rfl ?_
 simp (contextual:=true) [Aj,-Int.not_lt,-Int.not_le,-Nat.not_lt,-Nat.not_le,-List.map_take,placed]
 grind
theorem HD (x y:Int)(H:Hp):Gives G 78 [J0 x,J0 y] H (.m (.b (placed x y))) H:=by
 refine Ae rfl rfl rfl rfl rfl ?_
 simp (contextual:=true) [Aj,-Int.not_lt,-Int.not_le,-Nat.not_lt,-Nat.not_le,-List.map_take,placed]
theorem Ady (c:Ce)(H:Hp):Gives G 67 [.m (.ag [J4 c.x,J4 c.y,J4 c.s])] H (.m (.ag [J4 c.x,J4 c.y])) H:=by
 refine Ae rfl rfl rfl rfl rfl ?_
 simp
theorem nan_s (x:Int)(H:Hp):Gives G 177 [J0 x] H (.m (.b false)) H:=by
 refine Ae rfl rfl rfl rfl rfl ?_
 simp
def Ed (x y:Int):Int:=if x<y then -1 else if y<x then 1 else 0
theorem AgO (x y:Int)(H:Hp):Gives G 149 [J0 x,J0 y] H (J0 (Ed x y)) H:=by
 refine Ae rfl rfl rfl rfl rfl ?_
 simp (contextual:=true) [Ai,-Int.not_lt,-Int.not_le,-Nat.not_lt,-Nat.not_le,-List.map_take,cl (nan_s _ _),Ed]
theorem Agj (a b:Int)(H:Hp):Gives G 148 [.m (.sl [[J4 a],[J4 b]])] H (J0 (if a=0 then b else a)) H:=by
 refine Ae rfl rfl rfl rfl rfl ?_
 simp (contextual:=true) [Ai,-Int.not_lt,-Int.not_le,-Nat.not_lt,-Nat.not_le,-List.map_take,Aa,c148_B0]
def HN (x y z w:Int):Int:=if Ed y w=0 then Ed x z else Ed y w
theorem UV (x y z w:Int)(H:Hp):Gives G 110 [.m (.ag [J4 x,J4 y]),.m (.ag [J4 z,J4 w])] H (J0 (HN x y z w)) H:=by
 refine Ae rfl rfl rfl rfl rfl ?_
 have u:=AU (vs:=[.ls [[J4 (Ed y w)],[J4 (Ed x z)]]]) (H:=[]) rfl rfl (Agj (Ed y w) (Ed x z) []) rfl (.inl ⟨rfl,rfl⟩)
 simp[cl (AgO _ _ _),cl u,HN]
theorem Vg (a b:Ce)(H:Hp):Gives G 69 [.m (.ag [J4 a.x,J4 a.y,J4 a.s]),.m (.ag [J4 b.x,J4 b.y,J4 b.s])] H (J0 (HN a.x a.y b.x b.y)) H:=by
 refine Ae rfl rfl rfl rfl rfl ?_
 simp[cl (Ady _ _),cl (UV _ _ _ _ _)]
theorem Wh (a b:Ce):(0<=HN a.x a.y b.x b.y)↔Ba a b=false:=by
 unfold Ba HN Ed
 grind
theorem Lr (a b:Ce)(H:Hp):Gives G 80 [.m (.ag [J4 a.x,J4 a.y,J4 a.s]),.m (.ag [J4 b.x,J4 b.y,J4 b.s])] H (.m (.b (Ba a b))) H:=by
 refine Ae rfl rfl rfl rfl rfl ?_
 simp (contextual:=true) [Aj,-Int.not_lt,-Int.not_le,-Nat.not_lt,-Nat.not_le,-List.map_take,Ba]
def Lu (p:List Ce):Nat->Option Ce
 | 0=>none
 | i+1=>p[i]?
theorem Kc (u:p[i]? = some c)(hi:∀j,i=j+1->j<p.length):Dc (Lu p i) (c::p.drop (i+1))=(Cz c&&(match Lu p i with|none=>true|some a=>Ba a c)&&Dc (Lu p (i+1)) (p.drop (i+1))):=by
 have:Lu p (i+1)=some c:=u
 rw[this]
 cases Lu p i with
 | none=>show (Cz c&&Dc (some c) _)=_;simp
 | some a=>show (Cz c&&Ba a c&&Dc (some c) _)=_;simp
variable {v:I}
theorem El (Q:IsSl v (Af p))(hl:(p.length:Int)<=9223372036854775807)(H:Hp):Gives G 62 [.m v] H (.m (.b (right p))) H:=by
 refine Ae rfl rfl rfl rfl rfl ?_
 simp (contextual:=true) [Ai,-Int.not_lt,-Int.not_le,-Nat.not_lt,-Nat.not_le,-List.map_take,Q.rules]
 refine⟨fun h=>?_,fun h=>?_⟩
 ·unfold right
  grind
 refine(?key:∀(i:Nat) (B:LE),i<=p.length->right p=Dc (Lu p i) (p.drop i)->Run G c62_B0 (S62_0 (.m v) (.m v) (J0 p.length) (J0 i) B []) _) 0 [] (Aho _) ?_
 case key =>
  refine Bl (fun i:Nat=>p.length-i) fun i W B hi z=>?_
  unfold c62_B0
  cases hx:p[i]? with
  | none =>
   have:i=p.length:=by have:=Ahn.1 hx;omega
   subst this
   have:Dc (Lu p p.length) []=true:=by cases Lu p p.length <;> rfl
   simp[z,this]
  | some c =>
   have E:=(Am hx).1
   have Y:=Ap hx
   rw[(Am hx).2,Kc hx (by omega)]at z
   have hg:Cz c=(placed c.x c.y&&decide (1<=c.s)&&decide (c.s<8)):=rfl
   cases i with
   | zero =>
    simp (contextual:=true) (maxSteps:=2000000) (disch:=omega) [Ai,Aj,Ad,-Int.not_lt,-Int.not_le,-Nat.not_lt,-Nat.not_le,-List.map_take,Q.rules,Y,E,cl (Ady _ _),cl (HC _ _ _),Aa]
    repeat' first|with_reducible apply And.intro|intro _
    all_goals first
     | (refine W 1 (by omega) _ (by omega) ?_;grind [Lu])
     | grind [Lu]
   | succ j =>
    obtain⟨U,u⟩:∃U,p[j]? = some U:=⟨p[j],Ahh (by omega)⟩
    have N:=Ap u
    have Z:(j:Int)+1<p.length:=by omega
    have e4:(j:Int)<p.length:=by omega
    have e6:(0:Int)<=j+1:=by omega
    have e7:((j:Int)+1).toNat=j+1:=by omega
    have J:Lu p (j+1)=some U:=u
    simp only[J]at z
    simp (contextual:=true) (maxSteps:=2000000) (disch:=omega) [Ai,Aj,Ad,-Int.not_lt,-Int.not_le,-Nat.not_lt,-Nat.not_le,-List.map_take,Q.rules,Y,N,Z,e7,cl (Ady _ _),cl (HC _ _ _),cl (Vg _ _ _),Aa,Wh]
    repeat' first|with_reducible apply And.intro|intro _
    all_goals first
     | (refine W (j+2) (by omega) _ (by omega) ?_;grind)
     | grind
 ·have:p.length<=5000:=by omega
  simp[right,this,Lu]
theorem IU (Q:IsSl v (Af p))(hl:(p.length:Int)<=9223372036854775807)(H:Hp):Gives G 72 [.m v] H (.m (.b (right p))) H:=by
 refine Ae rfl rfl rfl rfl rfl ?_
 simp (contextual:=true) (maxSteps:=2000000) (disch:=omega) [-Int.not_lt,-Int.not_le,-Nat.not_lt,-Nat.not_le,-List.map_take]
 refine(?key:∀(i:Nat) (B:LE),i<=p.length->Dc none p=Dc (Lu p i) (p.drop i)->Run G c72_B0 (S72_0 (.m v) (J0 i) B []) _) 0 [] (Aho _) rfl
 refine Bl (fun i:Nat=>p.length-i) fun i W B hi z=>?_
 unfold c72_B0
 have Z:right p=(decide (p.length<=5000)&&Dc none p):=rfl
 cases hx:p[i]? with
 | none =>
  have:i=p.length:=by have:=Ahn.1 hx;omega
  subst this
  have:Dc (Lu p p.length) []=true:=by cases Lu p p.length <;> rfl
  simp[Q.rules,Z,z,this]
  omega
 | some c =>
  have E:=(Am hx).1
  have Y:=Ap hx
  rw[(Am hx).2,Kc hx (by omega)]at z
  have hg:Cz c=(placed c.x c.y&&decide (1<=c.s)&&decide (c.s<8)):=rfl
  cases i with
  | zero =>
   simp (contextual:=true) (maxSteps:=2000000) (disch:=omega) [Ai,Aj,Ad,-Int.not_lt,-Int.not_le,-Nat.not_lt,-Nat.not_le,-List.map_take,Q.rules,Y,E,cl (HD _ _ _),Aa]
   repeat' first|with_reducible apply And.intro|intro _
   all_goals first
    | (refine W 1 (by omega) _ (by omega) ?_;grind [Lu])
    | grind [Lu]
  | succ j =>
   obtain⟨U,u⟩:∃U,p[j]? = some U:=⟨p[j],Ahh (by omega)⟩
   have N:=Ap u
   have e3:(j:Int)+1<p.length:=by omega
   have e4:(j:Int)<p.length:=by omega
   have e6:(0:Int)<=j+1:=by omega
   have e7:((j:Int)+1).toNat=j+1:=by omega
   have J:Lu p (j+1)=some U:=u
   simp only[J]at z
   simp (contextual:=true) (maxSteps:=2000000) (disch:=omega) [Ai,Aj,Ad,-Int.not_lt,-Int.not_le,-Nat.not_lt,-Nat.not_le,-List.map_take,Q.rules,Y,N,e3,e7,cl (Lr _ _ _),cl (HD _ _ _),Aa]
   repeat' first|with_reducible apply And.intro|intro _
   all_goals first
    | (refine W (j+2) (by omega) _ (by omega) ?_;grind)
    | grind
variable {B n:Nat} {l:List I}
theorem BI (h:Fits Go.Proofs.Tryz.prog B (n+1) 3 l):∃x:Int,l=[J4 x] /\ -9223372036854775808<=x/\x<=9223372036854775807:=by
 unfold Fits at h
 rw[Go.Proofs.Tryz.underlying3]at h
 simp only at h
 obtain⟨x,rfl,u⟩:=h
 have z:IntKind.i64.min=-9223372036854775808:=by decide
 have E:IntKind.i64.max=9223372036854775807:=by decide
 rw[z,E]at u
 exact⟨x,rfl,u⟩
theorem Zb (h:Fits Go.Proofs.Tryz.prog B (n+2) 73 l):∃d:Ce,l=d.i:=by
 unfold Fits at h
 rw[Go.Proofs.Tryz.underlying73]at h
 simp only[GZ]at h
 obtain⟨Z,Q,rfl,E,N,W,rfl,J,Y,U,rfl,z,rfl⟩:=h
 obtain⟨u,rfl,_⟩:=BI E
 obtain⟨v,rfl,_⟩:=BI J
 obtain⟨w,rfl,_⟩:=BI z
 exact⟨⟨u,v,w⟩,rfl⟩
variable {es:LT}
theorem VX (h:∀x,x∈es -> ∃d:Ce,x=d.i):∃p:List Ce,es=Af p:=by
 induction es with
 | nil=>exact⟨[],rfl⟩
 | cons x r u =>
  obtain⟨d,rfl⟩:=h x (by simp)
  obtain⟨p,rfl⟩:=u fun x z=>h x (by simp[z])
  exact⟨d::p,rfl⟩
theorem Adq (h:Fits Go.Proofs.Tryz.prog B (n+3) 29 l):∃(p:List Ce) (v:I),l=[v]/\IsSl v (Af p)/\p.length<=B:=by
 unfold Fits at h
 rw[Go.Proofs.Tryz.underlying29]at h
 simp only at h
 rcases h with rfl|⟨es,rfl,u,z⟩
 ·exact⟨[],_,rfl,AM,by simp⟩
 ·obtain⟨p,rfl⟩:=VX fun x E=>Zb (z x E)
  exact⟨p,_,rfl,Bf _,by rw[Sm]at u;exact u⟩
def mnF (m:Int)(l:List Int):Int:=l.foldl min m
def mxF (m:Int)(l:List Int):Int:=l.foldl max m
theorem HF (m:Int)(l:List Int)(x:Int):mnF m (l++[x])=min (mnF m l) x:=by simp[mnF]
theorem Qy (m:Int)(l:List Int)(x:Int):mxF m (l++[x])=max (mxF m l) x:=by simp[mxF]
def Nr (p:List Ce):List Int:=match p with
 | []=>[0,0,0,0]
 | c::r=>if right (c::r)=true then
   [mnF c.x ((c::r).map Ce.x),c.y,wr .i64 (wr .i64 (mxF c.x ((c::r).map Ce.x)-mnF c.x ((c::r).map Ce.x))+1),wr .i64 (wr .i64 (((c::r).getLast (by simp)).y-c.y)+1)]
  else [0,0,0,0]
def QZ (p:List Ce):V:=.tu [.m (.ag ((Nr p).map (.i .i64))),.m (.b (!p.isEmpty&&right p))]
variable {α:Type}
theorem Da {β:Type}{p:List α}{c:α}(f:α->β)(h:p[i]? = some c):(p.take (i+1)).map f=(p.take i).map f++[f c]:=by rw[As h];simp
theorem AgT (N:IsSl v (Af p))(hl:(p.length:Int)<=9223372036854775807)(H:Hp):Gives G 103 [.m v] H (QZ p) H:=by
 refine Ae rfl rfl rfl rfl rfl ?_
 have g:=El N hl []
 cases hp:p with
 | nil=>subst hp;simp (contextual:=true) (disch:=omega) [Ai,Ad,N.rules,QZ,Nr]
 | cons c r =>
  rw[<-hp]
  have Z:p[0]? = some c:=by rw[hp];rfl
  have J:=Ap Z
  have e1:0<p.length:=by rw[hp];simp
  obtain⟨cl,E⟩:∃d,p[p.length-1]? = some d:=⟨p[p.length-1],Ahh (by omega)⟩
  have W:=Ap E
  have Y:∀h,(c::r).getLast h=cl:=fun h=>by
   have:p.getLast (by rw[hp];simp)=cl:=by rw[List.getLast_eq_getElem,<-Ahe,<-E,Ahh]
   simpa[hp]using this
  have hw:wr .i64 ((p.length:Int)-1)=((p.length-1:Nat):Int):=by rw[Aa] <;> omega
  have e2:¬((p.length:Int)=0):=by omega
  have e4:¬p=[]:=by rw[hp];simp
  simp (contextual:=true) (disch:=omega) [Ai,Ad,N.rules,Mx.Tryz.cl g,J,e4]
  refine⟨fun u=>?_,fun u=>?_⟩
  ·rw[hp]at u ⊢;simp[QZ,Nr,u]
  refine(?key:∀(i:Nat) (B:LE),i<=p.length->(∃a b d e,getB B 2=some [a,b,d,e])->Run G c103_B0 (S103_0 (.m v) (.fa 2 0) (.m (.i .i64 (mnF c.x ((p.take i).map Ce.x)))) (.m (.i .i64 (mxF c.x ((p.take i).map Ce.x)))) (.m v) (.m (.i .i64 p.length)) (.m (.i .i64 i)) B []) _) 0 _ (Aho _) ⟨_,_,_,_,rfl⟩
  refine Bl (fun i:Nat=>p.length-i) fun i Q B hi U=>?_
  unfold c103_B0
  cases hx:p[i]? with
  | none =>
   have:i=p.length:=by have:=Ahn.1 hx;omega
   subst this
   obtain⟨a,b,d,e,U⟩:=U
   have z:p.length-1<p.length:=by omega
   have e3:((p.length:Int)-1).toNat=p.length-1:=by omega
   simp (contextual:=true) (disch:=omega) [N.rules,J,W,U,e3,Aa,Ai]
   rw[hp]at u ⊢
   simp[QZ,Nr,u,Y]
  | some d =>
   have z:=(Am hx).1
   have hn:=Ap hx
   have Q:=Q (i+1) (by omega)
   simp only[Da _ hx,HF,Qy]at Q
   simp (contextual:=true) (maxSteps:=2000000) (disch:=omega) [Ai,-Int.not_lt,-Int.not_le,-Nat.not_lt,-Nat.not_le,-List.map_take,N.rules,hn,z,Aa]
   exact Q _ (by omega) (by simpa using U)
theorem De {a b:Ce}(z:Ba a b=true)(u:Ba b c=true):Ba a c=true:=by
 unfold Ba at *
 grind
theorem Nq:∀(p:List Ce) (o:Option Ce),Dc o p=true->p.Pairwise (fun a b=>Ba a b=true)/\(∀a,o=some a -> ∀d,d∈p->Ba a d=true) /\ ∀d,d∈p->Cz d=true
 | [],_,_=>⟨.nil,fun _ _ d u=>by simp at u,fun d u=>by simp at u⟩
 | c::r,o,h=>by
  have U:Cz c=true/\(∀a,o=some a->Ba a c=true)/\Dc (some c) r=true:=by
   cases o with
   | none =>
    have:(Cz c&&Dc (some c) r)=true:=h
    rw[Ahi]at this
    exact⟨this.1,fun _ h=>(by cases h),this.2⟩
   | some a =>
    have:(Cz c&&Ba a c&&Dc (some c) r)=true:=h
    simp only[Ahi]at this
    exact⟨this.1.1,fun _ h=>(by cases h;exact this.1.2),this.2⟩
  obtain⟨g1,E,g3⟩:=U
  obtain⟨Q,J,N⟩:=Nq r (some c) g3
  refine⟨AhK.2 ⟨fun d u=>J c rfl d u,Q⟩,fun a z d u=>?_,fun d u=>?_⟩
  ·rcases AhF.1 u with rfl|u
   ·exact E a z
   ·exact De (E a z) (J c rfl d u)
  ·rcases AhF.1 u with rfl|u
   ·exact g1
   ·exact N d u
theorem CN (h:right p=true):p.Pairwise (fun a b=>Ba a b=true)/\(∀d,d∈p->Cz d=true)/\p.length<=5000:=by
 unfold right at h
 simp only[Ahi,Aht]at h
 have:=Nq p none h.2
 exact⟨this.1,this.2.2,h.1⟩
theorem JZ:∀(l:List Int) (m x:Int),(x<=m /\ ∀y,y∈l->x<=y)->x<=mnF m l
 | [],m,x,h=>h.1
 | y::r,m,x,h=>JZ r (min m y) x ⟨by have:=h.1;have:=h.2 y (by simp);omega,fun z u=>h.2 z (by simp[u])⟩
theorem Ja:∀(l:List Int) (m:Int),mnF m l<=m /\ ∀y,y∈l->mnF m l<=y
 | [],m=>⟨Int.le_refl _,fun y J=>by simp at J⟩
 | y::r,m=>by
  obtain⟨N,E⟩:=Ja r (min m y)
  refine⟨by show mnF (min m y) r<=m;omega,fun z u=>?_⟩
  show mnF (min m y) r<=z
  rcases AhF.1 u with rfl|u
  ·omega
  ·exact E z u
theorem Qz:∀(l:List Int) (m:Int),m<=mxF m l /\ ∀y,y∈l->y<=mxF m l
 | [],m=>⟨Int.le_refl _,fun y J=>by simp at J⟩
 | y::r,m=>by
  obtain⟨N,E⟩:=Qz r (max m y)
  refine⟨by show m<=mxF (max m y) r;omega,fun z u=>?_⟩
  show z<=mxF (max m y) r
  rcases AhF.1 u with rfl|u
  ·omega
  ·exact E z u
theorem Vu:∀(l:List Int) (m x:Int),(m<=x /\ ∀y,y∈l->y<=x)->mxF m l<=x
 | [],m,x,h=>h.1
 | y::r,m,x,h=>Vu r (max m y) x ⟨by have:=h.1;have:=h.2 y (by simp);omega,fun z u=>h.2 z (by simp[u])⟩
variable {r:List Ce}
theorem KP {d:Ce}(h:right (c::r)=true)(E:(c::r)[(c::r).length-1]? = some d):mnF c.y ((c::r).map Ce.y)=c.y/\mxF c.y ((c::r).map Ce.y)=d.y:=by
 obtain⟨W,_,_⟩:=CN h
 have first:∀y,y∈(c::r).map Ce.y->c.y<=y:=fun y J=>by
  obtain⟨e,z,rfl⟩:=AhE.1 J
  rcases AhF.1 z with rfl|z
  ·exact Int.le_refl _
  ·have:=(AhK.1 W).1 e z
   unfold Ba at this
   simp only[Aht]at this
   omega
 have u:∀y,y∈(c::r).map Ce.y->y<=d.y:=fun y J=>by
  obtain⟨e,z,rfl⟩:=AhE.1 J
  obtain⟨i,U,rfl⟩:=List.mem_iff_getElem.1 z
  by_cases N:i=(c::r).length-1
  ·subst N
   rw[Ahh U]at E
   cases E
   exact Int.le_refl _
  ·have Q:(c::r).length-1<(c::r).length:=by simp
   have:=Aiv.1 W i ((c::r).length-1) U Q (by omega)
   rw[Ahh Q]at E
   cases E
   unfold Ba at this
   simp only[Aht]at this
   omega
 have Y:d.y∈(c::r).map Ce.y:=AhE.2 ⟨d,Ahm E,rfl⟩
 have c0:=Ja ((c::r).map Ce.y) c.y
 have c1:=JZ ((c::r).map Ce.y) c.y c.y ⟨Int.le_refl _,first⟩
 have Z:=Qz ((c::r).map Ce.y) c.y
 have c3:=Vu ((c::r).map Ce.y) c.y d.y ⟨u _ (by simp),u⟩
 have c4:=Z.2 _ Y
 constructor <;> omega
theorem AgU (E:IsSl v (Af p))(hl:(p.length:Int)<=9223372036854775807)(H:Hp):Gives G 74 [.m v] H (QZ p) H:=by
 refine Ae rfl rfl rfl rfl rfl ?_
 have g:=IU E hl []
 cases hp:p with
 | nil=>subst hp;simp (contextual:=true) (disch:=omega) [Ai,Ad,E.rules,QZ,Nr]
 | cons c r =>
  rw[<-hp]
  have Z:p[0]? = some c:=by rw[hp];rfl
  have Y:=Ap Z
  have e1:0<p.length:=by rw[hp];simp
  obtain⟨cl,z⟩:∃d,p[p.length-1]? = some d:=⟨p[p.length-1],Ahh (by omega)⟩
  have W:∀h,(c::r).getLast h=cl:=fun h=>by
   have:p.getLast (by rw[hp];simp)=cl:=by rw[List.getLast_eq_getElem,<-Ahe,<-z,Ahh]
   simpa[hp]using this
  have e2:¬((p.length:Int)=0):=by omega
  have e4:¬p=[]:=by rw[hp];simp
  simp (contextual:=true) (disch:=omega) [Ai,Ad,E.rules,Mx.Tryz.cl g,Y,e4]
  refine⟨fun u=>?_,fun u=>?_⟩
  ·rw[hp]at u ⊢;simp[QZ,Nr,u]
  refine(?key:∀(i:Nat) (B:LE),i<=p.length->(∃a b d e,getB B 2=some [a,b,d,e])->Run G c74_B0 (S74_0 (.m v) (.fa 2 0) (.m (.i .i64 (mnF c.x ((p.take i).map Ce.x)))) (.m (.i .i64 (mnF c.y ((p.take i).map Ce.y)))) (.m (.i .i64 (mxF c.x ((p.take i).map Ce.x)))) (.m (.i .i64 (mxF c.y ((p.take i).map Ce.y)))) (.m (.i .i64 i)) B []) _) 0 _ (Aho _) ⟨_,_,_,_,rfl⟩
  refine Bl (fun i:Nat=>p.length-i) fun i J B hi N=>?_
  unfold c74_B0
  cases hx:p[i]? with
  | none =>
   have:i=p.length:=by have:=Ahn.1 hx;omega
   subst this
   obtain⟨a,b,d,e,N⟩:=N
   have Q:=KP (hp ▸ u) (hp ▸ z)
   simp (contextual:=true) (disch:=omega) [E.rules,N,Ai]
   rw[hp]at u ⊢
   simp only[AhL]at Q
   simp[QZ,Nr,u,W,Q.1,Q.2]
  | some d =>
   have U:=(Am hx).1
   have hn:=Ap hx
   have J:=J (i+1) (by omega)
   simp only[Da _ hx,HF,Qy]at J
   simp (contextual:=true) (maxSteps:=2000000) (disch:=omega) [Ai,-Int.not_lt,-Int.not_le,-Nat.not_lt,-Nat.not_le,-List.map_take,E.rules,hn,U,Aa]
   exact J _ (by omega) N
def DB (p:List Ce)(x y:Int):Int:=match p with
 | []=>0
 | c::r=>if c.x=x/\c.y=y then c.s else DB r x y
theorem get_r (E:IsSl v (Af p))(hl:(p.length:Int)<=9223372036854775807)(x y:Int)(H:Hp):Gives G 154 [.m v,.m (.i .i64 x),.m (.i .i64 y)] H (.m (.i .i64 (DB p x y))) H:=by
 refine Ae rfl rfl rfl rfl rfl ?_
 simp (contextual:=true) (disch:=omega) [-List.map_take]
 refine(?key:∀(i:Nat),i<=p.length->DB p x y=DB (p.drop i) x y->Run G c154_B0 (S154_0 (.m v) (.m (.i .i64 x)) (.m (.i .i64 y)) (.m (.i .i64 i)) [] []) _) 0 (Aho _) rfl
 refine Bl (fun i:Nat=>p.length-i) fun i J Q z=>?_
 unfold c154_B0
 cases hx:p[i]? with
 | none =>
  have:i=p.length:=by have:=Ahn.1 hx;omega
  subst this
  simp (contextual:=true) (disch:=omega) [E.rules,z,DB]
 | some d =>
  have u:=(Am hx).1
  have N:=Ap hx
  rw[(Am hx).2]at z
  simp (contextual:=true) (disch:=omega) [Ai,Aj,E.rules,N,u,Aa]
  repeat' first|with_reducible apply And.intro|intro _
  all_goals first
   | (refine J (i+1) (by omega) (by omega) ?_;grind [DB])
   | grind [DB]
open Go.Lib
structure TreeC where
 states:Int
 hood:List (Int×Int)
 nodes:List (Int×List Int)
def Nc (a b:Int×Int):Bool:=decide (a.2<b.2\/(a.2=b.2/\a.1<b.1))
def GU (p:Int×Int):Bool:=decide ((-2<=p.1/\p.1<=2)/\(-2<=p.2/\p.2<=2))
def Lv:Option (Int×Int)->List (Int×Int)->Bool
 | _,[]=>true
 | none,p::r=>GU p&&Lv (some p) r
 | some a,p::r=>GU p&&Nc a p&&Lv (some p) r
def BR (l:List (Int×Int)):Bool:=decide (1<=l.length/\l.length<=25)&&Lv none l
theorem Lq:∀(l:List (Int×Int)) (a:Option (Int×Int)),Lv a l=true -> ∀p,p∈l->GU p=true
 | [],_,_,p,u=>by cases u
 | q::r,a,h,p,u=>by
  have z:GU q=true/\Lv (some q) r=true:=by
   cases a with
   | none=>exact(Ahi _ _).mp h
   | some b =>
    have h:(GU q&&Nc b q&&Lv (some q) r)=true:=h
    rw[Ahi,Ahi]at h
    exact⟨h.1.1,h.2⟩
  rcases AhF.1 u with rfl|u
  ·exact z.1
  ·exact Lq r _ z.2 p u
def levAt (nodes:List (Int×List Int))(k:Int):Int:=match nodes[k.toNat]? with
 | some n=>n.1
 | none=>0
def Si (t:TreeC)(i:Nat)(lev k:Int):Bool:=decide (¬k<0 /\ ¬(lev=1/\t.states<=k) /\ ¬(1<lev/\((i:Int)<=k \/ ¬levAt t.nodes k=lev-1)))
def Es (t:TreeC)(i:Nat)(n:Int×List Int):Bool:=decide (1<=n.1/\n.1<=t.hood.length/\(n.2.length:Int)=t.states)&&n.2.all (Si t i n.1)
def nodesOk (t:TreeC):Nat->List (Int×List Int)->Bool
 | _,[]=>true
 | i,n::r=>Es t i n&&nodesOk t (i+1) r
def AY (t:TreeC):Bool:=decide (2<=t.states/\t.states<=8)&&(BR t.hood&&(decide (1<=t.nodes.length/\t.nodes.length<=4096)&&(decide (levAt t.nodes (t.nodes.length-1)=t.hood.length)&&nodesOk t 0 t.nodes)))
theorem GV (t:TreeC):∀(l:List (Int×List Int)) (i:Nat),nodesOk t i l=true -> ∀(j:Nat) n,l[j]? = some n->Es t (i+j) n=true
 | [],_,_,j,n,h=>by simp at h
 | m::r,i,h,j,n,hn=>by
  have h:(Es t i m&&nodesOk t (i+1) r)=true:=h
  rw[Ahi]at h
  cases j with
  | zero=>simp at hn;subst hn;exact h.1
  | succ j =>
   have:=GV t r (i+1) h.2 j n (by simpa using hn)
   rw[show i+(j+1)=i+1+j from by omega]
   exact this
structure TreeR (t:TreeC):Prop where
 s2:2<=t.states
 s8:t.states<=8
 hood:BR t.hood=true
 n1:1<=t.nodes.length
 n2:t.nodes.length<=4096
 root:levAt t.nodes (t.nodes.length-1)=t.hood.length
 node:∀(j:Nat) n,t.nodes[j]? = some n->Es t j n=true
variable {t:TreeC}
theorem HA (h:AY t=true):TreeR t:=by
 unfold AY at h
 simp only[Ahi,Aht]at h
 obtain⟨⟨a,b⟩,c,⟨d,e⟩,f,g⟩:=h
 exact⟨a,b,c,d,e,f,fun j n u=>by have:=GV t _ 0 g j n u;rwa[Aih]at this⟩
theorem BZ {l:List (Int×Int)}(h:BR l=true):1<=l.length/\l.length<=25:=by
 unfold BR at h
 simp only[Ahi,Aht]at h
 exact h.1
theorem Eb {l:List (Int×Int)}(h:BR l=true):∀p,p∈l->(-2<=p.1/\p.1<=2)/\(-2<=p.2/\p.2<=2):=fun p u=>by
 unfold BR at h
 rw[Ahi]at h
 have:=Lq _ _ h.2 p u
 unfold GU at this
 exact of_decide_eq_true this
def Gj (nodes:List (Int×List Int))(k s:Int):Int:=match nodes[k.toNat]? with
 | some n=>(n.2[s.toNat]?).getD 0
 | none=>0
def valF (nodes:List (Int×List Int)):Int->List Int->Int
 | k,[]=>k
 | k,s::r=>valF nodes (Gj nodes k s) r
theorem ML (u:List (Int×List Int)):∀(l:List Int) (k s:Int),valF u k (l++[s])=Gj u (valF u k l) s
 | [],_,_=>rfl
 | x::r,k,s=>ML u r (Gj u k x) s
def KM (t:TreeC)(ins:List Int):Int:=valF t.nodes (t.nodes.length-1) ins
theorem EL (t:TreeC)(l:List Int)(s:Int):KM t (l++[s])=Gj t.nodes (KM t l) s:=ML _ _ _ _
def Ws (t:TreeC)(lev:Int)(k:Int):Prop:=∃(j:Nat) (n:Int×List Int),k=j/\t.nodes[j]? = some n/\n.1=lev/\(n.2.length:Int)=t.states
theorem Na (h:TreeR t){z k s:Int}(ha:Ws t z k)(hs:0<=s/\s<t.states):(z=1->0<=Gj t.nodes k s/\Gj t.nodes k s<t.states)/\(1<z->Ws t (z-1) (Gj t.nodes k s))/\1<=z:=by
 obtain⟨j,n,rfl,U,hl,Z⟩:=ha
 have J:=h.node j n U
 unfold Es at J
 simp only[Ahi,Aht,Ahu]at J
 obtain⟨⟨a1,a2,a3⟩,a4⟩:=J
 have N:s.toNat<n.2.length:=by omega
 have e:Gj t.nodes j s=n.2[s.toNat]:=by
  unfold Gj
  rw[show ((j:Int)).toNat=j from rfl,U]
  dsimp only
  rw[Ahh N]
  rfl
 have u:=a4 (n.2[s.toNat]) (List.getElem_mem N)
 rw[<-e]at u
 unfold Si at u
 have u:=of_decide_eq_true u
 refine⟨fun h1=>?_,fun h1=>?_,by omega⟩
 ·have:=u.2.1;omega
 ·have Y:=u.2.2
  have h3:¬(j:Int)<=Gj t.nodes j s:=fun W=>Y ⟨by omega,.inl W⟩
  have Q:levAt t.nodes (Gj t.nodes j s)=n.1-1:=Aiu fun W=>Y ⟨by omega,.inr W⟩
  generalize Gj t.nodes j s=k' at *
  have h0:¬k'<0:=u.1
  obtain⟨i,rfl⟩:=AhA (show 0<=k' by omega)
  have hjl:=(Ahg.1 U).1
  have E:i<t.nodes.length:=by omega
  refine⟨i,t.nodes[i],rfl,Ahh E,?_,?_⟩
  ·unfold levAt at Q
   rw[show ((i:Int)).toNat=i from rfl,Ahh E]at Q
   dsimp only at Q
   omega
  ·have:=h.node i _ (Ahh E)
   unfold Es at this
   simp only[Ahi,Aht]at this
   exact this.1.2.2
theorem MK {t:TreeC}(h:TreeR t):∀(m:Nat) (ins:List Int),ins.length=m->m<t.hood.length->(∀s,s∈ins->0<=s/\s<t.states)->Ws t (t.hood.length-m) (KM t ins)
 | 0,ins,hl,hm,hs=>by
  have:ins=[]:=AhJ hl
  subst this
  have J:=h.n1
  have u:t.nodes.length-1<t.nodes.length:=by omega
  refine⟨t.nodes.length-1,t.nodes[t.nodes.length-1],?_,Ahh u,?_,?_⟩
  ·show ((t.nodes.length:Int)-1)=_
   omega
  ·have:=h.root
   unfold levAt at this
   rw[show ((t.nodes.length:Int)-1).toNat=t.nodes.length-1 from by omega,Ahh u]at this
   dsimp only at this
   rw[this]
   simp
  ·have:=h.node _ _ (Ahh u)
   unfold Es at this
   simp only[Ahi,Aht]at this
   exact this.1.2.2
 | m+1,ins,hl,hm,hs=>by
  obtain⟨q,c,rfl⟩:∃q c,ins=q++[c]:=⟨ins.dropLast,ins.getLast (by intro e;rw[e]at hl;simp at hl),(List.dropLast_concat_getLast _).symm⟩
  have E:=MK h m q (by simpa using hl) (by omega) fun s z=>hs s (by simp[z])
  rw[EL]
  have:=(Na h E (hs c (by simp))).2.1 (by omega)
  rw[show ((t.hood.length:Int)-((m+1:Nat):Int))=t.hood.length-m-1 from by omega]
  exact this
theorem Acg (h:TreeR t){ins:List Int}(hl:ins.length=t.hood.length)(hs:∀s,s∈ins->0<=s/\s<t.states):0<=KM t ins/\KM t ins<t.states:=by
 have J:=(BZ h.hood).1
 obtain⟨q,c,rfl⟩:∃q c,ins=q++[c]:=⟨ins.dropLast,ins.getLast (by intro e;rw[e]at hl;simp at hl;omega),(List.dropLast_concat_getLast _).symm⟩
 have E:q.length+1=t.hood.length:=by simpa using hl
 have z:=MK h q.length q rfl (by omega) fun s u=>hs s (by simp[u])
 rw[EL]
 exact(Na h z (hs c (by simp))).1 (by omega)
def Bd (t:TreeC):Bool:=AY t&&decide (KM t (List.replicate t.hood.length 0)=0)
def Nb (t:TreeC)(p:List Ce)(x y:Int):List Int:=t.hood.map fun o=>DB p (x+o.1) (y+o.2)
def Bw (t:TreeC)(p:List Ce)(x y:Int):Int:=KM t (Nb t p x y)
def Hu (t:TreeC)(p:List Ce):Prop:=∀c,c∈p->0<=c.s/\c.s<t.states
theorem Ll {t:TreeC}(h:TreeR t):∀ {p:List Ce},Hu t p -> ∀x y,0<=DB p x y/\DB p x y<t.states
 | [],_,x,y=>by have:=h.s2;show 0<=(0:Int)/\(0:Int)<t.states;omega
 | c::r,hp,x,y=>by
  have e:DB (c::r) x y=if c.x=x/\c.y=y then c.s else DB r x y:=rfl
  rw[e]
  split
  ·exact hp c (AhG ..)
  ·exact Ll h (fun d u=>hp d (AhZ _ u)) x y
variable {x y:Int}
theorem La (h:TreeR t)(z:Hu t p):∀s,s∈Nb t p x y->0<=s/\s<t.states:=fun s u=>by
 obtain⟨o,_,rfl⟩:=AhE.1 u
 exact Ll h z _ _
theorem Gk (t:TreeC)(p:List Ce)(x y:Int):(Nb t p x y).length=t.hood.length:=by unfold Nb;simp
theorem Fd (h:TreeR t)(u:Hu t p)(x y:Int):0<=Bw t p x y/\Bw t p x y<t.states:=Acg h (Gk t p x y) (La h u)
theorem Vr (u:Bd t=true)(h:∀o,o∈t.hood->DB p (x+o.1) (y+o.2)=0):Bw t p x y=0:=by
 unfold Bd at u
 rw[Ahi,Aht]at u
 have e:Nb t p x y=List.replicate t.hood.length 0:=by
  unfold Nb
  rw[List.map_congr_left h,List.map_const']
 unfold Bw
 rw[e]
 exact u.2
theorem DK (u:Bd t=true):TreeR t:=by
 unfold Bd at u
 rw[Ahi]at u
 exact HA u.1
theorem QP (h:¬DB p x y=0):∃c,c∈p/\c.x=x/\c.y=y/\c.s=DB p x y:=by
 induction p with
 | nil=>exact absurd rfl h
 | cons c r E =>
  have e:DB (c::r) x y=if c.x=x/\c.y=y then c.s else DB r x y:=rfl
  rw[e]at h ⊢
  by_cases u:c.x=x/\c.y=y
  ·rw[Ahl u]
   exact⟨c,AhG ..,u.1,u.2,rfl⟩
  ·rw[Ahj u]at h ⊢
   obtain⟨d,J,z⟩:=E h
   exact⟨d,AhZ _ J,z⟩
theorem HE (N:Bd t=true)(h:¬Bw t p x y=0):∃c o,c∈p/\o∈t.hood/\x=c.x-o.1/\y=c.y-o.2:=by
 have:∃o,o∈t.hood /\ ¬DB p (x+o.1) (y+o.2)=0:=Aiu fun Q=>h (Vr N fun o u=>Aiu fun E=>Q ⟨o,u,E⟩)
 obtain⟨o,u,J⟩:=this
 obtain⟨c,z,W,U,_⟩:=QP J
 exact⟨c,o,z,u,by omega,by omega⟩
def KX (p:List Ce):List ((Int×Int)×Int):=p.map fun c=>((c.x,c.y),c.s)
theorem UT (p:List Ce):(KX p).map Prod.fst=p.map fun c=>(c.x,c.y):=by simp[KX]
theorem Sa (p:List Ce)(x y:Int):(CG (KX p) (x,y)).getD 0=DB p x y:=by
 induction p with
 | nil=>rfl
 | cons c r u =>
  by_cases h:c.x=x/\c.y=y
  ·simp[KX,CG,DB,h]
  ·have:¬(c.x,c.y)=(x,y):=by simpa using h
   simp only[KX,AhL,CG,Ahj this,DB,Ahj h]
   exact u
variable {q:List Ce}
theorem Vw (h:(q++c::r).Pairwise fun a b=>Ba a b=true):NP (KX q) (c.x,c.y) c.s=KX (q++[c]):=by
 rw[Kn]
 ·simp[KX]
 ·rw[UT]
  intro u
  obtain⟨d,z,E⟩:=AhE.1 u
  have:=(Ait.1 h).2.2 d z c (by simp)
  unfold Ba at this
  grind
theorem ZV:∀ {p q:List Ce},p.Pairwise (fun a b=>Ba a b=true)->q.Pairwise (fun a b=>Ba a b=true)->(∀c,c∈p↔c∈q)->p=q
 | [],[],_,_,_=>rfl
 | [],d::s,_,_,h=>by have:=(h d).2 (AhG ..);cases this
 | c::r,[],_,_,h=>by have:=(h c).1 (AhG ..);cases this
 | c::r,d::s,hp,hq,h=>by
  obtain⟨N,U⟩:=AhK.1 hp
  obtain⟨q1,q2⟩:=AhK.1 hq
  have u:∀a:Ce,¬Ba a a=true:=fun a J=>by unfold Ba at J;simp at J
  have e:c=d:=by
   rcases AhF.1 ((h c).1 (AhG ..)) with e|z
   ·exact e
   ·rcases AhF.1 ((h d).2 (AhG ..)) with e|Q
    ·exact e.symm
    ·exact absurd (De (N d Q) (q1 c z)) (u c)
  subst e
  congr 1
  refine ZV U q2 fun x=>⟨fun E=>?_,fun E=>?_⟩
  ·rcases AhF.1 ((h x).1 (AhZ _ E)) with rfl|z
   ·exact absurd (N _ E) (u _)
   ·exact z
  ·rcases AhF.1 ((h x).2 (AhZ _ E)) with rfl|z
   ·exact absurd (q1 _ E) (u _)
   ·exact z
def DM (t:TreeC)(p:List Ce)(res:List Ce×Int):Prop :=
 (res=([],5) /\ ∃x y,¬Bw t p x y=0/\placed x y=false) \/
 ((∀x y,¬Bw t p x y=0->placed x y=true) /\ ∃q:List Ce,q.Pairwise (fun a b=>Ba a b=true)/\(∀c,c∈q↔c.s=Bw t p c.x c.y /\ ¬c.s=0)/\res=if 5000<q.length then ([],6) else (q,0))
theorem JS {a b:List Ce×Int}(Q:DM t p a)(U:DM t p b):a=b:=by
 rcases Q with ⟨rfl,x,y,J,E⟩|⟨J,q,E,Y,rfl⟩ <;> rcases U with ⟨rfl,u,v,N,z⟩|⟨N,r,z,W,rfl⟩
 ·rfl
 ·rw[N x y J]at E;cases E
 ·rw[J u v N]at z;cases z
 ·rw[ZV E z fun c=>(Y c).trans (W c).symm]
theorem Qc (h:TreeR t)(Y:Hu t p)(hs:DM t p (q,0)):q.Pairwise (fun a b=>Ba a b=true)/\(∀c,c∈q->Cz c=true)/\q.length<=5000/\Hu t q:=by
 rcases hs with ⟨e,_⟩|⟨Q,r,W,N,e⟩
 ·cases e
 ·split at e
  ·cases e
  ·rename_i hl
   cases e
   have J:=fun c (z:c∈q)=>Fd h Y c.x c.y
   have Z:=h.s8
   refine⟨W,fun c z=>?_,by omega,fun c z=>?_⟩
   ·have u:=(N c).1 z
    have U:=Q c.x c.y (by rw[<-u.1];exact u.2)
    have E:=J c z
    rw[<-u.1]at E
    have k4:=u.2
    unfold Cz
    rw[U]
    simp only[Aiy,Ahi,Aht]
    omega
   ·have u:=(N c).1 z
    have E:=J c z
    rw[<-u.1]at E
    exact E
open Go.Proofs
def Az (l:List (Int×Int)):LT:=l.map fun p=>[.i .i64 p.1,.i .i64 p.2]
@[simp] theorem Bq (l:List (Int×Int)):(Az l).length=l.length:=by simp[Az]
theorem Cm {l:List (Int×Int)}{c:Int×Int}(h:l[i]? = some c):nth (Az l) i=some [J4 c.1,J4 c.2]:=by
 rw[AL];simp[Az,h]
def EN (p:List (Int×Int)):Nat->Option (Int×Int)
 | 0=>none
 | i+1=>p[i]?
theorem Np {p:List (Int×Int)}{c:Int×Int}(u:p[i]? = some c):Lv (EN p i) (c::p.drop (i+1))=(GU c&&(match EN p i with|none=>true|some a=>Nc a c)&&Lv (EN p (i+1)) (p.drop (i+1))):=by
 have:EN p (i+1)=some c:=u
 rw[this]
 cases EN p i with
 | none=>show (GU c&&Lv (some c) _)=_;simp
 | some a=>show (GU c&&Nc a c&&Lv (some c) _)=_;simp
theorem Sk (a b:Int×Int):(0<=HN a.1 a.2 b.1 b.2)↔Nc a b=false:=by
 unfold Nc HN Ed
 grind
theorem MY (c:Int×Int):GU c=(decide (-2<=c.1)&&decide (c.1<=2)&&decide (-2<=c.2)&&decide (c.2<=2)):=by
 unfold GU
 grind
set_option maxHeartbeats 1000000 in
theorem AgC {p:List (Int×Int)}(hv:IsSl v (Az p))(hl:(p.length:Int)<=9223372036854775807)(H:Hp):Gives G 135 [.m v] H (.m (.b (BR p))) H:=by
 have u:=hv.rules
 simp only[Bq]at u
 refine Ae rfl rfl rfl rfl rfl ?_
 by_cases h1:1<=p.length/\p.length<=25
 rotate_left
 ·have e:BR p=false:=by unfold BR;rw[Ahs h1];rfl
  by_cases E:(p.length:Int)<1
  ·simp (disch:=omega) [u,E,e]
  ·have W:(25:Int)<p.length:=by omega
   simp (disch:=omega) [u,E,W,e]
 have E:¬(p.length:Int)<1:=by omega
 have W:¬(25:Int)<p.length:=by omega
 have hR:BR p=Lv none p:=by unfold BR;rw[Ahq h1];rfl
 rw[hR]
 simp (disch:=omega) [u,E,W]
 refine(?key:∀(i:Nat) (B:LE),i<=p.length->Lv none p=Lv (EN p i) (p.drop i)->Run G c135_B0 (S135_0 (.m v) (.m v) (J0 p.length) (J0 i) B []) _) 0 [] (Aho _) rfl
 refine Bl (fun i:Nat=>p.length-i) fun i Z B hi J=>?_
 unfold c135_B0
 cases hx:p[i]? with
 | none =>
  have:i=p.length:=by have:=Ahn.1 hx;omega
  subst this
  have:Lv (EN p p.length) []=true:=by cases EN p p.length <;> rfl
  simp[J,this]
 | some c =>
  have N:=(Am hx).1
  have hn:=Cm hx
  rw[(Am hx).2,Np hx,MY]at J
  cases i with
  | zero =>
   simp (contextual:=true) (maxSteps:=2000000) (disch:=omega) [Ai,Aj,Ad,-Int.not_lt,-Int.not_le,-Nat.not_lt,-Nat.not_le,-List.map_take,u,hn,N,Aa]
   repeat' first|with_reducible apply And.intro|intro _
   all_goals first
    | (refine Z 1 (by omega) _ (by omega) ?_;grind [EN])
    | grind [EN]
  | succ j =>
   obtain⟨Y,z⟩:∃Y,p[j]? = some Y:=⟨p[j],Ahh (by omega)⟩
   have U:=Cm z
   have e3:(j:Int)+1<p.length:=by omega
   have e4:(j:Int)<p.length:=by omega
   have e6:(0:Int)<=j+1:=by omega
   have e7:((j:Int)+1).toNat=j+1:=by omega
   have Q:EN p (j+1)=some Y:=z
   simp only[Q]at J
   simp (contextual:=true) (maxSteps:=2000000) (disch:=omega) [Ai,Aj,Ad,-Int.not_lt,-Int.not_le,-Nat.not_lt,-Nat.not_le,-List.map_take,u,hn,U,e3,e7,cl (UV _ _ _ _ _),Aa,Sk]
   repeat' first|with_reducible apply And.intro|intro _
   all_goals first
    | (refine Z (j+2) (by omega) _ (by omega) ?_;grind)
    | grind
abbrev Nd:=Int×List Int
theorem Cv {y:I}(h:IsSl y es):BM (.m y)=true:=by
 rcases h with rfl|⟨rfl,_⟩ <;> rfl
def dEn:List I->Int
 | [.i _ x]=>x
 | _=>0
def dIn:I->List Int
 | .sl es=>es.map dEn
 | _=>[]
def dNd:List I->Int×List Int
 | [.i _ x,z]=>(x,dIn z)
 | _=>(0,[])
def Ri (es:LT):Prop:=∀e,e∈es -> ∃(x:Int) (z:I),e=[.i .i64 x,z]/\IsSl z (BT (dIn z))/\(dIn z).length<=9223372036854775807 /\ ∀k,k∈dIn z -> -9223372036854775808<=k/\k<=9223372036854775807
structure TreeV (t:TreeC)(h n:I)(es:LT):Prop where
 hd:IsSl h (Az t.hood)
 nd:IsSl n es
 ok:Ri es
 eq:t.nodes=es.map dNd
 hl:t.hood.length<=9223372036854775807
 nl:es.length<=9223372036854775807
variable {h:I}
theorem CK {n:I}(u:TreeV t h n es):t.nodes.length=es.length:=by rw[u.eq,Ahr]
variable {nd:Int×List Int}
theorem Ch {n:I}(E:TreeV t h n es){j:Nat}(u:t.nodes[j]? = some nd):∃z,nth es j=some [J4 nd.1,z]/\IsSl z (BT nd.2)/\nd.2.length<=9223372036854775807 /\ ∀k,k∈nd.2 -> -9223372036854775808<=k/\k<=9223372036854775807:=by
 rw[E.eq,AhD]at u
 cases he:es[j]? with
 | none=>rw[he]at u;cases u
 | some e =>
  rw[he]at u
  cases u
  obtain⟨x,z,rfl,Q,J,N⟩:=E.ok e (Ahm he)
  exact⟨z,by rw[AL];exact he,Q,J,N⟩
theorem Hf (t:TreeC)(i:Nat)(n:Int×List Int)(r:List (Int×List Int)):nodesOk t i (n::r)=(Es t i n&&nodesOk t (i+1) r):=rfl
theorem HG {u:List (Int×List Int)}{j:Nat}(h:u[j]? = some nd):levAt u (j:Int)=nd.1:=by
 unfold levAt
 rw[show ((j:Int)).toNat=j from rfl,h]
theorem PZ {l m:List α}{x y:α}(h:l.take i=m.take i)(u:l[i]? = some x)(z:m[i]? = some y)(e:x=y):l.take (i+1)=m.take (i+1):=by
 rw[As u,As z,h,e]
def Wz (t:TreeC):Bool:=decide (t.hood.length<=40)&&(decide (t.nodes.length<=400)&&t.nodes.all fun n=>decide (n.2.length<=20))
set_option maxHeartbeats 1000000 in
theorem AgK {n:I}(U:TreeV t h n es)(H:Hp):Gives G 10 [.m (.ag [J4 t.states,h,n])] H (.m (.b (Wz t))) H:=by
 have E:=U.nd.rules
 have hln:=CK U
 have u:=U.hd.rules
 simp only[Bq]at u
 have hl1:=U.hl
 have hl2:=U.nl
 have Z:Wz t=(decide (t.hood.length<=40)&&(decide (t.nodes.length<=400)&&t.nodes.all fun n=>decide (n.2.length<=20))):=rfl
 refine Ae rfl rfl rfl rfl rfl ?_
 by_cases h1:(40:Int)<t.hood.length
 ·have e:Wz t=false:=by rw[Z,Ahs (by omega)];rfl
  simp (disch:=omega) [u,h1,e]
 by_cases h2:(400:Int)<es.length
 ·have e:Wz t=false:=by rw[Z,Ahs (by omega:¬t.nodes.length<=400)];simp
  simp (disch:=omega) [E,u,h1,h2,e]
 have e:Wz t=t.nodes.all fun n=>decide (n.2.length<=20):=by rw[Z,Ahq (by omega),Ahq (by omega:t.nodes.length<=400)];simp
 rw[e]
 simp (disch:=omega) [E,u,h1,h2]
 refine(?key:∀(i:Nat) (B:LE),i<=es.length->getB B 1=some [J0 t.states,.m h,.m n]->(t.nodes.all fun n=>decide (n.2.length<=20))=((t.nodes.drop i).all fun n=>decide (n.2.length<=20))->Run G c10_B0 (S10_0 (.fa 1 0) (J0 es.length) (J0 (i:Int)) B []) _) 0 _ (Aho _) rfl rfl
 refine Bl (fun i:Nat=>es.length-i) fun i ih B hi hB N=>?_
 unfold c10_B0
 cases hx:t.nodes[i]? with
 | none =>
  have:i=es.length:=by have:=Ahn.1 hx;omega
  subst this
  rw[<-hln,Aia]at N
  have N:(t.nodes.all fun n=>decide (n.2.length<=20))=true:=N
  simp (disch:=omega) [N]
 | some nd =>
  have hlt:=(Am hx).1
  have hlt1:i<es.length:=by omega
  have J:(i:Int)<es.length:=by omega
  obtain⟨z,hz,Y,hzl,_⟩:=Ch U hx
  have Q:=Y.rules
  simp only[Bo]at Q
  have wi:=J1 i (by omega)
  rw[(Am hx).2,List.all_cons]at N
  by_cases W:(20:Int)<nd.2.length
  ·have e:(t.nodes.all fun n=>decide (n.2.length<=20))=false:=by rw[N,Ahs (by omega:¬nd.2.length<=20)];rfl
   simp (disch:=omega) [E,J,hz,Q,hB,W,e]
  ·rw[Ahq (by omega:nd.2.length<=20),Aiy]at N
   have k:=ih (i+1) (by omega) B (by omega) hB N
   simp (disch:=omega) [E,J,hz,Q,hB,W,wi,-Int.natCast_add]
   exact k
theorem VW (h:Fits Go.Proofs.Tryz.prog B (n+2) 43 l):∃x:Int×Int,l=[J4 x.1,J4 x.2]:=by
 unfold Fits at h
 rw[Go.Proofs.Tryz.underlying43]at h
 simp only[GZ]at h
 obtain⟨U,N,rfl,z,J,Q,rfl,E,rfl⟩:=h
 obtain⟨u,rfl,_⟩:=BI z
 obtain⟨v,rfl,_⟩:=BI E
 exact⟨(u,v),rfl⟩
theorem Sf (h:∀x,x∈es -> ∃d:Int×Int,x=[J4 d.1,J4 d.2]):∃p,es=Az p:=by
 induction es with
 | nil=>exact⟨[],rfl⟩
 | cons x r u =>
  obtain⟨d,rfl⟩:=h x (by simp)
  obtain⟨p,rfl⟩:=u fun x z=>h x (by simp[z])
  exact⟨d::p,rfl⟩
theorem Wm:∀ {es:LT},(∀x,x∈es -> ∃y:Int,x=[J4 y])->es=BT (es.map dEn)
 | [],_=>rfl
 | e::r,h=>by
  obtain⟨y,rfl⟩:=h e (by simp)
  have:=Wm (es:=r) fun x u=>h x (by simp[u])
  show _::r=[I.i .i64 (dEn [I.i .i64 y])]::BT (r.map dEn)
  rw[<-this]
  rfl
theorem Za (h:Fits Go.Proofs.Tryz.prog B (n+2) 63 l):∃z:I,l=[z]/\IsSl z (BT (dIn z))/\(dIn z).length<=B /\ ∀k,k∈dIn z -> -9223372036854775808<=k/\k<=9223372036854775807:=by
 unfold Fits at h
 rw[Go.Proofs.Tryz.underlying63]at h
 simp only at h
 rcases h with rfl|⟨es,rfl,J,u⟩
 ·exact⟨_,rfl,AM,by simp[dIn],by simp[dIn]⟩
 ·refine⟨_,rfl,?_,by simpa[dIn]using J,fun k E=>?_⟩
  ·show IsSl (.sl es) (BT (es.map dEn))
   rw[<-Wm fun x U=>let ⟨y,W,_⟩:=BI (u x U);⟨y,W⟩]
   exact Bf _
  ·have E:k∈es.map dEn:=E
   obtain⟨e,Q,rfl⟩:=AhE.1 E
   obtain⟨y,rfl,N⟩:=BI (u e Q)
   exact N
theorem YZ (h:Fits Go.Proofs.Tryz.prog B (n+3) 65 l):∃(x:Int) (z:I),l=[J4 x,z]/\IsSl z (BT (dIn z))/\(dIn z).length<=B /\ ∀k,k∈dIn z -> -9223372036854775808<=k/\k<=9223372036854775807:=by
 unfold Fits at h
 rw[Go.Proofs.Tryz.underlying65]at h
 simp only[GZ]at h
 obtain⟨x1,Y,rfl,J,W,Z,rfl,U,rfl⟩:=h
 obtain⟨u,rfl,_⟩:=BI J
 obtain⟨z,rfl,Q,E,N⟩:=Za U
 exact⟨u,z,rfl,Q,E,N⟩
theorem AdA:Cn Go.Proofs.Tryz.prog 25=some true:=by unfold Cn;rw[Go.Proofs.Tryz.underlying25];rfl
theorem Re {ts:List TypeId}{us:List V}(hB:B<=9223372036854775807)(h:DC Go.Proofs.Tryz.prog B (n+5) (25::ts) us):
  ∃(t:TreeC) (U nn:I) (es:LT) (r:List V),us=.m (.ag [J4 t.states,U,nn])::r/\TreeV t U nn es/\DC Go.Proofs.Tryz.prog B (n+5) ts r:=by
 obtain⟨l,r,rfl,N,h'⟩:=IF h
 unfold Fits at N
 rw[Go.Proofs.Tryz.underlying25]at N
 simp only[GZ]at N
 obtain⟨x1,y1,rfl,k1,x2,y2,rfl,W,x3,y3,rfl,Q,rfl⟩:=N
 obtain⟨u,rfl,_⟩:=BI k1
 unfold Fits at W Q
 rw[Go.Proofs.Tryz.underlying22]at W
 rw[Go.Proofs.Tryz.underlying23]at Q
 simp only at W Q
 have U:∃(v:I) (p:List (Int×Int)),x2=[v]/\IsSl v (Az p)/\p.length<=B:=by
  rcases W with rfl|⟨es,rfl,J,E⟩
  ·exact⟨_,[],rfl,AM,by simp⟩
  ·obtain⟨p,rfl⟩:=Sf fun x hx=>VW (E x hx)
   exact⟨_,p,rfl,Bf _,by simpa using J⟩
 have hn:∃(v:I) (es:LT),x3=[v]/\IsSl v es/\Ri es/\es.length<=B:=by
  rcases Q with rfl|⟨es,rfl,J,E⟩
  ·exact⟨_,[],rfl,AM,fun e Z=>(by cases Z),by simp⟩
  ·refine⟨_,es,rfl,Bf _,fun e Z=>?_,J⟩
   obtain⟨x,z,h1,h2,h3,Y⟩:=YZ (E e Z)
   exact⟨x,z,h1,h2,by omega,Y⟩
 obtain⟨hv,p,rfl,h1,h2⟩:=U
 obtain⟨nv,es,rfl,h3,Y,h5⟩:=hn
 rw[Ul AdA]
 exact⟨⟨u,p,es.map dNd⟩,hv,nv,es,r,rfl,⟨h1,h3,Y,rfl,by show p.length<=_;omega,by omega⟩,h'⟩
end Go.Mx.Tryz
namespace Go.Mx.Tryz
@[simp] theorem rx_ldb (M:Mem)(ag:Bool)(u d off:Nat):readX M (.ldb ag u) [.fa d off]=(readA M u (.fa d off)).bind fun cs=>DD ag cs:=rfl
@[simp] theorem px_slc_r (u:Nat)(z hi mx:Bool)(r ver e st len:Nat)(lim:Bool)(vs:List V):Aq (.slc u z hi mx) (.sl r ver e st len lim::vs)=gd (eqB false (Nat.beq u 0)) (gd (Nat.beq u e) ((KK len z hi mx vs).bind fun p=>some (.sl r ver e (st+p.1) (p.2-p.1) (mx||(lim&&Nat.beq p.2 len))))):=rfl
@[simp] theorem allM_sl (a b c d e:Nat)(f:Bool)(r:List V):BF (.sl a b c d e f::r)=none:=rfl
@[simp] theorem eqB_ff:eqB false false=true:=rfl
variable {α:Type} {i:Nat}
theorem AQ {l:List α}{x:α}(h:nth l i=some x):i<l.length:=by
 rw[AL]at h
 exact(Ahg.1 h).1
theorem Agn (l:List α)(i j:Nat)(x:α)(h:i<l.length):nth (l.set i x) j=if i=j then some x else nth l j:=by
 rw[AL,AL,List.getElem?_set]
 by_cases e:i=j
 ·subst e;simp[h]
 ·simp[e]
theorem AF {l:List α}{j:Nat}{x:α}(h:i≠j):nth (l.set i x) j=nth l j:=by
 rw[AL,AL,List.getElem?_set,Ahj h]
theorem Be {l:List α}{x:α}(h:i<l.length):nth (l.set i x) i=some x:=by
 rw[Agn _ _ _ _ h,Ahl rfl]
theorem BK (l m:List α)(j:Nat)(h:j<l.length):nth (l++m) j=nth l j:=by
 rw[AL,AL,AhC h]
theorem CU (l m:List α)(j:Nat):nth (l++m) (l.length+j)=nth m j:=by
 rw[AL,AL,AhP (by omega)]
 congr 1
 omega
theorem CC {M:Mem}{ty u bytes r base:Nat}{es xs:L0}(h:nth M.H r=some (.cs ty u es base false))(J:xs≠[])(N:(es.length+xs.length)*bytes<=140737488355328)(z:(xs.all fun e=>Nat.beq e.length u&&e.all BM)=true):
  EK M ty u bytes (.sl r es.length u 0 es.length false) xs=some (.sl r (es.length+xs.length) u 0 (es.length+xs.length) false,{ M with H:=M.H.set r (.cs ty u (es++xs) base false) }):=by
 obtain⟨x,t,rfl⟩:=AiL J
 have e:=AA M.H r (.cs ty u (es++x::t) base false) (AQ h)
 have E:Nat.ble ((es.length+(x::t).length)*bytes) 140737488355328=true:=by rw[Bh];exact Ahq N
 show Option.bind (nth M.H r) _=_
 rw[h]
 show gd (!false&&Nat.beq ty ty&&Nat.beq u u&&Nat.beq u u&&Nat.beq 0 0&&Nat.beq es.length es.length&&Nat.beq es.length es.length&&Nat.ble ((es.length+(x::t).length)*bytes) 140737488355328&&((x::t).all fun e=>Nat.beq e.length u&&e.all BM)) _=_
 simp only[Nat.beq_refl,E,z,Bool.and_self,Bool.not_false,gd]
 rw[e]
 rfl
@[reducible] def strR (s:List Nat)(b:Nat):Row:=.cs 9 1 [[.m (.s s)]] b false
@[reducible] def zerR (b:Nat):Row:=.cs 3 1 [[.m (.i .i64 0)]] b false
def AfV (ws:List (List Nat)):L0:=ws.map fun w=>[.m (.s w)]
@[simp] theorem AfU (u:List (List Nat)):(AfV u).length=u.length:=by simp[AfV]
variable {n:Nat}
theorem Al {s:St}{x:V}(h:AB x=true):EA s (.v n) x=some { s with E:=CO s.E n x }:=by
 cases x with
 | fa d o=>cases h
 | _=>first|rfl|simp
open Go.Sort Go.Lib
instance:Inhabited Ce:=⟨⟨0,0,0⟩⟩
def QX:Rw Ce 3 true where
 enc c:=c.i.map .m
 val c:=.m (.ag c.i)
 len c:=rfl
 pos:=by decide
 one c:=rfl
 ld c:=by simp[Ce.i]
 st c:=by simp[Ce.i]
def ceCmp (A:Hp):Cmp QX A 69 Ba where
 ok _:=True
 ext _ _ _:=AhY
 cmp a b:=HN a.x a.y b.x b.y
 neg a b:=by
  unfold HN Ba
  grind [Ed]
 run a b row C _:=Vg a b _
theorem QG:SWO Ba where
 irrefl x:=by simp[Ba]
 trans x y z h1 h2:=by simp only[Ba,Aht]at *;omega
 ntrans x y z h1 h2:=by simp only[Ba,decide_eq_false_iff_not]at *;omega
open Go.Proofs
def Ns (c:Ce):Option Int:=if placed c.x c.y=false then some 5 else if c.s<0\/8<=c.s then some 10 else none
def bad:List Ce->Option Int
 | []=>none
 | c::r=>match Ns c with
  | some e=>some e
  | none=>bad r
def liv (p:List Ce):List Ce:=p.filter fun c=>decide (0<c.s)
def AE (p:List Ce):L0:=p.map QX.enc
@[simp] theorem Do (p:List Ce):(AE p).length=p.length:=by simp[AE]
variable {p:List Ce}
theorem CM {c:Ce}(h:p[i]? = some c):nth (AE p) i=some [J0 c.x,J0 c.y,J0 c.s]:=by
 rw[AL]
 simp[AE,h,QX,Ce.i]
def zP (p:List Ce):I:=if p=[] then .nl 4 else .sl (Af p)
theorem BY (p:List Ce):IsSl (zP p) (Af p):=by
 unfold zP
 split
 ·rename_i h;subst h;exact AM
 ·exact Bf _
def Sz (f:List Ce)(o:V)(H:Hp):Prop:=(f=[]/\o=.m (.nl 4)/\H=[])\/(f≠[]/\o=.sl 0 f.length 3 0 f.length false/\H=[.cs 73 3 (AE f) 0 false])
variable {f:List Ce}
theorem Cc {o:V}{H:Hp}(h:Sz f o H)(hl:f.length<=1000000)(c:Ce):∃z E,(∀B,EK ⟨B,H⟩ 73 3 24 o [[J0 c.x,J0 c.y,J0 c.s]]=some (z,⟨B,E⟩))/\AB z=true/\Sz (f++[c]) z E:=by
 rcases h with ⟨rfl,rfl,rfl⟩|⟨J,rfl,rfl⟩
 ·exact⟨_,_,fun B=>rfl,rfl,.inr ⟨by simp,rfl,rfl⟩⟩
 ·have u:=fun B=>CC (M:=⟨B,[.cs 73 3 (AE f) 0 false]⟩) (r:=0) (bytes:=24) (xs:=[[J0 c.x,J0 c.y,J0 c.s]]) rfl (by simp) (by simp;omega) rfl
  simp only[Do,AhR,AhW,Aih,List.set_cons_zero]at u
  have e:AE f++[[J0 c.x,J0 c.y,J0 c.s]]=AE (f++[c]):=by simp[AE,QX,Ce.i]
  rw[e]at u
  exact⟨_,_,u,rfl,.inr ⟨by simp,by simp,rfl⟩⟩
def tw:List Ce->Bool
 | []=>false
 | [_]=>false
 | a::b::r=>decide (a.x=b.x/\a.y=b.y)||tw (b::r)
def Aeb (q:List Ce):V:=if tw q=true then .tu [.m (.nl 4),.m (.i .i64 8)] else if 5000<q.length then .tu [.m (.nl 4),.m (.i .i64 6)] else .tu [.m (zP q),.m (.i .i64 0)]
def Asc (q:List Ce):Prop:=∀(i j:Nat) (a b:Ce),i<j->q[i]? = some a->q[j]? = some b->Ba b a=false
theorem Yh (H:Hp):Gives G 68 [.m (.nl 4),.m (.fn 69 [])] H (.tu []) H:=⟨40,by kernel_rfl⟩
theorem On {r b:Nat}{X A:Hp}{q:List Ce}(J:q.length=n)(E:b<=n)(k:Nat):view (k+2) (.cs 73 3 (AE q) b false::X) (.sl 0 n 3 0 n false)=some (.sl (Af q)):=by
 have e:elems (.cs 73 3 (AE q) b false::X) (.sl 0 n 3 0 n false)=some (AE q):=by
  show gd (Nat.ble b n&&Nat.beq 3 3) (some (((AE q).drop 0).take n))=_
  rw[Bh,Ahq E,Aio,Ahz (by simp;omega)]
  rfl
 show Option.bind (elems _ (.sl 0 n 3 0 n false)) _=_
 rw[e]
 show Option.bind (Ah _ (AE q)) _=_
 have z:∀(H:Hp) (m:List Ce),Ah (fun e=>Ah (view (k+1) H) e) (AE m)=some (Af m):=by
  intro H m
  induction m with
  | nil=>rfl
  | cons x t u =>
   show Option.bind (some [I.i .i64 x.x,J4 x.y,J4 x.s]) _=_
   simp only[Ahp]
   show Option.bind (Ah _ (AE t)) _=_
   rw[u]
   rfl
 rw[z]
 rfl
variable {d':Array Ce}
theorem JX (h:PermIn 0 f.length f.toArray d'):d'.toList.Perm f/\d'.size=f.length:=by
 have u:d'.size=f.length:=by rw[h.1];simp
 refine⟨?_,u⟩
 have z:=h.2.2
 have E:(d'.extract 0 f.length)=d':=by rw[<-u];simp
 have J:(f.toArray.extract 0 f.length)=f.toArray:=by
  have:f.length=f.toArray.size:=by simp
  rw[this];simp
 rw[E,J]at z
 simpa using z
theorem Aak (hs:d'.size=n)(h:SortedIn Ba 0 n d'):Asc d'.toList:=fun i j a b z J U=>by
 obtain⟨Q,rfl⟩:=Ahg.1 J
 obtain⟨N,rfl⟩:=Ahg.1 U
 have u:i<d'.size:=by simpa using Q
 have E:j<d'.size:=by simpa using N
 have:=h i j (Aho _) z (by omega)
 rw[getElem!_pos d' j E,getElem!_pos d' i u]at this
 simpa using this
theorem KR (es:L0)(ix:Nat):CW 3 es ix 0 3=(nth es ix).bind fun e=>Dw 3 e:=rfl
set_option maxHeartbeats 2000000 in
theorem Aag {v:I}(hv:IsSl v (Af p))(hl:p.length<=1000000)(H:Hp):
  (∃e,bad p=some e/\Gives G 35 [.m v] H (.tu [.m (.nl 4),J0 e]) H)\/(bad p=none /\ ∃q,q.Perm (liv p)/\Asc q/\Gives G 35 [.m v] H (Aeb q) H):=by
 have hr:=hv.rules
 have key:∃x H',Gives G 35 [.m v] H x H'/\(H'=H/\((∃e,bad p=some e/\x=.tu [.m (.nl 4),J0 e])\/(bad p=none /\ ∃q,q.Perm (liv p)/\Asc q/\x=Aeb q))):=by
  refine AJ ?_
  refine Cs rfl rfl rfl rfl rfl ?_
  simp (maxSteps:=2000000) (disch:=omega) [hr]
  refine(?key:∀(i:Nat) (o:V) (B:LE) (H1:Hp),i<=p.length->Sz (liv (p.take i)) o H1->bad (p.take i)=none->bad p=bad (p.drop i)->Run G c35_B0 (S35_0 o (.m v) (J0 p.length) (J0 (i:Int)) B H1) _) 0 (.m (.nl 4)) [] [] (Aho _) (.inl ⟨rfl,rfl,rfl⟩) rfl rfl
  refine Bl (fun i:Nat=>p.length-i) fun i ih o B H1 hi ho hbt N=>?_
  have hnf:AB o=true:=by
   rcases ho with ⟨_,rfl,_⟩|⟨_,rfl,_⟩ <;> rfl
  have hfl:(liv (p.take i)).length<=i:=AiB (List.length_filter_le _ _) (by rw[Ahx];omega)
  unfold c35_B0
  cases hx:p[i]? with
  | some c =>
   have hlt:=(Am hx).1
   have u:(i:Int)<p.length:=by omega
   have hn:=Ap hx
   have wi:=J2 ((i:Int)+1) (by omega)
   have g1:=fun H=>Ady c H
   have Y:=fun H=>HC c.x c.y H
   have e1:bad (c::p.drop (i+1))=match Ns c with|some e=>some e|none=>bad (p.drop (i+1)):=rfl
   rw[(Am hx).2,e1]at N
   have htk:p.take (i+1)=p.take i++[c]:=As hx
   by_cases hp:placed c.x c.y=true
   ·rw[hp]at Y
    by_cases W:c.s<0
    ·have E:Ns c=some 10:=by unfold Ns;rw[Ahj (by rw[hp];simp),Ahl (.inl W)]
     rw[E]at N
     simp (maxSteps:=2000000) (disch:=omega) [Ab,hr,u,hn,cl (g1 _),cl (Y _),W,N]
    by_cases hs8:8<=c.s
    ·have E:Ns c=some 10:=by unfold Ns;rw[Ahj (by rw[hp];simp),Ahl (.inr hs8)]
     rw[E]at N
     simp (maxSteps:=2000000) (disch:=omega) [Ab,hr,u,hn,cl (g1 _),cl (Y _),W,hs8,N]
    have E:Ns c=none:=by unfold Ns;rw[Ahj (by rw[hp];simp),Ahj (by omega)]
    rw[E]at N
    replace N:bad p=bad (p.drop (i+1)):=N
    have hbt2:bad (p.take (i+1))=none:=by
     rw[htk]
     have:∀l:List Ce,bad l=none->bad (l++[c])=none:=fun l=>by
      induction l with
      | nil=>intro _;show (match Ns c with|some e=>some e|none=>none)=none;rw[E]
      | cons d r ih =>
       intro h
       have f1:bad (d::r)=match Ns d with|some e=>some e|none=>bad r:=rfl
       have f2:bad (d::(r++[c]))=match Ns d with|some e=>some e|none=>bad (r++[c]):=rfl
       rw[Aig,f2]
       rw[f1]at h
       cases hd:Ns d with
       | some e=>rw[hd]at h;cases h
       | none=>rw[hd]at h;exact ih h
     exact this _ hbt
    by_cases hs1:0<c.s
    ·have hlv:liv (p.take (i+1))=liv (p.take i)++[c]:=by
      rw[htk]
      unfold liv
      rw[List.filter_append]
      simp[hs1]
     obtain⟨o1,H2,ha,hn1,ho1⟩:=Cc ho (by omega) c
     rw[<-hlv]at ho1
     simp (maxSteps:=2000000) (disch:=omega) [Ab,hr,u,hn,cl (g1 _),cl (Y _),W,hs8,hs1,ha,Al hn1,wi]
     exact ih (i+1) (by omega) _ _ _ (by omega) ho1 hbt2 N
    ·have hlv:liv (p.take (i+1))=liv (p.take i):=by
      rw[htk]
      unfold liv
      rw[List.filter_append]
      simp[hs1]
     rw[<-hlv]at ho
     simp (maxSteps:=2000000) (disch:=omega) [Ab,hr,u,hn,cl (g1 _),cl (Y _),W,hs8,hs1,wi]
     exact ih (i+1) (by omega) _ _ _ (by omega) ho hbt2 N
   ·rw[Bool.not_eq_true]at hp
    rw[hp]at Y
    have E:Ns c=some 5:=by unfold Ns;rw[Ahl hp]
    rw[E]at N
    simp (maxSteps:=2000000) (disch:=omega) [Ab,hr,u,hn,cl (g1 _),cl (Y _),N]
  | none =>
   have:i=p.length:=by have:=Ahn.1 hx;omega
   subst this
   have hb0:bad p=none:=by rw[N,Aia];rfl
   rw[AhI]at ho
   rcases ho with ⟨hf,rfl,rfl⟩|⟨hf,rfl,rfl⟩
   ·have gs:=fun H=>Yh H
    simp (maxSteps:=2000000) (disch:=omega) [cl (gs _),hb0]
    unfold c35_B1
    simp (maxSteps:=2000000) (disch:=omega) []
    exact⟨[],by rw[hf],fun i j a b _ h=>by simp at h,rfl⟩
   ·generalize hfe:liv p=f at *
    clear ih hx
    have hfl2:f.length<=1000000:=by rw[<-hfe];exact AiB (List.length_filter_le _ _) (by omega)
    simp (maxSteps:=2000000) (disch:=omega) []
    rw[Ao]
    have hrow:Row.cs 73 3 (AE f) 0 false=.cs 73 3 (Bk QX f.toArray) 0 false:=by simp[Bk,AE]
    rw[hrow]
    refine UF (A:=[]) (ceCmp []) QG (n:=f.length) (by omega) [] AhY f.toArray 0 (by simp) (Aho _) _ fun d' b1 X hp hso hb1=>?_
    obtain⟨J,hsz⟩:=JX hp
    have U:=Aak hsz hso
    have hrow2:Bk QX d'=AE d'.toList:=rfl
    have hql:d'.toList.length=f.length:=by simpa using hsz
    rw[hrow2]
    generalize d'.toList=q at *
    have z:Aeb q=if tw q=true then .tu [.m (.nl 4),J0 8] else if 5000<q.length then .tu [.m (.nl 4),J0 6] else .tu [.m (zP q),J0 0]:=rfl
    have hq0:q≠[]:=fun e=>by subst e;simp at hql;exact hf (AhJ hql.symm)
    obtain⟨a0,r0,hqe⟩:=AiL hq0
    simp (maxSteps:=2000000) (disch:=omega) []
    refine(?key2:∀(j:Nat) (B:LE),1<=j->j<=q.length->tw q=tw (q.drop (j-1))->Run G c35_B1 (S35_1 (.sl 0 f.length 3 0 f.length false) (J0 (j:Int)) B (.cs 73 3 (AE q) b1 false::X)) _) 1 _ (Ahk _) (by have:=AiN.2 hq0;omega) rfl
    refine Bl (fun j:Nat=>q.length-j) fun j ih B h1j hj Q=>?_
    unfold c35_B1
    have wj:=J2 ((j:Int)+1) (by omega)
    have wj1:=J2 ((j:Int)-1) (by omega)
    cases hx:q[j]? with
    | some c =>
     have hlt:=(Am hx).1
     obtain⟨a,ha⟩:∃a,q[j-1]? = some a:=⟨q[j-1]'(by omega),Ahh _⟩
     have u:(j:Int)<f.length:=by omega
     have hltn:j<f.length:=by omega
     have hltm:(j:Int)-1<f.length:=by omega
     have h0m:(0:Int)<=(j:Int)-1:=by omega
     have htn:((j:Int)-1).toNat=j-1:=by omega
     have hn:=CM hx
     have hna:=CM ha
     have e0:q.drop (j-1)=a::c::q.drop (j+1):=by
      have:=(Am ha).2
      rw[this,show j-1+1=j by omega,(Am hx).2]
     have e1:tw (a::c::q.drop (j+1))=(decide (a.x=c.x/\a.y=c.y)||tw (c::q.drop (j+1))):=rfl
     rw[e0,e1]at Q
     have g1:=fun H=>Ady a H
     have Y:=fun H=>Ady c H
     by_cases Z:a.x=c.x/\a.y=c.y
     ·rw[Ahq Z,Bool.true_or]at Q
      rw[Q,Ahl rfl]at z
      have heq1:(decide (a.x=c.x)&&decide (a.y=c.y))=true:=by simpa using Z
      simp (maxSteps:=2000000) (disch:=omega) [Ab,u,htn,wj1,hb1,KR,hn,hna,cl (g1 _),cl (Y _),heq1,hb0]
      exact⟨q,J,U,z.symm⟩
     ·rw[Ahs Z,Bool.false_or]at Q
      have heq2:(decide (a.x=c.x)&&decide (a.y=c.y))=false:=by
       rw[Bool.eq_false_iff]
       simpa using Z
      simp (maxSteps:=2000000) (disch:=omega) [Ab,u,htn,wj1,hb1,KR,hn,hna,cl (g1 _),cl (Y _),heq2,wj]
      exact ih (j+1) (by omega) _ (by omega) (by omega) (by rw[Q,show j+1-1=j by omega,(Am hx).2])
    | none =>
     have:j=q.length:=by have:=Ahn.1 hx;omega
     have u:¬(j:Int)<f.length:=by omega
     have htw0:tw q=false:=by
      rw[Q]
      have:(q.drop (j-1)).length=1:=by rw[AhT];omega
      match hm:q.drop (j-1),this with
      | [x],_=>rfl
     rw[htw0,Ahj (by simp)]at z
     by_cases h5:5000<q.length
     ·have h5':(5000:Int)<f.length:=by omega
      rw[Ahl h5]at z
      simp (maxSteps:=2000000) (disch:=omega) [u,h5',hb0]
      exact⟨q,J,U,z.symm⟩
     ·have h5':¬(5000:Int)<f.length:=by omega
      rw[Ahj h5]at z
      have hv:=On (r:=0) (X:=X) (A:=[]) hql hb1 18
      simp (maxSteps:=2000000) (disch:=omega) [u,h5',hb0,hv]
      refine⟨q,J,U,?_⟩
      rw[z]
      unfold zP
      rw[Ahj hq0]
 obtain⟨x,H',h1,rfl,h2⟩:=key
 rcases h2 with ⟨e,h3,rfl⟩|⟨h3,q,h4,h5,rfl⟩
 ·exact .inl ⟨e,h3,h1⟩
 ·exact .inr ⟨h3,q,h4,h5,h1⟩
end Go.Mx.Tryz
namespace Go.Mx.Tryz
open Go.Lib
variable {q:List Ce}
theorem Uo {H:Hp}{r b:Nat}(h:nth H r=some (.cs 73 3 (AE q) b false))(z:b<=q.length)(k:Nat):view (k+2) H (.sl r q.length 3 0 q.length false)=some (.sl (Af q)):=by
 have e:elems H (.sl r q.length 3 0 q.length false)=some (AE q):=by
  show Option.bind (nth H r) _=_
  rw[h]
  show gd (Nat.ble b q.length&&Nat.beq 3 3) (some (((AE q).drop 0).take q.length))=_
  rw[Bh,Ahq z,Aio,Ahz (by simp)]
  rfl
 show Option.bind (elems H (.sl r q.length 3 0 q.length false)) _=_
 rw[e]
 show Option.bind (Ah _ (AE q)) _=_
 have E:∀(H:Hp) (m:List Ce),Ah (fun e=>Ah (view (k+1) H) e) (AE m)=some (Af m):=by
  intro H m
  induction m with
  | nil=>rfl
  | cons x t u =>
   show Option.bind (some [I.i .i64 x.x,J4 x.y,J4 x.s]) _=_
   simp only[Ahp]
   show Option.bind (Ah _ (AE t)) _=_
   rw[u]
   rfl
 rw[E]
 rfl
theorem IT (q:List Ce):((AE q).all fun e=>e.all isM)=true:=by
 simp[AE,QX,Ce.i,isM]
def apart (a b:Ce):Prop:=¬(a.x=b.x/\a.y=b.y)
theorem QW:∀(p:List Ce) (o:Option Ce),Dc o p=true->p.Pairwise (fun a b=>Ba a b=true)/\(∀a,o=some a -> ∀d,d∈p->Ba a d=true) /\ ∀d,d∈p->Cz d=true
 | [],_,_=>⟨.nil,fun _ _ d u=>by simp at u,fun d u=>by simp at u⟩
 | c::r,o,h=>by
  have U:Cz c=true/\(∀a,o=some a->Ba a c=true)/\Dc (some c) r=true:=by
   cases o with
   | none =>
    have:(Cz c&&Dc (some c) r)=true:=h
    rw[Ahi]at this
    exact⟨this.1,fun _ h=>(by cases h),this.2⟩
   | some a =>
    have:(Cz c&&Ba a c&&Dc (some c) r)=true:=h
    simp only[Ahi]at this
    exact⟨this.1.1,fun _ h=>(by cases h;exact this.1.2),this.2⟩
  obtain⟨g1,E,g3⟩:=U
  obtain⟨Q,J,N⟩:=QW r (some c) g3
  refine⟨AhK.2 ⟨fun d u=>J c rfl d u,Q⟩,fun a z d u=>?_,fun d u=>?_⟩
  ·rcases AhF.1 u with rfl|u
   ·exact E a z
   ·have W:=E a z
    have Y:=J c rfl d u
    unfold Ba at *
    grind
  ·rcases AhF.1 u with rfl|u
   ·exact g1
   ·exact N d u
variable {p:List Ce}
theorem Aw (h:right p=true):p.Pairwise (fun a b=>Ba a b=true)/\(∀d,d∈p->Cz d=true)/\p.length<=5000:=by
 unfold right at h
 simp only[Ahi,Aht]at h
 have:=QW p none h.2
 exact⟨this.1,this.2.2,h.1⟩
theorem HP:∀ {p:List Ce},(∀c,c∈p->Cz c=true)->bad p=none
 | [],_=>rfl
 | c::r,h=>by
  have u:=h c (by simp)
  unfold Cz at u
  simp only[Ahi,Aht]at u
  have e:Ns c=none:=by
   unfold Ns
   rw[Ahj (by rw[u.1.1];simp),Ahj (by omega)]
  have z:bad (c::r)=match Ns c with|some e=>some e|none=>bad r:=rfl
  rw[z,e]
  exact HP fun d E=>h d (by simp[E])
theorem Aci:∀ {p:List Ce},p.Pairwise (fun a b=>Ba a b=true)->tw p=false
 | [],_=>rfl
 | [_],_=>rfl
 | a::b::r,h=>by
  have e:tw (a::b::r)=(decide (a.x=b.x/\a.y=b.y)||tw (b::r)):=rfl
  obtain⟨z,u⟩:=AhK.1 h
  have:=z b (by simp)
  rw[e,Aci u,Bool.or_false]
  unfold Ba at this
  simp at this ⊢
  omega
theorem AgW (U:p.Pairwise (fun a b=>Ba a b=true))(hq:Asc q)(u:q.Perm p):q=p:=by
 have W:q.Pairwise (fun a b=>Ba b a=false):=by
  rw[Aiv]
  intro i j E z Q
  exact hq i j _ _ Q (Ahh E) (Ahh z)
 have N:p.Pairwise (fun a b=>Ba b a=false):=U.imp fun {a b} h=>by
  unfold Ba at *
  simp at h ⊢
  omega
 refine u.eq_of_pairwise (fun a b ha hb Y Z=>?_) W N
 have J:a∈p:=u.mem_iff.1 ha
 obtain⟨i,E,rfl⟩:=List.mem_iff_getElem.1 J
 obtain⟨j,z,rfl⟩:=List.mem_iff_getElem.1 hb
 rcases Nat.lt_trichotomy i j with h|h|h
 ·have:=Aiv.1 U i j E z h
  rw[this]at Z;cases Z
 ·subst h;rfl
 ·have:=Aiv.1 U j i z E h
  rw[this]at Y;cases Y
theorem Fh (h:q.Perm p)(z:p.Pairwise apart):q.Pairwise apart:=by
 refine(h.pairwise_iff (fun {a b} u=>?_)).2 z
 exact fun⟨J,E⟩=>u ⟨J.symm,E.symm⟩
theorem Wp (N:Asc q)(J:q.Pairwise apart):q.Pairwise (fun a b=>Ba a b=true):=by
 rw[Aiv]at J ⊢
 intro i j E z u
 have U:=N i j _ _ u (Ahh E) (Ahh z)
 have Q:=J i j E z u
 unfold Ba at *
 unfold apart at Q
 simp at *
 omega
theorem Lj {c:Ce}(h:Cz c=true):placed c.x c.y=true/\1<=c.s/\c.s<8:=by
 unfold Cz at h
 simp only[Ahi,Aht]at h
 exact⟨h.1.1,h.1.2,h.2⟩
theorem QF (h:∀c,c∈p->Cz c=true):liv p=p:=by
 unfold liv
 rw[List.filter_eq_self]
 intro c u
 have:=Lj (h c u)
 exact Ahq (by omega)
theorem Gg:∀ {p:List Ce},p.Pairwise (fun a b=>Ba a b=true)->(∀c,c∈p->Cz c=true)->p.length<=5000->right p=true:=fun {p} E J u=>by
 have z:∀(p:List Ce) (o:Option Ce),p.Pairwise (fun a b=>Ba a b=true)->(∀a,o=some a -> ∀d,d∈p->Ba a d=true)->(∀c,c∈p->Cz c=true)->Dc o p=true:=by
  intro p
  induction p with
  | nil=>intro o _ _ _;cases o <;> rfl
  | cons c r W =>
   intro o E J u
   obtain⟨U,Y⟩:=AhK.1 E
   have i:=W (some c) Y (fun a Q d N=>by cases Q;exact U d N) (fun d N=>u d (AhZ _ N))
   cases o with
   | none =>
    show (Cz c&&Dc (some c) r)=true
    rw[u c (AhG ..),i]
    rfl
   | some a =>
    show (Cz c&&Ba a c&&Dc (some c) r)=true
    rw[u c (AhG ..),i,J a rfl c (AhG ..)]
    rfl
 unfold right
 rw[Ahq u,z p none E (fun a h=>by cases h) J]
 rfl
end Go.Mx.Tryz
set_option maxHeartbeats 4000000
namespace Go.Mx.Tryz
open Go.Sort Go.Lib Go.Proofs
def Nx (c:Ce):List Ce->List Ce
 | []=>[c]
 | d::r=>if Ba c d=true then c::d::r else d::Nx c r
theorem Gm (c:Ce):∀p,(Nx c p).Perm (c::p)
 | []=>List.Perm.refl _
 | d::r=>by
  unfold Nx
  split
  ·exact List.Perm.refl _
  ·exact((Gm c r).cons d).trans (List.Perm.swap c d r)
theorem YK (c:Ce)(p:List Ce):(Nx c p).length=p.length+1:=(Gm c p).length_eq
variable {a b c:Ce}
theorem Adm (u:Ba a b=true)(z:Ba b c=true):Ba a c=true:=by
 unfold Ba at *
 simp at *
 omega
theorem Sb (h:apart a b)(u:Ba a b=false):Ba b a=true:=by
 unfold Ba at *
 unfold apart at h
 simp at *
 omega
theorem Fg (h:apart a b):apart b a:=fun⟨u,z⟩=>h ⟨u.symm,z.symm⟩
theorem VI (c:Ce):∀p:List Ce,p.Pairwise (fun a b=>Ba a b=true)->(∀d,d∈p->apart c d)->(Nx c p).Pairwise (fun a b=>Ba a b=true)
 | [],_,_=>by simp[Nx]
 | d::r,h,ha=>by
  obtain⟨E,J⟩:=AhK.1 h
  unfold Nx
  split
  ·rename_i z
   refine AhK.2 ⟨fun e u=>?_,h⟩
   rcases AhF.1 u with rfl|u
   ·exact z
   ·exact Adm z (E e u)
  ·rename_i z
   refine AhK.2 ⟨fun e u=>?_,VI c r J fun e u=>ha e (AhZ _ u)⟩
   rcases AhF.1 ((Gm c r).mem_iff.1 u) with rfl|u
   ·exact Sb (ha d (AhG ..)) (by simpa using z)
   ·exact E e u
def AP (p:List Ce):List Ce:=p.foldl (fun a c=>Nx c a) []
theorem JV (p:List Ce)(c:Ce):AP (p++[c])=Nx c (AP p):=by simp[AP]
theorem GQ:∀n (p:List Ce),p.length=n->(AP p).Perm p/\(p.Pairwise apart->(AP p).Pairwise (fun a b=>Ba a b=true))
 | 0,p,h=>by
  have:p=[]:=AhJ h
  subst this
  exact⟨List.Perm.refl _,fun _=>List.Pairwise.nil⟩
 | n+1,p,h=>by
  obtain⟨q,c,rfl⟩:∃q c,p=q++[c]:=⟨p.dropLast,p.getLast (by intro e;rw[e]at h;simp at h),(List.dropLast_concat_getLast _).symm⟩
  have J:q.length=n:=by simpa using h
  obtain⟨z,E⟩:=GQ n q J
  rw[JV]
  refine⟨(Gm c _).trans ((z.cons c).trans (List.perm_append_singleton c q).symm),fun u=>?_⟩
  rw[Ait]at u
  refine VI c _ (E u.1) fun d N=>?_
  exact Fg (u.2.2 d (z.mem_iff.1 N) c (List.mem_singleton_self c))
theorem Bp (p:List Ce):(AP p).Perm p:=(GQ _ p rfl).1
variable {p:List Ce}
theorem CZ (h:p.Pairwise apart):(AP p).Pairwise (fun a b=>Ba a b=true):=(GQ _ p rfl).2 h
theorem Bs (p:List Ce):(AP p).length=p.length:=(Bp p).length_eq
variable {q:List Ce}
theorem KV (J:p.Pairwise (fun a b=>Ba a b=true))(U:q.Pairwise (fun a b=>Ba a b=true))(h:q.Perm p):q=p:=by
 refine AgW J (fun i j a b u z Q=>?_) h
 obtain⟨N,rfl⟩:=Ahg.1 z
 obtain⟨E,rfl⟩:=Ahg.1 Q
 have:=Aiv.1 U i j N E u
 unfold Ba at *
 simp at *
 omega
variable {f:List Ce} {o:V} {H:Hp}
theorem DZ (h:Sz f o H):viewR H o=some (.m (zP f))/\AB o=true:=by
 rcases h with ⟨rfl,rfl,rfl⟩|⟨u,rfl,rfl⟩
 ·exact⟨rfl,rfl⟩
 ·have:=On (r:=0) (b:=0) (X:=[]) (A:=[]) (q:=f) (n:=f.length) rfl (Aho _) 18
  refine⟨?_,rfl⟩
  show (view 20 _ _).bind _=_
  rw[this]
  unfold zP
  rw[Ahj u]
  rfl
variable {v:I}
theorem YJ (hv:IsSl v (Af p))(hl:p.length<=900000)(c:Ce)(H:Hp):Gives G 79 [.m v,.m (.ag [J4 c.x,J4 c.y,J4 c.s])] H (.m (zP (Nx c p))) H:=by
 have Y:=hv.rules
 simp only[J3]at Y
 refine Ae rfl rfl rfl rfl rfl ?_
 simp (maxSteps:=2000000) (disch:=omega) []
 refine(?key:∀(i:Nat) (dn:Bool) (f:List Ce) (o:V) (B:LE) (H1:Hp),i<=p.length->(if dn then Nx c p=f++p.drop i else f=p.take i/\Nx c p=p.take i++Nx c (p.drop i))->Sz f o H1->getB B 3=some [J0 c.x,J0 c.y,J0 c.s]->Run G c79_B0 (S79_0 (.m v) (.fa 3 0) o (.m (.b dn)) (J0 (i:Int)) B H1) _) 0 false [] _ _ _ (Aho _) ⟨rfl,rfl⟩ (.inl ⟨rfl,rfl,rfl⟩) rfl
 refine Bl (fun i:Nat=>p.length-i) fun i ih dn f o B H1 hi N Z U=>?_
 obtain⟨hvw,hnf⟩:=DZ Z
 unfold c79_B0
 cases hx:p[i]? with
 | some d =>
  have hlt:=(Am hx).1
  have E:(i:Int)<p.length:=by omega
  have hn:=Ap hx
  have wi:=J2 ((i:Int)+1) (by omega)
  have gb:=fun H=>Lr c d H
  have W:=(Am hx).2
  have htk:p.take (i+1)=p.take i++[d]:=As hx
  cases dn with
  | true =>
   simp only[if_true]at N
   have hfl:f.length<=900001:=by
    have:=AiE List.length N
    rw[YK,Ahv]at this
    omega
   obtain⟨o1,H2,Q,u,z⟩:=Cc Z (by omega) d
   simp (maxSteps:=2000000) (disch:=omega) [Y,E,hn,wi,U,Ad,Q,Al u]
   exact ih (i+1) (by omega) true _ _ _ _ (by omega) (by simp only[if_true];rw[N,W];simp) z U
  | false =>
   simp only[AiG,if_false]at N
   obtain⟨rfl,J⟩:=N
   have hfl:(p.take i).length<=900000:=by rw[Ahx];omega
   cases hb:Ba c d with
   | true =>
    rw[hb]at gb
    obtain⟨o1,H2,Q,u,z⟩:=Cc Z (by omega) c
    obtain⟨o2,H3,ha2,hn2,ho2⟩:=Cc z (by simp;omega) d
    simp (maxSteps:=2000000) (disch:=omega) [Y,E,hn,wi,U,Ad,cl (gb _),Q,Al u,ha2,Al hn2]
    refine ih (i+1) (by omega) true _ _ _ _ (by omega) ?_ ho2 U
    simp only[if_true]
    rw[J,W]
    simp[Nx,hb]
   | false =>
    rw[hb]at gb
    obtain⟨o1,H2,Q,u,z⟩:=Cc Z (by omega) d
    simp (maxSteps:=2000000) (disch:=omega) [Y,E,hn,wi,U,Ad,cl (gb _),Q,Al u]
    refine ih (i+1) (by omega) false _ _ _ _ (by omega) ?_ z U
    simp only[AiG,if_false]
    refine⟨htk.symm,?_⟩
    rw[J,W,htk]
    simp[Nx,hb]
 | none =>
  have:i=p.length:=by have:=Ahn.1 hx;omega
  subst this
  clear ih
  cases dn with
  | true =>
   simp only[if_true,Aia,Aid]at N
   simp (maxSteps:=2000000) (disch:=omega) [Y,hvw,hnf,Al hnf,N]
  | false =>
   simp only[AiG,if_false,Aia,AhI]at N
   obtain⟨rfl,J⟩:=N
   obtain⟨o1,H2,Q,u,z⟩:=Cc Z (by omega) c
   obtain⟨hvw1,_⟩:=DZ z
   have e:Nx c f=f++[c]:=J
   simp (maxSteps:=2000000) (disch:=omega) [Y,U,Q,Al u,hvw1,u,e]
theorem MS (hv:IsSl v (Af p))(hl:p.length<=5000)(hg:∀c,c∈p->Cz c=true)(ha:p.Pairwise apart)(H:Hp):Gives G 40 [.m v] H (.tu [.m (zP (AP p)),J0 0]) H:=by
 have Q:=hv.rules
 simp only[J3]at Q
 refine Ae rfl rfl rfl rfl rfl ?_
 simp (maxSteps:=2000000) (disch:=omega) []
 refine(?key:∀(i:Nat) (B:LE),i<=p.length->Run G c40_B0 (S40_0 (.m v) (.m (.nl 4)) (J0 (i:Int)) B []) _) 0 _ (Aho _)
 refine Bl (fun i:Nat=>p.length-i) fun i E B hi=>?_
 unfold c40_B0
 cases hx:p[i]? with
 | some c =>
  have W:=(Am hx).1
  have u:(i:Int)<p.length:=by omega
  have N:=Ap hx
  have wi:=J2 ((i:Int)+1) (by omega)
  obtain⟨Y,h2,h3⟩:=Lj (hg c (Ahm hx))
  have gp:=fun H=>HD c.x c.y H
  rw[Y]at gp
  have h4:¬c.s<0:=by omega
  have h5:¬8<=c.s:=by omega
  simp (maxSteps:=2000000) (disch:=omega) [Q,u,N,wi,cl (gp _),h4,h5]
  exact E (i+1) (by omega) _ (by omega)
 | none =>
  have:i=p.length:=by have:=Ahn.1 hx;omega
  subst this
  clear E hx hi
  simp (maxSteps:=2000000) (disch:=omega) [Q]
  refine(?key2:∀(i:Nat) (z:I) (B:LE),i<=p.length->z=zP (AP (p.take i))->Run G c40_B1 (S40_1 (.m v) (.m z) (J0 (i:Int)) B []) _) 0 (.nl 4) _ (Aho _) rfl
  refine Bl (fun i:Nat=>p.length-i) fun i E z B hi Z=>?_
  unfold c40_B1
  cases hx:p[i]? with
  | some c =>
   have W:=(Am hx).1
   have u:(i:Int)<p.length:=by omega
   have N:=Ap hx
   have wi:=J2 ((i:Int)+1) (by omega)
   obtain⟨Y,h2,h3⟩:=Lj (hg c (Ahm hx))
   have h4:¬c.s=0:=by omega
   have htk:p.take (i+1)=p.take i++[c]:=As hx
   have gi:=fun H=>YJ (v:=z) (by rw[Z];exact BY _) (by rw[Bs,Ahx];omega) c H
   rw[<-JV,<-htk]at gi
   simp (maxSteps:=2000000) (disch:=omega) [Q,u,N,wi,cl (gi _),h4]
   exact E (i+1) (by omega) _ _ (by omega) rfl
  | none =>
   have:i=p.length:=by have:=Ahn.1 hx;omega
   subst this
   clear E hx hi
   rw[AhI]at Z
   have hs:IsSl z (Af (AP p)):=by rw[Z];exact BY _
   have J:=hs.rules
   have hpw:=CZ ha
   have hsl:=Bs p
   simp only[show (Af (AP p)).length=p.length from by simp[Af,hsl]]at J
   generalize hq:AP p=q at *
   rw[<-Z]
   simp (maxSteps:=2000000) (disch:=omega) [Q]
   refine(?key3:∀(j:Nat) (B:LE),1<=j->Run G c40_B2 (S40_2 (.m z) (J0 (j:Int)) B []) _) 1 _ (Ahk _)
   refine Bl (fun j:Nat=>q.length-j) fun j E B h1j=>?_
   unfold c40_B2
   cases hx:q[j]? with
   | some c =>
    have W:=(Am hx).1
    have hlt2:j<p.length:=by omega
    have u:(j:Int)<p.length:=by omega
    have wj:=J2 ((j:Int)+1) (by omega)
    have a0:=J2 ((j:Int)-1) (by omega)
    obtain⟨a,U⟩:∃a,q[j-1]? = some a:=⟨q[j-1]'(by omega),Ahh _⟩
    have N:=Ap hx
    have hna:=Ap U
    have hltm:(j:Int)-1<p.length:=by omega
    have h0m:(0:Int)<=(j:Int)-1:=by omega
    have htn:((j:Int)-1).toNat=j-1:=by omega
    have hls:Ba a c=true:=by
     obtain⟨Y,rfl⟩:=Ahg.1 U
     obtain⟨h2,rfl⟩:=Ahg.1 hx
     exact Aiv.1 hpw _ _ Y h2 (by omega)
    have gb:=fun H=>Lr a c H
    rw[hls]at gb
    simp (maxSteps:=2000000) (disch:=omega) [J,u,htn,N,hna,wj,a0,cl (gb _)]
    exact E (j+1) (by omega) _ (by omega)
   | none =>
    have hj:q.length<=j:=Ahn.1 hx
    have u:¬(j:Int)<p.length:=by omega
    have h5:¬(5000:Int)<p.length:=by omega
    simp (maxSteps:=2000000) (disch:=omega) [J,u,h5]
def mvC (a b:Int)(c:Ce):Ce:=⟨c.x-a,c.y-b,c.s⟩
def tnC (k:Nat)(c:Ce):Ce:=⟨(CD k c.x c.y).1,(CD k c.x c.y).2,c.s⟩
def Hg:List Ce->Int
 | []=>0
 | c::r=>mnF c.x ((c::r).map Ce.x)
def GX:List Ce->Int
 | []=>0
 | c::r=>mnF c.y ((c::r).map Ce.y)
def BG (p:List Ce):List Ce:=p.map (mvC (Hg p) (GX p))
theorem GR (f:List Ce)(c:Ce):AE f++[[J0 c.x,J0 c.y,J0 c.s]]=AE (f++[c]):=by simp[AE,QX,Ce.i]
theorem MT (f:List Ce)(hl:f.length<=1000000)(c:Ce)(B:LE):EK ⟨B,[.cs 73 3 (AE f) 0 false]⟩ 73 3 24 (.sl 0 f.length 3 0 f.length false) [[J0 c.x,J0 c.y,J0 c.s]]=some (.sl 0 (f++[c]).length 3 0 (f++[c]).length false,⟨B,[.cs 73 3 (AE (f++[c])) 0 false]⟩):=by
 have u:=CC (M:=⟨B,[.cs 73 3 (AE f) 0 false]⟩) (r:=0) (bytes:=24) (xs:=[[J0 c.x,J0 c.y,J0 c.s]]) rfl (by simp) (by simp;omega) rfl
 simp only[Do,AhR,AhW,Aih,List.set_cons_zero,GR]at u
 rw[u]
 simp
theorem AW (h:right p=true)(u:c∈p):(-1048576<=c.x/\c.x<=1048576)/\(-1048576<=c.y/\c.y<=1048576)/\1<=c.s/\c.s<8:=by
 have:=(Aw h).2.1 c u
 unfold Cz placed at this
 simp only[Ahi,Aht]at this
 omega
theorem QE (h:right p=true):-1048576<=Hg p/\Hg p<=1048576:=by
 cases p with
 | nil=>simp[Hg]
 | cons c r =>
  have N:=AW h (AhG ..)
  have J:mnF c.x ((c::r).map Ce.x)<=c.x:=(Ja _ _).1
  have E:-1048576<=mnF c.x ((c::r).map Ce.x):=JZ _ _ _ ⟨by omega,fun y u=>by
   obtain⟨d,z,rfl⟩:=AhE.1 u
   have:=AW h z
   omega⟩
  show -1048576<=mnF c.x ((c::r).map Ce.x)/\mnF c.x ((c::r).map Ce.x)<=1048576
  omega
theorem QD (h:right p=true):-1048576<=GX p/\GX p<=1048576:=by
 cases p with
 | nil=>simp[GX]
 | cons c r =>
  have N:=AW h (AhG ..)
  have J:mnF c.y ((c::r).map Ce.y)<=c.y:=(Ja _ _).1
  have E:-1048576<=mnF c.y ((c::r).map Ce.y):=JZ _ _ _ ⟨by omega,fun y u=>by
   obtain⟨d,z,rfl⟩:=AhE.1 u
   have:=AW h z
   omega⟩
  show -1048576<=mnF c.y ((c::r).map Ce.y)/\mnF c.y ((c::r).map Ce.y)<=1048576
  omega
theorem Aaf (hv:IsSl v (Af p))(z:right p=true)(H:Hp):Gives G 88 [.m v] H (.m (if p=[] then v else .sl (Af (BG p)))) H:=by
 have hl:p.length<=5000:=(Aw z).2.2
 have hr:=hv.rules
 have gb:=fun H=>AgT hv (by omega) H
 have gr:=fun H=>El hv (by omega) H
 rw[z]at gr
 refine Ae rfl rfl rfl rfl rfl ?_
 cases hpe:p with
 | nil =>
  subst hpe
  simp (disch:=omega) [Ab,Ad,cl (gb _),QZ,Nr]
 | cons Z r0 =>
  have J:p≠[]:=by rw[hpe];simp
  rw[<-hpe]
  obtain⟨U,Y,hbc⟩:∃U Y,Nr p=[Hg p,GX p,U,Y]:=by
   obtain⟨d,hd⟩:∃d,(Z::r0)[(Z::r0).length-1]? = some d:=⟨_,Ahh (by simp)⟩
   have hy:=(KP (by rw[<-hpe];exact z) hd).1
   have Q:GX (Z::r0)=Z.y:=hy
   have hp':right (Z::r0)=true:=by rw[<-hpe];exact z
   rw[hpe]
   simp only[Nr]
   rw[Ahl hp',Q]
   exact⟨_,_,rfl⟩
  have hbv:QZ p=.tu [.m (.ag [J4 (Hg p),J4 (GX p),J4 U,J4 Y]),.m (.b true)]:=by
   unfold QZ
   rw[hbc,z]
   simp[J]
  rw[hbv]at gb
  have hlx:=QE z
  have hly:=QD z
  have hnc:Nat.beq 0 p.length=false:=by cases hq:p with|nil=>exact absurd hq J|cons _ _=>rfl
  simp only[J3]at hr
  have W:p.length*24<=281474976710656:=by omega
  have E:p.length<=9223372036854775807:=by omega
  have hdc:decide (0=p.length)=false:=by rw[<-GO];exact hnc
  simp (disch:=omega) [Ab,hr,Ad,cl (gb _),cl (gr _),J,W,E,hdc]
  refine(?key:∀(i:Nat) (f:List Ce) (B:LE),i<=p.length->f=(p.take i).map (mvC (Hg p) (GX p))->getB B 3=some [J0 (Hg p),J0 (GX p),J0 U,J0 Y]->Run G c88_B0 (S88_0 (.fa 3 0) (.sl 0 f.length 3 0 f.length false) (.m v) (J0 p.length) (J0 (i:Int)) B [.cs 73 3 (AE f) 0 false]) _) 0 [] [(3,[J0 (Hg p),J0 (GX p),J0 U,J0 Y])] (Aho _) rfl rfl
  refine Bl (fun i:Nat=>p.length-i) fun i ih f B hi u hB=>?_
  unfold c88_B0
  cases hx:p[i]? with
  | some c =>
   have hlt:=(Am hx).1
   have N:(i:Int)<p.length:=by omega
   have hn:=Ap hx
   have wi:=J2 ((i:Int)+1) (by omega)
   have htk:p.take (i+1)=p.take i++[c]:=As hx
   have hb:=AW z (Ahm hx)
   have w1:=J2 (c.x-Hg p) (by omega)
   have w2:=J2 (c.y-GX p) (by omega)
   have hf:f.length<=1000000:=by rw[u,Ahr,Ahx];omega
   have ha:=fun B=>MT f hf (mvC (Hg p) (GX p) c) B
   have e:f++[mvC (Hg p) (GX p) c]=(p.take (i+1)).map (mvC (Hg p) (GX p)):=by rw[htk,u];simp
   have ih':=ih (i+1) (by omega) (f++[mvC (Hg p) (GX p) c])
   clear ih u
   generalize f++[mvC (Hg p) (GX p) c]=f' at *
   simp only[mvC]at ha
   simp (disch:=omega) [Ab,hr,N,hn,wi,hB,w1,w2,ha]
   exact ih' _ (by omega) e (by simpa using hB)
  | none =>
   have:i=p.length:=by have:=Ahn.1 hx;omega
   subst this
   clear ih
   rw[AhI]at u
   have hvv:=On (r:=0) (b:=0) (X:=[]) (A:=[]) (q:=BG p) (n:=(BG p).length) rfl (Aho _) 18
   have e:f=BG p:=u
   rw[e]
   clear e u
   generalize BG p=f at *
   have hvr:viewR [.cs 73 3 (AE f) 0 false] (.sl 0 f.length 3 0 f.length false)=some (.m (.sl (Af f))):=by
    show (view 20 _ _).bind _=_
    rw[hvv]
    rfl
   simp (disch:=omega) [hvr]
theorem Qt (a b:Ce)(H:Hp):Gives G 121 [.m (.ag [J4 a.x,J4 a.y,J4 a.s]),.m (.ag [J4 b.x,J4 b.y,J4 b.s])] H (J0 (HN a.x a.y b.x b.y)) H:=by
 refine Ae rfl rfl rfl rfl rfl ?_
 have u:=AU (vs:=[.ls [[J4 (Ed a.y b.y)],[J4 (Ed a.x b.x)]]]) (H:=[]) rfl rfl (Agj (Ed a.y b.y) (Ed a.x b.x) []) rfl (.inl ⟨rfl,rfl⟩)
 simp[cl (AgO _ _ _),cl u,HN]
def AgR (A:Hp):Cmp QX A 121 Ba where
 ok _:=True
 ext _ _ _:=AhY
 cmp a b:=HN a.x a.y b.x b.y
 neg a b:=by
  unfold HN Ba
  grind [Ed]
 run a b row C _:=Qt a b _
variable {k:Nat} {x y:Int}
theorem Zm (u:-1048576<=x/\x<=1048576)(z:-1048576<=y/\y<=1048576):(-1048576<=(CD k x y).1/\(CD k x y).1<=1048576)/\(-1048576<=(CD k x y).2/\(CD k x y).2<=1048576):=by
 unfold CD
 split <;> dsimp only <;> omega
theorem Zl {z w:Int}(u:(CD k x y).1=(CD k z w).1)(E:(CD k x y).2=(CD k z w).2):x=z/\y=w:=by
 unfold CD at u E
 split at u <;> simp at u E <;> omega
theorem Fc (h:p.Pairwise (fun a b=>Ba a b=true)):p.Pairwise apart:=h.imp fun {a b} h=>by
 unfold Ba at h
 unfold apart
 simp at h
 omega
def Sn (k:Nat)(p q:List Ce):Prop:=q.Perm (p.map (tnC k))/\q.Pairwise (fun a b=>Ba a b=true)
theorem GP (k:Nat)(h:p.Pairwise apart):(p.map (tnC k)).Pairwise apart:=by
 rw[List.pairwise_map]
 refine h.imp fun {a b} h u=>h ?_
 exact Zl (k:=k) u.1 u.2
theorem JQ (u:right p=true)(h:Sn k p q):right q=true:=by
 obtain⟨z,N⟩:=h
 obtain⟨_,W,Q⟩:=Aw u
 refine Gg N (fun c J=>?_) (by rw[z.length_eq,Ahr];exact Q)
 obtain⟨d,U,rfl⟩:=AhE.1 (z.mem_iff.1 J)
 have E:=AW u U
 have:=Zm (k:=k) E.1 E.2.1
 unfold Cz placed tnC
 simp only[Ahi,Aht]
 omega
theorem ZP (hv:IsSl v (Af p))(hp:right p=true)(k:Int)(H:Hp):∃q,Sn (CP k) p q/\Gives G 87 [J0 k,.m v] H (.tu [.m (.sl (Af q)),J0 0]) H:=by
 have hl:p.length<=5000:=(Aw hp).2.2
 have hr:=hv.rules
 simp only[J3]at hr
 have gr:=fun H=>El hv (by omega) H
 rw[hp]at gr
 have key:∃x H',Gives G 87 [J0 k,.m v] H x H'/\(H'=H /\ ∃q,Sn (CP k) p q/\x=.tu [.m (.sl (Af q)),J0 0]):=by
  refine AJ ?_
  refine Cs rfl rfl rfl rfl rfl ?_
  have U:p.length*24<=281474976710656:=by omega
  have J:p.length<=9223372036854775807:=by omega
  simp (disch:=omega) [Ab,hr,cl (gr _),U,J]
  generalize a0:decide (0=p.length)=lim
  refine(?key:∀(i:Nat) (f:List Ce) (B:LE),i<=p.length->f=(p.take i).map (tnC (CP k))->Run G c87_B0 (S87_0 (J0 k) (.sl 0 f.length 3 0 f.length lim) (.m v) (J0 p.length) (J0 (i:Int)) B [.cs 73 3 (AE f) 0 false]) _) 0 [] [] (Aho _) rfl
  refine Bl (fun i:Nat=>p.length-i) fun i ih f B hi u=>?_
  unfold c87_B0
  cases hx:p[i]? with
  | some c =>
   have hlt:=(Am hx).1
   have N:(i:Int)<p.length:=by omega
   have hn:=Ap hx
   have wi:=J2 ((i:Int)+1) (by omega)
   have htk:p.take (i+1)=p.take i++[c]:=As hx
   have hb:=AW hp (Ahm hx)
   have ga:=fun H=>Wq k c.x c.y (by omega) (by omega) H
   have hlf:lim=false:=by rw[<-a0];exact Ahs (by omega)
   subst hlf
   have hf:f.length<=1000000:=by rw[u,Ahr,Ahx];omega
   have ha:=fun B=>MT f hf (tnC (CP k) c) B
   have e:f++[tnC (CP k) c]=(p.take (i+1)).map (tnC (CP k)):=by rw[htk,u];simp
   have ih':=ih (i+1) (by omega) (f++[tnC (CP k) c])
   clear ih u
   generalize f++[tnC (CP k) c]=f' at *
   simp only[tnC]at ha
   simp (disch:=omega) [Ab,hr,N,hn,wi,cl (ga _),ha]
   exact ih' _ (by omega) e
  | none =>
   have:i=p.length:=by have:=Ahn.1 hx;omega
   subst this
   clear ih
   rw[AhI]at u
   have hfl:f.length<=5000:=by rw[u,Ahr];exact hl
   simp (disch:=omega) []
   rw[Ao]
   have Q:Row.cs 73 3 (AE f) 0 false=.cs 73 3 (Bk QX f.toArray) 0 false:=by simp[Bk,AE]
   rw[Q]
   refine UF (A:=[]) (AgR []) QG (n:=f.length) (by omega) [] AhY f.toArray 0 (by simp) (Aho _) _ fun d' b1 X hpm hso hb1=>?_
   obtain⟨z,Y⟩:=JX hpm
   have W:=Aak Y hso
   have E:Bk QX d'=AE d'.toList:=rfl
   have hql:d'.toList.length=f.length:=by simpa using Y
   rw[E]
   generalize d'.toList=q at *
   have Z:(p.map (tnC (CP k))).Pairwise apart:=GP _ (Fc (Aw hp).1)
   rw[<-u]at Z
   have hq:Sn (CP k) p q:=⟨by rw[<-u];exact z,Wp W (Fh z Z)⟩
   have hvv:=On (r:=0) (X:=X) (A:=[]) hql hb1 18
   have hvl:view 20 (.cs 73 3 (AE q) b1 false::X) (.sl 0 f.length 3 0 f.length lim)=some (.sl (Af q)):=by cases lim <;> exact hvv
   simp (disch:=omega) [hvl]
   exact⟨q,hq,rfl⟩
 obtain⟨x,H',h1,rfl,q,h2,rfl⟩:=key
 exact⟨q,h2,h1⟩
def OutI (f:List Ce)(o:V)(H:Hp):Prop:=(f=[]/\o=.m (.nl 4)/\H=[])\/(f≠[]/\o=.sl 1 f.length 3 0 f.length false/\nth H 1=some (.cs 73 3 (AE f) 0 false))
theorem AcX (h:OutI f o H):AB o=true:=by
 rcases h with ⟨_,rfl,_⟩|⟨_,rfl,_⟩ <;> rfl
theorem Vb (h:OutI f o H)(hl:f.length<=1000000)(q:Row)(c:Ce):∃u J,(∀B,EK ⟨B,H++[q]⟩ 73 3 24 o [[J0 c.x,J0 c.y,J0 c.s]]=some (u,⟨B,J⟩))/\AB u=true/\OutI (f++[c]) u J:=by
 rcases h with ⟨rfl,rfl,rfl⟩|⟨Q,rfl,E⟩
 ·exact⟨_,_,fun B=>rfl,rfl,.inr ⟨by simp,rfl,rfl⟩⟩
 ·have N:nth (H++[q]) 1=some (.cs 73 3 (AE f) 0 false):=by rw[BK _ _ _ (AQ E)];exact E
  have z:=fun B=>CC (M:=⟨B,H++[q]⟩) (r:=1) (bytes:=24) (xs:=[[J0 c.x,J0 c.y,J0 c.s]]) N (by simp) (by simp;omega) rfl
  simp only[Do,AhR,AhW,Aih,GR]at z
  refine⟨_,_,z,rfl,.inr ⟨by simp,by simp,?_⟩⟩
  exact Be (AQ N)
theorem UM {α:Type}(l:List α)(x y:α):AO (l++[x]) l.length y=some (l++[y]):=by
 rw[AA _ _ _ (by simp)]
 simp
def lowK (g:Ce->Int):List Ce->Int
 | []=>0
 | c::r=>mnF (g c) ((c::r).map g)
variable {g:List Ce} {j:Nat}
theorem w3_x (h:g[j]? = some c)(x:Int):BS 3 (AE g) j 0 [J0 x]=some (AE (g.set j ⟨x,c.y,c.s⟩)):=by
 show (nth (AE g) j).bind _=_
 rw[CM h]
 show AO (AE g) j [J0 x,J0 c.y,J0 c.s]=_
 rw[AA _ _ _ (by simpa using (Am h).1)]
 simp[AE,List.map_set,QX,Ce.i]
theorem w3_y (h:g[j]? = some c)(y:Int):BS 3 (AE g) j 1 [J0 y]=some (AE (g.set j ⟨c.x,y,c.s⟩)):=by
 show (nth (AE g) j).bind _=_
 rw[CM h]
 show AO (AE g) j [J0 c.x,J0 y,J0 c.s]=_
 rw[AA _ _ _ (by simpa using (Am h).1)]
 simp[AE,List.map_set,QX,Ce.i]
theorem r3_x (h:g[j]? = some c):CW 3 (AE g) j 0 1=some [J0 c.x]:=by
 show (nth (AE g) j).bind _=_
 rw[CM h]
 rfl
theorem r3_y (h:g[j]? = some c):CW 3 (AE g) j 1 1=some [J0 c.y]:=by
 show (nth (AE g) j).bind _=_
 rw[CM h]
 rfl
theorem Agy (f:List Ce):lowK Ce.x f=Hg f:=by cases f <;> rfl
theorem Agx (f:List Ce):lowK Ce.y f=GX f:=by cases f <;> rfl
theorem VE (g:Ce->Int)(u:p≠[]):(∀c,c∈p->lowK g p<=g c) /\ ∀x,(∀c,c∈p->x<=g c)->x<=lowK g p:=by
 obtain⟨c,r,rfl⟩:=AiL u
 refine⟨fun d z=>(Ja ((c::r).map g) (g c)).2 _ (AiD z),fun x E=>JZ _ _ _ ⟨E c (AhG ..),fun y J=>?_⟩⟩
 obtain⟨d,z,rfl⟩:=AhE.1 J
 exact E d z
theorem VG (a b:Int)(c d:Ce):Ba (mvC a b c) (mvC a b d)=Ba c d:=by
 unfold Ba mvC
 rw[Aie]
 simp only[Aht]
 omega
theorem Ado (h:p.Pairwise (fun a b=>Ba a b=true)):(BG p).Pairwise (fun a b=>Ba a b=true):=by
 unfold BG
 rw[List.pairwise_map]
 exact h.imp fun {a b} h=>by rw[VG];exact h
def Span (p:List Ce):Prop:=∀c d,c∈p->d∈p->c.x-d.x<=1048576/\c.y-d.y<=1048576
theorem UE (h:Span p)(hs:∀c,c∈p->1<=c.s/\c.s<8):∀c,c∈BG p->Cz c=true:=fun c W=>by
 obtain⟨d,u,rfl⟩:=AhE.1 W
 have z:p≠[]:=fun e=>by subst e;cases u
 obtain⟨U,Y⟩:=VE Ce.x z
 obtain⟨y1,N⟩:=VE Ce.y z
 have a1:=U d u
 have J:=y1 d u
 have Z:=Y (d.x-1048576) fun e E=>by have:=(h d e u E).1;omega
 have Q:=N (d.y-1048576) fun e E=>by have:=(h d e u E).2;omega
 rw[Agy]at a1 Z
 rw[Agx]at J Q
 have:=hs d u
 unfold Cz placed mvC
 simp only[Ahi,Aht]
 omega
theorem Aaj (p:List Ce):∃x y w h,Nr p=[x,y,w,h]:=by
 unfold Nr
 split
 ·exact⟨_,_,_,_,rfl⟩
 ·split
  ·exact⟨_,_,_,_,rfl⟩
  ·exact⟨_,_,_,_,rfl⟩
def cmpC (c d:Ce):Int:=if c.y=d.y then if c.x=d.x then Ed c.s d.s else Ed c.x d.x else Ed c.y d.y
def Jm:List Ce->List Ce->Int
 | [],[]=>0
 | [],_::_=>-1
 | _::_,[]=>1
 | c::r,d::t=>if cmpC c d=0 then Jm r t else cmpC c d
theorem Hj:Ed x y=0↔x=y:=by
 unfold Ed
 split
 ·constructor <;> intro h <;> omega
 ·split <;> constructor <;> intro h <;> omega
theorem Wi {d:Ce}:cmpC c d=0↔c=d:=by
 obtain⟨Q,z,u⟩:=c
 obtain⟨E,N,J⟩:=d
 unfold cmpC
 simp only[Ce.mk.injEq]
 split
 ·split
  ·rw[Hj];constructor <;> intro h <;> simp_all
  ·rw[Hj];constructor <;> intro h <;> simp_all
 ·rw[Hj];constructor <;> intro h <;> simp_all
theorem Gn:∀ {p q:List Ce},Jm p q=0↔p=q
 | [],[]=>by simp[Jm]
 | [],_::_=>by simp[Jm]
 | _::_,[]=>by simp[Jm]
 | c::r,d::t=>by
  unfold Jm
  split
  ·rename_i h
   rw[Gn,Wi.1 h]
   simp
  ·rename_i h
   constructor
   ·intro u;exact absurd u h
   ·intro u
    have:c=d:=(List.cons.inj u).1
    exact absurd (Wi.2 this) h
theorem RY (x y:Int)(H:Hp):Gives G 85 [J0 x,J0 y] H (J0 (Ed x y)) H:=by
 refine Ae rfl rfl rfl rfl rfl ?_
 by_cases u:x<y
 ·simp (maxSteps:=2000000) (disch:=omega) [u,Ed]
 ·by_cases z:y<x
  ·simp (maxSteps:=2000000) (disch:=omega) [u,z,Ed]
  ·simp (maxSteps:=2000000) (disch:=omega) [u,z,Ed]
theorem QT {i:Nat}(h:p.drop i=[]\/q.drop i=[]):Jm (p.drop i) (q.drop i)=Ed ((p.drop i).length:Int) ((q.drop i).length:Int):=by
 rcases h with h|h <;> rw[h]
 ·cases hq:q.drop i with
  | nil=>rfl
  | cons a r=>show (-1:Int)=_;unfold Ed;rw[Ahl (by simp <;> omega)]
 ·cases hq:p.drop i with
  | nil=>rfl
  | cons a r=>show (1:Int)=_;unfold Ed;rw[Ahj (by simp <;> omega),Ahl (by simp <;> omega)]
theorem QU {a b i:Nat}(J:i<=a)(E:i<=b):Ed ((a-i:Nat):Int) ((b-i:Nat):Int)=Ed a b:=by
 unfold Ed
 have u:(((a-i:Nat):Int)<((b-i:Nat):Int))=((a:Int)<b):=by rw[eq_iff_iff];omega
 have z:(((b-i:Nat):Int)<((a-i:Nat):Int))=((b:Int)<a):=by rw[eq_iff_iff];omega
 simp only[u,z]
variable {w:I}
set_option maxHeartbeats 2000000 in
theorem Wf (hv:IsSl v (Af p))(hw:IsSl w (Af q))(hl:p.length<=1000000)(hl2:q.length<=1000000)(H:Hp):Gives G 44 [.m v,.m w] H (J0 (Jm p q)) H:=by
 refine Ae rfl rfl rfl rfl rfl ?_
 have U:=hv.rules
 have E:=hw.rules
 simp only[J3]at U
 simp only[J3]at E
 have go:=fun x y H=>RY x y H
 simp (maxSteps:=2000000) (disch:=omega) []
 refine(?key:∀(i:Nat) (B:LE),i<=p.length->i<=q.length->Jm p q=Jm (p.drop i) (q.drop i)->Run G c44_B0 (S44_0 (.m v) (.m w) (J0 (i:Int)) B []) _) 0 [] (Aho _) (Aho _) rfl
 refine Bl (fun i:Nat=>p.length-i) fun i ih B hi a0 J=>?_
 unfold c44_B0
 cases hx:p[i]? with
 | none =>
  have Y:=Ahn.1 hx
  have z:¬(i:Int)<p.length:=by omega
  rw[QT (.inl (List.drop_eq_nil_of_le Y)),AhT,AhT,QU hi a0]at J
  simp (maxSteps:=2000000) (disch:=omega) [U,E,z,cl (go _ _ _),J]
 | some c =>
  have hlt:=(Am hx).1
  have z:(i:Int)<p.length:=by omega
  have hn:=Ap hx
  cases hy:q[i]? with
  | none =>
   have Y:=Ahn.1 hy
   have u:¬(i:Int)<q.length:=by omega
   rw[QT (.inr (List.drop_eq_nil_of_le Y)),AhT,AhT,QU hi a0]at J
   simp (maxSteps:=2000000) (disch:=omega) [U,E,z,u,cl (go _ _ _),J]
  | some d =>
   have hlt2:=(Am hy).1
   have u:(i:Int)<q.length:=by omega
   have N:=Ap hy
   have wi:=J2 ((i:Int)+1) (by omega)
   have e1:Jm (c::p.drop (i+1)) (d::q.drop (i+1))=if cmpC c d=0 then Jm (p.drop (i+1)) (q.drop (i+1)) else cmpC c d:=rfl
   rw[(Am hx).2,(Am hy).2,e1]at J
   by_cases Q:c.y=d.y
   ·by_cases W:c.x=d.x
    ·by_cases h3:c.s=d.s
     ·have e:cmpC c d=0:=by unfold cmpC;rw[Ahl Q,Ahl W];exact Hj.2 h3
      rw[Ahl e]at J
      simp (maxSteps:=2000000) (disch:=omega) [U,E,z,u,hn,N,wi,Q,W,h3]
      exact ih (i+1) (by omega) _ (by omega) (by omega) J
     ·have e:cmpC c d=Ed c.s d.s:=by unfold cmpC;rw[Ahl Q,Ahl W]
      have Z:¬Ed c.s d.s=0:=fun h=>h3 (Hj.1 h)
      rw[e,Ahj Z]at J
      simp (maxSteps:=2000000) (disch:=omega) [U,E,z,u,hn,N,Q,W,h3,cl (go _ _ _),J]
    ·have e:cmpC c d=Ed c.x d.x:=by unfold cmpC;rw[Ahl Q,Ahj W]
     have Z:¬Ed c.x d.x=0:=fun h=>W (Hj.1 h)
     rw[e,Ahj Z]at J
     simp (maxSteps:=2000000) (disch:=omega) [U,E,z,u,hn,N,Q,W,cl (go _ _ _),J]
   ·have e:cmpC c d=Ed c.y d.y:=by unfold cmpC;rw[Ahj Q]
    have Z:¬Ed c.y d.y=0:=fun h=>Q (Hj.1 h)
    rw[e,Ahj Z]at J
    simp (maxSteps:=2000000) (disch:=omega) [U,E,z,u,hn,N,Q,cl (go _ _ _),J]
theorem IV (E:IsSl v (Af p))(z:IsSl w (Af q))(hl:p.length<=1000000)(u:q.length<=1000000)(H:Hp):Gives G 17 [.m v,.m w] H (.m (.b (decide (Jm p q=0)))) H:=by
 refine Ae rfl rfl rfl rfl rfl ?_
 simp (maxSteps:=2000000) (disch:=omega) [cl (Wf E z hl u _)]
set_option maxHeartbeats 2000000 in
theorem Adr (hv:IsSl v (Af p))(hw:IsSl w (Af q))(hl:p.length<=1000000)(hl2:q.length<=1000000)(H:Hp):Gives G 83 [.m v,.m w] H (.m (.b (decide (Jm p q=0)))) H:=by
 refine Ae rfl rfl rfl rfl rfl ?_
 have Y:=hv.rules
 have J:=hw.rules
 simp only[J3]at Y
 simp only[J3]at J
 by_cases u:p.length=q.length
 ·have z:(p.length:Int)=q.length:=by omega
  simp (disch:=omega) [Y,J,u]
  refine(?key:∀(i:Nat) (B:LE),i<=q.length->Jm p q=Jm (p.drop i) (q.drop i)->Run G c83_B0 (S83_0 (.m v) (.m w) (J0 q.length) (J0 (i:Int)) B []) _) 0 [] (Aho _) rfl
  refine Bl (fun i:Nat=>q.length-i) fun i ih B hi Q=>?_
  unfold c83_B0
  cases hy:q[i]? with
  | some d =>
   have hlt2:=(Am hy).1
   obtain⟨c,Z⟩:∃c,p[i]? = some c:=⟨p[i]'(by omega),Ahh _⟩
   have hlt:=(Am Z).1
   have E:(i:Int)<q.length:=by omega
   have hn:=Ap Z
   have U:=Ap hy
   have wi:=J2 ((i:Int)+1) (by omega)
   have e1:Jm (c::p.drop (i+1)) (d::q.drop (i+1))=if cmpC c d=0 then Jm (p.drop (i+1)) (q.drop (i+1)) else cmpC c d:=rfl
   rw[(Am Z).2,(Am hy).2,e1]at Q
   by_cases N:c.x=d.x/\c.y=d.y/\c.s=d.s
   ·have e:cmpC c d=0:=by
     unfold cmpC
     rw[Ahl N.2.1,Ahl N.1,Hj]
     exact N.2.2
    rw[Ahl e]at Q
    simp (disch:=omega) [Y,J,u,E,hn,U,wi,N.1,N.2.1,N.2.2]
    exact ih (i+1) (by omega) _ (by omega) Q
   ·have e:¬cmpC c d=0:=fun h=>N (by rw[Wi.1 h];exact⟨rfl,rfl,rfl⟩)
    rw[Ahj e]at Q
    have W:(decide (c.x=d.x)&&(decide (c.y=d.y)&&decide (c.s=d.s)))=false:=by
     rw[Bool.eq_false_iff]
     simpa using N
    have he2:(decide (c.x=d.x)&&decide (c.y=d.y)&&decide (c.s=d.s))=false:=by
     rw[Bool.and_assoc];exact W
    simp (disch:=omega) [Y,J,u,E,hn,U,W,Q,e]
  | none =>
   have:i=q.length:=by have:=Ahn.1 hy;omega
   subst this
   rw[Aia,List.drop_eq_nil_of_le (by omega)]at Q
   have a0:Jm p q=0:=Q
   simp (disch:=omega) [a0]
 ·have z:¬(p.length:Int)=q.length:=by omega
  have e:¬Jm p q=0:=fun h=>u (by rw[Gn.1 h])
  simp (disch:=omega) [Y,J,z,e]
theorem AfS (E:IsSl v (Af p))(z:IsSl w (Af q))(hl:p.length<=1000000)(u:q.length<=1000000)(H:Hp):Gives G 42 [.m v,.m w] H (.m (.b (decide (Jm p q=0)))) H:=by
 refine Ae rfl rfl rfl rfl rfl ?_
 simp (disch:=omega) [cl (Adr E z hl u _)]
end Go.Mx.Tryz
namespace Go.Mx.Tryz
open Go.Lib
structure StI (t:TreeC)(p:List Ce)(D:List (Int×Int))(l:List Ce):Prop where
 al:∀c,c∈l->(c.x,c.y)∈D/\c.s=Bw t p c.x c.y /\ ¬c.s=0/\placed c.x c.y=true
 cov:∀k,k∈D -> ¬Bw t p k.1 k.2=0 -> ∃c,c∈l/\c.x=k.1/\c.y=k.2
 ap:l.Pairwise apart
theorem Acw (t:TreeC)(p:List Ce):StI t p [] []:=⟨by simp,by simp,.nil⟩
variable {t:TreeC} {p l:List Ce} {D:List (Int×Int)}
theorem Ye (h:StI t p D l){k:Int×Int}(J:Bw t p k.1 k.2=0):StI t p (D++[k]) l :=
 ⟨fun c E=>by obtain⟨a,b⟩:=h.al c E;exact⟨by simp[a],b⟩,fun j u z=>by
  rcases AhV.1 u with u|u
  ·exact h.cov j u z
  ·rw[AhH.1 u]at z
   exact absurd J z,h.ap⟩
theorem Acy (h:StI t p D l){x y:Int}(N:(x,y) ∉ D)(W:¬Bw t p x y=0)(U:placed x y=true):StI t p (D++[(x,y)]) (l++[⟨x,y,Bw t p x y⟩]):=by
 refine⟨fun c u=>?_,fun j z Z=>?_,?_⟩
 ·rcases AhV.1 u with u|u
  ·obtain⟨a,b⟩:=h.al c u
   exact⟨by simp[a],b⟩
  ·rw[AhH.1 u]
   exact⟨by simp,rfl,W,U⟩
 ·rcases AhV.1 z with z|z
  ·obtain⟨c,J,E⟩:=h.cov j z Z
   exact⟨c,by simp[J],E⟩
  ·rw[AhH.1 z]
   exact⟨⟨x,y,Bw t p x y⟩,by simp,rfl,rfl⟩
 ·rw[Ait]
  refine⟨h.ap,by simp,fun a Q b Y=>?_⟩
  rw[AhH.1 Y]
  intro⟨J,E⟩
  have:=(h.al a Q).1
  dsimp only at J E
  rw[J,E]at this
  exact N this
theorem UD {x y:Int}(z:¬Bw t p x y=0)(u:placed x y=false):DM t p ([],5):=.inl ⟨rfl,x,y,z,u⟩
variable {q:List Ce}
theorem Acx (Z:Bd t=true)(h:StI t p D l)(z:∀c o,c∈p->o∈t.hood->(c.x-o.1,c.y-o.2)∈D)(U:q.Perm l)(hs:q.Pairwise (fun a b=>Ba a b=true)):DM t p (if 5000<q.length then ([],6) else (q,0)):=by
 have J:∀x y,¬Bw t p x y=0 -> ∃c,c∈l/\c.x=x/\c.y=y:=fun x y E=>by
  obtain⟨c,o,u,ho,rfl,rfl⟩:=HE Z E
  exact h.cov _ (z c o u ho) E
 refine .inr ⟨fun x y E=>?_,q,hs,fun c=>⟨fun u=>?_,fun u=>?_⟩,rfl⟩
 ·obtain⟨c,u,rfl,rfl⟩:=J x y E
  exact(h.al c u).2.2.2
 ·have:=h.al c (U.mem_iff.1 u)
  exact⟨this.2.1,this.2.2.1⟩
 ·obtain⟨d,Y,N,W⟩:=J c.x c.y (by rw[<-u.1];exact u.2)
  have Q:=(h.al d Y).2.1
  have:d=c:=by
   obtain⟨a1,a2,a3⟩:=d
   obtain⟨b1,b2,b3⟩:=c
   dsimp only at N W Q u
   subst N W
   congr 1
   rw[Q]
   exact u.1.symm
  exact U.mem_iff.2 (this ▸ Y)
theorem Yf (u:TreeR t)(J:Hu t p)(h:StI t p D l):∀c,c∈l->Cz c=true:=fun c z=>by
 obtain⟨_,N,U,Q⟩:=h.al c z
 have E:=Fd u J c.x c.y
 rw[<-N]at E
 have:=u.s8
 unfold Cz
 rw[Q]
 simp only[Aiy,Ahi,Aht]
 omega
theorem Yg (z:TreeR t)(W:Hu t p)(h:StI t p D l)(u:q.Perm (liv l))(Q:Asc q):bad l=none/\q.Perm l/\q.Pairwise (fun a b=>Ba a b=true)/\Aeb q=if 5000<q.length then .tu [.m (.nl 4),J0 6] else .tu [.m (zP q),J0 0]:=by
 have J:∀c,c∈l->Cz c=true:=fun c N=>by
  obtain⟨_,Y,h2,Z⟩:=h.al c N
  have U:=Fd z W c.x c.y
  rw[<-Y]at U
  have:=z.s8
  unfold Cz
  rw[Z]
  simp only[Aiy,Ahi,Aht]
  omega
 rw[QF J]at u
 have E:=Wp Q (Fh u h.ap)
 refine⟨HP J,u,E,?_⟩
 unfold Aeb
 rw[Aci E,Ahj (by simp)]
inductive HisR (t:TreeC) (p:List Ce):List (List Ce)->Prop
 | one:HisR t p [p]
 | snoc {ps:List (List Ce)} {a q:List Ce}:HisR t p (ps++[a])->DM t a (q,0)->HisR t p (ps++[a]++[q])
def HisQ (t:TreeC)(p:List Ce)(n:Nat)(res:List (List Ce)×Int):Prop :=
 (res.2=0/\res.1.length=n+1/\HisR t p res.1)\/(∃ps a,ps.length<n/\HisR t p (ps++[a])/\DM t a ([],res.2) /\ ¬res.2=0/\res.1=[])
end Go.Mx.Tryz
namespace Go.Mx.Tryz
def ndU (l:List Nd)(i:Nat):Nd:=(l[i]?).getD (0,[])
abbrev WSt:=List Int×List Nd
def Gl (f:Nat->WSt->WSt×Int):List Int->WSt->List Int->WSt×List Int
 | [],st,acc=>(st,acc)
 | k::r,st,acc=>Gl f r (f k.toNat st).1 (acc++[(f k.toNat st).2])
def Aee (x:Nd)(k:Nat)(r:WSt×List Int):WSt×Int:=((r.1.1.set k ((r.1.2.length+1:Nat):Int),r.1.2++[(x.1,r.2)]),((r.1.2.length:Nat):Int))
def HL (l:List Nd):Nat->Nat->WSt->WSt×Int
 | 0,_,st=>(st,0)
 | n+1,k,st=>if 0<(st.1[k]?).getD 0 then (st,(st.1[k]?).getD 0-1)
  else Aee (ndU l k) k (if 1<(ndU l k).1 then Gl (HL l n) (ndU l k).2 st [] else (st,(ndU l k).2))
def OkN (l:List Nd):Prop:=∀i,i<l.length->1<=(ndU l i).1/\(ndU l i).1<=1000/\(ndU l i).2≠[]/\(ndU l i).2.length<=100/\(∀k,k∈(ndU l i).2 -> -1000000000<=k/\k<=1000000000)/\(1<(ndU l i).1 -> ∀k,k∈(ndU l i).2->0<=k/\k.toNat<l.length/\(ndU l k.toNat).1<(ndU l i).1)
def AcM (dn:List Int):Nat:=dn.countP fun v=>decide (0<v)
structure InvW (l:List Nd)(st:WSt):Prop where
 len:st.1.length=l.length
 cnt:st.2.length<=AcM st.1
 val:∀v,v∈st.1->0<=v/\v<=(st.2.length:Int)
variable {l:List Nd} {st:WSt}
theorem InvW.out_le (h:InvW l st):st.2.length<=l.length:=by
 have:=List.countP_le_length (p:=fun v:Int=>decide (0<v)) (l:=st.1)
 have u:=h.cnt
 have z:=h.len
 unfold AcM at u
 omega
theorem Qm:∀ {dn:List Int} {k:Nat} {v:Int},(dn[k]?).getD 0<=0->k<dn.length->0<v->AcM (dn.set k v)=AcM dn+1
 | [],k,v,_,h,_=>by simp at h
 | a::r,0,v,h0,_,hv=>by
  have:¬0<a:=by simp at h0;omega
  simp[AcM,hv,this]
 | a::r,k+1,v,h0,hk,hv=>by
  have u:=Qm (dn:=r) (k:=k) (v:=v) (by simpa using h0) (by simpa using hk) hv
  unfold AcM at u ⊢
  rw[List.set_cons_succ,List.countP_cons,List.countP_cons,u]
  omega
def GrW (l:List Nd)(m:Int)(st st':WSt):Prop:=InvW l st'/\(∀i,i<l.length->m<=(ndU l i).1->st'.1[i]? = st.1[i]?) /\ ∃t,st'.2=st.2++t
theorem GrW.refl {m:Int}(h:InvW l st):GrW l m st st:=⟨h,fun _ _ _=>rfl,[],by simp⟩
theorem GrW.trans {m:Int}{a b c:WSt}(h:GrW l m a b)(k:GrW l m b c):GrW l m a c:=by
 obtain⟨_,J,t,U⟩:=h
 obtain⟨N,W,u,Q⟩:=k
 exact⟨N,fun i z E=>(W i z E).trans (J i z E),t++u,by rw[Q,U,Aip]⟩
theorem QI {l:List Nd}{m:Int}{f:Nat->WSt->WSt×Int}:∀(u:List Int) (st:WSt) (acc:List Int),InvW l st->(∀k,k∈u -> ∀st,InvW l st->GrW l m st (f k.toNat st).1/\0<=(f k.toNat st).2/\(f k.toNat st).2<((f k.toNat st).1.2.length:Int))->(∀v,v∈acc->0<=v/\v<(st.2.length:Int)) ->
  GrW l m st (Gl f u st acc).1/\(∀v,v∈(Gl f u st acc).2->0<=v/\v<((Gl f u st acc).1.2.length:Int))/\(Gl f u st acc).2.length=acc.length+u.length
 | [],st,acc,hi,_,ha=>⟨.refl hi,ha,rfl⟩
 | k::r,st,acc,hi,hf,ha=>by
  obtain⟨g1,N,g3⟩:=hf k (AhG ..) st hi
  obtain⟨t,Q⟩:=g1.2.2
  obtain⟨J,U,z⟩:=QI (m:=m) r (f k.toNat st).1 (acc++[(f k.toNat st).2]) g1.1 (fun j E=>hf j (AhZ _ E)) fun v W=>by
   rcases AhV.1 W with h|h
   ·have:=ha v h
    rw[Q,Ahv]
    omega
   ·rw[AhH]at h
    subst h
    exact⟨N,g3⟩
  refine⟨g1.trans J,U,?_⟩
  show (Gl f r (f k.toNat st).1 (acc++[(f k.toNat st).2])).2.length=_
  rw[z]
  simp
  omega
theorem Wc {l:List Nd}(hl:OkN l):∀(n k:Nat) (st:WSt),InvW l st->k<l.length->(ndU l k).1<=(n:Int) ->
  GrW l ((ndU l k).1+1) st (HL l n k st).1/\0<=(HL l n k st).2/\(HL l n k st).2<((HL l n k st).1.2.length:Int)
 | 0,k,st,_,hk,hn=>by have:=(hl k hk).1;omega
 | n+1,k,st,z,hk,hn=>by
  have e:HL l (n+1) k st=if 0<(st.1[k]?).getD 0 then (st,(st.1[k]?).getD 0-1)
   else Aee (ndU l k) k (if 1<(ndU l k).1 then Gl (HL l n) (ndU l k).2 st [] else (st,(ndU l k).2)):=rfl
  have N:k<st.1.length:=by rw[z.len];exact hk
  obtain⟨v,hv⟩:∃v,st.1[k]? = some v:=⟨st.1[k],Ahh N⟩
  have hvb:=z.val v (Ahm hv)
  rw[e,hv]
  simp only[AiJ]
  by_cases h0:0<v
  ·rw[Ahl h0]
   exact⟨.refl z,by simp only;omega,by simp only;omega⟩
  ·rw[Ahj h0]
   obtain⟨o1,o2,o3,o4,o5,o6⟩:=hl k hk
   have hr:GrW l (ndU l k).1 st (if 1<(ndU l k).1 then Gl (HL l n) (ndU l k).2 st [] else (st,(ndU l k).2)).1:=by
    by_cases W:1<(ndU l k).1
    ·rw[Ahl W]
     refine(QI (m:=(ndU l k).1) _ st [] z (fun j hj s hs=>?_) (by simp)).1
     obtain⟨q1,q2,q3⟩:=o6 W j hj
     obtain⟨⟨i1,i2,i3⟩,r2,Y⟩:=Wc hl n j.toNat s hs q2 (by omega)
     exact⟨⟨i1,fun i z hm=>i2 i z (by omega),i3⟩,r2,Y⟩
    ·rw[Ahj W]
     exact .refl z
   generalize (if 1<(ndU l k).1 then Gl (HL l n) (ndU l k).2 st [] else (st,(ndU l k).2))=r at hr ⊢
   obtain⟨⟨r1,r2,Y⟩,J,t,U⟩:=hr
   have hkr:(r.1.1[k]?).getD 0<=0:=by rw[J k hk (by omega),hv];simp only[AiJ];omega
   have E:k<r.1.1.length:=by rw[r1];exact hk
   refine⟨⟨⟨?_,?_,fun u Q=>?_⟩,fun i z hm=>?_,t++[((ndU l k).1,r.2)],?_⟩,?_,?_⟩
   ·show (r.1.1.set k _).length=_
    rw[Aib,r1]
   ·show (r.1.2++[((ndU l k).1,r.2)]).length<=AcM (r.1.1.set k _)
    rw[Qm hkr E (by omega),Ahv]
    simp
    exact r2
   ·have Q:u∈r.1.1.set k ((r.1.2.length+1:Nat):Int):=Q
    show 0<=u/\u<=((r.1.2++[((ndU l k).1,r.2)]).length:Int)
    rw[Ahv]
    rcases List.mem_or_eq_of_mem_set Q with h|h
    ·have:=Y u h
     simp
     omega
    ·subst h
     simp
     omega
   ·show (r.1.1.set k _)[i]? = _
    have Z:k≠i:=fun e=>by subst e;omega
    rw[Aij Z]
    exact J i z (by omega)
   ·show r.1.2++_=_
    rw[U,Aip]
   ·show (0:Int)<=((r.1.2.length:Nat):Int)
    omega
   ·show ((r.1.2.length:Nat):Int)<((r.1.2++[((ndU l k).1,r.2)]).length:Int)
    rw[Ahv]
    simp
    omega
theorem optN (k:Nat)(H:Hp):∀m:List Int,Ah (fun e=>Ah (view (k+1) H) e) (BA m)=some (BT m)
 | []=>rfl
 | x::r=>by
  show Option.bind (some [I.i .i64 x]) _=_
  simp only[Ahp]
  have:=optN k H r
  show Option.bind (Ah _ (BA r)) _=_
  rw[this]
  rfl
theorem UQ (l:List Int)(a n:Nat):((BA l).drop a).take n=BA ((l.drop a).take n):=by
 unfold BA;rw[List.map_take,List.map_drop]
variable {H:Hp} {ver len base:Nat} {lim fz:Bool}
theorem AgM {r st:Nat}{l:List Int}(h:nth H r=some (.cs 3 1 (BA l) base fz))(u:base<=ver):elems H (.sl r ver 1 st len lim)=some (BA ((l.drop st).take len)):=by
 show Option.bind (nth H r) _=_
 rw[h]
 show gd (Nat.ble base ver&&Nat.beq 1 1) (some (((BA l).drop st).take len))=_
 rw[Bh,Ahq u,UQ]
 rfl
theorem XZ {r st:Nat}{l:List Int}(h:nth H r=some (.cs 3 1 (BA l) base fz))(u:base<=ver)(k:Nat):view (k+2) H (.sl r ver 1 st len lim)=some (.sl (BT ((l.drop st).take len))):=by
 show Option.bind (elems H (.sl r ver 1 st len lim)) _=_
 rw[AgM h u]
 show Option.bind (Ah _ (BA _)) _=_
 rw[optN]
 rfl
open Go.Lib Go.Proofs
def AgZ (acc:List Int)(o:V)(H:Hp):Prop:=(acc=[]/\o=.m (.nl 4)/\H=[])\/(acc≠[]/\o=.sl 0 acc.length 1 0 acc.length false/\H=[.cs 3 1 (BA acc) 0 false])
variable {acc:List Int} {o:V}
theorem Vm (h:AgZ acc o H)(hl:acc.length<=1000000)(x:Int):∃u z,(∀B,EK ⟨B,H⟩ 3 1 8 o [[J0 x]]=some (u,⟨B,z⟩))/\AB u=true/\AgZ (acc++[x]) u z:=by
 rcases h with ⟨rfl,rfl,rfl⟩|⟨J,rfl,rfl⟩
 ·exact⟨_,_,fun B=>rfl,rfl,.inr ⟨by simp,rfl,rfl⟩⟩
 ·have E:=fun B=>CC (M:=⟨B,[.cs 3 1 (BA acc) 0 false]⟩) (r:=0) (bytes:=8) (xs:=[[J0 x]]) rfl (by simp) (by simp[FU];omega) (by simp[])
  simp only[FU,AhR,AhW,Aih,Rs,List.set_cons_zero]at E
  exact⟨_,_,E,rfl,.inr ⟨by simp,by simp,rfl⟩⟩
theorem Adc (h:AgZ acc o H):AB o=true:=by
 rcases h with ⟨_,rfl,_⟩|⟨_,rfl,_⟩ <;> rfl
theorem Vn {F:Nat}{x:V}{t0:I}(u:G.prim F=none)(hs:G.sh F=false)(E:AgZ acc o H)(h:∀w H,IsSl w (BT acc)->Gives G F [.m t0,.m w] H x H)(J:FD x=true):Gives G F [.m t0,o] H x H:=by
 rcases E with ⟨rfl,rfl,rfl⟩|⟨z,rfl,rfl⟩
 ·exact h _ [] AM
 ·refine AU (is:=[t0,.sl (BT acc)]) u hs (h _ [] (Bf _)) ?_ (.inr ⟨by simp[Du,Fp],J⟩)
  have:=XZ (r:=0) (ver:=acc.length) (st:=0) (len:=acc.length) (lim:=false) (base:=0) (fz:=false) (l:=acc) (H:=[Row.cs 3 1 (BA acc) 0 false]) rfl (Aho _) 18
  rw[Aio,Ahz (Ahk _)]at this
  show Option.bind (some _) (fun _=>Option.bind (Option.bind (view 20 _ _) _) _)=_
  rw[this]
  rfl
end Go.Mx.Tryz
