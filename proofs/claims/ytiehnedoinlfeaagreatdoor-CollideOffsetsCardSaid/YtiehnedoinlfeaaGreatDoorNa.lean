/- A list of numbers that grows: none, or row 0. -/
import Derived.Test.YtiehnedoinlfeaaGreatDoorSeav
import Derived.Test.YtiehnedoinlfeaaGreatDoorLaw
import Derived.Test.YtiehnedoinlfeaaGreatDoorWb
import Derived.Test.YtiehnedoinlfeaaGreatDoorSrx
import Derived.KernelRfl
import Derived.Test.YtiehnedoinlfeaaGreatDoorSz
set_option linter.unusedSimpArgs false
set_option linter.unusedVariables false
set_option linter.unusedSectionVars false
set_option maxRecDepth 100000
namespace Go.Mx.Tryz
structure Ce where
 x:Int
 y:Int
 s:Int
def Ce.i (c:Ce):List I:=[.i .i64 c.x,.i .i64 c.y,.i .i64 c.s]
def Ae (p:List Ce):LT:=p.map Ce.i
theorem J3 (p:List Ce):(Ae p).length=p.length:=by simp[Ae]
@[simp] theorem Sm (p:List Ce):(Ae p).length=p.length:=by simp[Ae]
variable {p:List Ce} {i:Nat} {c:Ce}
theorem Ap (h:p[i]? = some c):nth (Ae p) i=some [J4 c.x,J4 c.y,J4 c.s]:=by
 rw[AL]
 simp[Ae,h,Ce.i]
def placed (x y:Int):Bool:=decide (-1048576<=x/\x<=1048576 /\ -1048576<=y/\y<=1048576)
def Bd (a b:Ce):Bool:=decide (a.y<b.y\/(a.y=b.y/\a.x<b.x))
def CC (c:Ce):Bool:=placed c.x c.y&&decide (1<=c.s)&&decide (c.s<8)
def Df:Option Ce->List Ce->Bool
 | _,[]=>true
 | none,c::r=>CC c&&Df (some c) r
 | some a,c::r=>CC c&&Bd a c&&Df (some c) r
def right (p:List Ce):Bool:=decide (p.length<=5000)&&Df none p
theorem HF (x y:Int)(H:Hp):Gives G 71 [.m (.ag [J4 x,J4 y])] H (.m (.b (placed x y))) H:=by
 refine Af rfl rfl rfl rfl rfl ?_
 simp (contextual:=true) [Aj,-Int.not_lt,-Int.not_le,-Nat.not_lt,-Nat.not_le,-List.map_take,placed]
 grind
theorem HG (x y:Int)(H:Hp):Gives G 95 [J0 x,J0 y] H (.m (.b (placed x y))) H:=by
 refine Af rfl rfl rfl rfl rfl ?_
 simp (contextual:=true) [Aj,-Int.not_lt,-Int.not_le,-Nat.not_lt,-Nat.not_le,-List.map_take,placed]
theorem AdE (c:Ce)(H:Hp):Gives G 72 [.m (.ag [J4 c.x,J4 c.y,J4 c.s])] H (.m (.ag [J4 c.x,J4 c.y])) H:=by
 refine Af rfl rfl rfl rfl rfl ?_
 simp
theorem nan_s (x:Int)(H:Hp):Gives G 173 [J0 x] H (.m (.b false)) H:=by
 refine Af rfl rfl rfl rfl rfl ?_
 simp
def Ef (x y:Int):Int:=if x<y then -1 else if y<x then 1 else 0
theorem AgY (x y:Int)(H:Hp):Gives G 134 [J0 x,J0 y] H (J0 (Ef x y)) H:=by
 refine Af rfl rfl rfl rfl rfl ?_
 simp (contextual:=true) [Ai,-Int.not_lt,-Int.not_le,-Nat.not_lt,-Nat.not_le,-List.map_take,cl (nan_s _ _),Ef]
theorem Ags (a b:Int)(H:Hp):Gives G 133 [.m (.sl [[J4 a],[J4 b]])] H (J0 (if a=0 then b else a)) H:=by
 refine Af rfl rfl rfl rfl rfl ?_
 simp (contextual:=true) [Ai,-Int.not_lt,-Int.not_le,-Nat.not_lt,-Nat.not_le,-List.map_take,Aa,c133_B0]
def HQ (x y z w:Int):Int:=if Ef y w=0 then Ef x z else Ef y w
theorem UU (x y z w:Int)(H:Hp):Gives G 113 [.m (.ag [J4 x,J4 y]),.m (.ag [J4 z,J4 w])] H (J0 (HQ x y z w)) H:=by
 refine Af rfl rfl rfl rfl rfl ?_
 have u:=AQ (vs:=[.ls [[J4 (Ef y w)],[J4 (Ef x z)]]]) (H:=[]) rfl rfl (Ags (Ef y w) (Ef x z) []) rfl (.inl ⟨rfl,rfl⟩)
 simp[cl (AgY _ _ _),cl u,HQ]
theorem Vf (a b:Ce)(H:Hp):Gives G 74 [.m (.ag [J4 a.x,J4 a.y,J4 a.s]),.m (.ag [J4 b.x,J4 b.y,J4 b.s])] H (J0 (HQ a.x a.y b.x b.y)) H:=by
 refine Af rfl rfl rfl rfl rfl ?_
 simp[cl (AdE _ _),cl (UU _ _ _ _ _)]
theorem Wc (a b:Ce):(0<=HQ a.x a.y b.x b.y)↔Bd a b=false:=by
 unfold Bd HQ Ef
 grind
theorem Lh (a b:Ce)(H:Hp):Gives G 103 [.m (.ag [J4 a.x,J4 a.y,J4 a.s]),.m (.ag [J4 b.x,J4 b.y,J4 b.s])] H (.m (.b (Bd a b))) H:=by
 refine Af rfl rfl rfl rfl rfl ?_
 simp (contextual:=true) [Aj,-Int.not_lt,-Int.not_le,-Nat.not_lt,-Nat.not_le,-List.map_take,Bd]
def Ll (p:List Ce):Nat->Option Ce
 | 0=>none
 | i+1=>p[i]?
theorem Ka (u:p[i]? = some c)(hi:∀j,i=j+1->j<p.length):Df (Ll p i) (c::p.drop (i+1))=(CC c&&(match Ll p i with|none=>true|some a=>Bd a c)&&Df (Ll p (i+1)) (p.drop (i+1))):=by
 have:Ll p (i+1)=some c:=u
 rw[this]
 cases Ll p i with
 | none=>show (CC c&&Df (some c) _)=_;simp
 | some a=>show (CC c&&Bd a c&&Df (some c) _)=_;simp
variable {v:I}
theorem En (Q:IsSl v (Ae p))(hl:(p.length:Int)<=9223372036854775807)(H:Hp):Gives G 69 [.m v] H (.m (.b (right p))) H:=by
 refine Af rfl rfl rfl rfl rfl ?_
 simp (contextual:=true) [Ai,-Int.not_lt,-Int.not_le,-Nat.not_lt,-Nat.not_le,-List.map_take,Q.rules]
 refine⟨fun h=>?_,fun h=>?_⟩
 ·unfold right
  grind
 refine(?key:∀(i:Nat) (B:LE),i<=p.length->right p=Df (Ll p i) (p.drop i)->Run G c69_B0 (S69_0 (.m v) (.m v) (J0 p.length) (J0 i) B []) _) 0 [] (Ahy _) ?_
 case key =>
  refine Bj (fun i:Nat=>p.length-i) fun i W B hi U=>?_
  unfold c69_B0
  cases hx:p[i]? with
  | none =>
   have:i=p.length:=by have:=Ahx.1 hx;omega
   subst this
   have:Df (Ll p p.length) []=true:=by cases Ll p p.length <;> rfl
   simp[U,this]
  | some c =>
   have E:=(Am hx).1
   have Y:=Ap hx
   rw[(Am hx).2,Ka hx (by omega)]at U
   have hg:CC c=(placed c.x c.y&&decide (1<=c.s)&&decide (c.s<8)):=rfl
   cases i with
   | zero =>
    simp (contextual:=true) (maxSteps:=2000000) (disch:=omega) [Ai,Aj,Ad,-Int.not_lt,-Int.not_le,-Nat.not_lt,-Nat.not_le,-List.map_take,Q.rules,Y,E,cl (AdE _ _),cl (HF _ _ _),Aa]
    repeat' first|with_reducible apply And.intro|intro _
    all_goals first
     | (refine W 1 (by omega) _ (by omega) ?_;grind [Ll])
     | grind [Ll]
   | succ j =>
    obtain⟨J,u⟩:∃J,p[j]? = some J:=⟨p[j],Ahr (by omega)⟩
    have N:=Ap u
    have Z:(j:Int)+1<p.length:=by omega
    have e4:(j:Int)<p.length:=by omega
    have e6:(0:Int)<=j+1:=by omega
    have e7:((j:Int)+1).toNat=j+1:=by omega
    have z:Ll p (j+1)=some J:=u
    simp only[z]at U
    simp (contextual:=true) (maxSteps:=2000000) (disch:=omega) [Ai,Aj,Ad,-Int.not_lt,-Int.not_le,-Nat.not_lt,-Nat.not_le,-List.map_take,Q.rules,Y,N,Z,e7,cl (AdE _ _),cl (HF _ _ _),cl (Vf _ _ _),Aa,Wc]
    repeat' first|with_reducible apply And.intro|intro _
    all_goals first
     | (refine W (j+2) (by omega) _ (by omega) ?_;grind)
     | grind
 ·have:p.length<=5000:=by omega
  simp[right,this,Ll]
theorem IV (Q:IsSl v (Ae p))(hl:(p.length:Int)<=9223372036854775807)(H:Hp):Gives G 94 [.m v] H (.m (.b (right p))) H:=by
 refine Af rfl rfl rfl rfl rfl ?_
 simp (contextual:=true) (maxSteps:=2000000) (disch:=omega) [-Int.not_lt,-Int.not_le,-Nat.not_lt,-Nat.not_le,-List.map_take]
 refine(?key:∀(i:Nat) (B:LE),i<=p.length->Df none p=Df (Ll p i) (p.drop i)->Run G c94_B0 (S94_0 (.m v) (J0 i) B []) _) 0 [] (Ahy _) rfl
 refine Bj (fun i:Nat=>p.length-i) fun i W B hi U=>?_
 unfold c94_B0
 have hR:right p=(decide (p.length<=5000)&&Df none p):=rfl
 cases hx:p[i]? with
 | none =>
  have:i=p.length:=by have:=Ahx.1 hx;omega
  subst this
  have:Df (Ll p p.length) []=true:=by cases Ll p p.length <;> rfl
  simp[Q.rules,hR,U,this]
  omega
 | some c =>
  have E:=(Am hx).1
  have Y:=Ap hx
  rw[(Am hx).2,Ka hx (by omega)]at U
  have hg:CC c=(placed c.x c.y&&decide (1<=c.s)&&decide (c.s<8)):=rfl
  cases i with
  | zero =>
   simp (contextual:=true) (maxSteps:=2000000) (disch:=omega) [Ai,Aj,Ad,-Int.not_lt,-Int.not_le,-Nat.not_lt,-Nat.not_le,-List.map_take,Q.rules,Y,E,cl (HG _ _ _),Aa]
   repeat' first|with_reducible apply And.intro|intro _
   all_goals first
    | (refine W 1 (by omega) _ (by omega) ?_;grind [Ll])
    | grind [Ll]
  | succ j =>
   obtain⟨J,u⟩:∃J,p[j]? = some J:=⟨p[j],Ahr (by omega)⟩
   have N:=Ap u
   have Z:(j:Int)+1<p.length:=by omega
   have e4:(j:Int)<p.length:=by omega
   have e6:(0:Int)<=j+1:=by omega
   have e7:((j:Int)+1).toNat=j+1:=by omega
   have z:Ll p (j+1)=some J:=u
   simp only[z]at U
   simp (contextual:=true) (maxSteps:=2000000) (disch:=omega) [Ai,Aj,Ad,-Int.not_lt,-Int.not_le,-Nat.not_lt,-Nat.not_le,-List.map_take,Q.rules,Y,N,Z,e7,cl (Lh _ _ _),cl (HG _ _ _),Aa]
   repeat' first|with_reducible apply And.intro|intro _
   all_goals first
    | (refine W (j+2) (by omega) _ (by omega) ?_;grind)
    | grind
theorem agg3:Cl Go.Proofs.Tryz.prog 3=some false:=by unfold Cl;rw[Go.Proofs.Tryz.underlying3];rfl
variable {B n:Nat} {l:List I}
theorem BA (h:Fits Go.Proofs.Tryz.prog B (n+1) 3 l):∃x:Int,l=[J4 x] /\ -9223372036854775808<=x/\x<=9223372036854775807:=by
 unfold Fits at h
 rw[Go.Proofs.Tryz.underlying3]at h
 simp only at h
 obtain⟨x,rfl,u⟩:=h
 have E:IntKind.i64.min=-9223372036854775808:=by decide
 have z:IntKind.i64.max=9223372036854775807:=by decide
 rw[E,z]at u
 exact⟨x,rfl,u⟩
variable {ts:List TypeId} {us:List V}
theorem AdF (h:DE Go.Proofs.Tryz.prog B (n+1) (3::ts) us):∃(x:Int) (r:List V),us=J0 x::r/\DE Go.Proofs.Tryz.prog B (n+1) ts r:=by
 obtain⟨l,r,rfl,u,z⟩:=FI h
 obtain⟨x,rfl,_⟩:=BA u
 rw[XR agg3]
 exact⟨x,r,rfl,z⟩
theorem YW (h:Fits Go.Proofs.Tryz.prog B (n+2) 56 l):∃d:Ce,l=d.i:=by
 unfold Fits at h
 rw[Go.Proofs.Tryz.underlying56]at h
 simp only[Hb]at h
 obtain⟨W,Y,rfl,E,J,Q,rfl,z,N,U,rfl,k3,rfl⟩:=h
 obtain⟨u,rfl,_⟩:=BA E
 obtain⟨v,rfl,_⟩:=BA z
 obtain⟨w,rfl,_⟩:=BA k3
 exact⟨⟨u,v,w⟩,rfl⟩
variable {es:LT}
theorem VS (h:∀x,x∈es -> ∃d:Ce,x=d.i):∃p:List Ce,es=Ae p:=by
 induction es with
 | nil=>exact⟨[],rfl⟩
 | cons x r u =>
  obtain⟨d,rfl⟩:=h x (by simp)
  obtain⟨p,rfl⟩:=u fun x z=>h x (by simp[z])
  exact⟨d::p,rfl⟩
theorem Adw (h:Fits Go.Proofs.Tryz.prog B (n+3) 40 l):∃(p:List Ce) (v:I),l=[v]/\IsSl v (Ae p)/\p.length<=B:=by
 unfold Fits at h
 rw[Go.Proofs.Tryz.underlying40]at h
 simp only at h
 rcases h with rfl|⟨es,rfl,u,z⟩
 ·exact⟨[],_,rfl,AS,by simp⟩
 ·obtain⟨p,rfl⟩:=VS fun x E=>YW (z x E)
  exact⟨p,_,rfl,AX _,by rw[Sm]at u;exact u⟩
def mnF (m:Int)(l:List Int):Int:=l.foldl min m
def mxF (m:Int)(l:List Int):Int:=l.foldl max m
theorem HJ (m:Int)(l:List Int)(x:Int):mnF m (l++[x])=min (mnF m l) x:=by simp[mnF]
theorem Qw (m:Int)(l:List Int)(x:Int):mxF m (l++[x])=max (mxF m l) x:=by simp[mxF]
def No (p:List Ce):List Int:=match p with
 | []=>[0,0,0,0]
 | c::r=>if right (c::r)=true then
   [mnF c.x ((c::r).map Ce.x),c.y,wr .i64 (wr .i64 (mxF c.x ((c::r).map Ce.x)-mnF c.x ((c::r).map Ce.x))+1),wr .i64 (wr .i64 (((c::r).getLast (by simp)).y-c.y)+1)]
  else [0,0,0,0]
def QZ (p:List Ce):V:=.tu [.m (.ag ((No p).map (.i .i64))),.m (.b (!p.isEmpty&&right p))]
variable {α:Type}
theorem Dd {β:Type}{p:List α}{c:α}(f:α->β)(h:p[i]? = some c):(p.take (i+1)).map f=(p.take i).map f++[f c]:=by rw[As h];simp
theorem Ahd (J:IsSl v (Ae p))(hl:(p.length:Int)<=9223372036854775807)(H:Hp):Gives G 90 [.m v] H (QZ p) H:=by
 refine Af rfl rfl rfl rfl rfl ?_
 have g:=En J hl []
 cases hp:p with
 | nil=>subst hp;simp (contextual:=true) (maxSteps:=2000000) (disch:=omega) [Ai,Ad,-Int.not_lt,-Int.not_le,-Nat.not_lt,-Nat.not_le,-List.map_take,J.rules,QZ,No]
 | cons c r =>
  rw[<-hp]
  have h0:p[0]? = some c:=by rw[hp];rfl
  have E:=Ap h0
  have e1:0<p.length:=by rw[hp];simp
  obtain⟨cl,z⟩:∃d,p[p.length-1]? = some d:=⟨p[p.length-1],Ahr (by omega)⟩
  have W:=Ap z
  have Y:∀h,(c::r).getLast h=cl:=fun h=>by
   have:p.getLast (by rw[hp];simp)=cl:=by rw[List.getLast_eq_getElem,<-Aho,<-z,Ahr]
   simpa[hp]using this
  have hw:wr .i64 ((p.length:Int)-1)=((p.length-1:Nat):Int):=by rw[Aa] <;> omega
  have e2:¬((p.length:Int)=0):=by omega
  have e4:¬p=[]:=by rw[hp];simp
  simp (contextual:=true) (maxSteps:=2000000) (disch:=omega) [Ai,Ad,-Int.not_lt,-Int.not_le,-Nat.not_lt,-Nat.not_le,-List.map_take,J.rules,Mx.Tryz.cl g,E,e4]
  refine⟨fun N=>?_,fun N=>?_⟩
  ·rw[hp]at N ⊢;simp[QZ,No,N]
  refine(?key:∀(i:Nat) (B:LE),i<=p.length->(∃a b d e,getB B 2=some [a,b,d,e])->Run G c90_B0 (S90_0 (.m v) (.fa 2 0) (.m (.i .i64 (mnF c.x ((p.take i).map Ce.x)))) (.m (.i .i64 (mxF c.x ((p.take i).map Ce.x)))) (.m v) (.m (.i .i64 p.length)) (.m (.i .i64 i)) B []) _) 0 _ (Ahy _) ⟨_,_,_,_,rfl⟩
  refine Bj (fun i:Nat=>p.length-i) fun i Q B hi U=>?_
  unfold c90_B0
  cases hx:p[i]? with
  | none =>
   have:i=p.length:=by have:=Ahx.1 hx;omega
   subst this
   obtain⟨a,b,d,e,U⟩:=U
   have u:p.length-1<p.length:=by omega
   have Z:((p.length:Int)-1).toNat=p.length-1:=by omega
   simp (contextual:=true) (maxSteps:=2000000) (disch:=omega) [J.rules,E,W,U,Z,Aa,Ai,-Int.not_lt,-Int.not_le,-Nat.not_lt,-Nat.not_le,-List.map_take]
   rw[hp]at N ⊢
   simp[QZ,No,N,Y]
  | some d =>
   have u:=(Am hx).1
   have hn:=Ap hx
   have Q:=Q (i+1) (by omega)
   simp only[Dd _ hx,HJ,Qw]at Q
   simp (contextual:=true) (maxSteps:=2000000) (disch:=omega) [Ai,-Int.not_lt,-Int.not_le,-Nat.not_lt,-Nat.not_le,-List.map_take,J.rules,hn,u,Aa]
   exact Q _ (by omega) (by simpa using U)
theorem Dh {a b:Ce}(u:Bd a b=true)(z:Bd b c=true):Bd a c=true:=by
 unfold Bd at *
 grind
theorem Nn:∀(p:List Ce) (o:Option Ce),Df o p=true->p.Pairwise (fun a b=>Bd a b=true)/\(∀a,o=some a -> ∀d,d∈p->Bd a d=true) /\ ∀d,d∈p->CC d=true
 | [],_,_=>⟨.nil,fun _ _ d u=>by simp at u,fun d u=>by simp at u⟩
 | c::r,o,h=>by
  have Q:CC c=true/\(∀a,o=some a->Bd a c=true)/\Df (some c) r=true:=by
   cases o with
   | none =>
    have:(CC c&&Df (some c) r)=true:=h
    rw[Ahs]at this
    exact⟨this.1,fun _ h=>(by cases h),this.2⟩
   | some a =>
    have:(CC c&&Bd a c&&Df (some c) r)=true:=h
    simp only[Ahs]at this
    exact⟨this.1.1,fun _ h=>(by cases h;exact this.1.2),this.2⟩
  obtain⟨g1,z,g3⟩:=Q
  obtain⟨N,E,U⟩:=Nn r (some c) g3
  refine⟨AhU.2 ⟨fun d u=>E c rfl d u,N⟩,fun a J d u=>?_,fun d u=>?_⟩
  ·rcases AhO.1 u with rfl|u
   ·exact z a J
   ·exact Dh (z a J) (E c rfl d u)
  ·rcases AhO.1 u with rfl|u
   ·exact g1
   ·exact U d u
theorem CP (h:right p=true):p.Pairwise (fun a b=>Bd a b=true)/\(∀d,d∈p->CC d=true)/\p.length<=5000:=by
 unfold right at h
 simp only[Ahs,AhC]at h
 have:=Nn p none h.2
 exact⟨this.1,this.2.2,h.1⟩
theorem JX:∀(l:List Int) (m x:Int),(x<=m /\ ∀y,y∈l->x<=y)->x<=mnF m l
 | [],m,x,h=>h.1
 | y::r,m,x,h=>JX r (min m y) x ⟨by have:=h.1;have:=h.2 y (by simp);omega,fun z u=>h.2 z (by simp[u])⟩
theorem Ja:∀(l:List Int) (m:Int),mnF m l<=m /\ ∀y,y∈l->mnF m l<=y
 | [],m=>⟨Int.le_refl _,fun y E=>by simp at E⟩
 | y::r,m=>by
  obtain⟨N,J⟩:=Ja r (min m y)
  refine⟨by show mnF (min m y) r<=m;omega,fun z u=>?_⟩
  show mnF (min m y) r<=z
  rcases AhO.1 u with rfl|u
  ·omega
  ·exact J z u
theorem Qx:∀(l:List Int) (m:Int),m<=mxF m l /\ ∀y,y∈l->y<=mxF m l
 | [],m=>⟨Int.le_refl _,fun y E=>by simp at E⟩
 | y::r,m=>by
  obtain⟨N,J⟩:=Qx r (max m y)
  refine⟨by show m<=mxF (max m y) r;omega,fun z u=>?_⟩
  show z<=mxF (max m y) r
  rcases AhO.1 u with rfl|u
  ·omega
  ·exact J z u
theorem Vv:∀(l:List Int) (m x:Int),(m<=x /\ ∀y,y∈l->y<=x)->mxF m l<=x
 | [],m,x,h=>h.1
 | y::r,m,x,h=>Vv r (max m y) x ⟨by have:=h.1;have:=h.2 y (by simp);omega,fun z u=>h.2 z (by simp[u])⟩
variable {r:List Ce}
theorem KL {d:Ce}(h:right (c::r)=true)(E:(c::r)[(c::r).length-1]? = some d):mnF c.y ((c::r).map Ce.y)=c.y/\mxF c.y ((c::r).map Ce.y)=d.y:=by
 obtain⟨W,_,_⟩:=CP h
 have first:∀y,y∈(c::r).map Ce.y->c.y<=y:=fun y J=>by
  obtain⟨e,z,rfl⟩:=AhP.1 J
  rcases AhO.1 z with rfl|z
  ·exact Int.le_refl _
  ·have:=(AhU.1 W).1 e z
   unfold Bd at this
   simp only[AhC]at this
   omega
 have u:∀y,y∈(c::r).map Ce.y->y<=d.y:=fun y J=>by
  obtain⟨e,z,rfl⟩:=AhP.1 J
  obtain⟨i,U,rfl⟩:=List.mem_iff_getElem.1 z
  by_cases N:i=(c::r).length-1
  ·subst N
   rw[Ahr U]at E
   cases E
   exact Int.le_refl _
  ·have Q:(c::r).length-1<(c::r).length:=by simp
   have:=AiG.1 W i ((c::r).length-1) U Q (by omega)
   rw[Ahr Q]at E
   cases E
   unfold Bd at this
   simp only[AhC]at this
   omega
 have Y:d.y∈(c::r).map Ce.y:=AhP.2 ⟨d,Ahw E,rfl⟩
 have c0:=Ja ((c::r).map Ce.y) c.y
 have c1:=JX ((c::r).map Ce.y) c.y c.y ⟨Int.le_refl _,first⟩
 have Z:=Qx ((c::r).map Ce.y) c.y
 have c3:=Vv ((c::r).map Ce.y) c.y d.y ⟨u _ (by simp),u⟩
 have c4:=Z.2 _ Y
 constructor <;> omega
theorem Ahe (E:IsSl v (Ae p))(hl:(p.length:Int)<=9223372036854775807)(H:Hp):Gives G 99 [.m v] H (QZ p) H:=by
 refine Af rfl rfl rfl rfl rfl ?_
 have g:=IV E hl []
 cases hp:p with
 | nil=>subst hp;simp (contextual:=true) (maxSteps:=2000000) (disch:=omega) [Ai,Ad,-Int.not_lt,-Int.not_le,-Nat.not_lt,-Nat.not_le,-List.map_take,E.rules,QZ,No]
 | cons c r =>
  rw[<-hp]
  have h0:p[0]? = some c:=by rw[hp];rfl
  have W:=Ap h0
  have e1:0<p.length:=by rw[hp];simp
  obtain⟨cl,z⟩:∃d,p[p.length-1]? = some d:=⟨p[p.length-1],Ahr (by omega)⟩
  have U:∀h,(c::r).getLast h=cl:=fun h=>by
   have:p.getLast (by rw[hp];simp)=cl:=by rw[List.getLast_eq_getElem,<-Aho,<-z,Ahr]
   simpa[hp]using this
  have e2:¬((p.length:Int)=0):=by omega
  have Z:¬p=[]:=by rw[hp];simp
  simp (contextual:=true) (maxSteps:=2000000) (disch:=omega) [Ai,Ad,-Int.not_lt,-Int.not_le,-Nat.not_lt,-Nat.not_le,-List.map_take,E.rules,Mx.Tryz.cl g,W,Z]
  refine⟨fun u=>?_,fun u=>?_⟩
  ·rw[hp]at u ⊢;simp[QZ,No,u]
  refine(?key:∀(i:Nat) (B:LE),i<=p.length->(∃a b d e,getB B 2=some [a,b,d,e])->Run G c99_B0 (S99_0 (.m v) (.fa 2 0) (.m (.i .i64 (mnF c.x ((p.take i).map Ce.x)))) (.m (.i .i64 (mnF c.y ((p.take i).map Ce.y)))) (.m (.i .i64 (mxF c.x ((p.take i).map Ce.x)))) (.m (.i .i64 (mxF c.y ((p.take i).map Ce.y)))) (.m (.i .i64 i)) B []) _) 0 _ (Ahy _) ⟨_,_,_,_,rfl⟩
  refine Bj (fun i:Nat=>p.length-i) fun i J B hi N=>?_
  unfold c99_B0
  cases hx:p[i]? with
  | none =>
   have:i=p.length:=by have:=Ahx.1 hx;omega
   subst this
   obtain⟨a,b,d,e,N⟩:=N
   have Y:=KL (hp ▸ u) (hp ▸ z)
   simp (contextual:=true) (maxSteps:=2000000) (disch:=omega) [E.rules,N,Ai,-Int.not_lt,-Int.not_le,-Nat.not_lt,-Nat.not_le,-List.map_take]
   rw[hp]at u ⊢
   simp only[AhV]at Y
   simp[QZ,No,u,U,Y.1,Y.2]
  | some d =>
   have Q:=(Am hx).1
   have hn:=Ap hx
   have J:=J (i+1) (by omega)
   simp only[Dd _ hx,HJ,Qw]at J
   simp (contextual:=true) (maxSteps:=2000000) (disch:=omega) [Ai,-Int.not_lt,-Int.not_le,-Nat.not_lt,-Nat.not_le,-List.map_take,E.rules,hn,Q,Aa]
   exact J _ (by omega) N
def DD (p:List Ce)(x y:Int):Int:=match p with
 | []=>0
 | c::r=>if c.x=x/\c.y=y then c.s else DD r x y
theorem get_r (z:IsSl v (Ae p))(hl:(p.length:Int)<=9223372036854775807)(x y:Int)(H:Hp):Gives G 140 [.m v,.m (.i .i64 x),.m (.i .i64 y)] H (.m (.i .i64 (DD p x y))) H:=by
 refine Af rfl rfl rfl rfl rfl ?_
 simp (contextual:=true) (maxSteps:=2000000) (disch:=omega) [-Int.not_lt,-Int.not_le,-Nat.not_lt,-Nat.not_le,-List.map_take]
 refine(?key:∀(i:Nat),i<=p.length->DD p x y=DD (p.drop i) x y->Run G c140_B0 (S140_0 (.m v) (.m (.i .i64 x)) (.m (.i .i64 y)) (.m (.i .i64 i)) [] []) _) 0 (Ahy _) rfl
 refine Bj (fun i:Nat=>p.length-i) fun i N Q E=>?_
 unfold c140_B0
 cases hx:p[i]? with
 | none =>
  have:i=p.length:=by have:=Ahx.1 hx;omega
  subst this
  simp (contextual:=true) (maxSteps:=2000000) (disch:=omega) [z.rules,E,DD]
 | some d =>
  have u:=(Am hx).1
  have J:=Ap hx
  rw[(Am hx).2]at E
  simp (contextual:=true) (maxSteps:=2000000) (disch:=omega) [Ai,Aj,-Int.not_lt,-Int.not_le,-Nat.not_lt,-Nat.not_le,-List.map_take,z.rules,J,u,Aa]
  repeat' first|with_reducible apply And.intro|intro _
  all_goals first
   | (refine N (i+1) (by omega) (by omega) ?_;grind [DD])
   | grind [DD]
open Go.Lib
structure TreeC where
 states:Int
 hood:List (Int×Int)
 nodes:List (Int×List Int)
def MX (a b:Int×Int):Bool:=decide (a.2<b.2\/(a.2=b.2/\a.1<b.1))
def GW (p:Int×Int):Bool:=decide ((-2<=p.1/\p.1<=2)/\(-2<=p.2/\p.2<=2))
def Lm:Option (Int×Int)->List (Int×Int)->Bool
 | _,[]=>true
 | none,p::r=>GW p&&Lm (some p) r
 | some a,p::r=>GW p&&MX a p&&Lm (some p) r
def BP (l:List (Int×Int)):Bool:=decide (1<=l.length/\l.length<=25)&&Lm none l
theorem Lg:∀(l:List (Int×Int)) (a:Option (Int×Int)),Lm a l=true -> ∀p,p∈l->GW p=true
 | [],_,_,p,u=>by cases u
 | q::r,a,h,p,u=>by
  have z:GW q=true/\Lm (some q) r=true:=by
   cases a with
   | none=>exact(Ahs _ _).mp h
   | some b =>
    have h:(GW q&&MX b q&&Lm (some q) r)=true:=h
    rw[Ahs,Ahs]at h
    exact⟨h.1.1,h.2⟩
  rcases AhO.1 u with rfl|u
  ·exact z.1
  ·exact Lg r _ z.2 p u
def levAt (nodes:List (Int×List Int))(k:Int):Int:=match nodes[k.toNat]? with
 | some n=>n.1
 | none=>0
def Si (t:TreeC)(i:Nat)(lev k:Int):Bool:=decide (¬k<0 /\ ¬(lev=1/\t.states<=k) /\ ¬(1<lev/\((i:Int)<=k \/ ¬levAt t.nodes k=lev-1)))
def Eu (t:TreeC)(i:Nat)(n:Int×List Int):Bool:=decide (1<=n.1/\n.1<=t.hood.length/\(n.2.length:Int)=t.states)&&n.2.all (Si t i n.1)
def nodesOk (t:TreeC):Nat->List (Int×List Int)->Bool
 | _,[]=>true
 | i,n::r=>Eu t i n&&nodesOk t (i+1) r
def AZ (t:TreeC):Bool:=decide (2<=t.states/\t.states<=8)&&(BP t.hood&&(decide (1<=t.nodes.length/\t.nodes.length<=4096)&&(decide (levAt t.nodes (t.nodes.length-1)=t.hood.length)&&nodesOk t 0 t.nodes)))
theorem GX (t:TreeC):∀(l:List (Int×List Int)) (i:Nat),nodesOk t i l=true -> ∀(j:Nat) n,l[j]? = some n->Eu t (i+j) n=true
 | [],_,_,j,n,h=>by simp at h
 | m::r,i,h,j,n,hn=>by
  have h:(Eu t i m&&nodesOk t (i+1) r)=true:=h
  rw[Ahs]at h
  cases j with
  | zero=>simp at hn;subst hn;exact h.1
  | succ j =>
   have:=GX t r (i+1) h.2 j n (by simpa using hn)
   rw[show i+(j+1)=i+1+j from by omega]
   exact this
structure TreeR (t:TreeC):Prop where
 s2:2<=t.states
 s8:t.states<=8
 hood:BP t.hood=true
 n1:1<=t.nodes.length
 n2:t.nodes.length<=4096
 root:levAt t.nodes (t.nodes.length-1)=t.hood.length
 node:∀(j:Nat) n,t.nodes[j]? = some n->Eu t j n=true
variable {t:TreeC}
theorem HD (h:AZ t=true):TreeR t:=by
 unfold AZ at h
 simp only[Ahs,AhC]at h
 obtain⟨⟨a,b⟩,c,⟨d,e⟩,f,g⟩:=h
 exact⟨a,b,c,d,e,f,fun j n u=>by have:=GX t _ 0 g j n u;rwa[Air]at this⟩
theorem BY {l:List (Int×Int)}(h:BP l=true):1<=l.length/\l.length<=25:=by
 unfold BP at h
 simp only[Ahs,AhC]at h
 exact h.1
theorem Ed {l:List (Int×Int)}(h:BP l=true):∀p,p∈l->(-2<=p.1/\p.1<=2)/\(-2<=p.2/\p.2<=2):=fun p u=>by
 unfold BP at h
 rw[Ahs]at h
 have:=Lg _ _ h.2 p u
 unfold GW at this
 exact of_decide_eq_true this
def Gk (nodes:List (Int×List Int))(k s:Int):Int:=match nodes[k.toNat]? with
 | some n=>(n.2[s.toNat]?).getD 0
 | none=>0
def valF (nodes:List (Int×List Int)):Int->List Int->Int
 | k,[]=>k
 | k,s::r=>valF nodes (Gk nodes k s) r
theorem MB (u:List (Int×List Int)):∀(l:List Int) (k s:Int),valF u k (l++[s])=Gk u (valF u k l) s
 | [],_,_=>rfl
 | x::r,k,s=>MB u r (Gk u k x) s
def KJ (t:TreeC)(ins:List Int):Int:=valF t.nodes (t.nodes.length-1) ins
theorem EN (t:TreeC)(l:List Int)(s:Int):KJ t (l++[s])=Gk t.nodes (KJ t l) s:=MB _ _ _ _
def Wo (t:TreeC)(lev:Int)(k:Int):Prop:=∃(j:Nat) (n:Int×List Int),k=j/\t.nodes[j]? = some n/\n.1=lev/\(n.2.length:Int)=t.states
theorem MT (h:TreeR t){z k s:Int}(ha:Wo t z k)(hs:0<=s/\s<t.states):(z=1->0<=Gk t.nodes k s/\Gk t.nodes k s<t.states)/\(1<z->Wo t (z-1) (Gk t.nodes k s))/\1<=z:=by
 obtain⟨j,n,rfl,W,hl,Z⟩:=ha
 have J:=h.node j n W
 unfold Eu at J
 simp only[Ahs,AhC,AhE]at J
 obtain⟨⟨a1,a2,a3⟩,a4⟩:=J
 have N:s.toNat<n.2.length:=by omega
 have e:Gk t.nodes j s=n.2[s.toNat]:=by
  unfold Gk
  rw[show ((j:Int)).toNat=j from rfl,W]
  dsimp only
  rw[Ahr N]
  rfl
 have u:=a4 (n.2[s.toNat]) (List.getElem_mem N)
 rw[<-e]at u
 unfold Si at u
 have u:=of_decide_eq_true u
 refine⟨fun h1=>?_,fun h1=>?_,by omega⟩
 ·have:=u.2.1;omega
 ·have Y:=u.2.2
  have h3:¬(j:Int)<=Gk t.nodes j s:=fun Q=>Y ⟨by omega,.inl Q⟩
  have U:levAt t.nodes (Gk t.nodes j s)=n.1-1:=Aiv fun Q=>Y ⟨by omega,.inr Q⟩
  generalize Gk t.nodes j s=k' at *
  have h0:¬k'<0:=u.1
  obtain⟨i,rfl⟩:=AhK (show 0<=k' by omega)
  have a0:=(Ahq.1 W).1
  have E:i<t.nodes.length:=by omega
  refine⟨i,t.nodes[i],rfl,Ahr E,?_,?_⟩
  ·unfold levAt at U
   rw[show ((i:Int)).toNat=i from rfl,Ahr E]at U
   dsimp only at U
   omega
  ·have:=h.node i _ (Ahr E)
   unfold Eu at this
   simp only[Ahs,AhC]at this
   exact this.1.2.2
theorem MA {t:TreeC}(h:TreeR t):∀(m:Nat) (ins:List Int),ins.length=m->m<t.hood.length->(∀s,s∈ins->0<=s/\s<t.states)->Wo t (t.hood.length-m) (KJ t ins)
 | 0,ins,hl,hm,hs=>by
  have:ins=[]:=AhT hl
  subst this
  have J:=h.n1
  have u:t.nodes.length-1<t.nodes.length:=by omega
  refine⟨t.nodes.length-1,t.nodes[t.nodes.length-1],?_,Ahr u,?_,?_⟩
  ·show ((t.nodes.length:Int)-1)=_
   omega
  ·have:=h.root
   unfold levAt at this
   rw[show ((t.nodes.length:Int)-1).toNat=t.nodes.length-1 from by omega,Ahr u]at this
   dsimp only at this
   rw[this]
   simp
  ·have:=h.node _ _ (Ahr u)
   unfold Eu at this
   simp only[Ahs,AhC]at this
   exact this.1.2.2
 | m+1,ins,hl,hm,hs=>by
  obtain⟨q,c,rfl⟩:∃q c,ins=q++[c]:=⟨ins.dropLast,ins.getLast (by intro e;rw[e]at hl;simp at hl),(List.dropLast_concat_getLast _).symm⟩
  have E:=MA h m q (by simpa using hl) (by omega) fun s z=>hs s (by simp[z])
  rw[EN]
  have:=(MT h E (hs c (by simp))).2.1 (by omega)
  rw[show ((t.hood.length:Int)-((m+1:Nat):Int))=t.hood.length-m-1 from by omega]
  exact this
theorem Acl (h:TreeR t){ins:List Int}(hl:ins.length=t.hood.length)(hs:∀s,s∈ins->0<=s/\s<t.states):0<=KJ t ins/\KJ t ins<t.states:=by
 have J:=(BY h.hood).1
 obtain⟨q,c,rfl⟩:∃q c,ins=q++[c]:=⟨ins.dropLast,ins.getLast (by intro e;rw[e]at hl;simp at hl;omega),(List.dropLast_concat_getLast _).symm⟩
 have z:q.length+1=t.hood.length:=by simpa using hl
 have E:=MA h q.length q rfl (by omega) fun s u=>hs s (by simp[u])
 rw[EN]
 exact(MT h E (hs c (by simp))).1 (by omega)
def Bb (t:TreeC):Bool:=AZ t&&decide (KJ t (List.replicate t.hood.length 0)=0)
def MU (t:TreeC)(p:List Ce)(x y:Int):List Int:=t.hood.map fun o=>DD p (x+o.1) (y+o.2)
def Bv (t:TreeC)(p:List Ce)(x y:Int):Int:=KJ t (MU t p x y)
def Hx (t:TreeC)(p:List Ce):Prop:=∀c,c∈p->0<=c.s/\c.s<t.states
theorem Lb {t:TreeC}(h:TreeR t):∀ {p:List Ce},Hx t p -> ∀x y,0<=DD p x y/\DD p x y<t.states
 | [],_,x,y=>by have:=h.s2;show 0<=(0:Int)/\(0:Int)<t.states;omega
 | c::r,hp,x,y=>by
  have e:DD (c::r) x y=if c.x=x/\c.y=y then c.s else DD r x y:=rfl
  rw[e]
  split
  ·exact hp c (AhR ..)
  ·exact Lb h (fun d u=>hp d (Aij _ u)) x y
variable {x y:Int}
theorem KV (h:TreeR t)(z:Hx t p):∀s,s∈MU t p x y->0<=s/\s<t.states:=fun s u=>by
 obtain⟨o,_,rfl⟩:=AhP.1 u
 exact Lb h z _ _
theorem Gl (t:TreeC)(p:List Ce)(x y:Int):(MU t p x y).length=t.hood.length:=by unfold MU;simp
theorem Fh (h:TreeR t)(u:Hx t p)(x y:Int):0<=Bv t p x y/\Bv t p x y<t.states:=Acl h (Gl t p x y) (KV h u)
theorem Vs (u:Bb t=true)(h:∀o,o∈t.hood->DD p (x+o.1) (y+o.2)=0):Bv t p x y=0:=by
 unfold Bb at u
 rw[Ahs,AhC]at u
 have e:MU t p x y=List.replicate t.hood.length 0:=by
  unfold MU
  rw[List.map_congr_left h,List.map_const']
 unfold Bv
 rw[e]
 exact u.2
theorem DL (u:Bb t=true):TreeR t:=by
 unfold Bb at u
 rw[Ahs]at u
 exact HD u.1
theorem QP (h:¬DD p x y=0):∃c,c∈p/\c.x=x/\c.y=y/\c.s=DD p x y:=by
 induction p with
 | nil=>exact absurd rfl h
 | cons c r E =>
  have e:DD (c::r) x y=if c.x=x/\c.y=y then c.s else DD r x y:=rfl
  rw[e]at h ⊢
  by_cases u:c.x=x/\c.y=y
  ·rw[Ahv u]
   exact⟨c,AhR ..,u.1,u.2,rfl⟩
  ·rw[Aht u]at h ⊢
   obtain⟨d,J,z⟩:=E h
   exact⟨d,Aij _ J,z⟩
theorem HI (z:Bb t=true)(h:¬Bv t p x y=0):∃c o,c∈p/\o∈t.hood/\x=c.x-o.1/\y=c.y-o.2:=by
 have:∃o,o∈t.hood /\ ¬DD p (x+o.1) (y+o.2)=0:=Aiv fun E=>h (Vs z fun o u=>Aiv fun N=>E ⟨o,u,N⟩)
 obtain⟨o,u,J⟩:=this
 obtain⟨c,Q,W,U,_⟩:=QP J
 exact⟨c,o,Q,u,by omega,by omega⟩
def KR (p:List Ce):List ((Int×Int)×Int):=p.map fun c=>((c.x,c.y),c.s)
theorem UR (p:List Ce):(KR p).map Prod.fst=p.map fun c=>(c.x,c.y):=by simp[KR]
theorem Sa (p:List Ce)(x y:Int):(CJ (KR p) (x,y)).getD 0=DD p x y:=by
 induction p with
 | nil=>rfl
 | cons c r u =>
  by_cases h:c.x=x/\c.y=y
  ·simp[KR,CJ,DD,h]
  ·have:¬(c.x,c.y)=(x,y):=by simpa using h
   simp only[KR,AhV,CJ,Aht this,DD,Aht h]
   exact u
variable {q:List Ce}
theorem Vx (h:(q++c::r).Pairwise fun a b=>Bd a b=true):NM (KR q) (c.x,c.y) c.s=KR (q++[c]):=by
 rw[Kl]
 ·simp[KR]
 ·rw[UR]
  intro z
  obtain⟨d,u,E⟩:=AhP.1 z
  have:=(AiE.1 h).2.2 d u c (by simp)
  unfold Bd at this
  grind
theorem ZX:∀ {p q:List Ce},p.Pairwise (fun a b=>Bd a b=true)->q.Pairwise (fun a b=>Bd a b=true)->(∀c,c∈p↔c∈q)->p=q
 | [],[],_,_,_=>rfl
 | [],d::s,_,_,h=>by have:=(h d).2 (AhR ..);cases this
 | c::r,[],_,_,h=>by have:=(h c).1 (AhR ..);cases this
 | c::r,d::s,hp,hq,h=>by
  obtain⟨N,U⟩:=AhU.1 hp
  obtain⟨q1,q2⟩:=AhU.1 hq
  have u:∀a:Ce,¬Bd a a=true:=fun a J=>by unfold Bd at J;simp at J
  have e:c=d:=by
   rcases AhO.1 ((h c).1 (AhR ..)) with e|z
   ·exact e
   ·rcases AhO.1 ((h d).2 (AhR ..)) with e|Q
    ·exact e.symm
    ·exact absurd (Dh (N d Q) (q1 c z)) (u c)
  subst e
  congr 1
  refine ZX U q2 fun x=>⟨fun E=>?_,fun E=>?_⟩
  ·rcases AhO.1 ((h x).1 (Aij _ E)) with rfl|z
   ·exact absurd (N _ E) (u _)
   ·exact z
  ·rcases AhO.1 ((h x).2 (Aij _ E)) with rfl|z
   ·exact absurd (q1 _ E) (u _)
   ·exact z
def DO (t:TreeC)(p:List Ce)(res:List Ce×Int):Prop :=
 (res=([],5) /\ ∃x y,¬Bv t p x y=0/\placed x y=false) \/
 ((∀x y,¬Bv t p x y=0->placed x y=true) /\ ∃q:List Ce,q.Pairwise (fun a b=>Bd a b=true)/\(∀c,c∈q↔c.s=Bv t p c.x c.y /\ ¬c.s=0)/\res=if 5000<q.length then ([],6) else (q,0))
theorem JO {a b:List Ce×Int}(W:DO t p a)(Q:DO t p b):a=b:=by
 rcases W with ⟨rfl,x,y,J,E⟩|⟨J,q,E,U,rfl⟩ <;> rcases Q with ⟨rfl,u,v,N,z⟩|⟨N,r,z,k3,rfl⟩
 ·rfl
 ·rw[N x y J]at E;cases E
 ·rw[J u v N]at z;cases z
 ·rw[ZX E z fun c=>(U c).trans (k3 c).symm]
theorem Qc (h:TreeR t)(W:Hx t p)(hs:DO t p (q,0)):q.Pairwise (fun a b=>Bd a b=true)/\(∀c,c∈q->CC c=true)/\q.length<=5000/\Hx t q:=by
 rcases hs with ⟨e,_⟩|⟨U,r,Q,J,e⟩
 ·cases e
 ·split at e
  ·cases e
  ·rename_i Z
   cases e
   have E:=fun c (u:c∈q)=>Fh h W c.x c.y
   have Y:=h.s8
   refine⟨Q,fun c u=>?_,by omega,fun c u=>?_⟩
   ·have z:=(J c).1 u
    have N:=U c.x c.y (by rw[<-z.1];exact z.2)
    have k3:=E c u
    rw[<-z.1]at k3
    have k4:=z.2
    unfold CC
    rw[N]
    simp only[AiJ,Ahs,AhC]
    omega
   ·have z:=(J c).1 u
    have k3:=E c u
    rw[<-z.1]at k3
    exact k3
open Go.Proofs
def Au (l:List (Int×Int)):LT:=l.map fun p=>[.i .i64 p.1,.i .i64 p.2]
@[simp] theorem Bo (l:List (Int×Int)):(Au l).length=l.length:=by simp[Au]
theorem BZ {l:List (Int×Int)}{c:Int×Int}(h:l[i]? = some c):nth (Au l) i=some [J4 c.1,J4 c.2]:=by
 rw[AL];simp[Au,h]
def EP (p:List (Int×Int)):Nat->Option (Int×Int)
 | 0=>none
 | i+1=>p[i]?
theorem Nm {p:List (Int×Int)}{c:Int×Int}(u:p[i]? = some c):Lm (EP p i) (c::p.drop (i+1))=(GW c&&(match EP p i with|none=>true|some a=>MX a c)&&Lm (EP p (i+1)) (p.drop (i+1))):=by
 have:EP p (i+1)=some c:=u
 rw[this]
 cases EP p i with
 | none=>show (GW c&&Lm (some c) _)=_;simp
 | some a=>show (GW c&&MX a c&&Lm (some c) _)=_;simp
theorem Sk (a b:Int×Int):(0<=HQ a.1 a.2 b.1 b.2)↔MX a b=false:=by
 unfold MX HQ Ef
 grind
theorem MR (c:Int×Int):GW c=(decide (-2<=c.1)&&decide (c.1<=2)&&decide (-2<=c.2)&&decide (c.2<=2)):=by
 unfold GW
 grind
set_option maxHeartbeats 1000000 in
theorem AgM {p:List (Int×Int)}(hv:IsSl v (Au p))(hl:(p.length:Int)<=9223372036854775807)(H:Hp):Gives G 85 [.m v] H (.m (.b (BP p))) H:=by
 have u:=hv.rules
 simp only[Bo]at u
 refine Af rfl rfl rfl rfl rfl ?_
 by_cases h1:1<=p.length/\p.length<=25
 rotate_left
 ·have e:BP p=false:=by unfold BP;rw[AhB h1];rfl
  by_cases E:(p.length:Int)<1
  ·simp (maxSteps:=2000000) (disch:=omega) [u,E,e]
  ·have J:(25:Int)<p.length:=by omega
   simp (maxSteps:=2000000) (disch:=omega) [u,E,J,e]
 have E:¬(p.length:Int)<1:=by omega
 have J:¬(25:Int)<p.length:=by omega
 have hR:BP p=Lm none p:=by unfold BP;rw[AhA h1];rfl
 rw[hR]
 simp (maxSteps:=2000000) (disch:=omega) [u,E,J]
 refine(?key:∀(i:Nat) (B:LE),i<=p.length->Lm none p=Lm (EP p i) (p.drop i)->Run G c85_B0 (S85_0 (.m v) (.m v) (J0 p.length) (J0 i) B []) _) 0 [] (Ahy _) rfl
 refine Bj (fun i:Nat=>p.length-i) fun i Z B hi Y=>?_
 unfold c85_B0
 cases hx:p[i]? with
 | none =>
  have:i=p.length:=by have:=Ahx.1 hx;omega
  subst this
  have:Lm (EP p p.length) []=true:=by cases EP p p.length <;> rfl
  simp[Y,this]
 | some c =>
  have Q:=(Am hx).1
  have hn:=BZ hx
  rw[(Am hx).2,Nm hx,MR]at Y
  cases i with
  | zero =>
   simp (contextual:=true) (maxSteps:=2000000) (disch:=omega) [Ai,Aj,Ad,-Int.not_lt,-Int.not_le,-Nat.not_lt,-Nat.not_le,-List.map_take,u,hn,Q,Aa]
   repeat' first|with_reducible apply And.intro|intro _
   all_goals first
    | (refine Z 1 (by omega) _ (by omega) ?_;grind [EP])
    | grind [EP]
  | succ j =>
   obtain⟨U,z⟩:∃U,p[j]? = some U:=⟨p[j],Ahr (by omega)⟩
   have W:=BZ z
   have e3:(j:Int)+1<p.length:=by omega
   have e4:(j:Int)<p.length:=by omega
   have e6:(0:Int)<=j+1:=by omega
   have e7:((j:Int)+1).toNat=j+1:=by omega
   have N:EP p (j+1)=some U:=z
   simp only[N]at Y
   simp (contextual:=true) (maxSteps:=2000000) (disch:=omega) [Ai,Aj,Ad,-Int.not_lt,-Int.not_le,-Nat.not_lt,-Nat.not_le,-List.map_take,u,hn,W,e3,e7,cl (UU _ _ _ _ _),Aa,Sk]
   repeat' first|with_reducible apply And.intro|intro _
   all_goals first
    | (refine Z (j+2) (by omega) _ (by omega) ?_;grind)
    | grind
abbrev Nd:=Int×List Int
theorem Cx {y:I}(h:IsSl y es):BL (.m y)=true:=by
 rcases h with rfl|⟨rfl,_⟩ <;> rfl
def dEn:List I->Int
 | [.i _ x]=>x
 | _=>0
def dIn:I->List Int
 | .sl es=>es.map dEn
 | _=>[]
def dNd:List I->Int×List Int
 | [.i _ x,z]=>(x,dIn z)
 | _=>(0,[])
def Rg (es:LT):Prop:=∀e,e∈es -> ∃(x:Int) (z:I),e=[.i .i64 x,z]/\IsSl z (BR (dIn z))/\(dIn z).length<=9223372036854775807 /\ ∀k,k∈dIn z -> -9223372036854775808<=k/\k<=9223372036854775807
structure TreeV (t:TreeC)(h n:I)(es:LT):Prop where
 hd:IsSl h (Au t.hood)
 nd:IsSl n es
 ok:Rg es
 eq:t.nodes=es.map dNd
 hl:t.hood.length<=9223372036854775807
 nl:es.length<=9223372036854775807
variable {h:I}
theorem CN {n:I}(u:TreeV t h n es):t.nodes.length=es.length:=by rw[u.eq,AhD]
variable {nd:Int×List Int}
theorem Cg {n:I}(E:TreeV t h n es){j:Nat}(u:t.nodes[j]? = some nd):∃z,nth es j=some [J4 nd.1,z]/\IsSl z (BR nd.2)/\nd.2.length<=9223372036854775807 /\ ∀k,k∈nd.2 -> -9223372036854775808<=k/\k<=9223372036854775807:=by
 rw[E.eq,AhN]at u
 cases he:es[j]? with
 | none=>rw[he]at u;cases u
 | some e =>
  rw[he]at u
  cases u
  obtain⟨x,z,rfl,Q,J,N⟩:=E.ok e (Ahw he)
  exact⟨z,by rw[AL];exact he,Q,J,N⟩
theorem Hh (t:TreeC)(i:Nat)(n:Int×List Int)(r:List (Int×List Int)):nodesOk t i (n::r)=(Eu t i n&&nodesOk t (i+1) r):=rfl
theorem HK {u:List (Int×List Int)}{j:Nat}(h:u[j]? = some nd):levAt u (j:Int)=nd.1:=by
 unfold levAt
 rw[show ((j:Int)).toNat=j from rfl,h]
theorem PZ {l m:List α}{x y:α}(h:l.take i=m.take i)(u:l[i]? = some x)(z:m[i]? = some y)(e:x=y):l.take (i+1)=m.take (i+1):=by
 rw[As u,As z,h,e]
def YY (t:TreeC):Bool:=decide (t.hood.length<=40)&&(decide (t.nodes.length<=400)&&t.nodes.all fun n=>decide (n.2.length<=20))
set_option maxHeartbeats 1000000 in
theorem AgU {n:I}(U:TreeV t h n es)(H:Hp):Gives G 9 [.m (.ag [J4 t.states,h,n])] H (.m (.b (YY t))) H:=by
 have u:=U.nd.rules
 have Z:=CN U
 have E:=U.hd.rules
 simp only[Bo]at E
 have hl1:=U.hl
 have hl2:=U.nl
 have Y:YY t=(decide (t.hood.length<=40)&&(decide (t.nodes.length<=400)&&t.nodes.all fun n=>decide (n.2.length<=20))):=rfl
 refine Af rfl rfl rfl rfl rfl ?_
 by_cases h1:(40:Int)<t.hood.length
 ·have e:YY t=false:=by rw[Y,AhB (by omega)];rfl
  simp (maxSteps:=2000000) (disch:=omega) [E,h1,e]
 by_cases h2:(400:Int)<es.length
 ·have e:YY t=false:=by rw[Y,AhB (by omega:¬t.nodes.length<=400)];simp
  simp (maxSteps:=2000000) (disch:=omega) [u,E,h1,h2,e]
 have e:YY t=t.nodes.all fun n=>decide (n.2.length<=20):=by rw[Y,AhA (by omega),AhA (by omega:t.nodes.length<=400)];simp
 rw[e]
 simp (maxSteps:=2000000) (disch:=omega) [u,E,h1,h2]
 refine(?key:∀(i:Nat) (B:LE),i<=es.length->getB B 1=some [J0 t.states,.m h,.m n]->(t.nodes.all fun n=>decide (n.2.length<=20))=((t.nodes.drop i).all fun n=>decide (n.2.length<=20))->Run G c9_B0 (S9_0 (.fa 1 0) (J0 es.length) (J0 (i:Int)) B []) _) 0 _ (Ahy _) rfl rfl
 refine Bj (fun i:Nat=>es.length-i) fun i ih B hi hB J=>?_
 unfold c9_B0
 cases hx:t.nodes[i]? with
 | none =>
  have:i=es.length:=by have:=Ahx.1 hx;omega
  subst this
  rw[<-Z,Aik]at J
  have J:(t.nodes.all fun n=>decide (n.2.length<=20))=true:=J
  simp (maxSteps:=2000000) (disch:=omega) [J]
 | some nd =>
  have hlt:=(Am hx).1
  have hlt1:i<es.length:=by omega
  have N:(i:Int)<es.length:=by omega
  obtain⟨z,hz,a0,hzl,_⟩:=Cg U hx
  have Q:=a0.rules
  simp only[Bp]at Q
  have wi:=J1 i (by omega)
  rw[(Am hx).2,List.all_cons]at J
  by_cases W:(20:Int)<nd.2.length
  ·have e:(t.nodes.all fun n=>decide (n.2.length<=20))=false:=by rw[J,AhB (by omega:¬nd.2.length<=20)];rfl
   simp (maxSteps:=2000000) (disch:=omega) [u,N,hz,Q,hB,W,e]
  ·rw[AhA (by omega:nd.2.length<=20),AiJ]at J
   have k:=ih (i+1) (by omega) B (by omega) hB J
   simp (maxSteps:=2000000) (disch:=omega) [u,N,hz,Q,hB,W,wi,-Int.natCast_add]
   exact k
theorem VR (h:Fits Go.Proofs.Tryz.prog B (n+2) 64 l):∃x:Int×Int,l=[J4 x.1,J4 x.2]:=by
 unfold Fits at h
 rw[Go.Proofs.Tryz.underlying64]at h
 simp only[Hb]at h
 obtain⟨Q,U,rfl,E,J,N,rfl,z,rfl⟩:=h
 obtain⟨u,rfl,_⟩:=BA E
 obtain⟨v,rfl,_⟩:=BA z
 exact⟨(u,v),rfl⟩
theorem Sf (h:∀x,x∈es -> ∃d:Int×Int,x=[J4 d.1,J4 d.2]):∃p,es=Au p:=by
 induction es with
 | nil=>exact⟨[],rfl⟩
 | cons x r u =>
  obtain⟨d,rfl⟩:=h x (by simp)
  obtain⟨p,rfl⟩:=u fun x z=>h x (by simp[z])
  exact⟨d::p,rfl⟩
theorem Wh:∀ {es:LT},(∀x,x∈es -> ∃y:Int,x=[J4 y])->es=BR (es.map dEn)
 | [],_=>rfl
 | e::r,h=>by
  obtain⟨y,rfl⟩:=h e (by simp)
  have:=Wh (es:=r) fun x u=>h x (by simp[u])
  show _::r=[I.i .i64 (dEn [I.i .i64 y])]::BR (r.map dEn)
  rw[<-this]
  rfl
theorem YV (h:Fits Go.Proofs.Tryz.prog B (n+2) 65 l):∃z:I,l=[z]/\IsSl z (BR (dIn z))/\(dIn z).length<=B /\ ∀k,k∈dIn z -> -9223372036854775808<=k/\k<=9223372036854775807:=by
 unfold Fits at h
 rw[Go.Proofs.Tryz.underlying65]at h
 simp only at h
 rcases h with rfl|⟨es,rfl,J,u⟩
 ·exact⟨_,rfl,AS,by simp[dIn],by simp[dIn]⟩
 ·refine⟨_,rfl,?_,by simpa[dIn]using J,fun k E=>?_⟩
  ·show IsSl (.sl es) (BR (es.map dEn))
   rw[<-Wh fun x U=>let ⟨y,W,_⟩:=BA (u x U);⟨y,W⟩]
   exact AX _
  ·have E:k∈es.map dEn:=E
   obtain⟨e,N,rfl⟩:=AhP.1 E
   obtain⟨y,rfl,Q⟩:=BA (u e N)
   exact Q
theorem YU (h:Fits Go.Proofs.Tryz.prog B (n+3) 67 l):∃(x:Int) (z:I),l=[J4 x,z]/\IsSl z (BR (dIn z))/\(dIn z).length<=B /\ ∀k,k∈dIn z -> -9223372036854775808<=k/\k<=9223372036854775807:=by
 unfold Fits at h
 rw[Go.Proofs.Tryz.underlying67]at h
 simp only[Hb]at h
 obtain⟨Z,y1,rfl,J,W,Y,rfl,E,rfl⟩:=h
 obtain⟨u,rfl,_⟩:=BA J
 obtain⟨z,rfl,U,N,Q⟩:=YV E
 exact⟨u,z,rfl,U,N,Q⟩
theorem AdH:Cl Go.Proofs.Tryz.prog 25=some true:=by unfold Cl;rw[Go.Proofs.Tryz.underlying25];rfl
theorem Zi (hB:B<=9223372036854775807)(h:DE Go.Proofs.Tryz.prog B (n+5) (25::ts) us):
  ∃(t:TreeC) (Q nn:I) (es:LT) (r:List V),us=.m (.ag [J4 t.states,Q,nn])::r/\TreeV t Q nn es/\DE Go.Proofs.Tryz.prog B (n+5) ts r:=by
 obtain⟨l,r,rfl,U,h'⟩:=FI h
 unfold Fits at U
 rw[Go.Proofs.Tryz.underlying25]at U
 simp only[Hb]at U
 obtain⟨x1,y1,rfl,k1,x2,y2,rfl,N,x3,y3,rfl,k3,rfl⟩:=U
 obtain⟨u,rfl,_⟩:=BA k1
 unfold Fits at N k3
 rw[Go.Proofs.Tryz.underlying22]at N
 rw[Go.Proofs.Tryz.underlying23]at k3
 simp only at N k3
 have Q:∃(v:I) (p:List (Int×Int)),x2=[v]/\IsSl v (Au p)/\p.length<=B:=by
  rcases N with rfl|⟨es,rfl,J,E⟩
  ·exact⟨_,[],rfl,AS,by simp⟩
  ·obtain⟨p,rfl⟩:=Sf fun x hx=>VR (E x hx)
   exact⟨_,p,rfl,AX _,by simpa using J⟩
 have hn:∃(v:I) (es:LT),x3=[v]/\IsSl v es/\Rg es/\es.length<=B:=by
  rcases k3 with rfl|⟨es,rfl,J,E⟩
  ·exact⟨_,[],rfl,AS,fun e Z=>(by cases Z),by simp⟩
  ·refine⟨_,es,rfl,AX _,fun e Z=>?_,J⟩
   obtain⟨x,z,Y,h2,h3,W⟩:=YU (E e Z)
   exact⟨x,z,Y,h2,by omega,W⟩
 obtain⟨hv,p,rfl,Y,h2⟩:=Q
 obtain⟨nv,es,rfl,h3,W,h5⟩:=hn
 rw[Um AdH]
 exact⟨⟨u,p,es.map dNd⟩,hv,nv,es,r,rfl,⟨Y,h3,W,rfl,by show p.length<=_;omega,by omega⟩,h'⟩
end Go.Mx.Tryz
namespace Go.Mx.Tryz
@[simp] theorem rx_ldb (M:Mem)(ag:Bool)(u d off:Nat):readX M (.ldb ag u) [.fa d off]=(readA M u (.fa d off)).bind fun cs=>DF ag cs:=rfl
@[simp] theorem px_slc_r (u:Nat)(z hi mx:Bool)(r ver e st len:Nat)(lim:Bool)(vs:List V):Ar (.slc u z hi mx) (.sl r ver e st len lim::vs)=gd (eqB false (Nat.beq u 0)) (gd (Nat.beq u e) ((KH len z hi mx vs).bind fun p=>some (.sl r ver e (st+p.1) (p.2-p.1) (mx||(lim&&Nat.beq p.2 len))))):=rfl
@[simp] theorem allM_sl (a b c d e:Nat)(f:Bool)(r:List V):BF (.sl a b c d e f::r)=none:=rfl
@[simp] theorem eqB_ff:eqB false false=true:=rfl
variable {α:Type} {i:Nat}
theorem AO {l:List α}{x:α}(h:nth l i=some x):i<l.length:=by
 rw[AL]at h
 exact(Ahq.1 h).1
theorem Agx (l:List α)(i j:Nat)(x:α)(h:i<l.length):nth (l.set i x) j=if i=j then some x else nth l j:=by
 rw[AL,AL,List.getElem?_set]
 by_cases e:i=j
 ·subst e;simp[h]
 ·simp[e]
theorem AF {l:List α}{j:Nat}{x:α}(h:i≠j):nth (l.set i x) j=nth l j:=by
 rw[AL,AL,List.getElem?_set,Aht h]
theorem Bc {l:List α}{x:α}(h:i<l.length):nth (l.set i x) i=some x:=by
 rw[Agx _ _ _ _ h,Ahv rfl]
theorem BH (l m:List α)(j:Nat)(h:j<l.length):nth (l++m) j=nth l j:=by
 rw[AL,AL,AhM h]
theorem CQ (l m:List α)(j:Nat):nth (l++m) (l.length+j)=nth m j:=by
 rw[AL,AL,AhZ (by omega)]
 congr 1
 omega
theorem Cu {M:Mem}{ty u bytes r base:Nat}{es xs:L0}(h:nth M.H r=some (.cs ty u es base false))(N:xs≠[])(E:(es.length+xs.length)*bytes<=140737488355328)(z:(xs.all fun e=>Nat.beq e.length u&&e.all BL)=true):
  Et M ty u bytes (.sl r es.length u 0 es.length false) xs=some (.sl r (es.length+xs.length) u 0 (es.length+xs.length) false,{ M with H:=M.H.set r (.cs ty u (es++xs) base false) }):=by
 obtain⟨x,t,rfl⟩:=AiV N
 have e:=AB M.H r (.cs ty u (es++x::t) base false) (AO h)
 have J:Nat.ble ((es.length+(x::t).length)*bytes) 140737488355328=true:=by rw[Bg];exact AhA E
 show Option.bind (nth M.H r) _=_
 rw[h]
 show gd (!false&&Nat.beq ty ty&&Nat.beq u u&&Nat.beq u u&&Nat.beq 0 0&&Nat.beq es.length es.length&&Nat.beq es.length es.length&&Nat.ble ((es.length+(x::t).length)*bytes) 140737488355328&&((x::t).all fun e=>Nat.beq e.length u&&e.all BL)) _=_
 simp only[Nat.beq_refl,J,z,Bool.and_self,Bool.not_false,gd]
 rw[e]
 rfl
@[reducible] def strR (s:List Nat)(b:Nat):Row:=.cs 9 1 [[.m (.s s)]] b false
@[reducible] def zerR (b:Nat):Row:=.cs 3 1 [[.m (.i .i64 0)]] b false
def Age (ws:List (List Nat)):L0:=ws.map fun w=>[.m (.s w)]
@[simp] theorem Agd (u:List (List Nat)):(Age u).length=u.length:=by simp[Age]
variable {n:Nat}
theorem Al {s:St}{x:V}(h:Az x=true):ED s (.v n) x=some { s with E:=CR s.E n x }:=by
 cases x with
 | fa d o=>cases h
 | _=>first|rfl|simp
open Go.Sort Go.Lib
instance:Inhabited Ce:=⟨⟨0,0,0⟩⟩
def QX:Rw Ce 3 true where
 enc c:=c.i.map .m
 val c:=.m (.ag c.i)
 len c:=rfl
 pos:=by decide
 one c:=rfl
 ld c:=by simp[Ce.i]
 st c:=by simp[Ce.i]
def ceCmp (A:Hp):Cmp QX A 74 Bd where
 ok _:=True
 ext _ _ _:=Aii
 cmp a b:=HQ a.x a.y b.x b.y
 neg a b:=by
  unfold HQ Bd
  grind [Ef]
 run a b row C _:=Vf a b _
theorem QE:SWO Bd where
 irrefl x:=by simp[Bd]
 trans x y z h1 h2:=by simp only[Bd,AhC]at *;omega
 ntrans x y z h1 h2:=by simp only[Bd,decide_eq_false_iff_not]at *;omega
open Go.Proofs
def Np (c:Ce):Option Int:=if placed c.x c.y=false then some 5 else if c.s<0\/8<=c.s then some 10 else none
def bad:List Ce->Option Int
 | []=>none
 | c::r=>match Np c with
  | some e=>some e
  | none=>bad r
def liv (p:List Ce):List Ce:=p.filter fun c=>decide (0<c.s)
def AE (p:List Ce):L0:=p.map QX.enc
@[simp] theorem Dq (p:List Ce):(AE p).length=p.length:=by simp[AE]
variable {p:List Ce}
theorem CO {c:Ce}(h:p[i]? = some c):nth (AE p) i=some [J0 c.x,J0 c.y,J0 c.s]:=by
 rw[AL]
 simp[AE,h,QX,Ce.i]
def zP (p:List Ce):I:=if p=[] then .nl 4 else .sl (Ae p)
theorem Ch (p:List Ce):IsSl (zP p) (Ae p):=by
 unfold zP
 split
 ·rename_i h;subst h;exact AS
 ·exact AX _
def SA (f:List Ce)(o:V)(H:Hp):Prop:=(f=[]/\o=.m (.nl 4)/\H=[])\/(f≠[]/\o=.sl 0 f.length 3 0 f.length false/\H=[.cs 56 3 (AE f) 0 false])
variable {f:List Ce}
theorem Cb {o:V}{H:Hp}(h:SA f o H)(hl:f.length<=1000000)(c:Ce):∃z E,(∀B,Et ⟨B,H⟩ 56 3 24 o [[J0 c.x,J0 c.y,J0 c.s]]=some (z,⟨B,E⟩))/\Az z=true/\SA (f++[c]) z E:=by
 rcases h with ⟨rfl,rfl,rfl⟩|⟨J,rfl,rfl⟩
 ·exact⟨_,_,fun B=>rfl,rfl,.inr ⟨by simp,rfl,rfl⟩⟩
 ·have u:=fun B=>Cu (M:=⟨B,[.cs 56 3 (AE f) 0 false]⟩) (r:=0) (bytes:=24) (xs:=[[J0 c.x,J0 c.y,J0 c.s]]) rfl (by simp) (by simp;omega) rfl
  simp only[Dq,Aib,Aic,Air,List.set_cons_zero]at u
  have e:AE f++[[J0 c.x,J0 c.y,J0 c.s]]=AE (f++[c]):=by simp[AE,QX,Ce.i]
  rw[e]at u
  exact⟨_,_,u,rfl,.inr ⟨by simp,by simp,rfl⟩⟩
def tw:List Ce->Bool
 | []=>false
 | [_]=>false
 | a::b::r=>decide (a.x=b.x/\a.y=b.y)||tw (b::r)
def Aeh (q:List Ce):V:=if tw q=true then .tu [.m (.nl 4),.m (.i .i64 8)] else if 5000<q.length then .tu [.m (.nl 4),.m (.i .i64 6)] else .tu [.m (zP q),.m (.i .i64 0)]
def Asc (q:List Ce):Prop:=∀(i j:Nat) (a b:Ce),i<j->q[i]? = some a->q[j]? = some b->Bd b a=false
theorem Ye (H:Hp):Gives G 73 [.m (.nl 4),.m (.fn 74 [])] H (.tu []) H:=⟨40,by kernel_rfl⟩
theorem Ol {r b:Nat}{X A:Hp}{q:List Ce}(J:q.length=n)(u:b<=n)(k:Nat):view (k+2) (.cs 56 3 (AE q) b false::X) (.sl 0 n 3 0 n false)=some (.sl (Ae q)):=by
 have e:elems (.cs 56 3 (AE q) b false::X) (.sl 0 n 3 0 n false)=some (AE q):=by
  show gd (Nat.ble b n&&Nat.beq 3 3) (some (((AE q).drop 0).take n))=_
  rw[Bg,AhA u,AiA,AhJ (by simp;omega)]
  rfl
 show Option.bind (elems _ (.sl 0 n 3 0 n false)) _=_
 rw[e]
 show Option.bind (Ah _ (AE q)) _=_
 have E:∀(H:Hp) (m:List Ce),Ah (fun e=>Ah (view (k+1) H) e) (AE m)=some (Ae m):=by
  intro H m
  induction m with
  | nil=>rfl
  | cons x t z =>
   show Option.bind (some [I.i .i64 x.x,J4 x.y,J4 x.s]) _=_
   simp only[Ahz]
   show Option.bind (Ah _ (AE t)) _=_
   rw[z]
   rfl
 rw[E]
 rfl
variable {d':Array Ce}
theorem JV (h:PermIn 0 f.length f.toArray d'):d'.toList.Perm f/\d'.size=f.length:=by
 have u:d'.size=f.length:=by rw[h.1];simp
 refine⟨?_,u⟩
 have z:=h.2.2
 have J:(d'.extract 0 f.length)=d':=by rw[<-u];simp
 have E:(f.toArray.extract 0 f.length)=f.toArray:=by
  have:f.length=f.toArray.size:=by simp
  rw[this];simp
 rw[J,E]at z
 simpa using z
theorem Aap (hs:d'.size=n)(h:SortedIn Bd 0 n d'):Asc d'.toList:=fun i j a b u Q J=>by
 obtain⟨U,rfl⟩:=Ahq.1 Q
 obtain⟨N,rfl⟩:=Ahq.1 J
 have E:i<d'.size:=by simpa using U
 have z:j<d'.size:=by simpa using N
 have:=h i j (Ahy _) u (by omega)
 rw[getElem!_pos d' j z,getElem!_pos d' i E]at this
 simpa using this
theorem KN (es:L0)(ix:Nat):CZ 3 es ix 0 3=(nth es ix).bind fun e=>Dx 3 e:=rfl
set_option maxHeartbeats 2000000 in
theorem Aal {v:I}(hv:IsSl v (Ae p))(hl:p.length<=1000000)(H:Hp):
  (∃e,bad p=some e/\Gives G 39 [.m v] H (.tu [.m (.nl 4),J0 e]) H)\/(bad p=none /\ ∃q,q.Perm (liv p)/\Asc q/\Gives G 39 [.m v] H (Aeh q) H):=by
 have hr:=hv.rules
 have key:∃x H',Gives G 39 [.m v] H x H'/\(H'=H/\((∃e,bad p=some e/\x=.tu [.m (.nl 4),J0 e])\/(bad p=none /\ ∃q,q.Perm (liv p)/\Asc q/\x=Aeh q))):=by
  refine AJ ?_
  refine Cs rfl rfl rfl rfl rfl ?_
  simp (maxSteps:=2000000) (disch:=omega) [hr]
  refine(?key:∀(i:Nat) (o:V) (B:LE) (H1:Hp),i<=p.length->SA (liv (p.take i)) o H1->bad (p.take i)=none->bad p=bad (p.drop i)->Run G c39_B0 (S39_0 o (.m v) (J0 p.length) (J0 (i:Int)) B H1) _) 0 (.m (.nl 4)) [] [] (Ahy _) (.inl ⟨rfl,rfl,rfl⟩) rfl rfl
  refine Bj (fun i:Nat=>p.length-i) fun i ih o B H1 hi ho hbt N=>?_
  have hnf:Az o=true:=by
   rcases ho with ⟨_,rfl,_⟩|⟨_,rfl,_⟩ <;> rfl
  have hfl:(liv (p.take i)).length<=i:=AiF (List.length_filter_le _ _) (by rw[AhH];omega)
  unfold c39_B0
  cases hx:p[i]? with
  | some c =>
   have hlt:=(Am hx).1
   have u:(i:Int)<p.length:=by omega
   have hn:=Ap hx
   have wi:=J2 ((i:Int)+1) (by omega)
   have g1:=fun H=>AdE c H
   have Y:=fun H=>HF c.x c.y H
   have e1:bad (c::p.drop (i+1))=match Np c with|some e=>some e|none=>bad (p.drop (i+1)):=rfl
   rw[(Am hx).2,e1]at N
   have htk:p.take (i+1)=p.take i++[c]:=As hx
   by_cases hp:placed c.x c.y=true
   ·rw[hp]at Y
    by_cases W:c.s<0
    ·have E:Np c=some 10:=by unfold Np;rw[Aht (by rw[hp];simp),Ahv (.inl W)]
     rw[E]at N
     simp (maxSteps:=2000000) (disch:=omega) [Ab,hr,u,hn,cl (g1 _),cl (Y _),W,N]
    by_cases Z:8<=c.s
    ·have E:Np c=some 10:=by unfold Np;rw[Aht (by rw[hp];simp),Ahv (.inr Z)]
     rw[E]at N
     simp (maxSteps:=2000000) (disch:=omega) [Ab,hr,u,hn,cl (g1 _),cl (Y _),W,Z,N]
    have E:Np c=none:=by unfold Np;rw[Aht (by rw[hp];simp),Aht (by omega)]
    rw[E]at N
    replace N:bad p=bad (p.drop (i+1)):=N
    have hbt2:bad (p.take (i+1))=none:=by
     rw[htk]
     have:∀l:List Ce,bad l=none->bad (l++[c])=none:=fun l=>by
      induction l with
      | nil=>intro _;show (match Np c with|some e=>some e|none=>none)=none;rw[E]
      | cons d r ih =>
       intro h
       have f1:bad (d::r)=match Np d with|some e=>some e|none=>bad r:=rfl
       have f2:bad (d::(r++[c]))=match Np d with|some e=>some e|none=>bad (r++[c]):=rfl
       rw[Aiq,f2]
       rw[f1]at h
       cases hd:Np d with
       | some e=>rw[hd]at h;cases h
       | none=>rw[hd]at h;exact ih h
     exact this _ hbt
    by_cases a2:0<c.s
    ·have hlv:liv (p.take (i+1))=liv (p.take i)++[c]:=by
      rw[htk]
      unfold liv
      rw[List.filter_append]
      simp[a2]
     obtain⟨o1,H2,ha,hn1,ho1⟩:=Cb ho (by omega) c
     rw[<-hlv]at ho1
     simp (maxSteps:=2000000) (disch:=omega) [Ab,hr,u,hn,cl (g1 _),cl (Y _),W,Z,a2,ha,Al hn1,wi]
     exact ih (i+1) (by omega) _ _ _ (by omega) ho1 hbt2 N
    ·have hlv:liv (p.take (i+1))=liv (p.take i):=by
      rw[htk]
      unfold liv
      rw[List.filter_append]
      simp[a2]
     rw[<-hlv]at ho
     simp (maxSteps:=2000000) (disch:=omega) [Ab,hr,u,hn,cl (g1 _),cl (Y _),W,Z,a2,wi]
     exact ih (i+1) (by omega) _ _ _ (by omega) ho hbt2 N
   ·rw[Bool.not_eq_true]at hp
    rw[hp]at Y
    have E:Np c=some 5:=by unfold Np;rw[Ahv hp]
    rw[E]at N
    simp (maxSteps:=2000000) (disch:=omega) [Ab,hr,u,hn,cl (g1 _),cl (Y _),N]
  | none =>
   have:i=p.length:=by have:=Ahx.1 hx;omega
   subst this
   have a1:bad p=none:=by rw[N,Aik];rfl
   rw[AhS]at ho
   rcases ho with ⟨hf,rfl,rfl⟩|⟨hf,rfl,rfl⟩
   ·have gs:=fun H=>Ye H
    simp (maxSteps:=2000000) (disch:=omega) [cl (gs _),a1]
    unfold c39_B1
    simp (maxSteps:=2000000) (disch:=omega) []
    exact⟨[],by rw[hf],fun i j a b _ h=>by simp at h,rfl⟩
   ·generalize hfe:liv p=f at *
    clear ih hx
    have hfl2:f.length<=1000000:=by rw[<-hfe];exact AiF (List.length_filter_le _ _) (by omega)
    simp (maxSteps:=2000000) (disch:=omega) []
    rw[Ao]
    have hrow:Row.cs 56 3 (AE f) 0 false=.cs 56 3 (Bl QX f.toArray) 0 false:=by simp[Bl,AE]
    rw[hrow]
    refine UE (A:=[]) (ceCmp []) QE (n:=f.length) (by omega) [] Aii f.toArray 0 (by simp) (Ahy _) _ fun d' b1 X hp hso hb1=>?_
    obtain⟨J,hsz⟩:=JV hp
    have U:=Aap hsz hso
    have hrow2:Bl QX d'=AE d'.toList:=rfl
    have hql:d'.toList.length=f.length:=by simpa using hsz
    rw[hrow2]
    generalize d'.toList=q at *
    have z:Aeh q=if tw q=true then .tu [.m (.nl 4),J0 8] else if 5000<q.length then .tu [.m (.nl 4),J0 6] else .tu [.m (zP q),J0 0]:=rfl
    have hq0:q≠[]:=fun e=>by subst e;simp at hql;exact hf (AhT hql.symm)
    obtain⟨a0,r0,hqe⟩:=AiV hq0
    simp (maxSteps:=2000000) (disch:=omega) []
    refine(?key2:∀(j:Nat) (B:LE),1<=j->j<=q.length->tw q=tw (q.drop (j-1))->Run G c39_B1 (S39_1 (.sl 0 f.length 3 0 f.length false) (J0 (j:Int)) B (.cs 56 3 (AE q) b1 false::X)) _) 1 _ (Ahu _) (by have:=AiX.2 hq0;omega) rfl
    refine Bj (fun j:Nat=>q.length-j) fun j ih B h1j hj Q=>?_
    unfold c39_B1
    have wj:=J2 ((j:Int)+1) (by omega)
    have wj1:=J2 ((j:Int)-1) (by omega)
    cases hx:q[j]? with
    | some c =>
     have hlt:=(Am hx).1
     obtain⟨a,ha⟩:∃a,q[j-1]? = some a:=⟨q[j-1]'(by omega),Ahr _⟩
     have u:(j:Int)<f.length:=by omega
     have hltn:j<f.length:=by omega
     have hltm:(j:Int)-1<f.length:=by omega
     have h0m:(0:Int)<=(j:Int)-1:=by omega
     have htn:((j:Int)-1).toNat=j-1:=by omega
     have hn:=CO hx
     have hna:=CO ha
     have e0:q.drop (j-1)=a::c::q.drop (j+1):=by
      have:=(Am ha).2
      rw[this,show j-1+1=j by omega,(Am hx).2]
     have e1:tw (a::c::q.drop (j+1))=(decide (a.x=c.x/\a.y=c.y)||tw (c::q.drop (j+1))):=rfl
     rw[e0,e1]at Q
     have g1:=fun H=>AdE a H
     have Y:=fun H=>AdE c H
     by_cases a3:a.x=c.x/\a.y=c.y
     ·rw[AhA a3,Bool.true_or]at Q
      rw[Q,Ahv rfl]at z
      have heq1:(decide (a.x=c.x)&&decide (a.y=c.y))=true:=by simpa using a3
      simp (maxSteps:=2000000) (disch:=omega) [Ab,u,htn,wj1,hb1,KN,hn,hna,cl (g1 _),cl (Y _),heq1,a1]
      exact⟨q,J,U,z.symm⟩
     ·rw[AhB a3,Bool.false_or]at Q
      have heq2:(decide (a.x=c.x)&&decide (a.y=c.y))=false:=by
       rw[Bool.eq_false_iff]
       simpa using a3
      simp (maxSteps:=2000000) (disch:=omega) [Ab,u,htn,wj1,hb1,KN,hn,hna,cl (g1 _),cl (Y _),heq2,wj]
      exact ih (j+1) (by omega) _ (by omega) (by omega) (by rw[Q,show j+1-1=j by omega,(Am hx).2])
    | none =>
     have:j=q.length:=by have:=Ahx.1 hx;omega
     have u:¬(j:Int)<f.length:=by omega
     have htw0:tw q=false:=by
      rw[Q]
      have:(q.drop (j-1)).length=1:=by rw[Aie];omega
      match hm:q.drop (j-1),this with
      | [x],_=>rfl
     rw[htw0,Aht (by simp)]at z
     by_cases h5:5000<q.length
     ·have h5':(5000:Int)<f.length:=by omega
      rw[Ahv h5]at z
      simp (maxSteps:=2000000) (disch:=omega) [u,h5',a1]
      exact⟨q,J,U,z.symm⟩
     ·have h5':¬(5000:Int)<f.length:=by omega
      rw[Aht h5]at z
      have hv:=Ol (r:=0) (X:=X) (A:=[]) hql hb1 18
      simp (maxSteps:=2000000) (disch:=omega) [u,h5',a1,hv]
      refine⟨q,J,U,?_⟩
      rw[z]
      unfold zP
      rw[Aht hq0]
 obtain⟨x,H',h1,rfl,h2⟩:=key
 rcases h2 with ⟨e,h3,rfl⟩|⟨h3,q,h4,h5,rfl⟩
 ·exact .inl ⟨e,h3,h1⟩
 ·exact .inr ⟨h3,q,h4,h5,h1⟩
end Go.Mx.Tryz
namespace Go.Mx.Tryz
open Go.Lib
variable {q:List Ce}
theorem Up {H:Hp}{r b:Nat}(h:nth H r=some (.cs 56 3 (AE q) b false))(u:b<=q.length)(k:Nat):view (k+2) H (.sl r q.length 3 0 q.length false)=some (.sl (Ae q)):=by
 have e:elems H (.sl r q.length 3 0 q.length false)=some (AE q):=by
  show Option.bind (nth H r) _=_
  rw[h]
  show gd (Nat.ble b q.length&&Nat.beq 3 3) (some (((AE q).drop 0).take q.length))=_
  rw[Bg,AhA u,AiA,AhJ (by simp)]
  rfl
 show Option.bind (elems H (.sl r q.length 3 0 q.length false)) _=_
 rw[e]
 show Option.bind (Ah _ (AE q)) _=_
 have z:∀(H:Hp) (m:List Ce),Ah (fun e=>Ah (view (k+1) H) e) (AE m)=some (Ae m):=by
  intro H m
  induction m with
  | nil=>rfl
  | cons x t E =>
   show Option.bind (some [I.i .i64 x.x,J4 x.y,J4 x.s]) _=_
   simp only[Ahz]
   show Option.bind (Ah _ (AE t)) _=_
   rw[E]
   rfl
 rw[z]
 rfl
theorem IU (q:List Ce):((AE q).all fun e=>e.all isM)=true:=by
 simp[AE,QX,Ce.i,isM]
def apart (a b:Ce):Prop:=¬(a.x=b.x/\a.y=b.y)
theorem QW:∀(p:List Ce) (o:Option Ce),Df o p=true->p.Pairwise (fun a b=>Bd a b=true)/\(∀a,o=some a -> ∀d,d∈p->Bd a d=true) /\ ∀d,d∈p->CC d=true
 | [],_,_=>⟨.nil,fun _ _ d u=>by simp at u,fun d u=>by simp at u⟩
 | c::r,o,h=>by
  have Q:CC c=true/\(∀a,o=some a->Bd a c=true)/\Df (some c) r=true:=by
   cases o with
   | none =>
    have:(CC c&&Df (some c) r)=true:=h
    rw[Ahs]at this
    exact⟨this.1,fun _ h=>(by cases h),this.2⟩
   | some a =>
    have:(CC c&&Bd a c&&Df (some c) r)=true:=h
    simp only[Ahs]at this
    exact⟨this.1.1,fun _ h=>(by cases h;exact this.1.2),this.2⟩
  obtain⟨g1,z,g3⟩:=Q
  obtain⟨N,E,U⟩:=QW r (some c) g3
  refine⟨AhU.2 ⟨fun d u=>E c rfl d u,N⟩,fun a J d u=>?_,fun d u=>?_⟩
  ·rcases AhO.1 u with rfl|u
   ·exact z a J
   ·have Y:=z a J
    have W:=E c rfl d u
    unfold Bd at *
    grind
  ·rcases AhO.1 u with rfl|u
   ·exact g1
   ·exact U d u
variable {p:List Ce}
theorem Ay (h:right p=true):p.Pairwise (fun a b=>Bd a b=true)/\(∀d,d∈p->CC d=true)/\p.length<=5000:=by
 unfold right at h
 simp only[Ahs,AhC]at h
 have:=QW p none h.2
 exact⟨this.1,this.2.2,h.1⟩
theorem HS:∀ {p:List Ce},(∀c,c∈p->CC c=true)->bad p=none
 | [],_=>rfl
 | c::r,h=>by
  have u:=h c (by simp)
  unfold CC at u
  simp only[Ahs,AhC]at u
  have e:Np c=none:=by
   unfold Np
   rw[Aht (by rw[u.1.1];simp),Aht (by omega)]
  have z:bad (c::r)=match Np c with|some e=>some e|none=>bad r:=rfl
  rw[z,e]
  exact HS fun d E=>h d (by simp[E])
theorem Acn:∀ {p:List Ce},p.Pairwise (fun a b=>Bd a b=true)->tw p=false
 | [],_=>rfl
 | [_],_=>rfl
 | a::b::r,h=>by
  have e:tw (a::b::r)=(decide (a.x=b.x/\a.y=b.y)||tw (b::r)):=rfl
  obtain⟨u,z⟩:=AhU.1 h
  have:=u b (by simp)
  rw[e,Acn z,Bool.or_false]
  unfold Bd at this
  simp at this ⊢
  omega
theorem Ahg (U:p.Pairwise (fun a b=>Bd a b=true))(hq:Asc q)(u:q.Perm p):q=p:=by
 have J:q.Pairwise (fun a b=>Bd b a=false):=by
  rw[AiG]
  intro i j E z W
  exact hq i j _ _ W (Ahr E) (Ahr z)
 have N:p.Pairwise (fun a b=>Bd b a=false):=U.imp fun {a b} h=>by
  unfold Bd at *
  simp at h ⊢
  omega
 refine u.eq_of_pairwise (fun a b ha hb Z Y=>?_) J N
 have Q:a∈p:=u.mem_iff.1 ha
 obtain⟨i,E,rfl⟩:=List.mem_iff_getElem.1 Q
 obtain⟨j,z,rfl⟩:=List.mem_iff_getElem.1 hb
 rcases Nat.lt_trichotomy i j with h|h|h
 ·have:=AiG.1 U i j E z h
  rw[this]at Y;cases Y
 ·subst h;rfl
 ·have:=AiG.1 U j i z E h
  rw[this]at Z;cases Z
theorem Fl (h:q.Perm p)(z:p.Pairwise apart):q.Pairwise apart:=by
 refine(h.pairwise_iff (fun {a b} u=>?_)).2 z
 exact fun⟨E,J⟩=>u ⟨E.symm,J.symm⟩
theorem Wl (Q:Asc q)(J:q.Pairwise apart):q.Pairwise (fun a b=>Bd a b=true):=by
 rw[AiG]at J ⊢
 intro i j E z u
 have U:=Q i j _ _ u (Ahr E) (Ahr z)
 have N:=J i j E z u
 unfold Bd at *
 unfold apart at N
 simp at *
 omega
theorem La {c:Ce}(h:CC c=true):placed c.x c.y=true/\1<=c.s/\c.s<8:=by
 unfold CC at h
 simp only[Ahs,AhC]at h
 exact⟨h.1.1,h.1.2,h.2⟩
theorem QD (h:∀c,c∈p->CC c=true):liv p=p:=by
 unfold liv
 rw[List.filter_eq_self]
 intro c u
 have:=La (h c u)
 exact AhA (by omega)
theorem Gi:∀ {p:List Ce},p.Pairwise (fun a b=>Bd a b=true)->(∀c,c∈p->CC c=true)->p.length<=5000->right p=true:=fun {p} J z u=>by
 have E:∀(p:List Ce) (o:Option Ce),p.Pairwise (fun a b=>Bd a b=true)->(∀a,o=some a -> ∀d,d∈p->Bd a d=true)->(∀c,c∈p->CC c=true)->Df o p=true:=by
  intro p
  induction p with
  | nil=>intro o _ _ _;cases o <;> rfl
  | cons c r Y =>
   intro o J z u
   obtain⟨Q,U⟩:=AhU.1 J
   have i:=Y (some c) U (fun a W d N=>by cases W;exact Q d N) (fun d N=>u d (Aij _ N))
   cases o with
   | none =>
    show (CC c&&Df (some c) r)=true
    rw[u c (AhR ..),i]
    rfl
   | some a =>
    show (CC c&&Bd a c&&Df (some c) r)=true
    rw[u c (AhR ..),i,z a rfl c (AhR ..)]
    rfl
 unfold right
 rw[AhA u,E p none J (fun a h=>by cases h) z]
 rfl
end Go.Mx.Tryz
set_option maxHeartbeats 4000000
namespace Go.Mx.Tryz
open Go.Sort Go.Lib Go.Proofs
def Nu (c:Ce):List Ce->List Ce
 | []=>[c]
 | d::r=>if Bd c d=true then c::d::r else d::Nu c r
theorem Gn (c:Ce):∀p,(Nu c p).Perm (c::p)
 | []=>List.Perm.refl _
 | d::r=>by
  unfold Nu
  split
  ·exact List.Perm.refl _
  ·exact((Gn c r).cons d).trans (List.Perm.swap c d r)
theorem YG (c:Ce)(p:List Ce):(Nu c p).length=p.length+1:=(Gn c p).length_eq
variable {a b c:Ce}
theorem Adr (u:Bd a b=true)(z:Bd b c=true):Bd a c=true:=by
 unfold Bd at *
 simp at *
 omega
theorem Sb (h:apart a b)(u:Bd a b=false):Bd b a=true:=by
 unfold Bd at *
 unfold apart at h
 simp at *
 omega
theorem Fk (h:apart a b):apart b a:=fun⟨u,z⟩=>h ⟨u.symm,z.symm⟩
theorem VF (c:Ce):∀p:List Ce,p.Pairwise (fun a b=>Bd a b=true)->(∀d,d∈p->apart c d)->(Nu c p).Pairwise (fun a b=>Bd a b=true)
 | [],_,_=>by simp[Nu]
 | d::r,h,ha=>by
  obtain⟨E,J⟩:=AhU.1 h
  unfold Nu
  split
  ·rename_i z
   refine AhU.2 ⟨fun e u=>?_,h⟩
   rcases AhO.1 u with rfl|u
   ·exact z
   ·exact Adr z (E e u)
  ·rename_i z
   refine AhU.2 ⟨fun e u=>?_,VF c r J fun e u=>ha e (Aij _ u)⟩
   rcases AhO.1 ((Gn c r).mem_iff.1 u) with rfl|u
   ·exact Sb (ha d (AhR ..)) (by simpa using z)
   ·exact E e u
def AT (p:List Ce):List Ce:=p.foldl (fun a c=>Nu c a) []
theorem JS (p:List Ce)(c:Ce):AT (p++[c])=Nu c (AT p):=by simp[AT]
theorem GS:∀n (p:List Ce),p.length=n->(AT p).Perm p/\(p.Pairwise apart->(AT p).Pairwise (fun a b=>Bd a b=true))
 | 0,p,h=>by
  have:p=[]:=AhT h
  subst this
  exact⟨List.Perm.refl _,fun _=>List.Pairwise.nil⟩
 | n+1,p,h=>by
  obtain⟨q,c,rfl⟩:∃q c,p=q++[c]:=⟨p.dropLast,p.getLast (by intro e;rw[e]at h;simp at h),(List.dropLast_concat_getLast _).symm⟩
  have E:q.length=n:=by simpa using h
  obtain⟨z,J⟩:=GS n q E
  rw[JS]
  refine⟨(Gn c _).trans ((z.cons c).trans (List.perm_append_singleton c q).symm),fun u=>?_⟩
  rw[AiE]at u
  refine VF c _ (J u.1) fun d N=>?_
  exact Fk (u.2.2 d (z.mem_iff.1 N) c (List.mem_singleton_self c))
theorem Bq (p:List Ce):(AT p).Perm p:=(GS _ p rfl).1
variable {p:List Ce}
theorem Dc (h:p.Pairwise apart):(AT p).Pairwise (fun a b=>Bd a b=true):=(GS _ p rfl).2 h
theorem BS (p:List Ce):(AT p).length=p.length:=(Bq p).length_eq
variable {q:List Ce}
theorem KQ (J:p.Pairwise (fun a b=>Bd a b=true))(E:q.Pairwise (fun a b=>Bd a b=true))(h:q.Perm p):q=p:=by
 refine Ahg J (fun i j a b u Q z=>?_) h
 obtain⟨U,rfl⟩:=Ahq.1 Q
 obtain⟨N,rfl⟩:=Ahq.1 z
 have:=AiG.1 E i j U N u
 unfold Bd at *
 simp at *
 omega
variable {f:List Ce} {o:V} {H:Hp}
theorem Eb (h:SA f o H):viewR H o=some (.m (zP f))/\Az o=true:=by
 rcases h with ⟨rfl,rfl,rfl⟩|⟨u,rfl,rfl⟩
 ·exact⟨rfl,rfl⟩
 ·have:=Ol (r:=0) (b:=0) (X:=[]) (A:=[]) (q:=f) (n:=f.length) rfl (Ahy _) 18
  refine⟨?_,rfl⟩
  show (view 20 _ _).bind _=_
  rw[this]
  unfold zP
  rw[Aht u]
  rfl
variable {v:I}
theorem YF (hv:IsSl v (Ae p))(hl:p.length<=900000)(c:Ce)(H:Hp):Gives G 102 [.m v,.m (.ag [J4 c.x,J4 c.y,J4 c.s])] H (.m (zP (Nu c p))) H:=by
 have Y:=hv.rules
 simp only[J3]at Y
 refine Af rfl rfl rfl rfl rfl ?_
 simp (maxSteps:=2000000) (disch:=omega) []
 refine(?key:∀(i:Nat) (dn:Bool) (f:List Ce) (o:V) (B:LE) (H1:Hp),i<=p.length->(if dn then Nu c p=f++p.drop i else f=p.take i/\Nu c p=p.take i++Nu c (p.drop i))->SA f o H1->getB B 3=some [J0 c.x,J0 c.y,J0 c.s]->Run G c102_B0 (S102_0 (.m v) (.fa 3 0) o (.m (.b dn)) (J0 (i:Int)) B H1) _) 0 false [] _ _ _ (Ahy _) ⟨rfl,rfl⟩ (.inl ⟨rfl,rfl,rfl⟩) rfl
 refine Bj (fun i:Nat=>p.length-i) fun i ih dn f o B H1 hi N Z U=>?_
 obtain⟨hvw,a0⟩:=Eb Z
 unfold c102_B0
 cases hx:p[i]? with
 | some d =>
  have hlt:=(Am hx).1
  have E:(i:Int)<p.length:=by omega
  have hn:=Ap hx
  have wi:=J2 ((i:Int)+1) (by omega)
  have gb:=fun H=>Lh c d H
  have Q:=(Am hx).2
  have htk:p.take (i+1)=p.take i++[d]:=As hx
  cases dn with
  | true =>
   simp only[if_true]at N
   have hfl:f.length<=900001:=by
    have:=AiO List.length N
    rw[YG,AhF]at this
    omega
   obtain⟨o1,H2,W,u,z⟩:=Cb Z (by omega) d
   simp (maxSteps:=2000000) (disch:=omega) [Y,E,hn,wi,U,Ad,W,Al u]
   exact ih (i+1) (by omega) true _ _ _ _ (by omega) (by simp only[if_true];rw[N,Q];simp) z U
  | false =>
   simp only[AiQ,if_false]at N
   obtain⟨rfl,J⟩:=N
   have hfl:(p.take i).length<=900000:=by rw[AhH];omega
   cases hb:Bd c d with
   | true =>
    rw[hb]at gb
    obtain⟨o1,H2,W,u,z⟩:=Cb Z (by omega) c
    obtain⟨o2,H3,ha2,hn2,ho2⟩:=Cb z (by simp;omega) d
    simp (maxSteps:=2000000) (disch:=omega) [Y,E,hn,wi,U,Ad,cl (gb _),W,Al u,ha2,Al hn2]
    refine ih (i+1) (by omega) true _ _ _ _ (by omega) ?_ ho2 U
    simp only[if_true]
    rw[J,Q]
    simp[Nu,hb]
   | false =>
    rw[hb]at gb
    obtain⟨o1,H2,W,u,z⟩:=Cb Z (by omega) d
    simp (maxSteps:=2000000) (disch:=omega) [Y,E,hn,wi,U,Ad,cl (gb _),W,Al u]
    refine ih (i+1) (by omega) false _ _ _ _ (by omega) ?_ z U
    simp only[AiQ,if_false]
    refine⟨htk.symm,?_⟩
    rw[J,Q,htk]
    simp[Nu,hb]
 | none =>
  have:i=p.length:=by have:=Ahx.1 hx;omega
  subst this
  clear ih
  cases dn with
  | true =>
   simp only[if_true,Aik,Ail]at N
   simp (maxSteps:=2000000) (disch:=omega) [Y,hvw,a0,Al a0,N]
  | false =>
   simp only[AiQ,if_false,Aik,AhS]at N
   obtain⟨rfl,J⟩:=N
   obtain⟨o1,H2,W,u,z⟩:=Cb Z (by omega) c
   obtain⟨a1,_⟩:=Eb z
   have e:Nu c f=f++[c]:=J
   simp (maxSteps:=2000000) (disch:=omega) [Y,U,W,Al u,a1,u,e]
theorem MK (hv:IsSl v (Ae p))(hl:p.length<=5000)(hg:∀c,c∈p->CC c=true)(ha:p.Pairwise apart)(H:Hp):Gives G 63 [.m v] H (.tu [.m (zP (AT p)),J0 0]) H:=by
 have W:=hv.rules
 simp only[J3]at W
 refine Af rfl rfl rfl rfl rfl ?_
 simp (maxSteps:=2000000) (disch:=omega) []
 refine(?key:∀(i:Nat) (B:LE),i<=p.length->Run G c63_B0 (S63_0 (.m v) (.m (.nl 4)) (J0 (i:Int)) B []) _) 0 _ (Ahy _)
 refine Bj (fun i:Nat=>p.length-i) fun i E B hi=>?_
 unfold c63_B0
 cases hx:p[i]? with
 | some c =>
  have N:=(Am hx).1
  have u:(i:Int)<p.length:=by omega
  have Q:=Ap hx
  have wi:=J2 ((i:Int)+1) (by omega)
  obtain⟨Y,h2,h3⟩:=La (hg c (Ahw hx))
  have gp:=fun H=>HG c.x c.y H
  rw[Y]at gp
  have h4:¬c.s<0:=by omega
  have h5:¬8<=c.s:=by omega
  simp (maxSteps:=2000000) (disch:=omega) [W,u,Q,wi,cl (gp _),h4,h5]
  exact E (i+1) (by omega) _ (by omega)
 | none =>
  have:i=p.length:=by have:=Ahx.1 hx;omega
  subst this
  clear E hx hi
  simp (maxSteps:=2000000) (disch:=omega) [W]
  refine(?key2:∀(i:Nat) (z:I) (B:LE),i<=p.length->z=zP (AT (p.take i))->Run G c63_B1 (S63_1 (.m v) (.m z) (J0 (i:Int)) B []) _) 0 (.nl 4) _ (Ahy _) rfl
  refine Bj (fun i:Nat=>p.length-i) fun i E z B hi Z=>?_
  unfold c63_B1
  cases hx:p[i]? with
  | some c =>
   have N:=(Am hx).1
   have u:(i:Int)<p.length:=by omega
   have Q:=Ap hx
   have wi:=J2 ((i:Int)+1) (by omega)
   obtain⟨Y,h2,h3⟩:=La (hg c (Ahw hx))
   have h4:¬c.s=0:=by omega
   have htk:p.take (i+1)=p.take i++[c]:=As hx
   have gi:=fun H=>YF (v:=z) (by rw[Z];exact Ch _) (by rw[BS,AhH];omega) c H
   rw[<-JS,<-htk]at gi
   simp (maxSteps:=2000000) (disch:=omega) [W,u,Q,wi,cl (gi _),h4]
   exact E (i+1) (by omega) _ _ (by omega) rfl
  | none =>
   have:i=p.length:=by have:=Ahx.1 hx;omega
   subst this
   clear E hx hi
   rw[AhS]at Z
   have hs:IsSl z (Ae (AT p)):=by rw[Z];exact Ch _
   have J:=hs.rules
   have hpw:=Dc ha
   have hsl:=BS p
   simp only[show (Ae (AT p)).length=p.length from by simp[Ae,hsl]]at J
   generalize hq:AT p=q at *
   rw[<-Z]
   simp (maxSteps:=2000000) (disch:=omega) [W]
   refine(?key3:∀(j:Nat) (B:LE),1<=j->Run G c63_B2 (S63_2 (.m z) (J0 (j:Int)) B []) _) 1 _ (Ahu _)
   refine Bj (fun j:Nat=>q.length-j) fun j E B h1j=>?_
   unfold c63_B2
   cases hx:q[j]? with
   | some c =>
    have N:=(Am hx).1
    have hlt2:j<p.length:=by omega
    have u:(j:Int)<p.length:=by omega
    have wj:=J2 ((j:Int)+1) (by omega)
    have wj1:=J2 ((j:Int)-1) (by omega)
    obtain⟨a,U⟩:∃a,q[j-1]? = some a:=⟨q[j-1]'(by omega),Ahr _⟩
    have Q:=Ap hx
    have hna:=Ap U
    have hltm:(j:Int)-1<p.length:=by omega
    have h0m:(0:Int)<=(j:Int)-1:=by omega
    have htn:((j:Int)-1).toNat=j-1:=by omega
    have hls:Bd a c=true:=by
     obtain⟨Y,rfl⟩:=Ahq.1 U
     obtain⟨h2,rfl⟩:=Ahq.1 hx
     exact AiG.1 hpw _ _ Y h2 (by omega)
    have gb:=fun H=>Lh a c H
    rw[hls]at gb
    simp (maxSteps:=2000000) (disch:=omega) [J,u,htn,Q,hna,wj,wj1,cl (gb _)]
    exact E (j+1) (by omega) _ (by omega)
   | none =>
    have hj:q.length<=j:=Ahx.1 hx
    have u:¬(j:Int)<p.length:=by omega
    have h5:¬(5000:Int)<p.length:=by omega
    simp (maxSteps:=2000000) (disch:=omega) [J,u,h5]
def mvC (a b:Int)(c:Ce):Ce:=⟨c.x-a,c.y-b,c.s⟩
def tnC (k:Nat)(c:Ce):Ce:=⟨(CF k c.x c.y).1,(CF k c.x c.y).2,c.s⟩
def Hj:List Ce->Int
 | []=>0
 | c::r=>mnF c.x ((c::r).map Ce.x)
def GZ:List Ce->Int
 | []=>0
 | c::r=>mnF c.y ((c::r).map Ce.y)
def BG (p:List Ce):List Ce:=p.map (mvC (Hj p) (GZ p))
theorem GT (f:List Ce)(c:Ce):AE f++[[J0 c.x,J0 c.y,J0 c.s]]=AE (f++[c]):=by simp[AE,QX,Ce.i]
theorem MM (f:List Ce)(hl:f.length<=1000000)(c:Ce)(B:LE):Et ⟨B,[.cs 56 3 (AE f) 0 false]⟩ 56 3 24 (.sl 0 f.length 3 0 f.length false) [[J0 c.x,J0 c.y,J0 c.s]]=some (.sl 0 (f++[c]).length 3 0 (f++[c]).length false,⟨B,[.cs 56 3 (AE (f++[c])) 0 false]⟩):=by
 have u:=Cu (M:=⟨B,[.cs 56 3 (AE f) 0 false]⟩) (r:=0) (bytes:=24) (xs:=[[J0 c.x,J0 c.y,J0 c.s]]) rfl (by simp) (by simp;omega) rfl
 simp only[Dq,Aib,Aic,Air,List.set_cons_zero,GT]at u
 rw[u]
 simp
theorem AW (h:right p=true)(u:c∈p):(-1048576<=c.x/\c.x<=1048576)/\(-1048576<=c.y/\c.y<=1048576)/\1<=c.s/\c.s<8:=by
 have:=(Ay h).2.1 c u
 unfold CC placed at this
 simp only[Ahs,AhC]at this
 omega
theorem QC (h:right p=true):-1048576<=Hj p/\Hj p<=1048576:=by
 cases p with
 | nil=>simp[Hj]
 | cons c r =>
  have E:=AW h (AhR ..)
  have N:mnF c.x ((c::r).map Ce.x)<=c.x:=(Ja _ _).1
  have J:-1048576<=mnF c.x ((c::r).map Ce.x):=JX _ _ _ ⟨by omega,fun y u=>by
   obtain⟨d,z,rfl⟩:=AhP.1 u
   have:=AW h z
   omega⟩
  show -1048576<=mnF c.x ((c::r).map Ce.x)/\mnF c.x ((c::r).map Ce.x)<=1048576
  omega
theorem QB (h:right p=true):-1048576<=GZ p/\GZ p<=1048576:=by
 cases p with
 | nil=>simp[GZ]
 | cons c r =>
  have E:=AW h (AhR ..)
  have N:mnF c.y ((c::r).map Ce.y)<=c.y:=(Ja _ _).1
  have J:-1048576<=mnF c.y ((c::r).map Ce.y):=JX _ _ _ ⟨by omega,fun y u=>by
   obtain⟨d,z,rfl⟩:=AhP.1 u
   have:=AW h z
   omega⟩
  show -1048576<=mnF c.y ((c::r).map Ce.y)/\mnF c.y ((c::r).map Ce.y)<=1048576
  omega
theorem Aak (hv:IsSl v (Ae p))(z:right p=true)(H:Hp):Gives G 51 [.m v] H (.m (if p=[] then v else .sl (Ae (BG p)))) H:=by
 have hl:p.length<=5000:=(Ay z).2.2
 have hr:=hv.rules
 have gb:=fun H=>Ahd hv (by omega) H
 have gr:=fun H=>En hv (by omega) H
 rw[z]at gr
 refine Af rfl rfl rfl rfl rfl ?_
 cases hpe:p with
 | nil =>
  subst hpe
  simp (maxSteps:=2000000) (disch:=omega) [Ab,Ad,cl (gb _),QZ,No]
 | cons Q r0 =>
  have J:p≠[]:=by rw[hpe];simp
  rw[<-hpe]
  obtain⟨U,N,hbc⟩:∃U N,No p=[Hj p,GZ p,U,N]:=by
   obtain⟨d,hd⟩:∃d,(Q::r0)[(Q::r0).length-1]? = some d:=⟨_,Ahr (by simp)⟩
   have hy:=(KL (by rw[<-hpe];exact z) hd).1
   have Y:GZ (Q::r0)=Q.y:=hy
   have hp':right (Q::r0)=true:=by rw[<-hpe];exact z
   rw[hpe]
   simp only[No]
   rw[Ahv hp',Y]
   exact⟨_,_,rfl⟩
  have hbv:QZ p=.tu [.m (.ag [J4 (Hj p),J4 (GZ p),J4 U,J4 N]),.m (.b true)]:=by
   unfold QZ
   rw[hbc,z]
   simp[J]
  rw[hbv]at gb
  have hlx:=QC z
  have hly:=QB z
  have hnc:Nat.beq 0 p.length=false:=by cases hq:p with|nil=>exact absurd hq J|cons _ _=>rfl
  simp only[J3]at hr
  have W:p.length*24<=281474976710656:=by omega
  have E:p.length<=9223372036854775807:=by omega
  have hdc:decide (0=p.length)=false:=by rw[<-GQ];exact hnc
  simp (maxSteps:=2000000) (disch:=omega) [Ab,hr,Ad,cl (gb _),cl (gr _),J,W,E,hdc]
  refine(?key:∀(i:Nat) (f:List Ce) (B:LE),i<=p.length->f=(p.take i).map (mvC (Hj p) (GZ p))->getB B 3=some [J0 (Hj p),J0 (GZ p),J0 U,J0 N]->Run G c51_B0 (S51_0 (.fa 3 0) (.sl 0 f.length 3 0 f.length false) (.m v) (J0 p.length) (J0 (i:Int)) B [.cs 56 3 (AE f) 0 false]) _) 0 [] [(3,[J0 (Hj p),J0 (GZ p),J0 U,J0 N])] (Ahy _) rfl rfl
  refine Bj (fun i:Nat=>p.length-i) fun i ih f B hi u hB=>?_
  unfold c51_B0
  cases hx:p[i]? with
  | some c =>
   have hlt:=(Am hx).1
   have Z:(i:Int)<p.length:=by omega
   have hn:=Ap hx
   have wi:=J2 ((i:Int)+1) (by omega)
   have htk:p.take (i+1)=p.take i++[c]:=As hx
   have hb:=AW z (Ahw hx)
   have w1:=J2 (c.x-Hj p) (by omega)
   have w2:=J2 (c.y-GZ p) (by omega)
   have hf:f.length<=1000000:=by rw[u,AhD,AhH];omega
   have ha:=fun B=>MM f hf (mvC (Hj p) (GZ p) c) B
   have e:f++[mvC (Hj p) (GZ p) c]=(p.take (i+1)).map (mvC (Hj p) (GZ p)):=by rw[htk,u];simp
   have ih':=ih (i+1) (by omega) (f++[mvC (Hj p) (GZ p) c])
   clear ih u
   generalize f++[mvC (Hj p) (GZ p) c]=f' at *
   simp only[mvC]at ha
   simp (maxSteps:=2000000) (disch:=omega) [Ab,hr,Z,hn,wi,hB,w1,w2,ha]
   exact ih' _ (by omega) e (by simpa using hB)
  | none =>
   have:i=p.length:=by have:=Ahx.1 hx;omega
   subst this
   clear ih
   rw[AhS]at u
   have hvv:=Ol (r:=0) (b:=0) (X:=[]) (A:=[]) (q:=BG p) (n:=(BG p).length) rfl (Ahy _) 18
   have e:f=BG p:=u
   rw[e]
   clear e u
   generalize BG p=f at *
   have hvr:viewR [.cs 56 3 (AE f) 0 false] (.sl 0 f.length 3 0 f.length false)=some (.m (.sl (Ae f))):=by
    show (view 20 _ _).bind _=_
    rw[hvv]
    rfl
   simp (maxSteps:=2000000) (disch:=omega) [hvr]
theorem Qr (a b:Ce)(H:Hp):Gives G 88 [.m (.ag [J4 a.x,J4 a.y,J4 a.s]),.m (.ag [J4 b.x,J4 b.y,J4 b.s])] H (J0 (HQ a.x a.y b.x b.y)) H:=by
 refine Af rfl rfl rfl rfl rfl ?_
 have u:=AQ (vs:=[.ls [[J4 (Ef a.y b.y)],[J4 (Ef a.x b.x)]]]) (H:=[]) rfl rfl (Ags (Ef a.y b.y) (Ef a.x b.x) []) rfl (.inl ⟨rfl,rfl⟩)
 simp[cl (AgY _ _ _),cl u,HQ]
def Ahb (A:Hp):Cmp QX A 88 Bd where
 ok _:=True
 ext _ _ _:=Aii
 cmp a b:=HQ a.x a.y b.x b.y
 neg a b:=by
  unfold HQ Bd
  grind [Ef]
 run a b row C _:=Qr a b _
variable {k:Nat} {x y:Int}
theorem Zl (u:-1048576<=x/\x<=1048576)(z:-1048576<=y/\y<=1048576):(-1048576<=(CF k x y).1/\(CF k x y).1<=1048576)/\(-1048576<=(CF k x y).2/\(CF k x y).2<=1048576):=by
 unfold CF
 split <;> dsimp only <;> omega
theorem Zk {z w:Int}(u:(CF k x y).1=(CF k z w).1)(E:(CF k x y).2=(CF k z w).2):x=z/\y=w:=by
 unfold CF at u E
 split at u <;> simp at u E <;> omega
theorem Fg (h:p.Pairwise (fun a b=>Bd a b=true)):p.Pairwise apart:=h.imp fun {a b} h=>by
 unfold Bd at h
 unfold apart
 simp at h
 omega
def Sn (k:Nat)(p q:List Ce):Prop:=q.Perm (p.map (tnC k))/\q.Pairwise (fun a b=>Bd a b=true)
theorem GR (k:Nat)(h:p.Pairwise apart):(p.map (tnC k)).Pairwise apart:=by
 rw[List.pairwise_map]
 refine h.imp fun {a b} h u=>h ?_
 exact Zk (k:=k) u.1 u.2
theorem JM (z:right p=true)(h:Sn k p q):right q=true:=by
 obtain⟨E,J⟩:=h
 obtain⟨_,W,Q⟩:=Ay z
 refine Gi J (fun c U=>?_) (by rw[E.length_eq,AhD];exact Q)
 obtain⟨d,N,rfl⟩:=AhP.1 (E.mem_iff.1 U)
 have u:=AW z N
 have:=Zl (k:=k) u.1 u.2.1
 unfold CC placed tnC
 simp only[Ahs,AhC]
 omega
theorem ZR (hv:IsSl v (Ae p))(hp:right p=true)(k:Int)(H:Hp):∃q,Sn (CS k) p q/\Gives G 49 [J0 k,.m v] H (.tu [.m (.sl (Ae q)),J0 0]) H:=by
 have hl:p.length<=5000:=(Ay hp).2.2
 have hr:=hv.rules
 simp only[J3]at hr
 have gr:=fun H=>En hv (by omega) H
 rw[hp]at gr
 have key:∃x H',Gives G 49 [J0 k,.m v] H x H'/\(H'=H /\ ∃q,Sn (CS k) p q/\x=.tu [.m (.sl (Ae q)),J0 0]):=by
  refine AJ ?_
  refine Cs rfl rfl rfl rfl rfl ?_
  have a0:p.length*24<=281474976710656:=by omega
  have E:p.length<=9223372036854775807:=by omega
  simp (maxSteps:=2000000) (disch:=omega) [Ab,hr,cl (gr _),a0,E]
  generalize U:decide (0=p.length)=lim
  refine(?key:∀(i:Nat) (f:List Ce) (B:LE),i<=p.length->f=(p.take i).map (tnC (CS k))->Run G c49_B0 (S49_0 (J0 k) (.sl 0 f.length 3 0 f.length lim) (.m v) (J0 p.length) (J0 (i:Int)) B [.cs 56 3 (AE f) 0 false]) _) 0 [] [] (Ahy _) rfl
  refine Bj (fun i:Nat=>p.length-i) fun i ih f B hi u=>?_
  unfold c49_B0
  cases hx:p[i]? with
  | some c =>
   have hlt:=(Am hx).1
   have Y:(i:Int)<p.length:=by omega
   have hn:=Ap hx
   have wi:=J2 ((i:Int)+1) (by omega)
   have htk:p.take (i+1)=p.take i++[c]:=As hx
   have hb:=AW hp (Ahw hx)
   have ga:=fun H=>Wm k c.x c.y (by omega) (by omega) H
   have hlf:lim=false:=by rw[<-U];exact AhB (by omega)
   subst hlf
   have hf:f.length<=1000000:=by rw[u,AhD,AhH];omega
   have ha:=fun B=>MM f hf (tnC (CS k) c) B
   have e:f++[tnC (CS k) c]=(p.take (i+1)).map (tnC (CS k)):=by rw[htk,u];simp
   have ih':=ih (i+1) (by omega) (f++[tnC (CS k) c])
   clear ih u
   generalize f++[tnC (CS k) c]=f' at *
   simp only[tnC]at ha
   simp (maxSteps:=2000000) (disch:=omega) [Ab,hr,Y,hn,wi,cl (ga _),ha]
   exact ih' _ (by omega) e
  | none =>
   have:i=p.length:=by have:=Ahx.1 hx;omega
   subst this
   clear ih
   rw[AhS]at u
   have hfl:f.length<=5000:=by rw[u,AhD];exact hl
   simp (maxSteps:=2000000) (disch:=omega) []
   rw[Ao]
   have Z:Row.cs 56 3 (AE f) 0 false=.cs 56 3 (Bl QX f.toArray) 0 false:=by simp[Bl,AE]
   rw[Z]
   refine UE (A:=[]) (Ahb []) QE (n:=f.length) (by omega) [] Aii f.toArray 0 (by simp) (Ahy _) _ fun d' b1 X hpm hso hb1=>?_
   obtain⟨z,Q⟩:=JV hpm
   have N:=Aap Q hso
   have J:Bl QX d'=AE d'.toList:=rfl
   have hql:d'.toList.length=f.length:=by simpa using Q
   rw[J]
   generalize d'.toList=q at *
   have W:(p.map (tnC (CS k))).Pairwise apart:=GR _ (Fg (Ay hp).1)
   rw[<-u]at W
   have hq:Sn (CS k) p q:=⟨by rw[<-u];exact z,Wl N (Fl z W)⟩
   have hvv:=Ol (r:=0) (X:=X) (A:=[]) hql hb1 18
   have hvl:view 20 (.cs 56 3 (AE q) b1 false::X) (.sl 0 f.length 3 0 f.length lim)=some (.sl (Ae q)):=by cases lim <;> exact hvv
   simp (maxSteps:=2000000) (disch:=omega) [hvl]
   exact⟨q,hq,rfl⟩
 obtain⟨x,H',h1,rfl,q,h2,rfl⟩:=key
 exact⟨q,h2,h1⟩
def OutI (f:List Ce)(o:V)(H:Hp):Prop:=(f=[]/\o=.m (.nl 4)/\H=[])\/(f≠[]/\o=.sl 1 f.length 3 0 f.length false/\nth H 1=some (.cs 56 3 (AE f) 0 false))
theorem Adc (h:OutI f o H):Az o=true:=by
 rcases h with ⟨_,rfl,_⟩|⟨_,rfl,_⟩ <;> rfl
theorem Va (h:OutI f o H)(hl:f.length<=1000000)(q:Row)(c:Ce):∃u N,(∀B,Et ⟨B,H++[q]⟩ 56 3 24 o [[J0 c.x,J0 c.y,J0 c.s]]=some (u,⟨B,N⟩))/\Az u=true/\OutI (f++[c]) u N:=by
 rcases h with ⟨rfl,rfl,rfl⟩|⟨Q,rfl,E⟩
 ·exact⟨_,_,fun B=>rfl,rfl,.inr ⟨by simp,rfl,rfl⟩⟩
 ·have z:nth (H++[q]) 1=some (.cs 56 3 (AE f) 0 false):=by rw[BH _ _ _ (AO E)];exact E
  have J:=fun B=>Cu (M:=⟨B,H++[q]⟩) (r:=1) (bytes:=24) (xs:=[[J0 c.x,J0 c.y,J0 c.s]]) z (by simp) (by simp;omega) rfl
  simp only[Dq,Aib,Aic,Air,GT]at J
  refine⟨_,_,J,rfl,.inr ⟨by simp,by simp,?_⟩⟩
  exact Bc (AO z)
theorem UJ {α:Type}(l:List α)(x y:α):AN (l++[x]) l.length y=some (l++[y]):=by
 rw[AB _ _ _ (by simp)]
 simp
def lowK (g:Ce->Int):List Ce->Int
 | []=>0
 | c::r=>mnF (g c) ((c::r).map g)
variable {g:List Ce} {j:Nat}
theorem w3_x (h:g[j]? = some c)(x:Int):BQ 3 (AE g) j 0 [J0 x]=some (AE (g.set j ⟨x,c.y,c.s⟩)):=by
 show (nth (AE g) j).bind _=_
 rw[CO h]
 show AN (AE g) j [J0 x,J0 c.y,J0 c.s]=_
 rw[AB _ _ _ (by simpa using (Am h).1)]
 simp[AE,List.map_set,QX,Ce.i]
theorem w3_y (h:g[j]? = some c)(y:Int):BQ 3 (AE g) j 1 [J0 y]=some (AE (g.set j ⟨c.x,y,c.s⟩)):=by
 show (nth (AE g) j).bind _=_
 rw[CO h]
 show AN (AE g) j [J0 c.x,J0 y,J0 c.s]=_
 rw[AB _ _ _ (by simpa using (Am h).1)]
 simp[AE,List.map_set,QX,Ce.i]
theorem r3_x (h:g[j]? = some c):CZ 3 (AE g) j 0 1=some [J0 c.x]:=by
 show (nth (AE g) j).bind _=_
 rw[CO h]
 rfl
theorem r3_y (h:g[j]? = some c):CZ 3 (AE g) j 1 1=some [J0 c.y]:=by
 show (nth (AE g) j).bind _=_
 rw[CO h]
 rfl
theorem AgI (f:List Ce):lowK Ce.x f=Hj f:=by cases f <;> rfl
theorem AgH (f:List Ce):lowK Ce.y f=GZ f:=by cases f <;> rfl
theorem VC (g:Ce->Int)(u:p≠[]):(∀c,c∈p->lowK g p<=g c) /\ ∀x,(∀c,c∈p->x<=g c)->x<=lowK g p:=by
 obtain⟨c,r,rfl⟩:=AiV u
 refine⟨fun d z=>(Ja ((c::r).map g) (g c)).2 _ (AiN z),fun x E=>JX _ _ _ ⟨E c (AhR ..),fun y J=>?_⟩⟩
 obtain⟨d,z,rfl⟩:=AhP.1 J
 exact E d z
theorem VE (a b:Int)(c d:Ce):Bd (mvC a b c) (mvC a b d)=Bd c d:=by
 unfold Bd mvC
 rw[Aio]
 simp only[AhC]
 omega
theorem Adt (h:p.Pairwise (fun a b=>Bd a b=true)):(BG p).Pairwise (fun a b=>Bd a b=true):=by
 unfold BG
 rw[List.pairwise_map]
 exact h.imp fun {a b} h=>by rw[VE];exact h
def Span (p:List Ce):Prop:=∀c d,c∈p->d∈p->c.x-d.x<=1048576/\c.y-d.y<=1048576
theorem UD (h:Span p)(hs:∀c,c∈p->1<=c.s/\c.s<8):∀c,c∈BG p->CC c=true:=fun c Q=>by
 obtain⟨d,u,rfl⟩:=AhP.1 Q
 have z:p≠[]:=fun e=>by subst e;cases u
 obtain⟨x1,J⟩:=VC Ce.x z
 obtain⟨y1,W⟩:=VC Ce.y z
 have Y:=x1 d u
 have N:=y1 d u
 have U:=J (d.x-1048576) fun e E=>by have:=(h d e u E).1;omega
 have Z:=W (d.y-1048576) fun e E=>by have:=(h d e u E).2;omega
 rw[AgI]at Y U
 rw[AgH]at N Z
 have:=hs d u
 unfold CC placed mvC
 simp only[Ahs,AhC]
 omega
theorem Aao (p:List Ce):∃x y w h,No p=[x,y,w,h]:=by
 unfold No
 split
 ·exact⟨_,_,_,_,rfl⟩
 ·split
  ·exact⟨_,_,_,_,rfl⟩
  ·exact⟨_,_,_,_,rfl⟩
def cmpC (c d:Ce):Int:=if c.y=d.y then if c.x=d.x then Ef c.s d.s else Ef c.x d.x else Ef c.y d.y
def Jj:List Ce->List Ce->Int
 | [],[]=>0
 | [],_::_=>-1
 | _::_,[]=>1
 | c::r,d::t=>if cmpC c d=0 then Jj r t else cmpC c d
theorem Hm:Ef x y=0↔x=y:=by
 unfold Ef
 split
 ·constructor <;> intro h <;> omega
 ·split <;> constructor <;> intro h <;> omega
theorem Wd {d:Ce}:cmpC c d=0↔c=d:=by
 obtain⟨J,Q,u⟩:=c
 obtain⟨E,N,z⟩:=d
 unfold cmpC
 simp only[Ce.mk.injEq]
 split
 ·split
  ·rw[Hm];constructor <;> intro h <;> simp_all
  ·rw[Hm];constructor <;> intro h <;> simp_all
 ·rw[Hm];constructor <;> intro h <;> simp_all
theorem Hl:∀ {p q:List Ce},Jj p q=0↔p=q
 | [],[]=>by simp[Jj]
 | [],_::_=>by simp[Jj]
 | _::_,[]=>by simp[Jj]
 | c::r,d::t=>by
  unfold Jj
  split
  ·rename_i h
   rw[Hl,Wd.1 h]
   simp
  ·rename_i h
   constructor
   ·intro u;exact absurd u h
   ·intro u
    have:c=d:=(List.cons.inj u).1
    exact absurd (Wd.2 this) h
theorem RX (x y:Int)(H:Hp):Gives G 104 [J0 x,J0 y] H (J0 (Ef x y)) H:=by
 refine Af rfl rfl rfl rfl rfl ?_
 by_cases u:x<y
 ·simp (maxSteps:=2000000) (disch:=omega) [u,Ef]
 ·by_cases z:y<x
  ·simp (maxSteps:=2000000) (disch:=omega) [u,z,Ef]
  ·simp (maxSteps:=2000000) (disch:=omega) [u,z,Ef]
theorem QT {i:Nat}(h:p.drop i=[]\/q.drop i=[]):Jj (p.drop i) (q.drop i)=Ef ((p.drop i).length:Int) ((q.drop i).length:Int):=by
 rcases h with h|h <;> rw[h]
 ·cases hq:q.drop i with
  | nil=>rfl
  | cons a r=>show (-1:Int)=_;unfold Ef;rw[Ahv (by simp <;> omega)]
 ·cases hq:p.drop i with
  | nil=>rfl
  | cons a r=>show (1:Int)=_;unfold Ef;rw[Aht (by simp <;> omega),Ahv (by simp <;> omega)]
theorem QU {a b i:Nat}(E:i<=a)(J:i<=b):Ef ((a-i:Nat):Int) ((b-i:Nat):Int)=Ef a b:=by
 unfold Ef
 have z:(((a-i:Nat):Int)<((b-i:Nat):Int))=((a:Int)<b):=by rw[eq_iff_iff];omega
 have u:(((b-i:Nat):Int)<((a-i:Nat):Int))=((b:Int)<a):=by rw[eq_iff_iff];omega
 simp only[z,u]
variable {w:I}
set_option maxHeartbeats 2000000 in
theorem Wb (hv:IsSl v (Ae p))(hw:IsSl w (Ae q))(hl:p.length<=1000000)(hl2:q.length<=1000000)(H:Hp):Gives G 64 [.m v,.m w] H (J0 (Jj p q)) H:=by
 refine Af rfl rfl rfl rfl rfl ?_
 have Y:=hv.rules
 have E:=hw.rules
 simp only[J3]at Y
 simp only[J3]at E
 have go:=fun x y H=>RX x y H
 simp (maxSteps:=2000000) (disch:=omega) []
 refine(?key:∀(i:Nat) (B:LE),i<=p.length->i<=q.length->Jj p q=Jj (p.drop i) (q.drop i)->Run G c64_B0 (S64_0 (.m v) (.m w) (J0 (i:Int)) B []) _) 0 [] (Ahy _) (Ahy _) rfl
 refine Bj (fun i:Nat=>p.length-i) fun i ih B hi Z J=>?_
 unfold c64_B0
 cases hx:p[i]? with
 | none =>
  have W:=Ahx.1 hx
  have z:¬(i:Int)<p.length:=by omega
  rw[QT (.inl (List.drop_eq_nil_of_le W)),Aie,Aie,QU hi Z]at J
  simp (maxSteps:=2000000) (disch:=omega) [Y,E,z,cl (go _ _ _),J]
 | some c =>
  have hlt:=(Am hx).1
  have z:(i:Int)<p.length:=by omega
  have hn:=Ap hx
  cases hy:q[i]? with
  | none =>
   have W:=Ahx.1 hy
   have u:¬(i:Int)<q.length:=by omega
   rw[QT (.inr (List.drop_eq_nil_of_le W)),Aie,Aie,QU hi Z]at J
   simp (maxSteps:=2000000) (disch:=omega) [Y,E,z,u,cl (go _ _ _),J]
  | some d =>
   have hlt2:=(Am hy).1
   have u:(i:Int)<q.length:=by omega
   have N:=Ap hy
   have wi:=J2 ((i:Int)+1) (by omega)
   have e1:Jj (c::p.drop (i+1)) (d::q.drop (i+1))=if cmpC c d=0 then Jj (p.drop (i+1)) (q.drop (i+1)) else cmpC c d:=rfl
   rw[(Am hx).2,(Am hy).2,e1]at J
   by_cases Q:c.y=d.y
   ·by_cases U:c.x=d.x
    ·by_cases h3:c.s=d.s
     ·have e:cmpC c d=0:=by unfold cmpC;rw[Ahv Q,Ahv U];exact Hm.2 h3
      rw[Ahv e]at J
      simp (maxSteps:=2000000) (disch:=omega) [Y,E,z,u,hn,N,wi,Q,U,h3]
      exact ih (i+1) (by omega) _ (by omega) (by omega) J
     ·have e:cmpC c d=Ef c.s d.s:=by unfold cmpC;rw[Ahv Q,Ahv U]
      have h0:¬Ef c.s d.s=0:=fun h=>h3 (Hm.1 h)
      rw[e,Aht h0]at J
      simp (maxSteps:=2000000) (disch:=omega) [Y,E,z,u,hn,N,Q,U,h3,cl (go _ _ _),J]
    ·have e:cmpC c d=Ef c.x d.x:=by unfold cmpC;rw[Ahv Q,Aht U]
     have h0:¬Ef c.x d.x=0:=fun h=>U (Hm.1 h)
     rw[e,Aht h0]at J
     simp (maxSteps:=2000000) (disch:=omega) [Y,E,z,u,hn,N,Q,U,cl (go _ _ _),J]
   ·have e:cmpC c d=Ef c.y d.y:=by unfold cmpC;rw[Aht Q]
    have h0:¬Ef c.y d.y=0:=fun h=>Q (Hm.1 h)
    rw[e,Aht h0]at J
    simp (maxSteps:=2000000) (disch:=omega) [Y,E,z,u,hn,N,Q,cl (go _ _ _),J]
theorem MJ (E:IsSl v (Ae p))(z:IsSl w (Ae q))(hl:p.length<=1000000)(u:q.length<=1000000)(H:Hp):Gives G 33 [.m v,.m w] H (.m (.b (decide (Jj p q=0)))) H:=by
 refine Af rfl rfl rfl rfl rfl ?_
 simp (maxSteps:=2000000) (disch:=omega) [cl (Wb E z hl u _)]
set_option maxHeartbeats 2000000 in
theorem Adx (hv:IsSl v (Ae p))(hw:IsSl w (Ae q))(hl:p.length<=1000000)(hl2:q.length<=1000000)(H:Hp):Gives G 42 [.m v,.m w] H (.m (.b (decide (Jj p q=0)))) H:=by
 refine Af rfl rfl rfl rfl rfl ?_
 have Y:=hv.rules
 have z:=hw.rules
 simp only[J3]at Y
 simp only[J3]at z
 by_cases u:p.length=q.length
 ·have J:(p.length:Int)=q.length:=by omega
  simp (maxSteps:=2000000) (disch:=omega) [Y,z,u]
  refine(?key:∀(i:Nat) (B:LE),i<=q.length->Jj p q=Jj (p.drop i) (q.drop i)->Run G c42_B0 (S42_0 (.m v) (.m w) (J0 q.length) (J0 (i:Int)) B []) _) 0 [] (Ahy _) rfl
  refine Bj (fun i:Nat=>q.length-i) fun i ih B hi Q=>?_
  unfold c42_B0
  cases hy:q[i]? with
  | some d =>
   have hlt2:=(Am hy).1
   obtain⟨c,hx⟩:∃c,p[i]? = some c:=⟨p[i]'(by omega),Ahr _⟩
   have hlt:=(Am hx).1
   have E:(i:Int)<q.length:=by omega
   have hn:=Ap hx
   have W:=Ap hy
   have wi:=J2 ((i:Int)+1) (by omega)
   have e1:Jj (c::p.drop (i+1)) (d::q.drop (i+1))=if cmpC c d=0 then Jj (p.drop (i+1)) (q.drop (i+1)) else cmpC c d:=rfl
   rw[(Am hx).2,(Am hy).2,e1]at Q
   by_cases N:c.x=d.x/\c.y=d.y/\c.s=d.s
   ·have e:cmpC c d=0:=by
     unfold cmpC
     rw[Ahv N.2.1,Ahv N.1,Hm]
     exact N.2.2
    rw[Ahv e]at Q
    simp (maxSteps:=2000000) (disch:=omega) [Y,z,u,E,hn,W,wi,N.1,N.2.1,N.2.2]
    exact ih (i+1) (by omega) _ (by omega) Q
   ·have e:¬cmpC c d=0:=fun h=>N (by rw[Wd.1 h];exact⟨rfl,rfl,rfl⟩)
    rw[Aht e]at Q
    have U:(decide (c.x=d.x)&&(decide (c.y=d.y)&&decide (c.s=d.s)))=false:=by
     rw[Bool.eq_false_iff]
     simpa using N
    have he2:(decide (c.x=d.x)&&decide (c.y=d.y)&&decide (c.s=d.s))=false:=by
     rw[Bool.and_assoc];exact U
    simp (maxSteps:=2000000) (disch:=omega) [Y,z,u,E,hn,W,U,Q,e]
  | none =>
   have:i=q.length:=by have:=Ahx.1 hy;omega
   subst this
   rw[Aik,List.drop_eq_nil_of_le (by omega)]at Q
   have Z:Jj p q=0:=Q
   simp (maxSteps:=2000000) (disch:=omega) [Z]
 ·have J:¬(p.length:Int)=q.length:=by omega
  have e:¬Jj p q=0:=fun h=>u (by rw[Hl.1 h])
  simp (maxSteps:=2000000) (disch:=omega) [Y,z,J,e]
theorem AfZ (E:IsSl v (Ae p))(z:IsSl w (Ae q))(hl:p.length<=1000000)(u:q.length<=1000000)(H:Hp):Gives G 23 [.m v,.m w] H (.m (.b (decide (Jj p q=0)))) H:=by
 refine Af rfl rfl rfl rfl rfl ?_
 simp (maxSteps:=2000000) (disch:=omega) [cl (Adx E z hl u _)]
end Go.Mx.Tryz
namespace Go.Mx.Tryz
open Go.Lib
structure StI (t:TreeC)(p:List Ce)(D:List (Int×Int))(l:List Ce):Prop where
 al:∀c,c∈l->(c.x,c.y)∈D/\c.s=Bv t p c.x c.y /\ ¬c.s=0/\placed c.x c.y=true
 cov:∀k,k∈D -> ¬Bv t p k.1 k.2=0 -> ∃c,c∈l/\c.x=k.1/\c.y=k.2
 ap:l.Pairwise apart
theorem AcB (t:TreeC)(p:List Ce):StI t p [] []:=⟨by simp,by simp,.nil⟩
variable {t:TreeC} {p l:List Ce} {D:List (Int×Int)}
theorem Yb (h:StI t p D l){k:Int×Int}(E:Bv t p k.1 k.2=0):StI t p (D++[k]) l :=
 ⟨fun c J=>by obtain⟨a,b⟩:=h.al c J;exact⟨by simp[a],b⟩,fun j u z=>by
  rcases Aig.1 u with u|u
  ·exact h.cov j u z
  ·rw[AhQ.1 u]at z
   exact absurd E z,h.ap⟩
theorem AcD (h:StI t p D l){x y:Int}(Q:(x,y) ∉ D)(Y:¬Bv t p x y=0)(W:placed x y=true):StI t p (D++[(x,y)]) (l++[⟨x,y,Bv t p x y⟩]):=by
 refine⟨fun c z=>?_,fun j u U=>?_,?_⟩
 ·rcases Aig.1 z with z|z
  ·obtain⟨a,b⟩:=h.al c z
   exact⟨by simp[a],b⟩
  ·rw[AhQ.1 z]
   exact⟨by simp,rfl,Y,W⟩
 ·rcases Aig.1 u with u|u
  ·obtain⟨c,J,E⟩:=h.cov j u U
   exact⟨c,by simp[J],E⟩
  ·rw[AhQ.1 u]
   exact⟨⟨x,y,Bv t p x y⟩,by simp,rfl,rfl⟩
 ·rw[AiE]
  refine⟨h.ap,by simp,fun a Z b N=>?_⟩
  rw[AhQ.1 N]
  intro⟨J,E⟩
  have:=(h.al a Z).1
  dsimp only at J E
  rw[J,E]at this
  exact Q this
theorem UC {x y:Int}(z:¬Bv t p x y=0)(u:placed x y=false):DO t p ([],5):=.inl ⟨rfl,x,y,z,u⟩
variable {q:List Ce}
theorem AcC (Z:Bb t=true)(h:StI t p D l)(z:∀c o,c∈p->o∈t.hood->(c.x-o.1,c.y-o.2)∈D)(W:q.Perm l)(hs:q.Pairwise (fun a b=>Bd a b=true)):DO t p (if 5000<q.length then ([],6) else (q,0)):=by
 have N:∀x y,¬Bv t p x y=0 -> ∃c,c∈l/\c.x=x/\c.y=y:=fun x y E=>by
  obtain⟨c,o,u,ho,rfl,rfl⟩:=HI Z E
  exact h.cov _ (z c o u ho) E
 refine .inr ⟨fun x y E=>?_,q,hs,fun c=>⟨fun u=>?_,fun u=>?_⟩,rfl⟩
 ·obtain⟨c,u,rfl,rfl⟩:=N x y E
  exact(h.al c u).2.2.2
 ·have:=h.al c (W.mem_iff.1 u)
  exact⟨this.2.1,this.2.2.1⟩
 ·obtain⟨d,Y,U,Q⟩:=N c.x c.y (by rw[<-u.1];exact u.2)
  have J:=(h.al d Y).2.1
  have:d=c:=by
   obtain⟨a1,a2,a3⟩:=d
   obtain⟨b1,b2,b3⟩:=c
   dsimp only at U Q J u
   subst U Q
   congr 1
   rw[J]
   exact u.1.symm
  exact W.mem_iff.2 (this ▸ Y)
theorem Yc (u:TreeR t)(z:Hx t p)(h:StI t p D l):∀c,c∈l->CC c=true:=fun c Q=>by
 obtain⟨_,N,U,J⟩:=h.al c Q
 have E:=Fh u z c.x c.y
 rw[<-N]at E
 have:=u.s8
 unfold CC
 rw[J]
 simp only[AiJ,Ahs,AhC]
 omega
theorem Yd (J:TreeR t)(N:Hx t p)(h:StI t p D l)(u:q.Perm (liv l))(W:Asc q):bad l=none/\q.Perm l/\q.Pairwise (fun a b=>Bd a b=true)/\Aeh q=if 5000<q.length then .tu [.m (.nl 4),J0 6] else .tu [.m (zP q),J0 0]:=by
 have z:∀c,c∈l->CC c=true:=fun c Z=>by
  obtain⟨_,Y,h2,U⟩:=h.al c Z
  have Q:=Fh J N c.x c.y
  rw[<-Y]at Q
  have:=J.s8
  unfold CC
  rw[U]
  simp only[AiJ,Ahs,AhC]
  omega
 rw[QD z]at u
 have E:=Wl W (Fl u h.ap)
 refine⟨HS z,u,E,?_⟩
 unfold Aeh
 rw[Acn E,Aht (by simp)]
inductive HisR (t:TreeC) (p:List Ce):List (List Ce)->Prop
 | one:HisR t p [p]
 | snoc {ps:List (List Ce)} {a q:List Ce}:HisR t p (ps++[a])->DO t a (q,0)->HisR t p (ps++[a]++[q])
def HisQ (t:TreeC)(p:List Ce)(n:Nat)(res:List (List Ce)×Int):Prop :=
 (res.2=0/\res.1.length=n+1/\HisR t p res.1)\/(∃ps a,ps.length<n/\HisR t p (ps++[a])/\DO t a ([],res.2) /\ ¬res.2=0/\res.1=[])
end Go.Mx.Tryz
namespace Go.Mx.Tryz
def ndU (l:List Nd)(i:Nat):Nd:=(l[i]?).getD (0,[])
abbrev WSt:=List Int×List Nd
def Gm (f:Nat->WSt->WSt×Int):List Int->WSt->List Int->WSt×List Int
 | [],st,acc=>(st,acc)
 | k::r,st,acc=>Gm f r (f k.toNat st).1 (acc++[(f k.toNat st).2])
def Aek (x:Nd)(k:Nat)(r:WSt×List Int):WSt×Int:=((r.1.1.set k ((r.1.2.length+1:Nat):Int),r.1.2++[(x.1,r.2)]),((r.1.2.length:Nat):Int))
def HO (l:List Nd):Nat->Nat->WSt->WSt×Int
 | 0,_,st=>(st,0)
 | n+1,k,st=>if 0<(st.1[k]?).getD 0 then (st,(st.1[k]?).getD 0-1)
  else Aek (ndU l k) k (if 1<(ndU l k).1 then Gm (HO l n) (ndU l k).2 st [] else (st,(ndU l k).2))
def OkN (l:List Nd):Prop:=∀i,i<l.length->1<=(ndU l i).1/\(ndU l i).1<=1000/\(ndU l i).2≠[]/\(ndU l i).2.length<=100/\(∀k,k∈(ndU l i).2 -> -1000000000<=k/\k<=1000000000)/\(1<(ndU l i).1 -> ∀k,k∈(ndU l i).2->0<=k/\k.toNat<l.length/\(ndU l k.toNat).1<(ndU l i).1)
def AcQ (dn:List Int):Nat:=dn.countP fun v=>decide (0<v)
structure InvW (l:List Nd)(st:WSt):Prop where
 len:st.1.length=l.length
 cnt:st.2.length<=AcQ st.1
 val:∀v,v∈st.1->0<=v/\v<=(st.2.length:Int)
variable {l:List Nd} {st:WSt}
theorem InvW.out_le (h:InvW l st):st.2.length<=l.length:=by
 have:=List.countP_le_length (p:=fun v:Int=>decide (0<v)) (l:=st.1)
 have u:=h.cnt
 have z:=h.len
 unfold AcQ at u
 omega
theorem Qk:∀ {dn:List Int} {k:Nat} {v:Int},(dn[k]?).getD 0<=0->k<dn.length->0<v->AcQ (dn.set k v)=AcQ dn+1
 | [],k,v,_,h,_=>by simp at h
 | a::r,0,v,h0,_,hv=>by
  have:¬0<a:=by simp at h0;omega
  simp[AcQ,hv,this]
 | a::r,k+1,v,h0,hk,hv=>by
  have u:=Qk (dn:=r) (k:=k) (v:=v) (by simpa using h0) (by simpa using hk) hv
  unfold AcQ at u ⊢
  rw[List.set_cons_succ,List.countP_cons,List.countP_cons,u]
  omega
def GrW (l:List Nd)(m:Int)(st st':WSt):Prop:=InvW l st'/\(∀i,i<l.length->m<=(ndU l i).1->st'.1[i]? = st.1[i]?) /\ ∃t,st'.2=st.2++t
theorem GrW.refl {m:Int}(h:InvW l st):GrW l m st st:=⟨h,fun _ _ _=>rfl,[],by simp⟩
theorem GrW.trans {m:Int}{a b c:WSt}(h:GrW l m a b)(k:GrW l m b c):GrW l m a c:=by
 obtain⟨_,N,t,Q⟩:=h
 obtain⟨U,J,u,k3⟩:=k
 exact⟨U,fun i z E=>(J i z E).trans (N i z E),t++u,by rw[k3,Q,AiB]⟩
theorem QG {l:List Nd}{m:Int}{f:Nat->WSt->WSt×Int}:∀(u:List Int) (st:WSt) (acc:List Int),InvW l st->(∀k,k∈u -> ∀st,InvW l st->GrW l m st (f k.toNat st).1/\0<=(f k.toNat st).2/\(f k.toNat st).2<((f k.toNat st).1.2.length:Int))->(∀v,v∈acc->0<=v/\v<(st.2.length:Int)) ->
  GrW l m st (Gm f u st acc).1/\(∀v,v∈(Gm f u st acc).2->0<=v/\v<((Gm f u st acc).1.2.length:Int))/\(Gm f u st acc).2.length=acc.length+u.length
 | [],st,acc,hi,_,ha=>⟨.refl hi,ha,rfl⟩
 | k::r,st,acc,hi,hf,ha=>by
  obtain⟨g1,E,g3⟩:=hf k (AhR ..) st hi
  obtain⟨t,J⟩:=g1.2.2
  obtain⟨U,N,W⟩:=QG (m:=m) r (f k.toNat st).1 (acc++[(f k.toNat st).2]) g1.1 (fun j z=>hf j (Aij _ z)) fun v Q=>by
   rcases Aig.1 Q with h|h
   ·have:=ha v h
    rw[J,AhF]
    omega
   ·rw[AhQ]at h
    subst h
    exact⟨E,g3⟩
  refine⟨g1.trans U,N,?_⟩
  show (Gm f r (f k.toNat st).1 (acc++[(f k.toNat st).2])).2.length=_
  rw[W]
  simp
  omega
theorem VY {l:List Nd}(hl:OkN l):∀(n k:Nat) (st:WSt),InvW l st->k<l.length->(ndU l k).1<=(n:Int) ->
  GrW l ((ndU l k).1+1) st (HO l n k st).1/\0<=(HO l n k st).2/\(HO l n k st).2<((HO l n k st).1.2.length:Int)
 | 0,k,st,_,hk,hn=>by have:=(hl k hk).1;omega
 | n+1,k,st,z,hk,hn=>by
  have e:HO l (n+1) k st=if 0<(st.1[k]?).getD 0 then (st,(st.1[k]?).getD 0-1)
   else Aek (ndU l k) k (if 1<(ndU l k).1 then Gm (HO l n) (ndU l k).2 st [] else (st,(ndU l k).2)):=rfl
  have Q:k<st.1.length:=by rw[z.len];exact hk
  obtain⟨v,hv⟩:∃v,st.1[k]? = some v:=⟨st.1[k],Ahr Q⟩
  have hvb:=z.val v (Ahw hv)
  rw[e,hv]
  simp only[AiT]
  by_cases h0:0<v
  ·rw[Ahv h0]
   exact⟨.refl z,by simp only;omega,by simp only;omega⟩
  ·rw[Aht h0]
   obtain⟨o1,o2,o3,o4,o5,o6⟩:=hl k hk
   have hr:GrW l (ndU l k).1 st (if 1<(ndU l k).1 then Gm (HO l n) (ndU l k).2 st [] else (st,(ndU l k).2)).1:=by
    by_cases Y:1<(ndU l k).1
    ·rw[Ahv Y]
     refine(QG (m:=(ndU l k).1) _ st [] z (fun j hj s hs=>?_) (by simp)).1
     obtain⟨q1,q2,q3⟩:=o6 Y j hj
     obtain⟨⟨i1,i2,i3⟩,N,r3⟩:=VY hl n j.toNat s hs q2 (by omega)
     exact⟨⟨i1,fun i z hm=>i2 i z (by omega),i3⟩,N,r3⟩
    ·rw[Aht Y]
     exact .refl z
   generalize (if 1<(ndU l k).1 then Gm (HO l n) (ndU l k).2 st [] else (st,(ndU l k).2))=r at hr ⊢
   obtain⟨⟨r1,N,r3⟩,E,t,W⟩:=hr
   have a0:(r.1.1[k]?).getD 0<=0:=by rw[E k hk (by omega),hv];simp only[AiT];omega
   have J:k<r.1.1.length:=by rw[r1];exact hk
   refine⟨⟨⟨?_,?_,fun u Z=>?_⟩,fun i z hm=>?_,t++[((ndU l k).1,r.2)],?_⟩,?_,?_⟩
   ·show (r.1.1.set k _).length=_
    rw[Aim,r1]
   ·show (r.1.2++[((ndU l k).1,r.2)]).length<=AcQ (r.1.1.set k _)
    rw[Qk a0 J (by omega),AhF]
    simp
    exact N
   ·have Z:u∈r.1.1.set k ((r.1.2.length+1:Nat):Int):=Z
    show 0<=u/\u<=((r.1.2++[((ndU l k).1,r.2)]).length:Int)
    rw[AhF]
    rcases List.mem_or_eq_of_mem_set Z with h|h
    ·have:=r3 u h
     simp
     omega
    ·subst h
     simp
     omega
   ·show (r.1.1.set k _)[i]? = _
    have U:k≠i:=fun e=>by subst e;omega
    rw[Ait U]
    exact E i z (by omega)
   ·show r.1.2++_=_
    rw[W,AiB]
   ·show (0:Int)<=((r.1.2.length:Nat):Int)
    omega
   ·show ((r.1.2.length:Nat):Int)<((r.1.2++[((ndU l k).1,r.2)]).length:Int)
    rw[AhF]
    simp
    omega
theorem optN (k:Nat)(H:Hp):∀m:List Int,Ah (fun e=>Ah (view (k+1) H) e) (Bz m)=some (BR m)
 | []=>rfl
 | x::r=>by
  show Option.bind (some [I.i .i64 x]) _=_
  simp only[Ahz]
  have:=optN k H r
  show Option.bind (Ah _ (Bz r)) _=_
  rw[this]
  rfl
theorem UN (l:List Int)(a n:Nat):((Bz l).drop a).take n=Bz ((l.drop a).take n):=by
 unfold Bz;rw[List.map_take,List.map_drop]
variable {H:Hp} {ver len base:Nat} {lim fz:Bool}
theorem AgW {r st:Nat}{l:List Int}(h:nth H r=some (.cs 3 1 (Bz l) base fz))(u:base<=ver):elems H (.sl r ver 1 st len lim)=some (Bz ((l.drop st).take len)):=by
 show Option.bind (nth H r) _=_
 rw[h]
 show gd (Nat.ble base ver&&Nat.beq 1 1) (some (((Bz l).drop st).take len))=_
 rw[Bg,AhA u,UN]
 rfl
theorem XX {r st:Nat}{l:List Int}(h:nth H r=some (.cs 3 1 (Bz l) base fz))(u:base<=ver)(k:Nat):view (k+2) H (.sl r ver 1 st len lim)=some (.sl (BR ((l.drop st).take len))):=by
 show Option.bind (elems H (.sl r ver 1 st len lim)) _=_
 rw[AgW h u]
 show Option.bind (Ah _ (Bz _)) _=_
 rw[optN]
 rfl
open Go.Lib Go.Proofs
def Ahj (acc:List Int)(o:V)(H:Hp):Prop:=(acc=[]/\o=.m (.nl 4)/\H=[])\/(acc≠[]/\o=.sl 0 acc.length 1 0 acc.length false/\H=[.cs 3 1 (Bz acc) 0 false])
variable {acc:List Int} {o:V}
theorem Vn (h:Ahj acc o H)(hl:acc.length<=1000000)(x:Int):∃u E,(∀B,Et ⟨B,H⟩ 3 1 8 o [[J0 x]]=some (u,⟨B,E⟩))/\Az u=true/\Ahj (acc++[x]) u E:=by
 rcases h with ⟨rfl,rfl,rfl⟩|⟨J,rfl,rfl⟩
 ·exact⟨_,_,fun B=>rfl,rfl,.inr ⟨by simp,rfl,rfl⟩⟩
 ·have z:=fun B=>Cu (M:=⟨B,[.cs 3 1 (Bz acc) 0 false]⟩) (r:=0) (bytes:=8) (xs:=[[J0 x]]) rfl (by simp) (by simp[FX];omega) (by simp[])
  simp only[FX,Aib,Aic,Air,Rq,List.set_cons_zero]at z
  exact⟨_,_,z,rfl,.inr ⟨by simp,by simp,rfl⟩⟩
theorem Adh (h:Ahj acc o H):Az o=true:=by
 rcases h with ⟨_,rfl,_⟩|⟨_,rfl,_⟩ <;> rfl
theorem Vo {F:Nat}{x:V}{t0:I}(z:G.prim F=none)(hs:G.sh F=false)(E:Ahj acc o H)(h:∀w H,IsSl w (BR acc)->Gives G F [.m t0,.m w] H x H)(J:FG x=true):Gives G F [.m t0,o] H x H:=by
 rcases E with ⟨rfl,rfl,rfl⟩|⟨u,rfl,rfl⟩
 ·exact h _ [] AS
 ·refine AQ (is:=[t0,.sl (BR acc)]) z hs (h _ [] (AX _)) ?_ (.inr ⟨by simp[Dv,Fs],J⟩)
  have:=XX (r:=0) (ver:=acc.length) (st:=0) (len:=acc.length) (lim:=false) (base:=0) (fz:=false) (l:=acc) (H:=[Row.cs 3 1 (Bz acc) 0 false]) rfl (Ahy _) 18
  rw[AiA,AhJ (Ahu _)]at this
  show Option.bind (some _) (fun _=>Option.bind (Option.bind (view 20 _ _) _) _)=_
  rw[this]
  rfl
end Go.Mx.Tryz
