/- Evaluation with known answers of pure calls. Nothing here speaks of a program. -/
import Derived.Test.YtlhjjcaifenlbaaGreatDoorWa
set_option linter.unusedSimpArgs false
set_option linter.unusedVariables false
set_option linter.unusedSectionVars false
namespace Go.Mx
mutual
def Ho:I->I->Bool
 | .b x,.b y=>x==y
 | .i k x,.i j y=>eqK k j&&eqI x y
 | .s x,.s y=>eqL x y
 | .nl k,.nl j=>Nat.beq k j
 | .er,.er=>true
 | .sl x,.sl y=>HX x y
 | .pt x,.pt y=>Ji x y
 | .ag x,.ag y=>Ji x y
 | .mp x,.mp y=>HX x y
 | .fn f x,.fn g y=>Nat.beq f g&&Ji x y
 | _,_=>false
def Ji:List I->List I->Bool
 | [],[]=>true
 | x::r,y::s=>Ho x y&&Ji r s
 | _,_=>false
def HX:LT->LT->Bool
 | [],[]=>true
 | x::r,y::s=>Ji x y&&HX r s
 | _,_=>false
end
theorem mK_eq {j k:IntKind}(h:eqK j k=true):j=k:=by cases j <;> cases k <;> first|rfl|simp[eqK]at h
theorem mI_eq:∀ {x y:Int},eqI x y=true->x=y
 | .ofNat a,.ofNat b,h=>by rw[Ahy h]
 | .negSucc a,.negSucc b,h=>by rw[Ahy h]
 | .ofNat a,.negSucc b,h=>by cases h
 | .negSucc a,.ofNat b,h=>by cases h
theorem AeM:∀ {x y:List Nat},eqL x y=true->x=y
 | [],[],_=>rfl
 | a::x,b::y,h=>by
  simp only[eqL,Ahi]at h
  rw[Ahy h.1,AeM h.2]
 | [],_::_,h=>by cases h
 | _::_,[],h=>by cases h
mutual
theorem WP:∀(x y:I),Ho x y=true->x=y
 | .b x,y,h=>by
  cases y <;> simp only[Ho]at h <;> try cases h
  rw[eq_of_beq h]
 | .i k x,y,h=>by
  cases y <;> simp only[Ho,Ahi]at h <;> try cases h
  rename_i E u
  rw[mK_eq E,mI_eq u]
 | .s x,y,h=>by
  cases y <;> simp only[Ho]at h <;> try cases h
  rw[AeM h]
 | .nl k,y,h=>by
  cases y <;> simp only[Ho]at h <;> try cases h
  rw[Ahy h]
 | .er,y,h=>by
  cases y <;> simp only[Ho]at h <;> try cases h
  rfl
 | .sl x,y,h=>by
  cases y <;> simp only[Ho]at h <;> try cases h
  rename_i z
  rw[HW x z h]
 | .pt x,y,h=>by
  cases y <;> simp only[Ho]at h <;> try cases h
  rename_i z
  rw[EQ x z h]
 | .ag x,y,h=>by
  cases y <;> simp only[Ho]at h <;> try cases h
  rename_i z
  rw[EQ x z h]
 | .mp x,y,h=>by
  cases y <;> simp only[Ho]at h <;> try cases h
  rename_i z
  rw[HW x z h]
 | .fn f x,y,h=>by
  cases y <;> simp only[Ho,Ahi]at h <;> try cases h
  rename_i g z E u
  rw[Ahy E,EQ x z u]
theorem EQ:∀(x y:List I),Ji x y=true->x=y
 | [],y,h=>by
  cases y <;> simp only[Ji]at h <;> try cases h
  rfl
 | a::r,y,h=>by
  cases y with
  | nil=>simp only[Ji]at h;cases h
  | cons b s =>
   simp only[Ji,Ahi]at h
   rw[WP a b h.1,EQ r s h.2]
theorem HW:∀(x y:LT),HX x y=true->x=y
 | [],y,h=>by
  cases y <;> simp only[HX]at h <;> try cases h
  rfl
 | a::r,y,h=>by
  cases y with
  | nil=>simp only[HX]at h;cases h
  | cons b s =>
   simp only[HX,Ahi]at h
   rw[EQ a b h.1,HW r s h.2]
end
structure Ent where
 f:Nat
 is:List I
 r:V
def GD:List Ent->Nat->List I->Option V
 | [],_,_=>none
 | e::t,f,is=>match Nat.beq e.f f with
  | true=>match Ji e.is is with
   | true=>some e.r
   | false=>GD t f is
  | false=>GD t f is
theorem Ij:∀ {T:List Ent} {f:Nat} {is:List I} {r:V},GD T f is=some r -> ∃e∈T,e.f=f/\e.is=is/\e.r=r
 | [],f,is,r,h=>by simp[GD]at h
 | e::t,f,is,r,h=>by
  simp only[GD]at h
  split at h
  ·rename_i E
   split at h
   ·rename_i hs
    simp only[Ahe]at h
    exact⟨e,by simp,Ahy E,EQ _ _ hs,h⟩
   ·obtain⟨x,u,z⟩:=Ij h
    exact⟨x,by simp[u],z⟩
  ·obtain⟨x,u,z⟩:=Ij h
   exact⟨x,by simp[u],z⟩
def Mj (call:Bt)(n:Nat)(fn:F)(is:List I):Option V->Option V
 | some r=>some r
 | none=>(evF call n fn (is.map .m) []).bind fun p=>viewR p.2 p.1
def AbR (T:List Ent)(f:Nat)(call:Bt)(n:Nat)(fn:F)(vs:List V)(H:Hp):Option (V×Hp) :=
 (Ah (view 20 H) vs).bind fun is=>(Mj call n fn is (GD T f is)).bind fun r=>match vs.flatMap Du with
  | []=>gd (vs.all BO) (some (r,H))
  | rs=>match FD r with
   | true=>some (r,H)
   | false=>gd (vs.all BO) ((AX rs H).bind fun H2=>some (r,H2))
def IC (G:Cfg)(T:List Ent):Nat->Bt
 | 0,_,_,_=>none
 | n+1,f,vs,H=>match G.prim f with
  | some p=>p (IC G T n) vs H
  | none=>match G.fn f with
   | some fn=>match G.sh f with
    | true=>evF (IC G T n) n fn vs H
    | false=>AbR T f (IC G T n) n fn vs H
   | none=>gd (Nat.beq f yN) (Ep (IC G T n) n vs H)
theorem Ii (H:Hp):∀is:List I,Ah (view 20 H) (is.map .m)=some is
 | []=>rfl
 | x::r=>by
  have h:view 20 H (.m x)=some x:=rfl
  simp[h,Ii H r]
theorem Tr:∀is:List I,((is.map V.m).flatMap Du)=[]
 | []=>rfl
 | x::r=>by
  have h:Du (.m x)=[]:=rfl
  simp[h]
  intro a _
  rfl
variable {n:Nat}
theorem Oe {call:Bt}{fn:F}{is:List I}{r:V}(h:Eu call n fn (is.map .m) []=some (r,[])):((evF call n fn (is.map .m) []).bind fun p=>viewR p.2 p.1)=some r:=by
 unfold Eu at h
 rw[Ii]at h
 simp only[Ahp,Tr]at h
 simp only[Ahd]at h ⊢
 obtain⟨p,E,J,z,u⟩:=h
 simp only[Ag,Ahe,Ahf]at u
 exact⟨p,E,by rw[z,u.2.1]⟩
theorem PN {G:Cfg}(W:BJ G){T:List Ent}{N:Nat}(Y:∀e∈T,BE G N e.f (e.is.map .m) []=some (e.r,[])):∀n:Nat,LeC (IC G T n) (BE G (N+n))
 | 0,f,vs,H,r,h=>by simp[IC]at h
 | n+1,f,vs,H,r,h=>by
  have J:=PN W Y n
  unfold IC at h
  rw[show N+(n+1)=(N+n)+1 from rfl]
  unfold BE
  split at h
  ·rename_i p E
   rw[E]
   exact W f p E _ _ J vs H r h
  ·rename_i E
   rw[E]
   split at h
   ·rename_i fn Q
    simp only[Q]
    split at h
    ·rename_i U
     simp only[U]
     exact EX J (by omega) h
    ·rename_i U
     simp only[U]
     unfold AbR at h
     unfold Eu
     refine AK (fun _ h=>h) (fun is r h=>?_) h
     rw[<-Aiq]
     refine AK (fun r0 z=>?_) (fun _ _ h=>h) h
     cases hl:GD T f is with
     | none =>
      rw[hl]at z
      exact AK (fun b=>EX J (by omega)) (fun _ _ h=>h) z
     | some r1 =>
      rw[hl]at z
      simp only[Mj,Ahe]at z
      subst z
      obtain⟨e,he,Z,h2,h3⟩:=Ij hl
      have u:=Y e he
      rw[Z,h2,h3]at u
      have u:=Bj W (n:=N) (m:=N+n+1) (by omega) _ _ _ _ u
      unfold BE at u
      simp only[E,Q,U]at u
      exact Oe u
   ·rename_i Q
    simp only[Q]
    simp only[Ag]at h ⊢
    exact⟨h.1,Fy J (by omega) h.2⟩
def BB (G:Cfg)(T:List Ent):Prop:=∃N,∀e∈T,BE G N e.f (e.is.map .m) []=some (e.r,[])
theorem SK (G:Cfg):BB G []:=⟨0,fun e h=>by simp at h⟩
variable {G:Cfg} {T:List Ent}
theorem Ms (z:BJ G)(E:BB G T){f:Nat}{vs:List V}{H H':Hp}{v:V}(h:IC G T n f vs H=some (v,H')):Gives G f vs H v H':=by
 obtain⟨N,u⟩:=E
 exact⟨N+n,PN z u n _ _ _ _ h⟩
theorem Gt (z:BJ G)(J:BB G T){e:Ent}(h:Gives G e.f (e.is.map .m) [] e.r []):BB G (e::T):=by
 obtain⟨N,E⟩:=J
 obtain⟨n,Q⟩:=h
 refine⟨max N n,fun x u=>?_⟩
 rcases AhF.1 u with rfl|u
 ·exact Bj z (Nat.le_max_right N n) _ _ _ _ Q
 ·exact Bj z (Nat.le_max_left N n) _ _ _ _ (E x u)
theorem WE (u:BJ G)(z:BB G T){e:Ent}(h:IC G T n e.f (e.is.map .m) []=some (e.r,[])):BB G (e::T):=Gt u z (Ms u z h)
end Go.Mx
