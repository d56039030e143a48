/- Evaluation with known answers of pure calls. Nothing here speaks of a program. -/
import Derived.Test.YtiehnedoinlfeaaGreatDoorWa
set_option linter.unusedSimpArgs false
set_option linter.unusedVariables false
set_option linter.unusedSectionVars false
namespace Go.Mx
mutual
def Ht:I->I->Bool
 | .b x,.b y=>x==y
 | .i k x,.i j y=>eqK k j&&eqI x y
 | .s x,.s y=>eqL x y
 | .nl k,.nl j=>Nat.beq k j
 | .er,.er=>true
 | .sl x,.sl y=>Ia x y
 | .pt x,.pt y=>Jf x y
 | .ag x,.ag y=>Jf x y
 | .mp x,.mp y=>Ia x y
 | .fn f x,.fn g y=>Nat.beq f g&&Jf x y
 | _,_=>false
def Jf:List I->List I->Bool
 | [],[]=>true
 | x::r,y::s=>Ht x y&&Jf r s
 | _,_=>false
def Ia:LT->LT->Bool
 | [],[]=>true
 | x::r,y::s=>Jf x y&&Ia r s
 | _,_=>false
end
theorem mK_eq {j k:IntKind}(h:eqK j k=true):j=k:=by cases j <;> cases k <;> first|rfl|simp[eqK]at h
theorem mI_eq:∀ {x y:Int},eqI x y=true->x=y
 | .ofNat a,.ofNat b,h=>by rw[AhI h]
 | .negSucc a,.negSucc b,h=>by rw[AhI h]
 | .ofNat a,.negSucc b,h=>by cases h
 | .negSucc a,.ofNat b,h=>by cases h
theorem AeS:∀ {x y:List Nat},eqL x y=true->x=y
 | [],[],_=>rfl
 | a::x,b::y,h=>by
  simp only[eqL,Ahs]at h
  rw[AhI h.1,AeS h.2]
 | [],_::_,h=>by cases h
 | _::_,[],h=>by cases h
mutual
theorem WL:∀(x y:I),Ht x y=true->x=y
 | .b x,y,h=>by
  cases y <;> simp only[Ht]at h <;> try cases h
  rw[eq_of_beq h]
 | .i k x,y,h=>by
  cases y <;> simp only[Ht,Ahs]at h <;> try cases h
  rename_i E u
  rw[mK_eq E,mI_eq u]
 | .s x,y,h=>by
  cases y <;> simp only[Ht]at h <;> try cases h
  rw[AeS h]
 | .nl k,y,h=>by
  cases y <;> simp only[Ht]at h <;> try cases h
  rw[AhI h]
 | .er,y,h=>by
  cases y <;> simp only[Ht]at h <;> try cases h
  rfl
 | .sl x,y,h=>by
  cases y <;> simp only[Ht]at h <;> try cases h
  rename_i z
  rw[HZ x z h]
 | .pt x,y,h=>by
  cases y <;> simp only[Ht]at h <;> try cases h
  rename_i z
  rw[EU x z h]
 | .ag x,y,h=>by
  cases y <;> simp only[Ht]at h <;> try cases h
  rename_i z
  rw[EU x z h]
 | .mp x,y,h=>by
  cases y <;> simp only[Ht]at h <;> try cases h
  rename_i z
  rw[HZ x z h]
 | .fn f x,y,h=>by
  cases y <;> simp only[Ht,Ahs]at h <;> try cases h
  rename_i g z E u
  rw[AhI E,EU x z u]
theorem EU:∀(x y:List I),Jf x y=true->x=y
 | [],y,h=>by
  cases y <;> simp only[Jf]at h <;> try cases h
  rfl
 | a::r,y,h=>by
  cases y with
  | nil=>simp only[Jf]at h;cases h
  | cons b s =>
   simp only[Jf,Ahs]at h
   rw[WL a b h.1,EU r s h.2]
theorem HZ:∀(x y:LT),Ia x y=true->x=y
 | [],y,h=>by
  cases y <;> simp only[Ia]at h <;> try cases h
  rfl
 | a::r,y,h=>by
  cases y with
  | nil=>simp only[Ia]at h;cases h
  | cons b s =>
   simp only[Ia,Ahs]at h
   rw[EU a b h.1,HZ r s h.2]
end
structure Ent where
 f:Nat
 is:List I
 r:V
def GF:List Ent->Nat->List I->Option V
 | [],_,_=>none
 | e::t,f,is=>match Nat.beq e.f f with
  | true=>match Jf e.is is with
   | true=>some e.r
   | false=>GF t f is
  | false=>GF t f is
theorem Im:∀ {T:List Ent} {f:Nat} {is:List I} {r:V},GF T f is=some r -> ∃e∈T,e.f=f/\e.is=is/\e.r=r
 | [],f,is,r,h=>by simp[GF]at h
 | e::t,f,is,r,h=>by
  simp only[GF]at h
  split at h
  ·rename_i E
   split at h
   ·rename_i hs
    simp only[Aho]at h
    exact⟨e,by simp,AhI E,EU _ _ hs,h⟩
   ·obtain⟨x,u,z⟩:=Im h
    exact⟨x,by simp[u],z⟩
  ·obtain⟨x,u,z⟩:=Im h
   exact⟨x,by simp[u],z⟩
def Mb (call:Bt)(n:Nat)(fn:F)(is:List I):Option V->Option V
 | some r=>some r
 | none=>(evF call n fn (is.map .m) []).bind fun p=>viewR p.2 p.1
def AbW (T:List Ent)(f:Nat)(call:Bt)(n:Nat)(fn:F)(vs:List V)(H:Hp):Option (V×Hp) :=
 (Ah (view 20 H) vs).bind fun is=>(Mb call n fn is (GF T f is)).bind fun r=>match vs.flatMap Dv with
  | []=>gd (vs.all BN) (some (r,H))
  | rs=>match FG r with
   | true=>some (r,H)
   | false=>gd (vs.all BN) ((AY rs H).bind fun H2=>some (r,H2))
def IF (G:Cfg)(T:List Ent):Nat->Bt
 | 0,_,_,_=>none
 | n+1,f,vs,H=>match G.prim f with
  | some p=>p (IF G T n) vs H
  | none=>match G.fn f with
   | some fn=>match G.sh f with
    | true=>evF (IF G T n) n fn vs H
    | false=>AbW T f (IF G T n) n fn vs H
   | none=>gd (Nat.beq f yN) (Er (IF G T n) n vs H)
theorem Il (H:Hp):∀is:List I,Ah (view 20 H) (is.map .m)=some is
 | []=>rfl
 | x::r=>by
  have h:view 20 H (.m x)=some x:=rfl
  simp[h,Il H r]
theorem Ts:∀is:List I,((is.map V.m).flatMap Dv)=[]
 | []=>rfl
 | x::r=>by
  have h:Dv (.m x)=[]:=rfl
  simp[h]
  intro a _
  rfl
variable {n:Nat}
theorem Ob {call:Bt}{fn:F}{is:List I}{r:V}(h:Ey call n fn (is.map .m) []=some (r,[])):((evF call n fn (is.map .m) []).bind fun p=>viewR p.2 p.1)=some r:=by
 unfold Ey at h
 rw[Il]at h
 simp only[Ahz,Ts]at h
 simp only[Ahn]at h ⊢
 obtain⟨p,E,J,z,u⟩:=h
 simp only[Ag,Aho,Ahp]at u
 exact⟨p,E,by rw[z,u.2.1]⟩
theorem PN {G:Cfg}(W:BJ G){T:List Ent}{N:Nat}(Y:∀e∈T,BE G N e.f (e.is.map .m) []=some (e.r,[])):∀n:Nat,LeC (IF G T n) (BE G (N+n))
 | 0,f,vs,H,r,h=>by simp[IF]at h
 | n+1,f,vs,H,r,h=>by
  have Q:=PN W Y n
  unfold IF at h
  rw[show N+(n+1)=(N+n)+1 from rfl]
  unfold BE
  split at h
  ·rename_i p E
   rw[E]
   exact W f p E _ _ Q vs H r h
  ·rename_i E
   rw[E]
   split at h
   ·rename_i fn U
    simp only[U]
    split at h
    ·rename_i J
     simp only[J]
     exact Fb Q (by omega) h
    ·rename_i J
     simp only[J]
     unfold AbW at h
     unfold Ey
     refine AK (fun _ h=>h) (fun is r h=>?_) h
     rw[<-AiC]
     refine AK (fun r0 z=>?_) (fun _ _ h=>h) h
     cases hl:GF T f is with
     | none =>
      rw[hl]at z
      exact AK (fun b=>Fb Q (by omega)) (fun _ _ h=>h) z
     | some r1 =>
      rw[hl]at z
      simp only[Mb,Aho]at z
      subst z
      obtain⟨e,he,h1,Z,h3⟩:=Im hl
      have u:=Y e he
      rw[h1,Z,h3]at u
      have u:=Bk W (n:=N) (m:=N+n+1) (by omega) _ _ _ _ u
      unfold BE at u
      simp only[E,U,J]at u
      exact Ob u
   ·rename_i U
    simp only[U]
    simp only[Ag]at h ⊢
    exact⟨h.1,FB Q (by omega) h.2⟩
def BB (G:Cfg)(T:List Ent):Prop:=∃N,∀e∈T,BE G N e.f (e.is.map .m) []=some (e.r,[])
theorem SL (G:Cfg):BB G []:=⟨0,fun e h=>by simp at h⟩
variable {G:Cfg} {T:List Ent}
theorem Mj (u:BJ G)(z:BB G T){f:Nat}{vs:List V}{H H':Hp}{v:V}(h:IF G T n f vs H=some (v,H')):Gives G f vs H v H':=by
 obtain⟨N,E⟩:=z
 exact⟨N+n,PN u E n _ _ _ _ h⟩
theorem Gv (z:BJ G)(J:BB G T){e:Ent}(h:Gives G e.f (e.is.map .m) [] e.r []):BB G (e::T):=by
 obtain⟨N,Q⟩:=J
 obtain⟨n,E⟩:=h
 refine⟨max N n,fun x u=>?_⟩
 rcases AhO.1 u with rfl|u
 ·exact Bk z (Nat.le_max_right N n) _ _ _ _ E
 ·exact Bk z (Nat.le_max_left N n) _ _ _ _ (Q x u)
theorem WA (u:BJ G)(z:BB G T){e:Ent}(h:IF G T n e.f (e.is.map .m) []=some (e.r,[])):BB G (e::T):=Gv u z (Mj u z h)
end Go.Mx
