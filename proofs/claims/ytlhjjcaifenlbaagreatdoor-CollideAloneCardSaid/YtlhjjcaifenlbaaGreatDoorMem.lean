/- Evaluation with known answers of pure calls. Nothing here speaks of a program. -/
import Derived.Test.YtlhjjcaifenlbaaGreatDoorWa
set_option linter.unusedSimpArgs false
set_option linter.unusedVariables false
set_option linter.unusedSectionVars false
namespace Go.Mx
mutual
def Hc:I->I->Bool
 | .b x,.b y=>x==y
 | .i k x,.i j y=>eqK k j&&eqI x y
 | .s x,.s y=>eqL x y
 | .nl k,.nl j=>Nat.beq k j
 | .er,.er=>true
 | .sl x,.sl y=>HN x y
 | .pt x,.pt y=>IU x y
 | .ag x,.ag y=>IU x y
 | .mp x,.mp y=>HN x y
 | .fn f x,.fn g y=>Nat.beq f g&&IU x y
 | _,_=>false
def IU:List I->List I->Bool
 | [],[]=>true
 | x::r,y::s=>Hc x y&&IU r s
 | _,_=>false
def HN:List (List I)->List (List I)->Bool
 | [],[]=>true
 | x::r,y::s=>IU x y&&HN r s
 | _,_=>false
end
theorem mK_eq {j k:IntKind}(h:eqK j k=true):j=k:=by cases j <;> cases k <;> first|rfl|simp[eqK]at h
theorem mI_eq:∀ {x y:Int},eqI x y=true->x=y
 | .ofNat a,.ofNat b,h=>by rw[Aiz h]
 | .negSucc a,.negSucc b,h=>by rw[Aiz h]
 | .ofNat a,.negSucc b,h=>by cases h
 | .negSucc a,.ofNat b,h=>by cases h
theorem Ael:∀ {x y:List Nat},eqL x y=true->x=y
 | [],[],_=>rfl
 | a::x,b::y,h=>by
  simp only[eqL,Aio]at h
  rw[Aiz h.1,Ael h.2]
 | [],_::_,h=>by cases h
 | _::_,[],h=>by cases h
mutual
theorem VC:∀(x y:I),Hc x y=true->x=y
 | .b x,y,h=>by
  cases y <;> simp only[Hc]at h <;> try cases h
  rw[eq_of_beq h]
 | .i k x,y,h=>by
  cases y <;> simp only[Hc,Aio]at h <;> try cases h
  rename_i h1 h2
  rw[mK_eq h1,mI_eq h2]
 | .s x,y,h=>by
  cases y <;> simp only[Hc]at h <;> try cases h
  rw[Ael h]
 | .nl k,y,h=>by
  cases y <;> simp only[Hc]at h <;> try cases h
  rw[Aiz h]
 | .er,y,h=>by
  cases y <;> simp only[Hc]at h <;> try cases h
  rfl
 | .sl x,y,h=>by
  cases y <;> simp only[Hc]at h <;> try cases h
  rename_i z
  rw[HM x z h]
 | .pt x,y,h=>by
  cases y <;> simp only[Hc]at h <;> try cases h
  rename_i z
  rw[EM x z h]
 | .ag x,y,h=>by
  cases y <;> simp only[Hc]at h <;> try cases h
  rename_i z
  rw[EM x z h]
 | .mp x,y,h=>by
  cases y <;> simp only[Hc]at h <;> try cases h
  rename_i z
  rw[HM x z h]
 | .fn f x,y,h=>by
  cases y <;> simp only[Hc,Aio]at h <;> try cases h
  rename_i g z h1 h2
  rw[Aiz h1,EM x z h2]
theorem EM:∀(x y:List I),IU x y=true->x=y
 | [],y,h=>by
  cases y <;> simp only[IU]at h <;> try cases h
  rfl
 | a::r,y,h=>by
  cases y with
  | nil=>simp only[IU]at h;cases h
  | cons b s =>
   simp only[IU,Aio]at h
   rw[VC a b h.1,EM r s h.2]
theorem HM:∀(x y:List (List I)),HN x y=true->x=y
 | [],y,h=>by
  cases y <;> simp only[HN]at h <;> try cases h
  rfl
 | a::r,y,h=>by
  cases y with
  | nil=>simp only[HN]at h;cases h
  | cons b s =>
   simp only[HN,Aio]at h
   rw[EM a b h.1,HM r s h.2]
end
structure Ent where
 f:Nat
 is:List I
 r:V
def Gy:List Ent->Nat->List I->Option V
 | [],_,_=>none
 | e::t,f,is=>match Nat.beq e.f f with
  | true=>match IU e.is is with
   | true=>some e.r
   | false=>Gy t f is
  | false=>Gy t f is
theorem HZ:∀ {T:List Ent} {f:Nat} {is:List I} {r:V},Gy T f is=some r -> ∃e∈T,e.f=f/\e.is=is/\e.r=r
 | [],f,is,r,h=>by simp[Gy]at h
 | e::t,f,is,r,h=>by
  simp only[Gy]at h
  split at h
  ·rename_i hf
   split at h
   ·rename_i hs
    simp only[Ail]at h
    exact⟨e,by simp,Aiz hf,EM _ _ hs,h⟩
   ·obtain⟨x,hx,h1⟩:=HZ h
    exact⟨x,by simp[hx],h1⟩
  ·obtain⟨x,hx,h1⟩:=HZ h
   exact⟨x,by simp[hx],h1⟩
def LB (call:Bq)(n:Nat)(fn:F)(is:List I):Option V->Option V
 | some r=>some r
 | none=>(evF call n fn (is.map .m) []).bind fun p=>viewR p.2 p.1
def AaC (T:List Ent)(f:Nat)(call:Bq)(n:Nat)(fn:F)(vs:List V)(H:Hp):Option (V×Hp) :=
 (Af (view 20 H) vs).bind fun is=>(LB call n fn is (Gy T f is)).bind fun r=>match vs.flatMap DA with
  | []=>gd (vs.all BJ) (some (r,H))
  | rs=>match FY r with
   | true=>some (r,H)
   | false=>gd (vs.all BJ) ((AW rs H).bind fun H2=>some (r,H2))
def Iq (G:Cfg)(T:List Ent):Nat->Bq
 | 0,_,_,_=>none
 | n+1,f,vs,H=>match G.prim f with
  | some p=>p (Iq G T n) vs H
  | none=>match G.fn f with
   | some fn=>match G.sh f with
    | true=>evF (Iq G T n) n fn vs H
    | false=>AaC T f (Iq G T n) n fn vs H
   | none=>gd (Nat.beq f yN) (Ei (Iq G T n) n vs H)
theorem HX (H:Hp):∀is:List I,Af (view 20 H) (is.map .m)=some is
 | []=>rfl
 | x::r=>by
  have h:view 20 H (.m x)=some x:=rfl
  simp[h,HX H r]
theorem SD:∀is:List I,((is.map V.m).flatMap DA)=[]
 | []=>rfl
 | x::r=>by
  have h:DA (.m x)=[]:=rfl
  simp[h]
  intro a _
  rfl
theorem Nx {call:Bq}{n:Nat}{fn:F}{is:List I}{r:V}(h:Em call n fn (is.map .m) []=some (r,[])):((evF call n fn (is.map .m) []).bind fun p=>viewR p.2 p.1)=some r:=by
 unfold Em at h
 rw[HX]at h
 simp only[Ait,SD]at h
 simp only[Aik]at h ⊢
 obtain⟨p,h1,r',h2,h3⟩:=h
 simp only[Ae,Ail,Aim]at h3
 exact⟨p,h1,by rw[h2,h3.2.1]⟩
theorem Pa {G:Cfg}(hG:BD G){T:List Ent}{N:Nat}(hT:∀e∈T,BB G N e.f (e.is.map .m) []=some (e.r,[])):∀n:Nat,LeC (Iq G T n) (BB G (N+n))
 | 0,f,vs,H,r,h=>by simp[Iq]at h
 | n+1,f,vs,H,r,h=>by
  have ih:=Pa hG hT n
  unfold Iq at h
  rw[show N+(n+1)=(N+n)+1 from rfl]
  unfold BB
  split at h
  ·rename_i p hp
   rw[hp]
   exact hG f p hp _ _ ih vs H r h
  ·rename_i hp
   rw[hp]
   split at h
   ·rename_i fn hf
    simp only[hf]
    split at h
    ·rename_i hs
     simp only[hs]
     exact EU ih (by omega) h
    ·rename_i hs
     simp only[hs]
     unfold AaC at h
     unfold Em
     refine AL (fun _ h=>h) (fun is r h=>?_) h
     rw[<-Aju]
     refine AL (fun r0 h0=>?_) (fun _ _ h=>h) h
     cases hl:Gy T f is with
     | none =>
      rw[hl]at h0
      exact AL (fun b=>EU ih (by omega)) (fun _ _ h=>h) h0
     | some r1 =>
      rw[hl]at h0
      simp only[LB,Ail]at h0
      subst h0
      obtain⟨e,he,h1,h2,h3⟩:=HZ hl
      have hk:=hT e he
      rw[h1,h2,h3]at hk
      have hk:=Bi hG (n:=N) (m:=N+n+1) (by omega) _ _ _ _ hk
      unfold BB at hk
      simp only[hp,hf,hs]at hk
      exact Nx hk
   ·rename_i hf
    simp only[hf]
    simp only[Ae]at h ⊢
    exact⟨h.1,Fu ih (by omega) h.2⟩
def Ar (G:Cfg)(T:List Ent):Prop:=∃N,∀e∈T,BB G N e.f (e.is.map .m) []=some (e.r,[])
theorem RT (G:Cfg):Ar G []:=⟨0,fun e h=>by simp at h⟩
theorem LO {G:Cfg}(hG:BD G){T:List Ent}(hT:Ar G T){n f:Nat}{vs:List V}{H H':Hp}{v:V}(h:Iq G T n f vs H=some (v,H')):Gives G f vs H v H':=by
 obtain⟨N,hN⟩:=hT
 exact⟨N+n,Pa hG hN n _ _ _ _ h⟩
theorem Gp {G:Cfg}(hG:BD G){T:List Ent}(hT:Ar G T){e:Ent}(h:Gives G e.f (e.is.map .m) [] e.r []):Ar G (e::T):=by
 obtain⟨N,hN⟩:=hT
 obtain⟨n,hn⟩:=h
 refine⟨max N n,fun x hx=>?_⟩
 rcases AiK.1 hx with rfl|hx
 ·exact Bi hG (Nat.le_max_right N n) _ _ _ _ hn
 ·exact Bi hG (Nat.le_max_left N n) _ _ _ _ (hN x hx)
theorem Vq {G:Cfg}(hG:BD G){T:List Ent}(hT:Ar G T){n:Nat}{e:Ent}(h:Iq G T n e.f (e.is.map .m) []=some (e.r,[])):Ar G (e::T):=Gp hG hT (LO hG hT h)
end Go.Mx
