/- Evaluation with known answers of pure calls. Nothing here speaks of a program. -/
import Derived.Test.YtlhjjcaifenlbaaGreatDoorWa
set_option linter.unusedSimpArgs false
set_option linter.unusedVariables false
set_option linter.unusedSectionVars false
namespace Go.Mx
mutual
def GG : I -> I -> Bool
 | .b x,.b y=>x == y
 | .i k x,.i j y=>eqK k j && eqI x y
 | .s x,.s y=>eqL x y
 | .nl k,.nl j=>Nat.beq k j
 | .er,.er=>true
 | .sl x,.sl y=>Hr x y
 | .pt x,.pt y=>Io x y
 | .ag x,.ag y=>Io x y
 | .mp x,.mp y=>Hr x y
 | .fn f x,.fn g y=>Nat.beq f g && Io x y
 | _,_=>false
def Io : List I -> List I -> Bool
 | [],[]=>true
 | x :: r,y :: s=>GG x y && Io r s
 | _,_=>false
def Hr : List (List I) -> List (List I) -> Bool
 | [],[]=>true
 | x :: r,y :: s=>Io x y && Hr r s
 | _,_=>false
end
theorem mK_eq {j k : IntKind} (h : eqK j k = true) : j = k:=by cases j <;> cases k <;> first | rfl | simp [eqK] at h
theorem mI_eq : ∀ {x y : Int},eqI x y = true -> x = y
 | .ofNat a,.ofNat b,h=>by rw [AdD h]
 | .negSucc a,.negSucc b,h=>by rw [AdD h]
 | .ofNat a,.negSucc b,h=>by cases h
 | .negSucc a,.ofNat b,h=>by cases h
theorem Aba : ∀ {x y : List Nat},eqL x y = true -> x = y
 | [],[],_=>rfl
 | a :: x,b :: y,h=>by
  simp only [eqL,Adr] at h
  rw [AdD h.1,Aba h.2]
 | [],_ :: _,h=>by cases h
 | _ :: _,[],h=>by cases h
mutual
theorem TV : ∀ (x y : I),GG x y = true -> x = y
 | .b x,y,h=>by
  cases y <;> simp only [GG] at h <;> try cases h
  rw [eq_of_beq h]
 | .i k x,y,h=>by
  cases y <;> simp only [GG,Adr] at h <;> try cases h
  rename_i h1 h2
  rw [mK_eq h1,mI_eq h2]
 | .s x,y,h=>by
  cases y <;> simp only [GG] at h <;> try cases h
  rw [Aba h]
 | .nl k,y,h=>by
  cases y <;> simp only [GG] at h <;> try cases h
  rw [AdD h]
 | .er,y,h=>by
  cases y <;> simp only [GG] at h <;> try cases h
  rfl
 | .sl x,y,h=>by
  cases y <;> simp only [GG] at h <;> try cases h
  rename_i z
  rw [Hq x z h]
 | .pt x,y,h=>by
  cases y <;> simp only [GG] at h <;> try cases h
  rename_i z
  rw [Ez x z h]
 | .ag x,y,h=>by
  cases y <;> simp only [GG] at h <;> try cases h
  rename_i z
  rw [Ez x z h]
 | .mp x,y,h=>by
  cases y <;> simp only [GG] at h <;> try cases h
  rename_i z
  rw [Hq x z h]
 | .fn f x,y,h=>by
  cases y <;> simp only [GG,Adr] at h <;> try cases h
  rename_i g z h1 h2
  rw [AdD h1,Ez x z h2]
theorem Ez : ∀ (x y : List I),Io x y = true -> x = y
 | [],y,h=>by
  cases y <;> simp only [Io] at h <;> try cases h
  rfl
 | a :: r,y,h=>by
  cases y with
  | nil=>simp only [Io] at h; cases h
  | cons b s =>
   simp only [Io,Adr] at h
   rw [TV a b h.1,Ez r s h.2]
theorem Hq : ∀ (x y : List (List I)),Hr x y = true -> x = y
 | [],y,h=>by
  cases y <;> simp only [Hr] at h <;> try cases h
  rfl
 | a :: r,y,h=>by
  cases y with
  | nil=>simp only [Hr] at h; cases h
  | cons b s =>
   simp only [Hr,Adr] at h
   rw [Ez a b h.1,Hq r s h.2]
end
structure Ent where
 f : Nat
 is : List I
 r : V
def Ge : List Ent -> Nat -> List I -> Option V
 | [],_,_=>none
 | e :: t,f,is=>match Nat.beq e.f f with
  | true=>match Io e.is is with
   | true=>some e.r
   | false=>Ge t f is
  | false=>Ge t f is
theorem HF : ∀ {T : List Ent} {f : Nat} {is : List I} {r : V},Ge T f is = some r -> ∃ e ∈ T,e.f = f /\ e.is = is /\ e.r = r
 | [],f,is,r,h=>by simp [Ge] at h
 | e :: t,f,is,r,h=>by
  simp only [Ge] at h
  split at h
  ·rename_i hf
   split at h
   ·rename_i hs
    simp only [Ado] at h
    exact ⟨e,by simp,AdD hf,Ez _ _ hs,h⟩
   ·obtain ⟨x,hx,h1⟩:=HF h
    exact ⟨x,by simp [hx],h1⟩
  ·obtain ⟨x,hx,h1⟩:=HF h
   exact ⟨x,by simp [hx],h1⟩
def KE (call : Bf) (n : Nat) (fn : F) (is : List I) : Option V -> Option V
 | some r=>some r
 | none=>(evF call n fn (is.map .m) []).bind fun p=>viewR p.2 p.1
def Yi (T : List Ent) (f : Nat) (call : Bf) (n : Nat) (fn : F) (vs : List V) (H : Hp) : Option (V × Hp) :=
 (Ah (view 20 H) vs).bind fun is=>(KE call n fn is (Ge T f is)).bind fun r=>match vs.flatMap DH with
  | []=>gd (vs.all Bn) (some (r,H))
  | rs=>match Fy r with
   | true=>some (r,H)
   | false=>gd (vs.all Bn) ((AV rs H).bind fun H2=>some (r,H2))
def HT (G : Cfg) (T : List Ent) : Nat -> Bf
 | 0,_,_,_=>none
 | n + 1,f,vs,H=>match G.prim f with
  | some p=>p (HT G T n) vs H
  | none=>match G.fn f with
   | some fn=>match G.sh f with
    | true=>evF (HT G T n) n fn vs H
    | false=>Yi T f (HT G T n) n fn vs H
   | none=>gd (Nat.beq f yN) (DU (HT G T n) n vs H)
theorem HD (H : Hp) : ∀ is : List I,Ah (view 20 H) (is.map .m) = some is
 | []=>rfl
 | x :: r=>by
  have h : view 20 H (.m x) = some x:=rfl
  simp [h,HD H r]
theorem QX : ∀ is : List I,((is.map V.m).flatMap DH) = []
 | []=>rfl
 | x :: r=>by
  have h : DH (.m x) = []:=rfl
  simp [h]
  intro a _
  rfl
theorem Mq {call : Bf} {n : Nat} {fn : F} {is : List I} {r : V} (h : DZ call n fn (is.map .m) [] = some (r,[])) : ((evF call n fn (is.map .m) []).bind fun p=>viewR p.2 p.1) = some r:=by
 unfold DZ at h
 rw [HD] at h
 simp only [Adx,QX] at h
 simp only [Adn] at h ⊢
 obtain ⟨p,h1,r',h2,h3⟩:=h
 simp only [Ag,Ado,Adp] at h3
 exact ⟨p,h1,by rw [h2,h3.2.1]⟩
theorem NT {G : Cfg} (hG : Bt G) {T : List Ent} {N : Nat} (hT : ∀ e ∈ T,Br G N e.f (e.is.map .m) [] = some (e.r,[])) : ∀ n : Nat,LeC (HT G T n) (Br G (N + n))
 | 0,f,vs,H,r,h=>by simp [HT] at h
 | n + 1,f,vs,H,r,h=>by
  have ih:=NT hG hT n
  unfold HT at h
  rw [show N + (n + 1) = (N + n) + 1 from rfl]
  unfold Br
  split at h
  ·rename_i p hp
   rw [hp]
   exact hG f p hp _ _ ih vs H r h
  ·rename_i hp
   rw [hp]
   split at h
   ·rename_i fn hf
    simp only [hf]
    split at h
    ·rename_i hs
     simp only [hs]
     exact EG ih (by omega) h
    ·rename_i hs
     simp only [hs]
     unfold Yi at h
     unfold DZ
     refine AD (fun _ h=>h) (fun is r h=>?_) h
     rw [<- Aeo]
     refine AD (fun r0 h0=>?_) (fun _ _ h=>h) h
     cases hl : Ge T f is with
     | none =>
      rw [hl] at h0
      exact AD (fun b=>EG ih (by omega)) (fun _ _ h=>h) h0
     | some r1 =>
      rw [hl] at h0
      simp only [KE,Ado] at h0
      subst h0
      obtain ⟨e,he,h1,h2,h3⟩:=HF hl
      have hk:=hT e he
      rw [h1,h2,h3] at hk
      have hk:=AY hG (n:=N) (m:=N + n + 1) (by omega) _ _ _ _ hk
      unfold Br at hk
      simp only [hp,hf,hs] at hk
      exact Mq hk
   ·rename_i hf
    simp only [hf]
    simp only [Ag] at h ⊢
    exact ⟨h.1,Fb ih (by omega) h.2⟩
def Cq (G : Cfg) (T : List Ent) : Prop:=∃ N,∀ e ∈ T,Br G N e.f (e.is.map .m) [] = some (e.r,[])
theorem Qo (G : Cfg) : Cq G []:=⟨0,fun e h=>by simp at h⟩
theorem KM {G : Cfg} (hG : Bt G) {T : List Ent} (hT : Cq G T) {n f : Nat} {vs : List V} {H H' : Hp} {v : V} (h : HT G T n f vs H = some (v,H')) : Gives G f vs H v H':=by
 obtain ⟨N,hN⟩:=hT
 exact ⟨N + n,NT hG hN n _ _ _ _ h⟩
theorem Pe {G : Cfg} (hG : Bt G) {T : List Ent} (hT : Cq G T) {e : Ent} (h : Gives G e.f (e.is.map .m) [] e.r []) : Cq G (e :: T):=by
 obtain ⟨N,hN⟩:=hT
 obtain ⟨n,hn⟩:=h
 refine ⟨max N n,fun x hx=>?_⟩
 rcases AdP.1 hx with rfl | hx
 ·exact AY hG (Nat.le_max_right N n) _ _ _ _ hn
 ·exact AY hG (Nat.le_max_left N n) _ _ _ _ (hN x hx)
theorem TL {G : Cfg} (hG : Bt G) {T : List Ent} (hT : Cq G T) {n : Nat} {e : Ent} (h : HT G T n e.f (e.is.map .m) [] = some (e.r,[])) : Cq G (e :: T):=Pe hG hT (KM hG hT h)
end Go.Mx
