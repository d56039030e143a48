/- Evaluation with known answers of pure calls. Nothing here speaks of a program. -/
import Derived.Test.YtlhjjcaifenlbaaGreatDoorWa
set_option linter.unusedSimpArgs false
set_option linter.unusedVariables false
set_option linter.unusedSectionVars false
namespace Go.Mx
mutual
def Ge : I -> I -> Bool
 | .b x,.b y=>x == y
 | .i k x,.i j y=>eqK k j && eqI x y
 | .s x,.s y=>eqL x y
 | .nl k,.nl j=>Nat.beq k j
 | .er,.er=>true
 | .sl x,.sl y=>GL x y
 | .pt x,.pt y=>HL x y
 | .ag x,.ag y=>HL x y
 | .mp x,.mp y=>GL x y
 | .fn f x,.fn g y=>Nat.beq f g && HL x y
 | _,_=>false
def HL : List I -> List I -> Bool
 | [],[]=>true
 | x :: r,y :: s=>Ge x y && HL r s
 | _,_=>false
def GL : List (List I) -> List (List I) -> Bool
 | [],[]=>true
 | x :: r,y :: s=>HL x y && GL r s
 | _,_=>false
end
theorem mK_eq {j k : IntKind} (h : eqK j k = true) : j = k:=by cases j <;> cases k <;> first | rfl | simp [eqK] at h
theorem mI_eq : ∀ {x y : Int},eqI x y = true -> x = y
 | .ofNat a,.ofNat b,h=>by rw [AcJ h]
 | .negSucc a,.negSucc b,h=>by rw [AcJ h]
 | .ofNat a,.negSucc b,h=>by cases h
 | .negSucc a,.ofNat b,h=>by cases h
theorem Aak : ∀ {x y : List Nat},eqL x y = true -> x = y
 | [],[],_=>rfl
 | a :: x,b :: y,h=>by
  simp only [eqL,Acx] at h
  rw [AcJ h.1,Aak h.2]
 | [],_ :: _,h=>by cases h
 | _ :: _,[],h=>by cases h
mutual
theorem Tn : ∀ (x y : I),Ge x y = true -> x = y
 | .b x,y,h=>by
  cases y <;> simp only [Ge] at h <;> try cases h
  rw [eq_of_beq h]
 | .i k x,y,h=>by
  cases y <;> simp only [Ge,Acx] at h <;> try cases h
  rename_i h1 h2
  rw [mK_eq h1,mI_eq h2]
 | .s x,y,h=>by
  cases y <;> simp only [Ge] at h <;> try cases h
  rw [Aak h]
 | .nl k,y,h=>by
  cases y <;> simp only [Ge] at h <;> try cases h
  rw [AcJ h]
 | .er,y,h=>by
  cases y <;> simp only [Ge] at h <;> try cases h
  rfl
 | .sl x,y,h=>by
  cases y <;> simp only [Ge] at h <;> try cases h
  rename_i z
  rw [GK x z h]
 | .pt x,y,h=>by
  cases y <;> simp only [Ge] at h <;> try cases h
  rename_i z
  rw [Ek x z h]
 | .ag x,y,h=>by
  cases y <;> simp only [Ge] at h <;> try cases h
  rename_i z
  rw [Ek x z h]
 | .mp x,y,h=>by
  cases y <;> simp only [Ge] at h <;> try cases h
  rename_i z
  rw [GK x z h]
 | .fn f x,y,h=>by
  cases y <;> simp only [Ge,Acx] at h <;> try cases h
  rename_i g z h1 h2
  rw [AcJ h1,Ek x z h2]
theorem Ek : ∀ (x y : List I),HL x y = true -> x = y
 | [],y,h=>by
  cases y <;> simp only [HL] at h <;> try cases h
  rfl
 | a :: r,y,h=>by
  cases y with
  | nil=>simp only [HL] at h; cases h
  | cons b s =>
   simp only [HL,Acx] at h
   rw [Tn a b h.1,Ek r s h.2]
theorem GK : ∀ (x y : List (List I)),GL x y = true -> x = y
 | [],y,h=>by
  cases y <;> simp only [GL] at h <;> try cases h
  rfl
 | a :: r,y,h=>by
  cases y with
  | nil=>simp only [GL] at h; cases h
  | cons b s =>
   simp only [GL,Acx] at h
   rw [Ek a b h.1,GK r s h.2]
end
structure Ent where
 f : Nat
 is : List I
 r : V
def FB : List Ent -> Nat -> List I -> Option V
 | [],_,_=>none
 | e :: t,f,is=>match Nat.beq e.f f with
  | true=>match HL e.is is with
   | true=>some e.r
   | false=>FB t f is
  | false=>FB t f is
theorem GZ : ∀ {T : List Ent} {f : Nat} {is : List I} {r : V},FB T f is = some r -> ∃ e ∈ T,e.f = f /\ e.is = is /\ e.r = r
 | [],f,is,r,h=>by simp [FB] at h
 | e :: t,f,is,r,h=>by
  simp only [FB] at h
  split at h
  ·rename_i hf
   split at h
   ·rename_i hs
    simp only [Acv] at h
    exact ⟨e,by simp,AcJ hf,Ek _ _ hs,h⟩
   ·obtain ⟨x,hx,h1⟩:=GZ h
    exact ⟨x,by simp [hx],h1⟩
  ·obtain ⟨x,hx,h1⟩:=GZ h
   exact ⟨x,by simp [hx],h1⟩
def Kc (call : Bc) (n : Nat) (fn : F) (is : List I) : Option V -> Option V
 | some r=>some r
 | none=>(evF call n fn (is.map .m) []).bind fun p=>viewR p.2 p.1
def XA (T : List Ent) (f : Nat) (call : Bc) (n : Nat) (fn : F) (vs : List V) (H : Hp) : Option (V × Hp) :=
 (Ak (view 20 H) vs).bind fun is=>(Kc call n fn is (FB T f is)).bind fun r=>match vs.flatMap DN with
  | []=>gd (vs.all BE) (some (r,H))
  | rs=>match Gg r with
   | true=>some (r,H)
   | false=>gd (vs.all BE) ((AR rs H).bind fun H2=>some (r,H2))
def Hn (G : Cfg) (T : List Ent) : Nat -> Bc
 | 0,_,_,_=>none
 | n + 1,f,vs,H=>match G.prim f with
  | some p=>p (Hn G T n) vs H
  | none=>match G.fn f with
   | some fn=>match G.sh f with
    | true=>evF (Hn G T n) n fn vs H
    | false=>XA T f (Hn G T n) n fn vs H
   | none=>gd (Nat.beq f yN) (DF (Hn G T n) n vs H)
theorem GX (H : Hp) : ∀ is : List I,Ak (view 20 H) (is.map .m) = some is
 | []=>rfl
 | x :: r=>by
  have h : view 20 H (.m x) = some x:=rfl
  simp [h,GX H r]
theorem Qo : ∀ is : List I,((is.map V.m).flatMap DN) = []
 | []=>rfl
 | x :: r=>by
  have h : DN (.m x) = []:=rfl
  simp [h]
  intro a _
  rfl
theorem LL {call : Bc} {n : Nat} {fn : F} {is : List I} {r : V} (h : DK call n fn (is.map .m) [] = some (r,[])) : ((evF call n fn (is.map .m) []).bind fun p=>viewR p.2 p.1) = some r:=by
 unfold DK at h
 rw [GX] at h
 simp only [AcG,Qo] at h
 simp only [Acu] at h ⊢
 obtain ⟨p,h1,r',h2,h3⟩:=h
 simp only [Af,Acv,Acw] at h3
 exact ⟨p,h1,by rw [h2,h3.2.1]⟩
theorem Ni {G : Cfg} (hG : Bo G) {T : List Ent} {N : Nat} (hT : ∀ e ∈ T,Bm G N e.f (e.is.map .m) [] = some (e.r,[])) : ∀ n : Nat,LeC (Hn G T n) (Bm G (N + n))
 | 0,f,vs,H,r,h=>by simp [Hn] at h
 | n + 1,f,vs,H,r,h=>by
  have ih:=Ni hG hT n
  unfold Hn at h
  rw [show N + (n + 1) = (N + n) + 1 from rfl]
  unfold Bm
  split at h
  ·rename_i p hp
   rw [hp]
   exact hG f p hp _ _ ih vs H r h
  ·rename_i hp
   rw [hp]
   split at h
   ·rename_i fn hf
    simp only [hf]
    split at h
    ·rename_i hs
     simp only [hs]
     exact Es ih (by omega) h
    ·rename_i hs
     simp only [hs]
     unfold XA at h
     unfold DK
     refine AC (fun _ h=>h) (fun is r h=>?_) h
     rw [<- Adr]
     refine AC (fun r0 h0=>?_) (fun _ _ h=>h) h
     cases hl : FB T f is with
     | none =>
      rw [hl] at h0
      exact AC (fun b=>Es ih (by omega)) (fun _ _ h=>h) h0
     | some r1 =>
      rw [hl] at h0
      simp only [Kc,Acv] at h0
      subst h0
      obtain ⟨e,he,h1,h2,h3⟩:=GZ hl
      have hk:=hT e he
      rw [h1,h2,h3] at hk
      have hk:=AX hG (n:=N) (m:=N + n + 1) (by omega) _ _ _ _ hk
      unfold Bm at hk
      simp only [hp,hf,hs] at hk
      exact LL hk
   ·rename_i hf
    simp only [hf]
    simp only [Af] at h ⊢
    exact ⟨h.1,EN ih (by omega) h.2⟩
def Cc (G : Cfg) (T : List Ent) : Prop:=∃ N,∀ e ∈ T,Bm G N e.f (e.is.map .m) [] = some (e.r,[])
theorem PF (G : Cfg) : Cc G []:=⟨0,fun e h=>by simp at h⟩
theorem Kk {G : Cfg} (hG : Bo G) {T : List Ent} (hT : Cc G T) {n f : Nat} {vs : List V} {H H' : Hp} {v : V} (h : Hn G T n f vs H = some (v,H')) : Gives G f vs H v H':=by
 obtain ⟨N,hN⟩:=hT
 exact ⟨N + n,Ni hG hN n _ _ _ _ h⟩
theorem Ol {G : Cfg} (hG : Bo G) {T : List Ent} (hT : Cc G T) {e : Ent} (h : Gives G e.f (e.is.map .m) [] e.r []) : Cc G (e :: T):=by
 obtain ⟨N,hN⟩:=hT
 obtain ⟨n,hn⟩:=h
 refine ⟨max N n,fun x hx=>?_⟩
 rcases AcU.1 hx with rfl | hx
 ·exact AX hG (Nat.le_max_right N n) _ _ _ _ hn
 ·exact AX hG (Nat.le_max_left N n) _ _ _ _ (hN x hx)
theorem Td {G : Cfg} (hG : Bo G) {T : List Ent} (hT : Cc G T) {n : Nat} {e : Ent} (h : Hn G T n e.f (e.is.map .m) [] = some (e.r,[])) : Cc G (e :: T):=Ol hG hT (Kk hG hT h)
end Go.Mx
