/- Evaluation with known answers of pure calls. Nothing here speaks of a program. -/
import Derived.Test.YtjjpbhhgeddgjaaGreatDoorWa
set_option linter.unusedSimpArgs false
set_option linter.unusedVariables false
set_option linter.unusedSectionVars false
namespace Go.Mx
mutual
def FY : I -> I -> Bool
 | .b x,.b y=>x == y
 | .i k x,.i j y=>eqK k j && eqI x y
 | .s x,.s y=>eqL x y
 | .nl k,.nl j=>Nat.beq k j
 | .er,.er=>true
 | .sl x,.sl y=>Gx x y
 | .pt x,.pt y=>Hw x y
 | .ag x,.ag y=>Hw x y
 | .mp x,.mp y=>Gx x y
 | .fn f x,.fn g y=>Nat.beq f g && Hw x y
 | _,_=>false
def Hw : List I -> List I -> Bool
 | [],[]=>true
 | x :: r,y :: s=>FY x y && Hw r s
 | _,_=>false
def Gx : List (List I) -> List (List I) -> Bool
 | [],[]=>true
 | x :: r,y :: s=>Hw x y && Gx r s
 | _,_=>false
end
theorem mK_eq {j k : IntKind} (h : eqK j k = true) : j = k:=by cases j <;> cases k <;> first | rfl | simp [eqK] at h
theorem mI_eq : ∀ {x y : Int},eqI x y = true -> x = y
 | .ofNat a,.ofNat b,h=>by rw [AcW h]
 | .negSucc a,.negSucc b,h=>by rw [AcW h]
 | .ofNat a,.negSucc b,h=>by cases h
 | .negSucc a,.ofNat b,h=>by cases h
theorem Zx : ∀ {x y : List Nat},eqL x y = true -> x = y
 | [],[],_=>rfl
 | a :: x,b :: y,h=>by
  simp only [eqL,AcP] at h
  rw [AcW h.1,Zx h.2]
 | [],_ :: _,h=>by cases h
 | _ :: _,[],h=>by cases h
mutual
theorem Se : ∀ (x y : I),FY x y = true -> x = y
 | .b x,y,h=>by
  cases y <;> simp only [FY] at h <;> try cases h
  rw [eq_of_beq h]
 | .i k x,y,h=>by
  cases y <;> simp only [FY,AcP] at h <;> try cases h
  rename_i h1 h2
  rw [mK_eq h1,mI_eq h2]
 | .s x,y,h=>by
  cases y <;> simp only [FY] at h <;> try cases h
  rw [Zx h]
 | .nl k,y,h=>by
  cases y <;> simp only [FY] at h <;> try cases h
  rw [AcW h]
 | .er,y,h=>by
  cases y <;> simp only [FY] at h <;> try cases h
  rfl
 | .sl x,y,h=>by
  cases y <;> simp only [FY] at h <;> try cases h
  rename_i z
  rw [Gv x z h]
 | .pt x,y,h=>by
  cases y <;> simp only [FY] at h <;> try cases h
  rename_i z
  rw [DW x z h]
 | .ag x,y,h=>by
  cases y <;> simp only [FY] at h <;> try cases h
  rename_i z
  rw [DW x z h]
 | .mp x,y,h=>by
  cases y <;> simp only [FY] at h <;> try cases h
  rename_i z
  rw [Gv x z h]
 | .fn f x,y,h=>by
  cases y <;> simp only [FY,AcP] at h <;> try cases h
  rename_i g z h1 h2
  rw [AcW h1,DW x z h2]
theorem DW : ∀ (x y : List I),Hw x y = true -> x = y
 | [],y,h=>by
  cases y <;> simp only [Hw] at h <;> try cases h
  rfl
 | a :: r,y,h=>by
  cases y with
  | nil=>simp only [Hw] at h; cases h
  | cons b s =>
   simp only [Hw,AcP] at h
   rw [Se a b h.1,DW r s h.2]
theorem Gv : ∀ (x y : List (List I)),Gx x y = true -> x = y
 | [],y,h=>by
  cases y <;> simp only [Gx] at h <;> try cases h
  rfl
 | a :: r,y,h=>by
  cases y with
  | nil=>simp only [Gx] at h; cases h
  | cons b s =>
   simp only [Gx,AcP] at h
   rw [DW a b h.1,Gv r s h.2]
end
structure Ent where
 f : Nat
 is : List I
 r : V
def Fw : List Ent -> Nat -> List I -> Option V
 | [],_,_=>none
 | e :: t,f,is=>match Nat.beq e.f f with
  | true=>match Hw e.is is with
   | true=>some e.r
   | false=>Fw t f is
  | false=>Fw t f is
theorem GK : ∀ {T : List Ent} {f : Nat} {is : List I} {r : V},Fw T f is = some r -> ∃ e ∈ T,e.f = f /\ e.is = is /\ e.r = r
 | [],f,is,r,h=>by simp [Fw] at h
 | e :: t,f,is,r,h=>by
  simp only [Fw] at h
  split at h
  ·rename_i hf
   split at h
   ·rename_i hs
    simp only [AcM] at h
    exact ⟨e,by simp,AcW hf,DW _ _ hs,h⟩
   ·obtain ⟨x,hx,h1⟩:=GK h
    exact ⟨x,by simp [hx],h1⟩
  ·obtain ⟨x,hx,h1⟩:=GK h
   exact ⟨x,by simp [hx],h1⟩
def JN (call : Ba) (n : Nat) (fn : F) (is : List I) : Option V -> Option V
 | some r=>some r
 | none=>(evF call n fn (is.map .m) []).bind fun p=>viewR p.2 p.1
def Wk (T : List Ent) (f : Nat) (call : Ba) (n : Nat) (fn : F) (vs : List V) (H : Hp) : Option (V × Hp) :=
 (Ac (view 20 H) vs).bind fun is=>(JN call n fn is (Fw T f is)).bind fun r=>match vs.flatMap EJ with
  | []=>gd (vs.all Bv) (some (r,H))
  | rs=>match Hy r with
   | true=>some (r,H)
   | false=>gd (vs.all Bv) ((AL rs H).bind fun H2=>some (r,H2))
def Hb (G : Cfg) (T : List Ent) : Nat -> Ba
 | 0,_,_,_=>none
 | n + 1,f,vs,H=>match G.prim f with
  | some p=>p (Hb G T n) vs H
  | none=>match G.fn f with
   | some fn=>match G.sh f with
    | true=>evF (Hb G T n) n fn vs H
    | false=>Wk T f (Hb G T n) n fn vs H
   | none=>gd (Nat.beq f yN) (Dx (Hb G T n) n vs H)
theorem GI (H : Hp) : ∀ is : List I,Ac (view 20 H) (is.map .m) = some is
 | []=>rfl
 | x :: r=>by
  have h : view 20 H (.m x) = some x:=rfl
  simp [h,GI H r]
theorem PM : ∀ is : List I,((is.map V.m).flatMap EJ) = []
 | []=>rfl
 | x :: r=>by
  have h : EJ (.m x) = []:=rfl
  simp [h]
  intro a _
  rfl
theorem Lm {call : Ba} {n : Nat} {fn : F} {is : List I} {r : V} (h : DA call n fn (is.map .m) [] = some (r,[])) : ((evF call n fn (is.map .m) []).bind fun p=>viewR p.2 p.1) = some r:=by
 unfold DA at h
 rw [GI] at h
 simp only [AcS,PM] at h
 simp only [AcL] at h ⊢
 obtain ⟨p,h1,r',h2,h3⟩:=h
 simp only [Ab,AcM,AcN] at h3
 exact ⟨p,h1,by rw [h2,h3.2.1]⟩
theorem MT {G : Cfg} (hG : Bp G) {T : List Ent} {N : Nat} (hT : ∀ e ∈ T,Bg G N e.f (e.is.map .m) [] = some (e.r,[])) : ∀ n : Nat,LeC (Hb G T n) (Bg G (N + n))
 | 0,f,vs,H,r,h=>by simp [Hb] at h
 | n + 1,f,vs,H,r,h=>by
  have ih:=MT hG hT n
  unfold Hb at h
  rw [show N + (n + 1) = (N + n) + 1 from rfl]
  unfold Bg
  split at h
  ·rename_i p hp
   rw [hp]
   exact hG f p hp _ _ ih vs H r h
  ·rename_i hp
   rw [hp]
   split at h
   ·rename_i fn hf
    simp only [hf]
    split at h
    ·rename_i hs
     simp only [hs]
     exact Eh ih (by omega) h
    ·rename_i hs
     simp only [hs]
     unfold Wk at h
     unfold DA
     refine Aw (fun _ h=>h) (fun is r h=>?_) h
     rw [<- AdR]
     refine Aw (fun r0 h0=>?_) (fun _ _ h=>h) h
     cases hl : Fw T f is with
     | none =>
      rw [hl] at h0
      exact Aw (fun b=>Eh ih (by omega)) (fun _ _ h=>h) h0
     | some r1 =>
      rw [hl] at h0
      simp only [JN,AcM] at h0
      subst h0
      obtain ⟨e,he,h1,h2,h3⟩:=GK hl
      have hk:=hT e he
      rw [h1,h2,h3] at hk
      have hk:=AP hG (n:=N) (m:=N + n + 1) (by omega) _ _ _ _ hk
      unfold Bg at hk
      simp only [hp,hf,hs] at hk
      exact Lm hk
   ·rename_i hf
    simp only [hf]
    simp only [Ab] at h ⊢
    exact ⟨h.1,EB ih (by omega) h.2⟩
def Ah (G : Cfg) (T : List Ent) : Prop:=∃ N,∀ e ∈ T,Bg G N e.f (e.is.map .m) [] = some (e.r,[])
theorem Pd (G : Cfg) : Ah G []:=⟨0,fun e h=>by simp at h⟩
theorem JW {G : Cfg} (hG : Bp G) {T : List Ent} (hT : Ah G T) {n f : Nat} {vs : List V} {H H' : Hp} {v : V} (h : Hb G T n f vs H = some (v,H')) : Gives G f vs H v H':=by
 obtain ⟨N,hN⟩:=hT
 exact ⟨N + n,MT hG hN n _ _ _ _ h⟩
theorem Fl {G : Cfg} (hG : Bp G) {T : List Ent} (hT : Ah G T) {e : Ent} (h : Gives G e.f (e.is.map .m) [] e.r []) : Ah G (e :: T):=by
 obtain ⟨N,hN⟩:=hT
 obtain ⟨n,hn⟩:=h
 refine ⟨max N n,fun x hx=>?_⟩
 rcases Adf.1 hx with rfl | hx
 ·exact AP hG (Nat.le_max_right N n) _ _ _ _ hn
 ·exact AP hG (Nat.le_max_left N n) _ _ _ _ (hN x hx)
theorem RU {G : Cfg} (hG : Bp G) {T : List Ent} (hT : Ah G T) {n : Nat} {e : Ent} (h : Hb G T n e.f (e.is.map .m) [] = some (e.r,[])) : Ah G (e :: T):=Fl hG hT (JW hG hT h)
end Go.Mx
