/- Evaluation with known answers of pure calls. Nothing here speaks of a program. -/
import Derived.Test.YtpaddecplgomeaaGreatDoorWa
set_option linter.unusedSimpArgs false
set_option linter.unusedVariables false
set_option linter.unusedSectionVars false
namespace Go.Mx
mutual
def GF : I -> I -> Bool
 | .b x,.b y=>x == y
 | .i k x,.i j y=>eqK k j && eqI x y
 | .s x,.s y=>eqL x y
 | .nl k,.nl j=>Nat.beq k j
 | .er,.er=>true
 | .sl x,.sl y=>Hm x y
 | .pt x,.pt y=>Ip x y
 | .ag x,.ag y=>Ip x y
 | .mp x,.mp y=>Hm x y
 | .fn f x,.fn g y=>Nat.beq f g && Ip x y
 | _,_=>false
def Ip : List I -> List I -> Bool
 | [],[]=>true
 | x :: r,y :: s=>GF x y && Ip r s
 | _,_=>false
def Hm : List (List I) -> List (List I) -> Bool
 | [],[]=>true
 | x :: r,y :: s=>Ip x y && Hm r s
 | _,_=>false
end
theorem mK_eq {j k : IntKind} (h : eqK j k = true) : j = k:=by cases j <;> cases k <;> first | rfl | simp [eqK] at h
theorem mI_eq : ∀ {x y : Int},eqI x y = true -> x = y
 | .ofNat a,.ofNat b,h=>by rw [AeG h]
 | .negSucc a,.negSucc b,h=>by rw [AeG h]
 | .ofNat a,.negSucc b,h=>by cases h
 | .negSucc a,.ofNat b,h=>by cases h
theorem AbM : ∀ {x y : List Nat},eqL x y = true -> x = y
 | [],[],_=>rfl
 | a :: x,b :: y,h=>by
  simp only [eqL,Aez] at h
  rw [AeG h.1,AbM h.2]
 | [],_ :: _,h=>by cases h
 | _ :: _,[],h=>by cases h
mutual
theorem Uu : ∀ (x y : I),GF x y = true -> x = y
 | .b x,y,h=>by
  cases y <;> simp only [GF] at h <;> try cases h
  rw [eq_of_beq h]
 | .i k x,y,h=>by
  cases y <;> simp only [GF,Aez] at h <;> try cases h
  rename_i h1 h2
  rw [mK_eq h1,mI_eq h2]
 | .s x,y,h=>by
  cases y <;> simp only [GF] at h <;> try cases h
  rw [AbM h]
 | .nl k,y,h=>by
  cases y <;> simp only [GF] at h <;> try cases h
  rw [AeG h]
 | .er,y,h=>by
  cases y <;> simp only [GF] at h <;> try cases h
  rfl
 | .sl x,y,h=>by
  cases y <;> simp only [GF] at h <;> try cases h
  rename_i z
  rw [Hl x z h]
 | .pt x,y,h=>by
  cases y <;> simp only [GF] at h <;> try cases h
  rename_i z
  rw [Eo x z h]
 | .ag x,y,h=>by
  cases y <;> simp only [GF] at h <;> try cases h
  rename_i z
  rw [Eo x z h]
 | .mp x,y,h=>by
  cases y <;> simp only [GF] at h <;> try cases h
  rename_i z
  rw [Hl x z h]
 | .fn f x,y,h=>by
  cases y <;> simp only [GF,Aez] at h <;> try cases h
  rename_i g z h1 h2
  rw [AeG h1,Eo x z h2]
theorem Eo : ∀ (x y : List I),Ip x y = true -> x = y
 | [],y,h=>by
  cases y <;> simp only [Ip] at h <;> try cases h
  rfl
 | a :: r,y,h=>by
  cases y with
  | nil=>simp only [Ip] at h; cases h
  | cons b s =>
   simp only [Ip,Aez] at h
   rw [Uu a b h.1,Eo r s h.2]
theorem Hl : ∀ (x y : List (List I)),Hm x y = true -> x = y
 | [],y,h=>by
  cases y <;> simp only [Hm] at h <;> try cases h
  rfl
 | a :: r,y,h=>by
  cases y with
  | nil=>simp only [Hm] at h; cases h
  | cons b s =>
   simp only [Hm,Aez] at h
   rw [Eo a b h.1,Hl r s h.2]
end
structure Ent where
 f : Nat
 is : List I
 r : V
def FX : List Ent -> Nat -> List I -> Option V
 | [],_,_=>none
 | e :: t,f,is=>match Nat.beq e.f f with
  | true=>match Ip e.is is with
   | true=>some e.r
   | false=>FX t f is
  | false=>FX t f is
theorem HC : ∀ {T : List Ent} {f : Nat} {is : List I} {r : V},FX T f is = some r -> ∃ e ∈ T,e.f = f /\ e.is = is /\ e.r = r
 | [],f,is,r,h=>by simp [FX] at h
 | e :: t,f,is,r,h=>by
  simp only [FX] at h
  split at h
  ·rename_i hf
   split at h
   ·rename_i hs
    simp only [Aev] at h
    exact ⟨e,by simp,AeG hf,Eo _ _ hs,h⟩
   ·obtain ⟨x,hx,h1⟩:=HC h
    exact ⟨x,by simp [hx],h1⟩
  ·obtain ⟨x,hx,h1⟩:=HC h
   exact ⟨x,by simp [hx],h1⟩
def KW (call : Bk) (n : Nat) (fn : F) (is : List I) : Option V -> Option V
 | some r=>some r
 | none=>(evF call n fn (is.map .m) []).bind fun p=>viewR p.2 p.1
def YT (T : List Ent) (f : Nat) (call : Bk) (n : Nat) (fn : F) (vs : List V) (H : Hp) : Option (V × Hp) :=
 (Af (view 20 H) vs).bind fun is=>(KW call n fn is (FX T f is)).bind fun r=>match vs.flatMap DR with
  | []=>gd (vs.all Bz) (some (r,H))
  | rs=>match Gd r with
   | true=>some (r,H)
   | false=>gd (vs.all Bz) ((AS rs H).bind fun H2=>some (r,H2))
def HS (G : Cfg) (T : List Ent) : Nat -> Bk
 | 0,_,_,_=>none
 | n + 1,f,vs,H=>match G.prim f with
  | some p=>p (HS G T n) vs H
  | none=>match G.fn f with
   | some fn=>match G.sh f with
    | true=>evF (HS G T n) n fn vs H
    | false=>YT T f (HS G T n) n fn vs H
   | none=>gd (Nat.beq f yN) (DO (HS G T n) n vs H)
theorem HA (H : Hp) : ∀ is : List I,Af (view 20 H) (is.map .m) = some is
 | []=>rfl
 | x :: r=>by
  have h : view 20 H (.m x) = some x:=rfl
  simp [h,HA H r]
theorem RC : ∀ is : List I,((is.map V.m).flatMap DR) = []
 | []=>rfl
 | x :: r=>by
  have h : DR (.m x) = []:=rfl
  simp [h]
  intro a _
  rfl
theorem MM {call : Bk} {n : Nat} {fn : F} {is : List I} {r : V} (h : DT call n fn (is.map .m) [] = some (r,[])) : ((evF call n fn (is.map .m) []).bind fun p=>viewR p.2 p.1) = some r:=by
 unfold DT at h
 rw [HA] at h
 simp only [AeE,RC] at h
 simp only [Aeu] at h ⊢
 obtain ⟨p,h1,r',h2,h3⟩:=h
 simp only [Ad,Aev,Aew] at h3
 exact ⟨p,h1,by rw [h2,h3.2.1]⟩
theorem Oy {G : Cfg} (hG : Br G) {T : List Ent} {N : Nat} (hT : ∀ e ∈ T,Bj G N e.f (e.is.map .m) [] = some (e.r,[])) : ∀ n : Nat,LeC (HS G T n) (Bj G (N + n))
 | 0,f,vs,H,r,h=>by simp [HS] at h
 | n + 1,f,vs,H,r,h=>by
  have ih:=Oy hG hT n
  unfold HS at h
  rw [show N + (n + 1) = (N + n) + 1 from rfl]
  unfold Bj
  split at h
  ·rename_i p hp
   rw [hp]
   exact hG f p hp _ _ ih vs H r h
  ·rename_i hp
   rw [hp]
   split at h
   ·rename_i fn hf
    simp only [hf]
    split at h
    ·rename_i hs
     simp only [hs]
     exact EA ih (by omega) h
    ·rename_i hs
     simp only [hs]
     unfold YT at h
     unfold DT
     refine AC (fun _ h=>h) (fun is r h=>?_) h
     rw [<- Afz]
     refine AC (fun r0 h0=>?_) (fun _ _ h=>h) h
     cases hl : FX T f is with
     | none =>
      rw [hl] at h0
      exact AC (fun b=>EA ih (by omega)) (fun _ _ h=>h) h0
     | some r1 =>
      rw [hl] at h0
      simp only [KW,Aev] at h0
      subst h0
      obtain ⟨e,he,h1,h2,h3⟩:=HC hl
      have hk:=hT e he
      rw [h1,h2,h3] at hk
      have hk:=Ba hG (n:=N) (m:=N + n + 1) (by omega) _ _ _ _ hk
      unfold Bj at hk
      simp only [hp,hf,hs] at hk
      exact MM hk
   ·rename_i hf
    simp only [hf]
    simp only [Ad] at h ⊢
    exact ⟨h.1,EZ ih (by omega) h.2⟩
def Be (G : Cfg) (T : List Ent) : Prop:=∃ N,∀ e ∈ T,Bj G N e.f (e.is.map .m) [] = some (e.r,[])
theorem QV (G : Cfg) : Be G []:=⟨0,fun e h=>by simp at h⟩
theorem Lf {G : Cfg} (hG : Br G) {T : List Ent} (hT : Be G T) {n f : Nat} {vs : List V} {H H' : Hp} {v : V} (h : HS G T n f vs H = some (v,H')) : Gives G f vs H v H':=by
 obtain ⟨N,hN⟩:=hT
 exact ⟨N + n,Oy hG hN n _ _ _ _ h⟩
theorem FO {G : Cfg} (hG : Br G) {T : List Ent} (hT : Be G T) {e : Ent} (h : Gives G e.f (e.is.map .m) [] e.r []) : Be G (e :: T):=by
 obtain ⟨N,hN⟩:=hT
 obtain ⟨n,hn⟩:=h
 refine ⟨max N n,fun x hx=>?_⟩
 rcases AeX.1 hx with rfl | hx
 ·exact Ba hG (Nat.le_max_right N n) _ _ _ _ hn
 ·exact Ba hG (Nat.le_max_left N n) _ _ _ _ (hN x hx)
theorem Uk {G : Cfg} (hG : Br G) {T : List Ent} (hT : Be G T) {n : Nat} {e : Ent} (h : HS G T n e.f (e.is.map .m) [] = some (e.r,[])) : Be G (e :: T):=FO hG hT (Lf hG hT h)
end Go.Mx
