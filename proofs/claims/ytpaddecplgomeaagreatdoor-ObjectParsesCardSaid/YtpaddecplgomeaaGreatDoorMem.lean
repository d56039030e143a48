/- Evaluation with known answers of pure calls. Nothing here speaks of a program. -/
import Derived.Test.YtpaddecplgomeaaGreatDoorWa
set_option linter.unusedSimpArgs false
set_option linter.unusedVariables false
set_option linter.unusedSectionVars false
namespace Go.Mx
mutual
def GL : I -> I -> Bool
 | .b x,.b y=>x == y
 | .i k x,.i j y=>eqK k j && eqI x y
 | .s x,.s y=>eqL x y
 | .nl k,.nl j=>Nat.beq k j
 | .er,.er=>true
 | .sl x,.sl y=>Ht x y
 | .pt x,.pt y=>Iu x y
 | .ag x,.ag y=>Iu x y
 | .mp x,.mp y=>Ht x y
 | .fn f x,.fn g y=>Nat.beq f g && Iu x y
 | _,_=>false
def Iu : List I -> List I -> Bool
 | [],[]=>true
 | x :: r,y :: s=>GL x y && Iu r s
 | _,_=>false
def Ht : List (List I) -> List (List I) -> Bool
 | [],[]=>true
 | x :: r,y :: s=>Iu x y && Ht r s
 | _,_=>false
end
theorem mK_eq {j k : IntKind} (h : eqK j k = true) : j = k:=by cases j <;> cases k <;> first | rfl | simp [eqK] at h
theorem mI_eq : ∀ {x y : Int},eqI x y = true -> x = y
 | .ofNat a,.ofNat b,h=>by rw [AeP h]
 | .negSucc a,.negSucc b,h=>by rw [AeP h]
 | .ofNat a,.negSucc b,h=>by cases h
 | .negSucc a,.ofNat b,h=>by cases h
theorem AbV : ∀ {x y : List Nat},eqL x y = true -> x = y
 | [],[],_=>rfl
 | a :: x,b :: y,h=>by
  simp only [eqL,AeH] at h
  rw [AeP h.1,AbV h.2]
 | [],_ :: _,h=>by cases h
 | _ :: _,[],h=>by cases h
mutual
theorem Uv : ∀ (x y : I),GL x y = true -> x = y
 | .b x,y,h=>by
  cases y <;> simp only [GL] at h <;> try cases h
  rw [eq_of_beq h]
 | .i k x,y,h=>by
  cases y <;> simp only [GL,AeH] at h <;> try cases h
  rename_i h1 h2
  rw [mK_eq h1,mI_eq h2]
 | .s x,y,h=>by
  cases y <;> simp only [GL] at h <;> try cases h
  rw [AbV h]
 | .nl k,y,h=>by
  cases y <;> simp only [GL] at h <;> try cases h
  rw [AeP h]
 | .er,y,h=>by
  cases y <;> simp only [GL] at h <;> try cases h
  rfl
 | .sl x,y,h=>by
  cases y <;> simp only [GL] at h <;> try cases h
  rename_i z
  rw [Hr x z h]
 | .pt x,y,h=>by
  cases y <;> simp only [GL] at h <;> try cases h
  rename_i z
  rw [Et x z h]
 | .ag x,y,h=>by
  cases y <;> simp only [GL] at h <;> try cases h
  rename_i z
  rw [Et x z h]
 | .mp x,y,h=>by
  cases y <;> simp only [GL] at h <;> try cases h
  rename_i z
  rw [Hr x z h]
 | .fn f x,y,h=>by
  cases y <;> simp only [GL,AeH] at h <;> try cases h
  rename_i g z h1 h2
  rw [AeP h1,Et x z h2]
theorem Et : ∀ (x y : List I),Iu x y = true -> x = y
 | [],y,h=>by
  cases y <;> simp only [Iu] at h <;> try cases h
  rfl
 | a :: r,y,h=>by
  cases y with
  | nil=>simp only [Iu] at h; cases h
  | cons b s =>
   simp only [Iu,AeH] at h
   rw [Uv a b h.1,Et r s h.2]
theorem Hr : ∀ (x y : List (List I)),Ht x y = true -> x = y
 | [],y,h=>by
  cases y <;> simp only [Ht] at h <;> try cases h
  rfl
 | a :: r,y,h=>by
  cases y with
  | nil=>simp only [Ht] at h; cases h
  | cons b s =>
   simp only [Ht,AeH] at h
   rw [Et a b h.1,Hr r s h.2]
end
structure Ent where
 f : Nat
 is : List I
 r : V
def Ga : List Ent -> Nat -> List I -> Option V
 | [],_,_=>none
 | e :: t,f,is=>match Nat.beq e.f f with
  | true=>match Iu e.is is with
   | true=>some e.r
   | false=>Ga t f is
  | false=>Ga t f is
theorem HI : ∀ {T : List Ent} {f : Nat} {is : List I} {r : V},Ga T f is = some r -> ∃ e ∈ T,e.f = f /\ e.is = is /\ e.r = r
 | [],f,is,r,h=>by simp [Ga] at h
 | e :: t,f,is,r,h=>by
  simp only [Ga] at h
  split at h
  ·rename_i hf
   split at h
   ·rename_i hs
    simp only [AeD] at h
    exact ⟨e,by simp,AeP hf,Et _ _ hs,h⟩
   ·obtain ⟨x,hx,h1⟩:=HI h
    exact ⟨x,by simp [hx],h1⟩
  ·obtain ⟨x,hx,h1⟩:=HI h
   exact ⟨x,by simp [hx],h1⟩
def Lj (call : Bj) (n : Nat) (fn : F) (is : List I) : Option V -> Option V
 | some r=>some r
 | none=>(evF call n fn (is.map .m) []).bind fun p=>viewR p.2 p.1
def Za (T : List Ent) (f : Nat) (call : Bj) (n : Nat) (fn : F) (vs : List V) (H : Hp) : Option (V × Hp) :=
 (Af (view 20 H) vs).bind fun is=>(Lj call n fn is (Ga T f is)).bind fun r=>match vs.flatMap DT with
  | []=>gd (vs.all Bz) (some (r,H))
  | rs=>match Gg r with
   | true=>some (r,H)
   | false=>gd (vs.all Bz) ((AT rs H).bind fun H2=>some (r,H2))
def HX (G : Cfg) (T : List Ent) : Nat -> Bj
 | 0,_,_,_=>none
 | n + 1,f,vs,H=>match G.prim f with
  | some p=>p (HX G T n) vs H
  | none=>match G.fn f with
   | some fn=>match G.sh f with
    | true=>evF (HX G T n) n fn vs H
    | false=>Za T f (HX G T n) n fn vs H
   | none=>gd (Nat.beq f yN) (DQ (HX G T n) n vs H)
theorem HF (H : Hp) : ∀ is : List I,Af (view 20 H) (is.map .m) = some is
 | []=>rfl
 | x :: r=>by
  have h : view 20 H (.m x) = some x:=rfl
  simp [h,HF H r]
theorem RH : ∀ is : List I,((is.map V.m).flatMap DT) = []
 | []=>rfl
 | x :: r=>by
  have h : DT (.m x) = []:=rfl
  simp [h]
  intro a _
  rfl
theorem Na {call : Bj} {n : Nat} {fn : F} {is : List I} {r : V} (h : DV call n fn (is.map .m) [] = some (r,[])) : ((evF call n fn (is.map .m) []).bind fun p=>viewR p.2 p.1) = some r:=by
 unfold DV at h
 rw [HF] at h
 simp only [AeM,RH] at h
 simp only [AeC] at h ⊢
 obtain ⟨p,h1,r',h2,h3⟩:=h
 simp only [Ad,AeD,AeE] at h3
 exact ⟨p,h1,by rw [h2,h3.2.1]⟩
theorem OM {G : Cfg} (hG : Bq G) {T : List Ent} {N : Nat} (hT : ∀ e ∈ T,Bi G N e.f (e.is.map .m) [] = some (e.r,[])) : ∀ n : Nat,LeC (HX G T n) (Bi G (N + n))
 | 0,f,vs,H,r,h=>by simp [HX] at h
 | n + 1,f,vs,H,r,h=>by
  have ih:=OM hG hT n
  unfold HX at h
  rw [show N + (n + 1) = (N + n) + 1 from rfl]
  unfold Bi
  split at h
  ·rename_i p hp
   rw [hp]
   exact hG f p hp _ _ ih vs H r h
  ·rename_i hp
   rw [hp]
   split at h
   ·rename_i fn hf
    simp only [hf]
    split at h
    ·rename_i hs
     simp only [hs]
     exact EF ih (by omega) h
    ·rename_i hs
     simp only [hs]
     unfold Za at h
     unfold DV
     refine AC (fun _ h=>h) (fun is r h=>?_) h
     rw [<- AfJ]
     refine AC (fun r0 h0=>?_) (fun _ _ h=>h) h
     cases hl : Ga T f is with
     | none =>
      rw [hl] at h0
      exact AC (fun b=>EF ih (by omega)) (fun _ _ h=>h) h0
     | some r1 =>
      rw [hl] at h0
      simp only [Lj,AeD] at h0
      subst h0
      obtain ⟨e,he,h1,h2,h3⟩:=HI hl
      have hk:=hT e he
      rw [h1,h2,h3] at hk
      have hk:=Ba hG (n:=N) (m:=N + n + 1) (by omega) _ _ _ _ hk
      unfold Bi at hk
      simp only [hp,hf,hs] at hk
      exact Na hk
   ·rename_i hf
    simp only [hf]
    simp only [Ad] at h ⊢
    exact ⟨h.1,Fd ih (by omega) h.2⟩
def Be (G : Cfg) (T : List Ent) : Prop:=∃ N,∀ e ∈ T,Bi G N e.f (e.is.map .m) [] = some (e.r,[])
theorem Ra (G : Cfg) : Be G []:=⟨0,fun e h=>by simp at h⟩
theorem Lr {G : Cfg} (hG : Bq G) {T : List Ent} (hT : Be G T) {n f : Nat} {vs : List V} {H H' : Hp} {v : V} (h : HX G T n f vs H = some (v,H')) : Gives G f vs H v H':=by
 obtain ⟨N,hN⟩:=hT
 exact ⟨N + n,OM hG hN n _ _ _ _ h⟩
theorem FR {G : Cfg} (hG : Bq G) {T : List Ent} (hT : Be G T) {e : Ent} (h : Gives G e.f (e.is.map .m) [] e.r []) : Be G (e :: T):=by
 obtain ⟨N,hN⟩:=hT
 obtain ⟨n,hn⟩:=h
 refine ⟨max N n,fun x hx=>?_⟩
 rcases Aff.1 hx with rfl | hx
 ·exact Ba hG (Nat.le_max_right N n) _ _ _ _ hn
 ·exact Ba hG (Nat.le_max_left N n) _ _ _ _ (hN x hx)
theorem Ul {G : Cfg} (hG : Bq G) {T : List Ent} (hT : Be G T) {n : Nat} {e : Ent} (h : HX G T n e.f (e.is.map .m) [] = some (e.r,[])) : Be G (e :: T):=FR hG hT (Lr hG hT h)
end Go.Mx
