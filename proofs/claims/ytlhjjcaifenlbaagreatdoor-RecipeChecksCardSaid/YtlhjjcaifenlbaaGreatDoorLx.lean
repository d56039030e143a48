/- RecipeChecks: the arguments, Few, the law. -/
import Derived.Test.YtlhjjcaifenlbaaGreatDoorLt
import Derived.Test.YtlhjjcaifenlbaaGreatDoorStr
set_option linter.unusedSimpArgs false
set_option linter.unusedVariables false
set_option linter.unusedSectionVars false
set_option maxRecDepth 100000
set_option maxHeartbeats 4000000
namespace Go.Mx.Tryz
open Go.Lib Go.Proofs
structure RecW (zs zx vr : I) (fs : List (List I)) (l : List Sh) (xs : List St5) (gens : Int) (res : List Ce) : Prop where
 s : IsSl zs fs
 fl : fs.length = l.length
 sv : ∀ (i : Nat) (s : Sh),l[i]? = some s -> (s.c.length : Int) <= 9223372036854775807 /\ ∃ v,nth fs i = some (shI v s) /\ IsSl v (Ag s.c)
 x : IsSl zx (La xs)
 r : IsSl vr (Ag res)
 ll : (l.length : Int) <= 9223372036854775807
 lx : (xs.length : Int) <= 9223372036854775807
 lr : (res.length : Int) <= 9223372036854775807
def Pu (s : Sh) : Bool:=decide (s.c.length <= 20) && !(decide (16 < s.m.1) && decide (s.m.1 <= 10000))
def SY (x : St5) : Bool:=!(decide (40 < x.n) && decide (x.n <= 10000))
def Zx (l : List Sh) (xs : List St5) (gens : Int) (res : List Ce) : Bool:=(decide (l.length <= 4) && (decide (xs.length <= 5) && (!(decide (30 < gens) && decide (gens <= 10000)) && decide (res.length <= 60)))) && (l.all Pu && xs.all SY)
theorem Acc {zs zx vr : I} {fs : List (List I)} {l : List Sh} {xs : List St5} {gens : Int} {res : List Ce} (hW : RecW zs zx vr fs l xs gens res) (h : Zx l xs gens res = true) : RecA zs zx vr fs l xs gens res:=by
 unfold Zx at h
 simp only [Acx,AcK] at h
 obtain ⟨⟨h1,h2,_,h3⟩,h4,_⟩:=h
 refine ⟨hW.s,⟨hW.fl,fun i s hi=>?_⟩,hW.x,hW.r,by omega,by omega,by omega⟩
 have:=AcO.1 h4 s (AcE hi)
 unfold Pu at this
 simp only [Acx,AcK] at this
 exact ⟨by omega,(hW.sv i s hi).2⟩
theorem few_w {zs zx vr : I} {fs : List (List I)} {l : List Sh} {xs : List St5} {gens : Int} {res : List Ce} (hW : RecW zs zx vr fs l xs gens res) (H : Hp) : Gives G 11 [.m (.ag [zs,zx,.i .i64 gens,vr])] H (.m (.b (Zx l xs gens res))) H:=by
 have hrs:=hW.s.rules
 rw [hW.fl] at hrs
 have hrx:=hW.x.rules
 rw [HI] at hrx
 have hrr:=hW.r.rules
 simp only [show (Ag res).length = res.length from by simp [Ag]] at hrr
 have hll:=hW.ll
 have hlx:=hW.lx
 have hlr:=hW.lr
 refine Ae rfl rfl rfl rfl rfl ?_
 generalize hE : Zx l xs gens res = E
 unfold Zx at hE
 by_cases h1 : l.length <= 4
 rotate_left
 ·rw [AcH h1] at hE
  have : E = false:=by rw [<- hE]; rfl
  subst this
  simp (maxSteps:=2000000) (disch:=omega) [hrs,show (4 : Int) < l.length from by omega]
 by_cases h2 : xs.length <= 5
 rotate_left
 ·rw [AcH h2] at hE
  have : E = false:=by rw [<- hE]; simp
  subst this
  simp (maxSteps:=2000000) (disch:=omega) [hrs,hrx,show ¬ 4 < l.length from by omega,show ¬ (4 : Int) < l.length from by omega,show (5 : Int) < xs.length from by omega]
 have a1 : ¬ 4 < l.length:=by omega
 have a2 : ¬ (4 : Int) < l.length:=by omega
 have a3 : ¬ 5 < xs.length:=by omega
 have a4 : ¬ (5 : Int) < xs.length:=by omega
 rw [AcI h1,AcI h2] at hE
 by_cases h3 : 30 < gens /\ gens <= 10000
 ·rw [AcI h3.1,AcI h3.2] at hE
  have : E = false:=by rw [<- hE]; rfl
  subst this
  simp (maxSteps:=2000000) (disch:=omega) [hrs,hrx,a2,a4,h3.1,h3.2]
 have h3b : (decide (30 < gens) && decide (gens <= 10000)) = false:=by
  rw [Bool.eq_false_iff]
  simp only [ne_eq,Acx,AcK]
  exact h3
 rw [h3b] at hE
 by_cases h4 : res.length <= 60
 rotate_left
 ·rw [AcH h4] at hE
  have : E = false:=by rw [<- hE]; rfl
  subst this
  by_cases h5 : 30 < gens
  ·simp (maxSteps:=2000000) (disch:=omega) [hrs,hrx,hrr,a2,a4,h5,show ¬ gens <= 10000 from by omega,show (60 : Int) < res.length from by omega]
  ·simp (maxSteps:=2000000) (disch:=omega) [hrs,hrx,hrr,a2,a4,h5,show (60 : Int) < res.length from by omega]
 rw [AcI h4] at hE
 have a5 : ¬ 60 < res.length:=by omega
 have a6 : ¬ (60 : Int) < res.length:=by omega
 have hE2 : (l.all Pu && xs.all SY) = E:=by rw [<- hE]; simp
 clear hE
 have f1 : ∀ {i : Nat} {s : Sh},l[i]? = some s -> (l.drop i).all Pu = (Pu s && (l.drop (i + 1)).all Pu):=fun {i s} hx=>by rw [(Al hx).2]; rfl
 have f2 : ∀ {i : Nat} {x : St5},xs[i]? = some x -> (xs.drop i).all SY = (SY x && (xs.drop (i + 1)).all SY):=fun {i x} hx=>by rw [(Al hx).2]; rfl
 rcases (show gens <= 30 \/ 10000 < gens by omega) with h5 | h5
 rotate_left
 simp (maxSteps:=2000000) (disch:=omega) [hrs,hrx,hrr,a2,a4,a6,show 30 < gens from by omega,show ¬ gens <= 10000 from by omega]
 rotate_left
 simp (maxSteps:=2000000) (disch:=omega) [hrs,hrx,hrr,a2,a4,a6,show ¬ 30 < gens from by omega]
 all_goals
  refine (?_ : ∀ (i : Nat) (B : List (Nat × List V)),i <= l.length -> l.all Pu = (l.drop i).all Pu -> getB B 1 = some [.m zs,.m zx,.m (.i .i64 gens),.m vr] -> Run G c11_B0 (S11_0 (.fa 1 0) (.m (.i .i64 (l.length : Int))) (.m (.i .i64 (i : Int))) B []) _) 0 _ (AcF _) rfl rfl
  refine Bk (fun i : Nat=>l.length - i) fun i ih B hi hall hB=>?_
  unfold c11_B0
  cases hx : l[i]? with
  | some s =>
   have hlt:=(Acy.1 hx).1
   have hlt' : (i : Int) < l.length:=by omega
   obtain ⟨hsl,v,hn,hv⟩:=hW.sv i s hx
   have hrv:=hv.rules
   simp only [show (Ag s.c).length = s.c.length from by simp [Ag]] at hrv
   have wi : wr .i64 ((i : Int) + 1) = ((i + 1 : Nat) : Int):=Aa (by omega) (by omega)
   have hst:=f1 hx
   simp only [shI] at hn
   have kf : Pu s = false -> E = false:=fun h=>by rw [<- hE2,hall,hst,h]; rfl
   have kt : Pu s = true -> ∀ B',getB B' 1 = some [.m zs,.m zx,.m (.i .i64 gens),.m vr] -> _:=fun h B'=>ih (i + 1) (by omega) B' (by omega) (by rw [hall,hst,h]; rfl)
   unfold Pu at kf kt
   by_cases c1 : s.c.length <= 20
   ·by_cases c2 : 16 < s.m.1
    ·by_cases c3 : s.m.1 <= 10000
     ·have:=kf (by rw [AcI c2,AcI c3]; simp)
      subst this
      simp (maxSteps:=2000000) (disch:=omega) [hrs,hlt',hn,hB,hrv,show ¬ 20 < s.c.length from by omega,show ¬ (20 : Int) < s.c.length from by omega,c2,c3]
     ·have k2:=kt (by rw [AcI c1,AcH c3]; simp)
      simp (maxSteps:=2000000) (disch:=omega) [hrs,hlt',hn,hB,hrv,show ¬ 20 < s.c.length from by omega,show ¬ (20 : Int) < s.c.length from by omega,c2,c3,wi,-Int.natCast_add]
      exact k2 _ hB
    ·have k2:=kt (by rw [AcI c1,AcH c2]; simp)
     simp (maxSteps:=2000000) (disch:=omega) [hrs,hlt',hn,hB,hrv,show ¬ 20 < s.c.length from by omega,show ¬ (20 : Int) < s.c.length from by omega,c2,wi,-Int.natCast_add]
     exact k2 _ hB
   ·have:=kf (by rw [AcH c1]; simp)
    subst this
    simp (maxSteps:=2000000) (disch:=omega) [hrs,hlt',hn,hB,hrv,show (20 : Int) < s.c.length from by omega]
  | none =>
   have : i = l.length:=by have:=AcB.1 hx; omega
   subst this
   clear ih hx hi
   have hall2 : l.all Pu = true:=by rw [hall,Ado]; rfl
   rw [hall2,AdB] at hE2
   simp (maxSteps:=2000000) (disch:=omega) [hB,hrx]
   refine (?_ : ∀ (i : Nat) (B : List (Nat × List V)),i <= xs.length -> xs.all SY = (xs.drop i).all SY -> getB B 1 = some [.m zs,.m zx,.m (.i .i64 gens),.m vr] -> Run G c11_B1 (S11_1 (.fa 1 0) (.m (.i .i64 (xs.length : Int))) (.m (.i .i64 (i : Int))) B []) _) 0 _ (AcF _) rfl hB
   clear hall hB B
   refine Bk (fun i : Nat=>xs.length - i) fun i ih B hi hall hB=>?_
   unfold c11_B1
   cases hx : xs[i]? with
   | some x =>
    have hlt:=(Acy.1 hx).1
    have hlt' : (i : Int) < xs.length:=by omega
    have hn:=HH hx
    have wi : wr .i64 ((i : Int) + 1) = ((i + 1 : Nat) : Int):=Aa (by omega) (by omega)
    have hst:=f2 hx
    have kf : SY x = false -> E = false:=fun h=>by rw [<- hE2,hall,hst,h]; rfl
    have kt : SY x = true -> ∀ B',getB B' 1 = some [.m zs,.m zx,.m (.i .i64 gens),.m vr] -> _:=fun h B'=>ih (i + 1) (by omega) B' (by omega) (by rw [hall,hst,h]; rfl)
    unfold SY at kf kt
    by_cases c2 : 40 < x.n
    ·by_cases c3 : x.n <= 10000
     ·have:=kf (by rw [AcI c2,AcI c3]; rfl)
      subst this
      simp (maxSteps:=2000000) (disch:=omega) [hrx,hlt',hn,hB,c2,c3]
     ·have k2:=kt (by rw [AcH c3]; simp)
      simp (maxSteps:=2000000) (disch:=omega) [hrx,hlt',hn,hB,c2,c3,wi,-Int.natCast_add]
      exact k2 _ hB
    ·have k2:=kt (by rw [AcH c2]; simp)
     simp (maxSteps:=2000000) (disch:=omega) [hrx,hlt',hn,hB,c2,wi,-Int.natCast_add]
     exact k2 _ hB
   | none =>
    have : i = xs.length:=by have:=AcB.1 hx; omega
    subst this
    have : E = true:=by rw [<- hE2,hall,Ado]; rfl
    subst this
    simp (maxSteps:=2000000) (disch:=omega) []
theorem Pd {B n : Nat} {l : List I} (h : Fits Go.Proofs.Tryz.prog B (n + 2) 67 l) : ∃ m : Int × Int × Int,l = [.i .i64 m.1,.i .i64 m.2.1,.i .i64 m.2.2]:=by
 unfold Fits at h
 rw [Go.Proofs.Tryz.underlying67] at h
 simp only [FitsF] at h
 obtain ⟨x1,y1,rfl,k1,x2,y2,rfl,k2,x3,y3,rfl,k3,rfl⟩:=h
 obtain ⟨a,rfl,_⟩:=Bz k1
 obtain ⟨b,rfl,_⟩:=Bz k2
 obtain ⟨c,rfl,_⟩:=Bz k3
 exact ⟨(a,b,c),rfl⟩
theorem UW {B n : Nat} {l : List I} (h : Fits Go.Proofs.Tryz.prog B (n + 4) 69 l) : ∃ (s : Sh) (v : I),l = shI v s /\ IsSl v (Ag s.c) /\ s.c.length <= B:=by
 unfold Fits at h
 rw [Go.Proofs.Tryz.underlying69] at h
 simp only [FitsF] at h
 obtain ⟨x1,y1,rfl,k1,x2,y2,rfl,k2,rfl⟩:=h
 obtain ⟨p,v,rfl,hv,hp⟩:=SE k1
 obtain ⟨m,rfl⟩:=Pd k2
 exact ⟨⟨p,m⟩,v,rfl,hv,hp⟩
theorem UV {B n : Nat} {l : List I} (h : Fits Go.Proofs.Tryz.prog B (n + 2) 57 l) : ∃ x : St5,l = EU x:=by
 unfold Fits at h
 rw [Go.Proofs.Tryz.underlying57] at h
 simp only [FitsF] at h
 obtain ⟨x1,y1,rfl,k1,x2,y2,rfl,k2,x3,y3,rfl,k3,x4,y4,rfl,k4,x5,y5,rfl,k5,rfl⟩:=h
 obtain ⟨a,rfl,_⟩:=Bz k1
 obtain ⟨b,rfl,_⟩:=Bz k2
 obtain ⟨c,rfl,_⟩:=Bz k3
 obtain ⟨d,rfl,_⟩:=Bz k4
 obtain ⟨e,rfl,_⟩:=Bz k5
 exact ⟨⟨a,b,c,d,e⟩,rfl⟩
theorem SB {es : List (List I)} (h : ∀ x,x ∈ es -> ∃ d : St5,x = EU d) : ∃ p : List St5,es = La p:=by
 induction es with
 | nil=>exact ⟨[],rfl⟩
 | cons x r ih =>
  obtain ⟨d,rfl⟩:=h x (by simp)
  obtain ⟨p,rfl⟩:=ih fun x hx=>h x (by simp [hx])
  exact ⟨d :: p,rfl⟩
theorem SC {B : Nat} {es : List (List I)} (h : ∀ x,x ∈ es -> ∃ (s : Sh) (v : I),x = shI v s /\ IsSl v (Ag s.c) /\ s.c.length <= B) : ∃ l : List Sh,es.length = l.length /\ ∀ (i : Nat) (s : Sh),l[i]? = some s -> s.c.length <= B /\ ∃ v,nth es i = some (shI v s) /\ IsSl v (Ag s.c):=by
 induction es with
 | nil=>exact ⟨[],rfl,fun i s hi=>by simp at hi⟩
 | cons x r ih =>
  obtain ⟨s,v,rfl,hv,hl⟩:=h x (by simp)
  obtain ⟨l,h1,h2⟩:=ih fun x hx=>h x (by simp [hx])
  refine ⟨s :: l,by simp [h1],fun i s' hi=>?_⟩
  cases i with
  | zero=>cases hi; exact ⟨hl,v,rfl,hv⟩
  | succ i=>exact h2 i s' (by simpa using hi)
theorem Pb {B n : Nat} {l : List I} (hB : B <= 9223372036854775807) (h : Fits Go.Proofs.Tryz.prog B (n + 6) 31 l) : ∃ (zs zx vr : I) (fs : List (List I)) (sl : List Sh) (xs : List St5) (gens : Int) (res : List Ce),l = [zs,zx,.i .i64 gens,vr] /\ RecW zs zx vr fs sl xs gens res:=by
 unfold Fits at h
 rw [Go.Proofs.Tryz.underlying31] at h
 simp only [FitsF] at h
 obtain ⟨x1,y1,rfl,k1,x2,y2,rfl,k2,x3,y3,rfl,k3,x4,y4,rfl,k4,rfl⟩:=h
 obtain ⟨g,rfl,_⟩:=Bz k3
 obtain ⟨res,vr,rfl,hvr,hlr⟩:=SE k4
 unfold Fits at k1 k2
 rw [Go.Proofs.Tryz.underlying26] at k1
 rw [Go.Proofs.Tryz.underlying27] at k2
 simp only at k1 k2
 have hs : ∃ (z : I) (fs : List (List I)) (sl : List Sh),x1 = [z] /\ IsSl z fs /\ fs.length <= B /\ fs.length = sl.length /\ ∀ (i : Nat) (s : Sh),sl[i]? = some s -> s.c.length <= B /\ ∃ v,nth fs i = some (shI v s) /\ IsSl v (Ag s.c):=by
  rcases k1 with rfl | ⟨es,rfl,hle,hes⟩
  ·exact ⟨_,[],[],rfl,AH,by simp,rfl,fun i s hi=>by simp at hi⟩
  ·obtain ⟨sl,h1,h2⟩:=SC fun x hx=>UW (hes x hx)
   exact ⟨_,es,sl,rfl,Be _,hle,h1,h2⟩
 have hx : ∃ (z : I) (xs : List St5),x2 = [z] /\ IsSl z (La xs) /\ xs.length <= B:=by
  rcases k2 with rfl | ⟨es,rfl,hle,hes⟩
  ·exact ⟨_,[],rfl,AH,by simp⟩
  ·obtain ⟨p,rfl⟩:=SB fun x hx=>UV (hes x hx)
   exact ⟨_,p,rfl,Be _,by simpa using hle⟩
 obtain ⟨zs,fs,sl,rfl,b1,b2,b3,b4⟩:=hs
 obtain ⟨zx,xs,rfl,c1,c2⟩:=hx
 exact ⟨zs,zx,vr,fs,sl,xs,g,res,rfl,⟨b1,b3,fun i s hi=>⟨by have:=(b4 i s hi).1; omega,(b4 i s hi).2⟩,c1,hvr,by omega,by omega,by omega⟩⟩
theorem Acp : Cd Go.Proofs.Tryz.prog 31 = some true:=by unfold Cd; rw [Go.Proofs.Tryz.underlying31]; rfl
theorem Pj {B n : Nat} {ts : List TypeId} {us : List V} (hB : B <= 9223372036854775807) (h : Ej Go.Proofs.Tryz.prog B (n + 6) (31 :: ts) us) :
  ∃ (zs zx vr : I) (fs : List (List I)) (sl : List Sh) (xs : List St5) (gens : Int) (res : List Ce) (r : List V),us = .m (.ag [zs,zx,.i .i64 gens,vr]) :: r /\ RecW zs zx vr fs sl xs gens res /\ Ej Go.Proofs.Tryz.prog B (n + 6) ts r:=by
 obtain ⟨l,r,rfl,hl,h'⟩:=Hs h
 obtain ⟨zs,zx,vr,fs,sl,xs,g,res,rfl,hW⟩:=Pb hB hl
 rw [Rm Acp]
 exact ⟨zs,zx,vr,fs,sl,xs,g,res,r,rfl,hW,h'⟩
theorem Pa (gw : Gives G 12 [] [] (.m (.b true)) []) {t : TreeC} {h n zs zx vr : I} {es fs : List (List I)} {l : List Sh} {xs : List St5} {gens : Int} {res : List Ce} (hT : TreeV t h n es) (hW : RecW zs zx vr fs l xs gens res) : Gives G 3 [.m (.ag [.i .i64 t.states,h,n]),.m (.ag [zs,zx,.i .i64 gens,vr])] [] (.m (.b true)) []:=by
 have g1:=fun H=>Acb hT H
 have g2:=fun H=>few_w hW H
 refine Ae rfl rfl rfl rfl rfl ?_
 cases hf : Zy t with
 | false =>
  rw [hf] at g1
  simp (maxSteps:=2000000) (disch:=omega) [cl (g1 _),Ad,cl gw]
 | true =>
 rw [hf] at g1
 cases hf2 : Zx l xs gens res with
 | false =>
  rw [hf2] at g2
  simp (maxSteps:=2000000) (disch:=omega) [cl (g1 _),cl (g2 _),Ad,cl gw]
 | true =>
 rw [hf2] at g2
 have hA:=Acc hW hf2
 have hS:=Ch hT
 have gs:=fun H=>Rz hT hA H
 have gr:=fun H=>Nu hT hA H
 have hsl:=OV t l xs gens res
 have gc:=fun H=>Vc hT hA (by omega) (by have:=RL hS (Bi t l xs gens res).1 gens; omega) H
 have gd:=fun H=>Vd hT hA (by omega) (by have:=RL hS (Bi t l xs gens res).1 gens; omega) H
 have ge:=fun H=>Hz (Cr (Bi t l xs gens res).1) (Cr (Bi t l xs gens res).1) (by omega) (by omega) H
 rw [AcI (Fs.2 rfl)] at ge
 generalize KY t l xs gens res = e at *
 generalize Bi t l xs gens res = s at *
 generalize zP s.1 = z at *
 simp (maxSteps:=2000000) (disch:=omega) [cl (g1 _),cl (g2 _),Ad,cl (gs _),cl (gr _),cl (gc _),cl (gd _),cl (ge _),cl gw]
theorem Jm (us : List V) (h : Ej Go.Proofs.Tryz.prog maxLen 8 Go.Proofs.Tryz.f3.params.toList us) : Gives G 3 us [] (.m (.b true)) []:=by
 have e : Go.Proofs.Tryz.f3.params.toList = [25,31]:=by rw [Go.Proofs.Tryz.params3]
 have h:=e ▸ h
 obtain ⟨t,hh,nn,es,r,rfl,hT,h1⟩:=Vf (n:=3) (by decide) h
 obtain ⟨zs,zx,vr,fs,sl,xs,g,res,r2,rfl,hW,h2⟩:=Pj (n:=2) (by decide) h1
 have:=OS h2
 subst this
 exact Pa YG hT hW
end Go.Mx.Tryz
