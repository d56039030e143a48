/- Fields of the reference: the state of a cell, the new state of a cell. -/
import Derived.Test.YtlhjjcaifenlbaaGreatDoorRb
import Derived.Test.YtlhjjcaifenlbaaGreatDoorVn
set_option linter.unusedSimpArgs false
set_option linter.unusedVariables false
set_option linter.unusedSectionVars false
set_option maxRecDepth 100000
namespace Go.Mx.Tryz
open Go.Lib
instance : DecidableEq Ce:=fun a b=>if h : a.x = b.x /\ a.y = b.y /\ a.s = b.s then isTrue (by cases a; cases b; obtain ⟨h1,h2,h3⟩:=h; dsimp only at h1 h2 h3; rw [h1,h2,h3]) else isFalse fun e=>h (by rw [e]; exact ⟨rfl,rfl,rfl⟩)
noncomputable def stp (t : TreeC) (p : List Ce) : List Ce × Int:=@Classical.epsilon _ ⟨([],0)⟩ (Do t p)
theorem IV {t : TreeC} {p : List Ce} {r : List Ce × Int} (h : Do t p r) : stp t p = r:=IW (@Classical.epsilon_spec_aux _ ⟨([],0)⟩ (Do t p) ⟨r,h⟩) h
def DX (t : TreeC) : Prop:=∀ p,BY t p = 0 -> Do t p (stp t p)
theorem ZA {t : TreeC} {q : List Ce} (hq : AJ t = true) (h1 : q.Pairwise (fun a b=>AO a b = true)) (h2 : ∀ c,c ∈ q -> Cr c = true) (h3 : q.length <= 5000) (ht : GK t q) : BY t q = 0:=by
  unfold BY
  rw [Adu hq,Adu (FH h1 h2 h3),Adu ((HX (by have:=(Dn hq).s2; omega) _ q rfl).2 fun c hc=>(ht c hc).2)]
theorem IU {t : TreeC} {p : List Ce} (hc : BY t p = 0) (hs : Do t p (stp t p)) (he : (stp t p).2 = 0) : BY t (stp t p).1 = 0:=by
  obtain ⟨hq,hr,ht⟩:=Bd hc
  have hs' : Do t p ((stp t p).1,0):=by rw [<- he]; exact hs
  obtain ⟨k1,k2,k3,k4⟩:=Of (Dn hq) ht hs'
  exact ZA hq k1 k2 k3 k4
theorem Sb {t : TreeC} {p : List Ce} (hs : Do t p (stp t p)) (he : ¬ (stp t p).2 = 0) : (stp t p).1 = []:=by
  generalize stp t p = r at *
  rcases hs with ⟨rfl,_⟩ | ⟨_,q,_,_,rfl⟩
  · rfl
  · split
    · rfl
    · rename_i h5
      rw [Ads h5] at he
      exact absurd rfl he
noncomputable def Wp (t : TreeC) (p : List Ce) : List Ce × Int:=if BY t p = 0 then stp t p else ([],BY t p)
noncomputable def BK (t : TreeC) : Nat -> List Ce -> List Ce × Int
  | 0,p=>(p,0)
  | n + 1,p=>if (stp t p).2 = 0 then BK t n (stp t p).1 else ([],(stp t p).2)
theorem Ws {t : TreeC} : ∀ (n : Nat) (p : List Ce),¬ (BK t n p).2 = 0 -> (BK t n p).1 = []
  | 0,p,h=>absurd rfl h
  | n + 1,p,h=>by
    unfold BK at *
    by_cases he : (stp t p).2 = 0
    · rw [Adu he] at *
      exact Ws n _ h
    · rw [Ads he]
noncomputable def rnE (t : TreeC) (p : List Ce) (n : Int) : List Ce × Int:=if BY t p = 0 then if 0 <= n /\ n <= 10000 then BK t n.toNat p else ([],2) else ([],BY t p)
theorem Sa {t : TreeC} (hq : AJ t = true) : stp t [] = ([],0):=by
  have h0 : ∀ x y,Bl t [] x y = 0:=fun x y=>Aer fun h=>by
    obtain ⟨c,o,hc,_⟩:=GY hq h
    cases hc
  refine IV (.inr ⟨fun x y h=>absurd (h0 x y) h,[],.nil,fun c=>⟨fun h=>(by cases h),fun h=>absurd (by rw [h.1]; exact h0 _ _) h.2⟩,rfl⟩)
def mvd : List Ce -> List Ce -> Option (Int × Int)
  | c :: r,d :: s=>if d :: s = (c :: r).map (fun e=>⟨e.x + (d.x - c.x),e.y + (d.y - c.y),e.s⟩) then some (d.x - c.x,d.y - c.y) else none
  | _,_=>none
theorem SX (p : List Ce) : mvd p [] = none:=by cases p <;> rfl
noncomputable def He (t : TreeC) (p : List Ce) : Nat -> Int -> List Ce -> (Int × Int × Int) × Bool × Int
  | 0,_,_=>((0,0,0),false,0)
  | k + 1,g,q=>if (stp t q).2 = 0 then match mvd p (stp t q).1 with
      | some d=>((g,d.1,d.2),true,0)
      | none=>He t p k (g + 1) (stp t q).1
    else ((0,0,0),false,(stp t q).2)
theorem Lz {t : TreeC} {p q : List Ce} {k : Nat} {g : Int} (he : (stp t q).2 = 0) : He t p (k + 1) g q = match mvd p (stp t q).1 with
      | some d=>((g,d.1,d.2),true,0)
      | none=>He t p k (g + 1) (stp t q).1:=by
  rw [He,Adu he]
theorem OS {t : TreeC} {p q : List Ce} {k : Nat} {g : Int} (he : ¬ (stp t q).2 = 0) : He t p (k + 1) g q = ((0,0,0),false,(stp t q).2):=by
  rw [He,Ads he]
theorem Hd {t : TreeC} (hq : AJ t = true) (p : List Ce) : ∀ (k : Nat) (g : Int),He t p k g [] = ((0,0,0),false,0)
  | 0,_=>rfl
  | k + 1,g=>by
    rw [Lz (by rw [Sa hq]),Sa hq]
    show (match mvd p [] with
      | some d=>((g,d.1,d.2),true,0)
      | none=>He t p k (g + 1) []) = _
    rw [SX]
    exact Hd hq p k (g + 1)
theorem Ly {t : TreeC} (hq : AJ t = true) (p : List Ce) : ∀ (k : Nat) (g : Int) (q : List Ce) (m : Int × Int × Int) (e : Int),He t p k g q = (m,true,e) -> ∃ j : Nat,j < k /\ m.1 = g + j /\ e = 0 /\ ∀ i,i <= j -> (BK t i q).2 = 0 /\ ¬ (BK t i q).1 = []
  | 0,g,q,m,e,h=>by cases h
  | k + 1,g,q,m,e,h=>by
    have hne : ¬ q = []:=fun e=>by rw [e,Hd hq] at h; cases h
    by_cases he : (stp t q).2 = 0
    · rw [Lz he] at h
      cases hm : mvd p (stp t q).1 with
      | some d =>
        rw [hm] at h
        cases h
        refine ⟨0,by omega,by simp,rfl,fun i hi=>?_⟩
        have : i = 0:=by omega
        subst this
        exact ⟨rfl,hne⟩
      | none =>
        rw [hm] at h
        obtain ⟨j,h1,h2,h3,h4⟩:=Ly hq p k (g + 1) _ m e h
        refine ⟨j + 1,by omega,by omega,h3,fun i hi=>?_⟩
        cases i with
        | zero=>exact ⟨rfl,hne⟩
        | succ i =>
          have e : BK t (i + 1) q = BK t i (stp t q).1:=by rw [BK,Adu he]
          rw [e]
          exact h4 i (by omega)
    · rw [OS he] at h
      cases h
theorem OQ {t : TreeC} (p : List Ce) : ∀ (k : Nat) (g : Int) (q : List Ce),¬ (He t p k g q).2.2 = 0 -> (He t p k g q).2.1 = false
  | 0,g,q,h=>rfl
  | k + 1,g,q,h=>by
    by_cases he : (stp t q).2 = 0
    · rw [Lz he] at *
      cases hm : mvd p (stp t q).1 with
      | some d=>rw [hm] at h; exact absurd rfl h
      | none=>rw [hm] at h; exact OQ p k _ _ h
    · rw [OS he]
noncomputable def MQ (t : TreeC) (p : List Ce) (most : Int) : (Int × Int × Int) × Bool × Int:=if BY t p = 0 then if 1 <= most /\ most <= 64 then He t p most.toNat 1 p else ((0,0,0),false,2) else ((0,0,0),false,BY t p)
theorem VF {t : TreeC} {p : List Ce} {most : Int} (h : ¬ (MQ t p most).2.2 = 0) : (MQ t p most).2.1 = false:=by
  unfold MQ at *
  split
  · rename_i hc
    rw [Adu hc] at h
    split
    · rename_i hm
      rw [Adu hm] at h
      exact OQ _ _ _ _ h
    · rfl
  · rfl
noncomputable def VB (t : TreeC) (p : List Ce) (m : Int × Int × Int) : Bool × Int:=((MQ t p m.1).2.1 && decide ((MQ t p m.1).1 = m),(MQ t p m.1).2.2)
structure Sh where
  c : List Ce
  m : Int × Int × Int
def RX (p : List Ce) : Bool:=match LG p with
  | [_,_,w,h]=>decide (10000 < w) || decide (10000 < h)
  | _=>false
noncomputable def AU (t : TreeC) (s : Sh) : Bool:=(!s.c.isEmpty && AL s.c) && (!RX s.c && ((VB t s.c s.m).1 && decide ((VB t s.c s.m).2 = 0)))
def Spr (w : Int) (p : List Ce) : Prop:=∀ c d,c ∈ p -> d ∈ p -> c.x - d.x <= w /\ c.y - d.y <= w
theorem Yy {t : TreeC} (hq : AJ t = true) {p : List Ce} (hs : Do t p (stp t p)) {w : Int} (h : Spr w p) : Spr (w + 4) (stp t p).1:=by
  have near : ∀ c,c ∈ (stp t p).1 -> ∃ d,d ∈ p /\ (-2 <= c.x - d.x /\ c.x - d.x <= 2) /\ (-2 <= c.y - d.y /\ c.y - d.y <= 2):=by
    generalize stp t p = r at *
    intro c hc
    rcases hs with ⟨rfl,_⟩ | ⟨_,q,_,hm,rfl⟩
    · cases hc
    · split at hc
      · cases hc
      · have h1:=(hm c).1 hc
        have h2 : ¬ Bl t p c.x c.y = 0:=by rw [<- h1.1]; exact h1.2
        obtain ⟨d,o,hd,ho,ex,ey⟩:=GY hq h2
        have hb:=DC (Dn hq).hood o ho
        exact ⟨d,hd,by omega,by omega⟩
  intro a b ha hb
  obtain ⟨a',ha',_,_⟩:=near a ha
  obtain ⟨b',hb',_,_⟩:=near b hb
  have:=h a' b' ha' hb'
  omega
theorem Sq {t : TreeC} (hS : DX t) : ∀ (n : Nat) (p : List Ce),BY t p = 0 -> (BK t n p).2 = 0 -> BY t (BK t n p).1 = 0
  | 0,p,hc,_=>hc
  | n + 1,p,hc,h=>by
    unfold BK at *
    by_cases he : (stp t p).2 = 0
    · rw [Adu he] at *
      exact Sq hS n _ (IU hc (hS p hc) he) h
    · rw [Ads he] at h
      exact absurd h he
theorem Sp {t : TreeC} (hS : DX t) (hq : AJ t = true) : ∀ (n : Nat) (p : List Ce) (w : Int),BY t p = 0 -> Spr w p -> (BK t n p).2 = 0 -> Spr (w + 4 * n) (BK t n p).1
  | 0,p,w,hc,h,_=>by simpa [BK] using h
  | n + 1,p,w,hc,h,h0=>by
    unfold BK at *
    by_cases he : (stp t p).2 = 0
    · rw [Adu he] at *
      have:=Sp hS hq n _ _ (IU hc (hS p hc) he) (Yy hq (hS p hc) h) h0
      rw [show w + 4 * ((n + 1 : Nat) : Int) = w + 4 + 4 * (n : Int) from by omega]
      exact this
    · rw [Ads he] at h0
      exact absurd h0 he
structure ShipR (t : TreeC) (s : Sh) : Prop where
  q : AJ t = true
  ck : BY t s.c = 0
  p1 : 1 <= s.m.1
  p2 : s.m.1 <= 64
  ph : ∀ i : Nat,(i : Int) < s.m.1 -> (BK t i s.c).2 = 0 /\ ¬ (BK t i s.c).1 = [] /\ BY t (BK t i s.c).1 = 0 /\ Spr 11000 (BK t i s.c).1
theorem UZ {p : List Ce} (hr : AL p = true) (hw : RX p = false) : Spr 9999 p:=by
  obtain ⟨bx,by_,w,h,e,_,_,_,hall,_⟩:=Adg hr
  unfold RX at hw
  rw [e] at hw
  simp only [Bool.or_eq_false_iff,decide_eq_false_iff_not] at hw
  intro c d hc hd
  have h1:=hall c hc
  have h2:=hall d hd
  omega
theorem DR {t : TreeC} (hS : DX t) {s : Sh} (h : AU t s = true) : ShipR t s:=by
  unfold AU at h
  simp only [Adr,AdV,AdF] at h
  obtain ⟨⟨h1,h2⟩,h3,h4,h5⟩:=h
  unfold VB at h4 h5
  simp only [Adr,AdF] at h4 h5
  obtain ⟨h4,h6⟩:=h4
  unfold MQ at h4 h5 h6
  have hc : BY t s.c = 0:=by
    refine Aer fun hn=>?_
    rw [Ads hn] at h4
    cases h4
  rw [Adu hc] at h4 h5 h6
  have hm : 1 <= s.m.1 /\ s.m.1 <= 64:=by
    refine Aer fun hn=>?_
    rw [Ads hn] at h4
    cases h4
  rw [Adu hm] at h4 h5 h6
  have hq:=(Bd hc).1
  obtain ⟨j,k1,k2,_,k4⟩:=Ly hq s.c s.m.1.toNat 1 s.c s.m 0 (by
    generalize He t s.c s.m.1.toNat 1 s.c = r at *
    obtain ⟨a,b,c⟩:=r
    dsimp only at *
    rw [h4,h5,h6])
  refine ⟨hq,hc,hm.1,hm.2,fun i hi=>?_⟩
  have ki:=k4 i (by omega)
  refine ⟨ki.1,ki.2,Sq hS i s.c hc ki.1,?_⟩
  have:=Sp hS hq i s.c 9999 hc (UZ h2 h3) ki.1
  intro c d hc hd
  have:=this c d hc hd
  omega
def shF (p : List Ce) (dx dy : Int) : List Ce × Int:=if (-2097152 <= dx /\ dx <= 2097152) /\ (-2097152 <= dy /\ dy <= 2097152) then if (p.all fun c=>AF (c.x + dx) (c.y + dy)) = true then (p.map (mvC (-dx) (-dy)),0) else ([],5) else ([],5)
def tnS (k : Nat) (p : List Ce) : List Ce:=Ci (p.map (tnC k))
theorem RZ {k : Nat} {p : List Ce} (h : p.Pairwise fun a b=>AO a b = true) : PU k p (tnS k p):=⟨DA _,FE (Gm k (Dh h))⟩
theorem Od {k : Nat} {p q : List Ce} (h : p.Pairwise fun a b=>AO a b = true) (hq : PU k p q) : q = tnS k p:=MF (RZ h).2 hq.2 (hq.1.trans (RZ h).1.symm)
theorem Ack {w : Int} {k : Nat} {p q : List Ce} (h : Spr w p) (hq : q.Perm (p.map (tnC k))) : Spr w q:=fun c d hc hd=>by
  obtain ⟨c',hc',rfl⟩:=AdU.1 (hq.mem_iff.1 hc)
  obtain ⟨d',hd',rfl⟩:=AdU.1 (hq.mem_iff.1 hd)
  have h1:=h c' d' hc' hd'
  have h2:=h d' c' hd' hc'
  unfold tnC CT
  split <;> dsimp only <;> omega
theorem Acl {w a b : Int} {p : List Ce} (h : Spr w p) : Spr w (p.map (mvC a b)):=fun c d hc hd=>by
  obtain ⟨c',hc',rfl⟩:=AdU.1 hc
  obtain ⟨d',hd',rfl⟩:=AdU.1 hd
  have h1:=h c' d' hc' hd'
  unfold mvC
  dsimp only
  omega
theorem Jf {p : List Ce} (hr : AL p = true) (h : Spr 11000 p) : AL (Bs p) = true:=by
  obtain ⟨h1,h2,h3⟩:=Av hr
  refine FH (Zt h1) (fun c hc=>?_) (by unfold Bs; rw [AdJ]; exact h3)
  refine Si (p:=p) (fun c d hc hd=>?_) (fun c hc=>?_) c hc
  · have:=h c d hc hd
    omega
  · exact (AH hr hc).2.2
theorem OJ {p : List Ce} : Bs p = [] ↔ p = []:=by unfold Bs; simp
noncomputable def PH (t : TreeC) (s : Sh) (n k : Nat) : List Ce:=Bs (tnS k (Bs (BK t n s.c).1))
theorem Lk {t : TreeC} {s : Sh} (h : ShipR t s) {n : Nat} (hn : (n : Int) < s.m.1) (k : Nat) : AL (Bs (BK t n s.c).1) = true /\ AL (tnS k (Bs (BK t n s.c).1)) = true /\ AL (PH t s n k) = true /\ ¬ PH t s n k = []:=by
  obtain ⟨h1,h2,h3,h4⟩:=h.ph n hn
  have hr:=(Bd h3).2.1
  have k1:=Jf hr h4
  have k2:=RZ (k:=k) (Av k1).1
  have k3:=IT k1 k2
  have k4 : Spr 11000 (tnS k (Bs (BK t n s.c).1)):=Ack (Acl h4) k2.1
  refine ⟨k1,k3,Jf k3 k4,fun e=>h2 ?_⟩
  have e1:=OJ.1 e
  have e2:=k2.1.length_eq
  rw [e1,AdJ] at e2
  exact OJ.1 (AdN e2.symm)
structure St5 where
  i : Int
  n : Int
  k : Int
  x : Int
  y : Int
noncomputable def phF (t : TreeC) (s : Sh) (n : Int) : List Ce × Int:=if AJ t = true then if (0 <= n /\ n <= 10000) /\ AU t s = true then (Bs (BK t (n.toNat % s.m.1.toNat) s.c).1,0) else ([],2) else ([],11)
noncomputable def plF (t : TreeC) (l : List Sh) (x : St5) : List Ce × Int:=if AJ t = true then match (if 0 <= x.i then l[x.i.toNat]? else none) with
    | some s=>if (0 <= x.k /\ x.k <= 7) /\ ((0 <= x.n /\ x.n <= 10000) /\ AU t s = true) then shF (PH t s (x.n.toNat % s.m.1.toNat) x.k.toNat) x.x x.y else ([],2)
    | none=>([],13)
  else ([],11)
theorem Ev {p : List Ce} (hr : AL p = true) {dx dy : Int} : AL (shF p dx dy).1 = true /\ ((shF p dx dy).2 = 0 -> (shF p dx dy).1 = p.map (mvC (-dx) (-dy))):=by
  obtain ⟨h1,h2,h3⟩:=Av hr
  unfold shF
  split
  · split
    · rename_i ha
      refine ⟨FH ?_ (fun c hc=>?_) (by rw [AdJ]; exact h3),fun _=>rfl⟩
      · exact List.Pairwise.map _ (fun a b hab=>by rw [Td]; exact hab) h1
      · obtain ⟨d,hd,rfl⟩:=AdU.1 hc
        have k1:=AdH.1 ha d hd
        have k2:=AH hr hd
        unfold Cr mvC AF at *
        simp only [Adr,AdF] at *
        omega
    · exact ⟨rfl,fun h=>by cases h⟩
  · exact ⟨rfl,fun h=>by cases h⟩
theorem YS {t : TreeC} (hS : DX t) {l : List Sh} {x : St5} : AL (plF t l x).1 = true /\ ((plF t l x).2 = 0 -> ¬ (plF t l x).1 = []):=by
  unfold plF
  split
  · split
    · rename_i s _
      split
      · rename_i h
        have hR:=DR hS h.2.2
        have hlt : ((x.n.toNat % s.m.1.toNat : Nat) : Int) < s.m.1:=by
          have:=hR.p1
          have:=Nat.mod_lt x.n.toNat (show 0 < s.m.1.toNat from by omega)
          omega
        obtain ⟨_,_,k3,k4⟩:=Lk hR hlt x.k.toNat
        refine ⟨(Ev k3).1,fun h0=>?_⟩
        rw [(Ev k3).2 h0]
        simpa using k4
      · exact ⟨rfl,fun h=>by cases h⟩
    · exact ⟨rfl,fun h=>by cases h⟩
  · exact ⟨rfl,fun h=>by cases h⟩
end Go.Mx.Tryz
set_option maxHeartbeats 4000000
namespace Go.Mx.Tryz
open Go.Lib Go.Proofs
theorem SC {f : List Ce} {o : V} {H : Hp} (h : Jl f o H) : view 20 H o = some (zP f):=by
 rcases h with ⟨rfl,rfl,rfl⟩ | ⟨hne,rfl,rfl⟩
 ·rfl
 ·have:=My (r:=0) (b:=0) (X:=[]) (A:=[]) (q:=f) (n:=f.length) rfl (Adz _) 18
  rw [this]
  unfold zP
  rw [Ads hne]
theorem OH (l : List Ce) : Cn (Af l) = Ax l:=by
 unfold Cn Af Ax
 rw [List.map_map]
 rfl
theorem Ada (p : List Ce) (hne : p ≠ []) (hl : p.length <= 1000000) : Gives G 89 [.m (.sl (Af p))] [] (.sl 0 p.length 3 0 p.length false) [Row.cs 73 3 (Ax p) 0 false]:=by
 refine .of_ret (BU mono rfl rfl rfl rfl rfl ?_)
 have hnil : En 4 (.m (.sl (Af p))) = some false:=rfl
 have ha : ∀ B,Am (fun _ _ _=>none) ⟨B,[]⟩ (.app 73 3 24) [.ls [],.m (.sl (Af p))] = some (.sl 0 p.length 3 0 p.length false,⟨B,[Row.cs 73 3 (Ax p) 0 false]⟩):=fun B=>by
  obtain ⟨c,r,rfl⟩:=List.exists_cons_of_ne_nil hne
  show Bp ⟨B,[]⟩ 73 3 24 (Cn (Af (c :: r))) = _
  rw [OH]
  have h1 : Nat.ble ((Ax (c :: r)).length * 24) 140737488355328 = true:=by rw [Bc]; exact AdA (by rw [BD]; omega)
  have h2 : ((Ax (c :: r)).all fun e=>Nat.beq e.length 3 && e.all Cv) = true:=by
   unfold Ax
   rw [List.all_map,AdH]
   exact fun _ _=>rfl
  unfold Bp
  rw [h1,h2,BD]
  rfl
 simp [hnil,-DM,ha]
theorem VM : Gives G 89 [.m (.sl (Af []))] [] (.ls []) []:=by
 refine .of_ret (BU mono rfl rfl rfl rfl rfl ?_)
 have hnil : En 4 (.m (.sl (Af []))) = some false:=rfl
 have ha : ∀ B,Am (fun _ _ _=>none) ⟨B,[]⟩ (.app 73 3 24) [.ls [],.m (.sl (Af []))] = some (.ls [],⟨B,[]⟩):=fun B=>rfl
 simp [hnil,-DM,ha]
theorem VL : Gives G 89 [.m (.nl 4)] [] (.m (.nl 4)) []:=by
 refine .of_ret (BU mono rfl rfl rfl rfl rfl ?_)
 have hnil : En 4 (.m (.nl 4)) = some true:=rfl
 simp [hnil]
theorem Oi {p : List Ce} {dx dy : Int} (h1 : -2097152 <= dx /\ dx <= 2097152) (h2 : -2097152 <= dy /\ dy <= 2097152) : shF p dx dy = if (p.all fun c=>AF (c.x + dx) (c.y + dy)) = true then (p.map (mvC (-dx) (-dy)),0) else ([],5):=by
 unfold shF
 rw [Adu ⟨h1,h2⟩]
theorem Ll {p : List Ce} {dx dy : Int} (h : ¬ ((-2097152 <= dx /\ dx <= 2097152) /\ (-2097152 <= dy /\ dy <= 2097152))) : shF p dx dy = ([],5):=by
 unfold shF
 rw [Ads h]
theorem Sm {p : List Ce} {dx dy : Int} {c : Ce} (h1 : -2097152 <= dx /\ dx <= 2097152) (h2 : -2097152 <= dy /\ dy <= 2097152) (hc : c ∈ p) (h : AF (c.x + dx) (c.y + dy) = false) : shF p dx dy = ([],5):=by
 rw [Oi h1 h2,Ads]
 rw [AdH]
 intro hh
 rw [hh c hc] at h
 cases h
theorem Oh {v : I} {p : List Ce} (hv : IsSl v (Af p)) (hp : AL p = true) (dx dy : Int) : ∃ x,IsSl x (Af (shF p dx dy).1) /\ ∀ H,Gives G 46 [.m v,.m (.i .i64 dx),.m (.i .i64 dy)] H (.tu [.m x,.m (.i .i64 (shF p dx dy).2)]) H:=by
 have hl:=(Av hp).2.2
 have hr:=hv.rules
 simp only [show (Af p).length = p.length from by simp [Af]] at hr
 have g1:=fun H=>CI hv (by omega) H
 rw [hp] at g1
 by_cases hd : (-2097152 <= dx /\ dx <= 2097152) /\ (-2097152 <= dy /\ dy <= 2097152)
 rotate_left
 ·rw [Ll hd]
  refine ⟨.nl 4,AC,fun H=>Ae rfl rfl rfl rfl rfl ?_⟩
  by_cases h1 : 2097152 < max dx dy
  ·simp (maxSteps:=2000000) (disch:=omega) [cl (g1 _),h1]
  ·have h2 : min dx dy < -2097152:=by omega
   simp (maxSteps:=2000000) (disch:=omega) [cl (g1 _),h1,h2]
 obtain ⟨hx,hy⟩:=hd
 have h1 : ¬ 2097152 < max dx dy:=by omega
 have h2 : ¬ min dx dy < -2097152:=by omega
 by_cases hne : p = []
 ·subst hne
  rw [Oi hx hy]
  show ∃ x,IsSl x (Af []) /\ ∀ H,Gives G 46 [.m v,.m (.i .i64 dx),.m (.i .i64 dy)] H (.tu [.m x,.m (.i .i64 0)]) H
  rcases hv with rfl | ⟨rfl,_⟩
  ·refine ⟨.sl [],Ba _,fun H=>Ae rfl rfl rfl rfl rfl ?_⟩
   simp (maxSteps:=2000000) (disch:=omega) [cl (g1 _),h1,h2,cl VM,c46_B0]
  ·refine ⟨.nl 4,AC,fun H=>Ae rfl rfl rfl rfl rfl ?_⟩
   simp (maxSteps:=2000000) (disch:=omega) [cl (g1 _),h1,h2,cl VL,c46_B0]
 have hve : v = .sl (Af p):=by
  rcases hv with rfl | ⟨rfl,h0⟩
  ·rfl
  ·exact absurd (by simpa [Af] using h0) hne
 subst hve
 have gc:=Ada p hne (by omega)
 have key : ∃ x H',Gives G 46 [.m (.sl (Af p)),.m (.i .i64 dx),.m (.i .i64 dy)] [] x H' /\ (H' = [] /\ ∃ z,IsSl z (Af (shF p dx dy).1) /\ x = .tu [.m z,.m (.i .i64 (shF p dx dy).2)]):=by
  refine AI ?_
  refine Cl rfl rfl rfl rfl rfl ?_
  generalize hQ : (fun (x : V) (H' : Hp)=>H' = [] /\ ∃ z,IsSl z (Af (shF p dx dy).1) /\ x = .tu [.m z,.m (.i .i64 (shF p dx dy).2)]) = Q
  have qk : shF p dx dy = (p.map (mvC (-dx) (-dy)),0) -> Q (.tu [.m (.sl (Af (p.map (mvC (-dx) (-dy))))),.m (.i .i64 0)]) []:=fun h=>by rw [<- hQ]; exact ⟨rfl,_,by rw [h]; exact Ba _,by rw [h]⟩
  have qe : shF p dx dy = ([],5) -> Q (.tu [.m (.nl 4),.m (.i .i64 5)]) []:=fun h=>by rw [<- hQ]; exact ⟨rfl,_,by rw [h]; exact AC,by rw [h]⟩
  clear hQ
  simp (maxSteps:=2000000) (disch:=omega) [cl (g1 _),h1,h2,cl gc]
  refine (?key : ∀ (j b : Nat) (g : List Ce) (B : List (Nat × List V)),j <= p.length -> b <= p.length -> g = (p.take j).map (mvC (-dx) (-dy)) ++ p.drop j -> ((p.take j).all fun c=>AF (c.x + dx) (c.y + dy)) = true -> Run G c46_B0 (S46_0 (.m (.i .i64 dx)) (.m (.i .i64 dy)) (.sl 0 p.length 3 0 p.length false) (.m (.i .i64 (p.length : Int))) (.m (.i .i64 (j : Int))) B [Row.cs 73 3 (Ax g) b false]) _) 0 0 p _ (Adz _) (Adz _) (by simp) rfl
  refine Bi (fun j : Nat=>p.length - j) fun j ih b g B hj hbl hg hall=>?_
  have hgl : g.length = p.length:=by rw [hg,AdC,AdJ,AdE,Aeb]; omega
  unfold c46_B0
  cases hpj : p[j]? with
  | some c =>
   have hlt:=(Al hpj).1
   have hlt' : (j : Int) < p.length:=by omega
   have wj : wr .i64 ((j : Int) + 1) = ((j + 1 : Nat) : Int):=Aa (by omega) (by omega)
   have hbc:=AH hp (Ady hpj)
   have w1 : wr .i64 (c.x + dx) = c.x + dx:=Aa (by omega) (by omega)
   have w2 : wr .i64 (c.y + dy) = c.y + dy:=Aa (by omega) (by omega)
   have htl : ((p.take j).map (mvC (-dx) (-dy))).length = j:=by rw [AdJ,AdE]; omega
   have hgc : g[j]? = some c:=by
    rw [hg,Aep (by omega),htl,Nat.sub_self,(Al hpj).2]
    rfl
   have hgc1 : (g.set j ⟨c.x + dx,c.y,c.s⟩)[j]? = some ⟨c.x + dx,c.y,c.s⟩:=by
    rw [List.getElem?_set_self (by omega)]
   have hgc2 : (g.set j ⟨c.x + dx,c.y + dy,c.s⟩)[j]? = some ⟨c.x + dx,c.y + dy,c.s⟩:=by
    rw [List.getElem?_set_self (by omega)]
   have rx:=r3_x hgc
   have ry:=r3_y hgc1
   have wx:=w3_x hgc (c.x + dx)
   have wy:=w3_y hgc1 (c.y + dy)
   rw [List.set_set] at wy
   have e : g.set j ⟨c.x + dx,c.y + dy,c.s⟩ = (p.take (j + 1)).map (mvC (-dx) (-dy)) ++ p.drop (j + 1):=by
    rw [hg,List.set_append_right _ _ (by omega),htl,Nat.sub_self,(Al hpj).2,Ao hpj]
    simp [mvC]
   have rr : nth (Ax (g.set j ⟨c.x + dx,c.y + dy,c.s⟩)) j = some [.m (.i .i64 (c.x + dx)),.m (.i .i64 (c.y + dy)),.m (.i .i64 c.s)]:=Da hgc2
   have rr3 : Ej 3 (Ax (g.set j ⟨c.x + dx,c.y + dy,c.s⟩)) j 0 3 = some [.m (.i .i64 (c.x + dx)),.m (.i .i64 (c.y + dy)),.m (.i .i64 c.s)]:=by
    rw [ME,rr]
    rfl
   have ga:=fun H=>ZF ⟨c.x + dx,c.y + dy,c.s⟩ H
   have gp:=fun H=>GV (c.x + dx) (c.y + dy) H
   dsimp only at ry wy ga
   have hall2 : AF (c.x + dx) (c.y + dy) = true -> ((p.take (j + 1)).all fun c=>AF (c.x + dx) (c.y + dy)) = true:=fun h=>by
    rw [Ao hpj,List.all_append,hall]
    simp [h]
   have k2:=fun h B'=>ih (j + 1) (by omega) p.length _ B' (by omega) (Adw _) e (hall2 h)
   cases hpl : AF (c.x + dx) (c.y + dy) with
   | true =>
    have k3:=k2 hpl
    rw [hpl] at gp
    simp (maxSteps:=2000000) (disch:=omega) [Ab,hlt',wj,w1,w2,rx,ry,wx,wy,rr3,hbl,hgl,cl (ga _),cl (gp _),-Int.natCast_add]
    exact k3 _
   | false =>
    have k3:=qe (Sm hx hy (Ady hpj) hpl)
    rw [hpl] at gp
    simp (maxSteps:=2000000) (disch:=omega) [Ab,hlt',w1,w2,rx,ry,wx,wy,rr3,hbl,hgl,cl (ga _),cl (gp _)]
    exact k3
  | none =>
   have : j = p.length:=by have:=Adv.1 hpj; omega
   subst this
   rw [AdQ] at hg hall
   rw [Aeg,Ael] at hg
   have k2:=qk (by rw [Oi hx hy,Adu hall])
   rw [<- hg] at k2
   have hvw:=My (r:=0) (b:=b) (X:=[]) (A:=[]) (q:=g) (n:=p.length) hgl hbl 18
   simp (maxSteps:=2000000) (disch:=omega) [hvw]
   exact k2
 obtain ⟨x,H',g,rfl,z,h1,rfl⟩:=key
 exact ⟨z,h1,fun H=>AT (H:=H) (is:=[.sl (Af p),.i .i64 dx,.i .i64 dy]) rfl rfl g rfl (.inl ⟨rfl,rfl⟩)⟩
theorem JN {v : I} {p : List Ce} (hv : IsSl v (Af p)) (hp : AL p = true) (dx dy : Int) (H : Hp) : Gives G 48 [.m v,.m (.i .i64 dx),.m (.i .i64 dy)] H (.tu [.m (zP (shF p dx dy).1),.m (.i .i64 (shF p dx dy).2)]) H:=by
 have hl:=(Av hp).2.2
 have hr:=hv.rules
 simp only [show (Af p).length = p.length from by simp [Af]] at hr
 have g1:=fun H=>Fj hv (by omega) H
 rw [hp] at g1
 by_cases hd : (-2097152 <= dx /\ dx <= 2097152) /\ (-2097152 <= dy /\ dy <= 2097152)
 rotate_left
 ·rw [Ll hd]
  refine Ae rfl rfl rfl rfl rfl ?_
  by_cases h1 : dx < -2097152
  ·simp (maxSteps:=2000000) (disch:=omega) [cl (g1 _),h1,zP]
  ·by_cases h2 : 2097152 < dx
   ·simp (maxSteps:=2000000) (disch:=omega) [cl (g1 _),h1,h2,zP]
   ·by_cases h3 : dy < -2097152
    ·simp (maxSteps:=2000000) (disch:=omega) [cl (g1 _),h1,h2,h3,zP]
    ·have h4 : 2097152 < dy:=by omega
     simp (maxSteps:=2000000) (disch:=omega) [cl (g1 _),h1,h2,h3,h4,zP]
 obtain ⟨hdx,hdy⟩:=hd
 refine Ae rfl rfl rfl rfl rfl ?_
 simp (maxSteps:=2000000) (disch:=omega) [cl (g1 _),show ¬ dx < -2097152 from by omega,show ¬ 2097152 < dx from by omega,show ¬ dy < -2097152 from by omega,show ¬ 2097152 < dy from by omega]
 refine (?key : ∀ (i : Nat) (f : List Ce) (o : V) (B : List (Nat × List V)) (H1 : Hp),i <= p.length -> f = (p.take i).map (mvC (-dx) (-dy)) -> ((p.take i).all fun c=>AF (c.x + dx) (c.y + dy)) = true -> Jl f o H1 -> Run G c48_B0 (S48_0 (.m v) (.m (.i .i64 dx)) (.m (.i .i64 dy)) o (.m (.i .i64 (i : Int))) B H1) _) 0 [] _ _ _ (Adz _) rfl rfl (.inl ⟨rfl,rfl,rfl⟩)
 refine Bi (fun i : Nat=>p.length - i) fun i ih f o B H1 hi hf hall ho=>?_
 unfold c48_B0
 have hfl : f.length = i:=by rw [hf,AdJ,AdE]; omega
 obtain ⟨hvw,hnf⟩:=BW ho
 cases hx : p[i]? with
 | some c =>
  have hlt:=(Al hx).1
  have hlt' : (i : Int) < p.length:=by omega
  have hn:=An hx
  have wi : wr .i64 ((i : Int) + 1) = (i : Int) + 1:=Aa (by omega) (by omega)
  have htk : p.take (i + 1) = p.take i ++ [c]:=Ao hx
  have hbd:=AH hp (Ady hx)
  have wx : wr .i64 (c.x + dx) = c.x + dx:=Aa (by omega) (by omega)
  have wy : wr .i64 (c.y + dy) = c.y + dy:=Aa (by omega) (by omega)
  have gp:=fun H=>GW (c.x + dx) (c.y + dy) H
  obtain ⟨o1,H2,ha,hn1,ho1⟩:=BM ho (by omega) (mvC (-dx) (-dy) c)
  have e1 : (mvC (-dx) (-dy) c).x = c.x + dx:=by unfold mvC; dsimp only; omega
  have e2 : (mvC (-dx) (-dy) c).y = c.y + dy:=by unfold mvC; dsimp only; omega
  have e3 : (mvC (-dx) (-dy) c).s = c.s:=rfl
  simp only [e1,e2,e3] at ha
  have he : f ++ [mvC (-dx) (-dy) c] = (p.take (i + 1)).map (mvC (-dx) (-dy)):=by rw [htk,hf]; simp
  cases hpl : AF (c.x + dx) (c.y + dy) with
  | true =>
   rw [hpl] at gp
   have hall2 : ((p.take (i + 1)).all fun c=>AF (c.x + dx) (c.y + dy)) = true:=by
    rw [htk,List.all_append,hall]
    simp [hpl]
   have k2:=fun B'=>ih (i + 1) (by omega) _ _ B' _ (by omega) he hall2 ho1
   generalize shF p dx dy = res at *
   simp (maxSteps:=2000000) (disch:=omega) [hr,hlt',hn,wi,wx,wy,cl (gp _),ha,Ap hn1]
   exact k2 _
  | false =>
   rw [hpl] at gp
   rw [Sm hdx hdy (Ady hx) hpl]
   simp (maxSteps:=2000000) (disch:=omega) [hr,hlt',hn,wx,wy,cl (gp _),zP]
 | none =>
  have : i = p.length:=by have:=Adv.1 hx; omega
  subst this
  rw [AdQ] at hf hall
  rw [Oi hdx hdy,Adu hall,<- hf]
  have hvw2:=SC ho
  generalize zP f = zz at *
  simp (maxSteps:=2000000) (disch:=omega) [hr,hvw2,Ap hnf]
  exact hnf
theorem Th {v : I} {p : List Ce} (hv : IsSl v (Af p)) (hp : AL p = true) (H : Hp) : Gives G 116 [.m v] H (.m (if p = [] then v else zP (Bs p))) H:=by
 have hl:=(Av hp).2.2
 have hr:=hv.rules
 simp only [show (Af p).length = p.length from by simp [Af]] at hr
 have g1:=fun H=>Fj hv (by omega) H
 rw [hp] at g1
 refine Ae rfl rfl rfl rfl rfl ?_
 cases hpe : p with
 | nil =>
  have hl0 : p.length = 0:=by rw [hpe]; rfl
  rw [Adu rfl]
  rw [<- hpe] at *
  simp (maxSteps:=2000000) (disch:=omega) [cl (g1 _),hr,hl0]
 | cons c r =>
 have hne : ¬ p = []:=by rw [hpe]; simp
 rw [<- hpe,Ads hne]
 have h0 : p[0]? = some c:=by rw [hpe]; rfl
 have hn0:=An h0
 have hp0 : 0 < p.length:=(Al h0).1
 have hp0' : ¬ p.length = 0:=by omega
 have hp1' : ¬ (p.length : Int) = 0:=by omega
 have hlx : GA p = mnF c.x (p.map Ce.x):=by rw [hpe]; rfl
 have hly : Gs p = mnF c.y (p.map Ce.y):=by rw [hpe]; rfl
 have hbx:=OE hp
 have hby:=OD hp
 simp (maxSteps:=2000000) (disch:=omega) [cl (g1 _),hr,hp0',hn0]
 refine (?key : ∀ (i : Nat) (x y : Int) (B : List (Nat × List V)),i <= p.length -> x = mnF c.x ((p.take i).map Ce.x) -> y = mnF c.y ((p.take i).map Ce.y) -> Run G c116_B0 (S116_0 (.m v) (.m (.i .i64 x)) (.m (.i .i64 y)) (.m (.i .i64 (i : Int))) B []) _) 0 c.x c.y _ (Adz _) rfl rfl
 refine Bi (fun i : Nat=>p.length - i) fun i ih x y B hi hx0 hy0=>?_
 unfold c116_B0
 cases hx : p[i]? with
 | some a =>
  have hlt:=(Al hx).1
  have hlt' : (i : Int) < p.length:=by omega
  have hn:=An hx
  have wi : wr .i64 ((i : Int) + 1) = ((i + 1 : Nat) : Int):=Aa (by omega) (by omega)
  have hmx:=GZ c.x ((p.take i).map Ce.x) a.x
  have hmy:=GZ c.y ((p.take i).map Ce.y) a.y
  rw [<- CQ Ce.x hx,<- hx0] at hmx
  rw [<- CQ Ce.y hx,<- hy0] at hmy
  have k2:=fun B'=>ih (i + 1) (by omega) (min x a.x) (min y a.y) B' (by omega) hmx.symm hmy.symm
  simp (maxSteps:=2000000) (disch:=omega) [hr,hlt',hn,wi,-Int.natCast_add]
  exact k2 _
 | none =>
  have : i = p.length:=by have:=Adv.1 hx; omega
  subst this
  clear ih
  rw [AdQ] at hx0 hy0
  rw [<- hlx] at hx0
  rw [<- hly] at hy0
  subst hx0 hy0
  simp (maxSteps:=2000000) (disch:=omega) [hr]
  refine (?key2 : ∀ (i : Nat) (f : List Ce) (o : V) (B : List (Nat × List V)) (H1 : Hp),i <= p.length -> f = (p.take i).map (mvC (GA p) (Gs p)) -> Jl f o H1 -> Run G c116_B1 (S116_1 (.m v) (.m (.i .i64 (GA p))) (.m (.i .i64 (Gs p))) o (.m (.i .i64 (i : Int))) B H1) _) 0 [] _ _ _ (Adz _) rfl (.inl ⟨rfl,rfl,rfl⟩)
  clear hx hi B
  refine Bi (fun i : Nat=>p.length - i) fun i ih f o B H1 hi hf ho=>?_
  unfold c116_B1
  have hfl : f.length = i:=by rw [hf,AdJ,AdE]; omega
  obtain ⟨hvw,hnf⟩:=BW ho
  cases hx : p[i]? with
  | some a =>
   have hlt:=(Al hx).1
   have hlt' : (i : Int) < p.length:=by omega
   have hn:=An hx
   have wi : wr .i64 ((i : Int) + 1) = ((i + 1 : Nat) : Int):=Aa (by omega) (by omega)
   have hba:=AH hp (Ady hx)
   have w1 : wr .i64 (a.x - GA p) = a.x - GA p:=Aa (by omega) (by omega)
   have w2 : wr .i64 (a.y - Gs p) = a.y - Gs p:=Aa (by omega) (by omega)
   obtain ⟨o1,H2,ha,hn1,ho1⟩:=BM ho (by omega) (mvC (GA p) (Gs p) a)
   have e : f ++ [mvC (GA p) (Gs p) a] = (p.take (i + 1)).map (mvC (GA p) (Gs p)):=by rw [Ao hx,hf]; simp
   have k2:=fun B'=>ih (i + 1) (by omega) _ o1 B' H2 (by omega) e ho1
   simp only [mvC] at ha
   generalize GA p = lx at *
   generalize Gs p = ly at *
   simp (maxSteps:=2000000) (disch:=omega) [hr,hlt',hn,wi,w1,w2,ha,Ap hn1,-Int.natCast_add]
   exact k2 _
  | none =>
   have : i = p.length:=by have:=Adv.1 hx; omega
   subst this
   rw [AdQ] at hf
   have e : f = Bs p:=hf
   rw [e] at hvw
   generalize zP (Bs p) = z at *
   simp (maxSteps:=2000000) (disch:=omega) [hr,hvw,Ap hnf]
   exact hnf
theorem Gn {v : I} {p : List Ce} (hv : IsSl v (Af p)) (hl : p.length <= 5000) (hg : ∀ c,c ∈ p -> Cr c = true) (ha : p.Pairwise apart) (H : Hp) : Gives G 94 [.m v] H (.tu [.m (zP (Ci p)),.m (.i .i64 0)]) H:=by
 have hr:=hv.rules
 simp only [show (Af p).length = p.length from by simp [Af]] at hr
 have gf:=fun H=>Ic hv hl hg ha H
 generalize zP (Ci p) = z at *
 refine Ae rfl rfl rfl rfl rfl ?_
 simp (maxSteps:=2000000) (disch:=omega) [hr,show ¬ (5000 : Int) < p.length from by omega,show ¬ 5000 < p.length from by omega,cl (gf _)]
theorem Yx {v : I} {p : List Ce} (hv : IsSl v (Af p)) (hp : AL p = true) (k : Int) (hk : -9223372036854775808 <= k /\ k <= 9223372036854775807) (H : Hp) : Gives G 115 [.m (.i .i64 k),.m v] H (.tu [.m (zP (tnS (Db k) p)),.m (.i .i64 0)]) H:=by
 have hl : p.length <= 5000:=(Av hp).2.2
 have hr:=hv.rules
 simp only [show (Af p).length = p.length from by simp [Af]] at hr
 have g1:=fun H=>Fj hv (by omega) H
 rw [hp] at g1
 have hgd : ∀ c,c ∈ p.map (tnC (Db k)) -> Cr c = true:=fun c hc=>by
  have hq:=IT hp (RZ (k:=Db k) (Av hp).1)
  exact (Av hq).2.1 c ((RZ (k:=Db k) (Av hp).1).1.mem_iff.2 hc)
 have hap : (p.map (tnC (Db k))).Pairwise apart:=Gm _ (Dh (Av hp).1)
 refine Ae rfl rfl rfl rfl rfl ?_
 simp (maxSteps:=2000000) (disch:=omega) [cl (g1 _)]
 refine (?key : ∀ (i : Nat) (f : List Ce) (o : V) (B : List (Nat × List V)) (H1 : Hp),i <= p.length -> f = (p.take i).map (tnC (Db k)) -> OutI f o H1 -> Run G c115_B0 (S115_0 (.m (.i .i64 k)) (.m v) o (.m (.i .i64 (i : Int))) B H1) _) 0 [] _ _ _ (Adz _) rfl (.inl ⟨rfl,rfl,rfl⟩)
 refine Bi (fun i : Nat=>p.length - i) fun i ih f o B H1 hi hf ho=>?_
 unfold c115_B0
 have hfl : f.length = i:=by rw [hf,AdJ,AdE]; omega
 cases hx : p[i]? with
 | some c =>
  have hlt:=(Al hx).1
  have hlt' : (i : Int) < p.length:=by omega
  have hn:=An hx
  have wi : wr .i64 ((i : Int) + 1) = ((i + 1 : Nat) : Int):=Aa (by omega) (by omega)
  have htk : p.take (i + 1) = p.take i ++ [c]:=Ao hx
  have hbd:=AH hp (Ady hx)
  have ga:=fun H=>ZH k c.x c.y hk (by omega) (by omega) H
  have he : f ++ [tnC (Db k) c] = (p.take (i + 1)).map (tnC (Db k)):=by rw [htk,hf]; simp
  have hnf:=Ze ho
  obtain ⟨o1,H2,ha,hn1,ho1⟩:=SI ho (by omega) (.cs 43 2 [[.m (.i .i64 (tnC (Db k) c).x),.m (.i .i64 (tnC (Db k) c).y)]] 1 false) (tnC (Db k) c)
  have e1 : (tnC (Db k) c).x = (CT (Db k) c.x c.y).1:=rfl
  have e2 : (tnC (Db k) c).y = (CT (Db k) c.x c.y).2:=rfl
  have e3 : (tnC (Db k) c).s = c.s:=rfl
  have k2:=fun B'=>ih (i + 1) (by omega) _ o1 B' H2 (by omega) he ho1
  simp only [e1,e2,e3] at ha
  generalize (CT (Db k) c.x c.y).1 = tx at *
  generalize (CT (Db k) c.x c.y).2 = ty at *
  have hse:=fun y=>Sn H1 (Row.cs 43 2 [[.m (.i .i64 0),.m (.i .i64 0)]] 0 false) y
  have hne:=fun (y : Row)=>Lt H1 [y] 0
  simp only [Nat.add_zero] at hne
  have hn0 : ∀ y : Row,nth [y] 0 = some y:=fun _=>rfl
  have hw : DS 2 [[V.m (.i .i64 0),V.m (.i .i64 0)]] 0 0 [V.m (.i .i64 tx),V.m (.i .i64 ty)] = some [[V.m (.i .i64 tx),V.m (.i .i64 ty)]]:=rfl
  have hr0 : Ej 2 [[V.m (.i .i64 tx),V.m (.i .i64 ty)]] 0 0 1 = some [V.m (.i .i64 tx)]:=rfl
  have hr1 : Ej 2 [[V.m (.i .i64 tx),V.m (.i .i64 ty)]] 0 1 1 = some [V.m (.i .i64 ty)]:=rfl
  simp (maxSteps:=2000000) (disch:=omega) [Ab,hr,hlt',hn,wi,cl (ga _),hse,hne,hn0,hw,hr0,hr1,ha,Ap hn1,-Int.natCast_add]
  exact k2 _
 | none =>
  have : i = p.length:=by have:=Adv.1 hx; omega
  subst this
  clear ih hx hi
  rw [AdQ] at hf
  rcases ho with ⟨h1,rfl,rfl⟩ | ⟨hne,rfl,hn1⟩
  ·have : p = []:=by cases p with | nil=>rfl | cons a b=>simp [h1] at hf
   subst this
   have gf:=fun H=>Gn (p:=[]) AC (by simp) (by simp) List.Pairwise.nil H
   simp (maxSteps:=2000000) (disch:=omega) [hr,cl (gf _)]
   rfl
  ·subst hf
   have gf:=Gn (Ba (Af (p.map (tnC (Db k))))) (by rw [AdJ]; exact hl) hgd hap []
   have hsn : Ci (p.map (tnC (Db k))) ≠ []:=fun h=>by
    have:=CD (p.map (tnC (Db k)))
    rw [h] at this
    exact hne (AdN this.symm)
   have hzg : Fy (.tu [.m (zP (Ci (p.map (tnC (Db k))))),.m (.i .i64 0)]) = false:=by
    unfold zP
    rw [Ads hsn]
    rfl
   have hvv:=Oc hn1 (Adz _) 18
   unfold tnS
   generalize p.map (tnC (Db k)) = f at *
   have hvs : Ah (view 20 H1) [V.sl 1 f.length 3 0 f.length false] = some [.sl (Af f)]:=by
    simp only [Ah,hvv,Adx]
   have hfz : AV ([V.sl 1 f.length 3 0 f.length false].flatMap DH) H1 = some (H1.set 1 (.cs 73 3 (Ax f) 0 true)):=by
    show Option.bind (nth H1 1) _ = _
    rw [hn1]
    show Option.bind (gd ((Ax f).all fun e=>e.all isM) (some (Row.cs 73 3 (Ax f) 0 true))) _ = _
    rw [FG]
    show Option.bind (Bk H1 1 _) _ = _
    rw [BA _ _ _ (GL hn1)]
    rfl
   have gF:=CM (is:=[.sl (Af f)]) rfl rfl gf hvs (by simp [DH,GH]) hzg rfl hfz
   generalize zP (Ci f) = zz at *
   simp (maxSteps:=2000000) (disch:=omega) [hr,cl gF]
def Jb (p : List Ce) (c : Ce) : Bool:=p.any fun d=>decide (d.x = c.x) && decide (d.y = c.y)
theorem Ih (d : Ce) (s : List Ce) (c : Ce) : Jb (d :: s) c = ((decide (d.x = c.x) && decide (d.y = c.y)) || Jb s c):=rfl
theorem SS {p : List Ce} {c : Ce} (h : ∀ d,d ∈ p -> apart c d) : Jb p c = false:=by
 unfold Jb
 rw [List.any_eq_false]
 intro d hd
 have:=h d hd
 unfold apart at this
 simp only [Adr,AdF]
 exact fun hh=>this ⟨hh.1.symm,hh.2.symm⟩
theorem SR {d : Ce} {s : List Ce} {c : Ce} (h : apart c d) : Jb (d :: s) c = Jb s c:=by
 rw [Ih]
 have : (decide (d.x = c.x) && decide (d.y = c.y)) = false:=by
  rw [Bool.eq_false_iff]
  simp only [ne_eq,Adr,AdF]
  exact fun hh=>h ⟨hh.1.symm,hh.2.symm⟩
 rw [this,Bool.false_or]
theorem Te {a b : Ce} (h : AO a b = true) : apart a b:=by
 unfold AO at h
 unfold apart
 simp at h
 omega
def pkF (a b : List Ce) (has : Bool) : List Ce:=a.filter fun c=>Jb b c == has
theorem pk_a {c : Ce} {r b : List Ce} (has : Bool) (h : ∀ d,d ∈ b -> AO c d = true) : pkF (c :: r) b has = (if has = true then [] else [c]) ++ pkF r b has:=by
 have e:=SS (p:=b) (c:=c) fun d hd=>Te (h d hd)
 unfold pkF
 rw [List.filter_cons,e]
 cases has <;> rfl
theorem pk_b {d : Ce} {a s : List Ce} (has : Bool) (h : ∀ c,c ∈ a -> AO d c = true) : pkF a (d :: s) has = pkF a s has:=by
 unfold pkF
 refine List.filter_congr fun c hc=>?_
 rw [SR (Jk (Te (h c hc)))]
theorem Acy {c d : Ce} {r s : List Ce} (has : Bool) (hx : c.x = d.x) (hy : c.y = d.y) (h : ∀ e,e ∈ r -> AO c e = true) : pkF (c :: r) (d :: s) has = (if has = true then [c] else []) ++ pkF r s has:=by
 have e : Jb (d :: s) c = true:=by rw [Ih,hx,hy]; simp
 have e2 : pkF r (d :: s) has = pkF r s has:=pk_b has fun e he=>by
  have:=h e he
  unfold AO at *
  rw [<- hx,<- hy]
  exact this
 rw [<- e2]
 unfold pkF
 rw [List.filter_cons,e]
 cases has <;> rfl
theorem YW (b : List Ce) (has : Bool) : pkF [] b has = []:=rfl
def ovL (a b : List Ce) : List Ce:=a ++ pkF b a false
theorem ov_a {c : Ce} {r b : List Ce} (h : ∀ d,d ∈ b -> AO c d = true) : ovL (c :: r) b = c :: ovL r b:=by
 have : pkF b (c :: r) false = pkF b r false:=pk_b false h
 unfold ovL
 rw [this]
 rfl
theorem ov_b {d : Ce} {a s : List Ce} (h : ∀ c,c ∈ a -> AO d c = true) : (ovL a (d :: s)).Perm (d :: ovL a s):=by
 have : pkF (d :: s) a false = d :: pkF s a false:=pk_a false h
 unfold ovL
 rw [this]
 exact List.perm_middle
theorem ov_ab {c d : Ce} {r s : List Ce} (hx : c.x = d.x) (hy : c.y = d.y) (h : ∀ e,e ∈ s -> AO d e = true) : ovL (c :: r) (d :: s) = c :: ovL r s:=by
 have : pkF (d :: s) (c :: r) false = pkF s r false:=by
  rw [Acy (c:=d) (d:=c) false hx.symm hy.symm h]
  rfl
 unfold ovL
 rw [this]
 rfl
theorem Zb : ovL [] [] = []:=rfl
theorem Ot {a b : List Ce} (ha : a.Pairwise apart) (hb : b.Pairwise apart) : (ovL a b).Pairwise apart:=by
 unfold ovL
 rw [Aen]
 refine ⟨ha,hb.sublist List.filter_sublist,fun c hc d hd hh=>?_⟩
 have h1:=(List.mem_filter.1 hd).2
 have h2 : Jb a d = true:=by
  unfold Jb
  rw [List.any_eq_true]
  exact ⟨c,hc,by simp [hh.1,hh.2]⟩
 rw [h2] at h1
 cases h1
theorem Wu {a b : List Ce} : pkF a b true = [] ↔ ∀ c,c ∈ a -> ∀ d,d ∈ b -> apart c d:=by
 unfold pkF
 rw [List.filter_eq_nil_iff]
 refine ⟨fun h c hc d hd hh=>?_,fun h c hc=>?_⟩
 ·have h1:=h c hc
  have h2 : Jb b c = true:=by
   unfold Jb
   rw [List.any_eq_true]
   exact ⟨d,hd,by simp [hh.1,hh.2]⟩
  rw [h2] at h1
  exact h1 rfl
 ·rw [SS fun d hd=>h c hc d hd]
  simp
theorem Vp {p : List Ce} (hg : ∀ d,d ∈ p -> Cr d = true) (c : Ce) : Jb p c = !decide (Dc p c.x c.y = 0):=by
 induction p with
 | nil=>rfl
 | cons d s ih =>
  have e : Dc (d :: s) c.x c.y = if d.x = c.x /\ d.y = c.y then d.s else Dc s c.x c.y:=rfl
  rw [Ih,e,ih fun e he=>hg e (Aek _ he)]
  by_cases h : d.x = c.x /\ d.y = c.y
  ·have:=(Hc (hg d (AdL ..))).2.1
   rw [Adu h,h.1,h.2]
   have : ¬ d.s = 0:=by omega
   simp [this]
  ·rw [Ads h]
   have : (decide (d.x = c.x) && decide (d.y = c.y)) = false:=by
    rw [Bool.eq_false_iff]
    simpa using h
   rw [this,Bool.false_or]
theorem PR (p : List Ce) : QO 3 (Af p) = true:=by
 cases p <;> rfl
theorem Mz {v : I} {c : Ce} {r : List Ce} (h : IsSl v (Af (c :: r))) : ∃ u,IsSl u (Af r) /\ Aq (.slc 3 true false false) [.m v,.m (.i .i64 1)] = some (.m u):=by
 refine ⟨subI v 1 (Af (c :: r)).length,?_,?_⟩
 ·have:=h.sub 1 (Af (c :: r)).length
  have e : ((Af (c :: r)).drop 1).take ((Af (c :: r)).length - 1) = Af r:=by
   show (Af r).take _ = _
   rw [AdI (by simp [Af])]
  rw [e] at this
  exact this
 ·rw [h.slc (PR _) rfl]
  have hb : GS (Af (c :: r)).length true false false [.m (.i .i64 1)] = some (1,(Af (c :: r)).length):=by
   rw [Yl]
   have : bnd (Af (c :: r)).length (.m (.i .i64 1)) = some 1:=by
    show gd (Nat.ble 1 (Af (c :: r)).length) (some 1) = _
    rw [Bc,AdA (by simp [Af])]
    rfl
   rw [this]
   rfl
  rw [hb]
  rfl
def Vis (f : Nat) (cap : List V) (x y : Ce) (a b : Bool) : List V:=[.m (.ag x.i),.m (.ag y.i),.m (.b a),.m (.b b)] ++ cap
set_option maxHeartbeats 2000000 in
theorem Tb {f : Nat} {cap : List V} (hcap : AA (.fn f cap) = true) {Inv : List Ce -> List Ce -> Hp -> Prop}
  (h1 : ∀ c r b H (Q : V -> Hp -> Prop),Inv (c :: r) b H -> (∀ d,d ∈ b -> AO c d = true) -> (∀ H',Inv r b H' -> Q (.tu []) H') -> Ret G f (Vis f cap c ⟨0,0,0⟩ true false) H Q)
  (h2 : ∀ d s a H (Q : V -> Hp -> Prop),Inv a (d :: s) H -> (∀ c,c ∈ a -> AO d c = true) -> (∀ H',Inv a s H' -> Q (.tu []) H') -> Ret G f (Vis f cap ⟨0,0,0⟩ d false true) H Q)
  (h3 : ∀ c r d s H (Q : V -> Hp -> Prop),Inv (c :: r) (d :: s) H -> c.x = d.x -> c.y = d.y -> (∀ e,e ∈ r -> AO c e = true) -> (∀ e,e ∈ s -> AO d e = true) -> (∀ H',Inv r s H' -> Q (.tu []) H') -> Ret G f (Vis f cap c d true true) H Q)
  {v w : I} {a b : List Ce} (hv : IsSl v (Af a)) (hw : IsSl w (Af b)) (ha : a.Pairwise fun x y=>AO x y = true) (hb : b.Pairwise fun x y=>AO x y = true) (hla : a.length <= 1000000) (hlb : b.length <= 1000000) {H : Hp} (hI : Inv a b H) {Q : V -> Hp -> Prop} (hQ : ∀ H',Inv [] [] H' -> Q (.tu []) H') : Ret G 90 [.m v,.m w,.fn f cap] H Q:=by
 refine BU mono rfl rfl rfl (by simp [hcap]) rfl ?_
 simp (maxSteps:=2000000) (disch:=omega) []
 refine (?key : ∀ (k : Nat) (a b : List Ce) (v w : I) (B : List (Nat × List V)) (H : Hp),a.length + b.length = k -> IsSl v (Af a) -> IsSl w (Af b) -> (a.Pairwise fun x y=>AO x y = true) -> (b.Pairwise fun x y=>AO x y = true) -> a.length <= 1000000 -> b.length <= 1000000 -> Inv a b H -> Run G c90_B0 (S90_0 (.m v) (.m w) (.fn f cap) B H) _) _ a b v w _ H rfl hv hw ha hb hla hlb hI
 clear hI hlb hla hb ha hw hv a b v w H
 refine Bi (fun k : Nat=>k) fun k ih a b v w B H hk hv hw ha hb hla hlb hI=>?_
 unfold c90_B0
 have hra:=hv.rules
 have hrb:=hw.rules
 simp only [show (Af a).length = a.length from by simp [Af]] at hra
 simp only [show (Af b).length = b.length from by simp [Af]] at hrb
 cases hae : a with
 | nil =>
  have la : a.length = 0:=by rw [hae]; rfl
  cases hbe : b with
  | nil =>
   have lb : b.length = 0:=by rw [hbe]; rfl
   have k2:=hQ H (by rw [hae,hbe] at hI; exact hI)
   simp (maxSteps:=2000000) (disch:=omega) [hra,hrb,la,lb]
   exact k2
  | cons d s =>
   have hd : b[0]? = some d:=by rw [hbe]; rfl
   have hn:=An hd
   have lb : b.length = s.length + 1:=by rw [hbe]; rfl
   rw [hbe] at hw hb hI
   rw [hae] at hI
   obtain ⟨u,hu,ht⟩:=Mz hw
   have hb2:=(AdR.1 hb)
   have k2:=fun H' hI' B'=>ih s.length (by omega) [] s v u B' H' (by simp) (by rw [<- hae]; exact hv) hu .nil hb2.2 (by simp) (by omega) hI'
   simp (maxSteps:=2000000) (disch:=omega) [hra,hrb,la,lb,hn,show ¬ ((s.length : Int) + 1 = 0) from by omega,show (0 : Int) < (s.length : Int) + 1 from by omega]
   rw [As]
   refine h2 d s [] H _ hI (fun c hc=>by cases hc) fun H' hI'=>?_
   simp (maxSteps:=2000000) (disch:=omega) [ht]
   exact k2 H' hI' _
 | cons c r =>
  have hc : a[0]? = some c:=by rw [hae]; rfl
  have hn:=An hc
  have la : a.length = r.length + 1:=by rw [hae]; rfl
  rw [hae] at hv ha hI
  obtain ⟨u,hu,ht⟩:=Mz hv
  have ha2:=(AdR.1 ha)
  cases hbe : b with
  | nil =>
   have lb : b.length = 0:=by rw [hbe]; rfl
   rw [hbe] at hI
   have k2:=fun H' hI' B'=>ih r.length (by omega) r [] u w B' H' (by simp) hu (by rw [<- hbe]; exact hw) ha2.2 .nil (by omega) (by simp) hI'
   simp (maxSteps:=2000000) (disch:=omega) [hra,hrb,la,lb,hn,show ¬ ((r.length : Int) + 1 = 0) from by omega,show (0 : Int) < (r.length : Int) + 1 from by omega]
   rw [As]
   refine h1 c r [] H _ hI (fun c hc=>by cases hc) fun H' hI'=>?_
   simp (maxSteps:=2000000) (disch:=omega) [ht]
   exact k2 H' hI' _
  | cons d s =>
   have hd : b[0]? = some d:=by rw [hbe]; rfl
   have hn2:=An hd
   have lb : b.length = s.length + 1:=by rw [hbe]; rfl
   rw [hbe] at hw hb hI
   obtain ⟨u2,hu2,ht2⟩:=Mz hw
   have hb2:=(AdR.1 hb)
   have go:=fun H=>Ov c d H
   by_cases hlt : AO c d = true
   ·have hneg : JX c.x c.y d.x d.y = -1:=by
     unfold AO at hlt
     unfold JX DE
     simp only [AdF] at hlt
     grind
    rw [hneg] at go
    have k2:=fun H' hI' B'=>ih (r.length + (s.length + 1)) (by omega) r (d :: s) u w B' H' rfl hu hw ha2.2 hb (by omega) (by simp; omega) hI'
    simp (maxSteps:=2000000) (disch:=omega) [hra,hrb,la,lb,hn,hn2,show ¬ ((r.length : Int) + 1 = 0) from by omega,show (0 : Int) < (r.length : Int) + 1 from by omega,show ¬ ((s.length : Int) + 1 = 0) from by omega,cl (go _)]
    rw [As]
    refine h1 c r (d :: s) H _ hI (fun e he=>?_) fun H' hI'=>?_
    ·rcases AdP.1 he with rfl | he
     ·exact hlt
     ·exact EM hlt (hb2.1 e he)
    simp (maxSteps:=2000000) (disch:=omega) [ht]
    exact k2 H' hI' _
   ·by_cases hgt : AO d c = true
    ·have hneg : JX c.x c.y d.x d.y = 1:=by
      unfold AO at hgt
      unfold JX DE
      simp only [AdF] at hgt
      grind
     rw [hneg] at go
     have k2:=fun H' hI' B'=>ih (r.length + 1 + s.length) (by omega) (c :: r) s v u2 B' H' rfl hv hu2 ha hb2.2 (by simp; omega) (by omega) hI'
     simp (maxSteps:=2000000) (disch:=omega) [hra,hrb,la,lb,hn,hn2,show ¬ ((r.length : Int) + 1 = 0) from by omega,show (0 : Int) < (r.length : Int) + 1 from by omega,show ¬ ((s.length : Int) + 1 = 0) from by omega,cl (go _)]
     rw [As]
     refine h2 d s (c :: r) H _ hI (fun e he=>?_) fun H' hI'=>?_
     ·rcases AdP.1 he with rfl | he
      ·exact hgt
      ·exact EM hgt (ha2.1 e he)
     simp (maxSteps:=2000000) (disch:=omega) [ht2]
     exact k2 H' hI' _
    ·have hxy : c.x = d.x /\ c.y = d.y:=by
      unfold AO at hlt hgt
      simp only [AdF] at hlt hgt
      omega
     have hneg : JX c.x c.y d.x d.y = 0:=by
      unfold JX DE
      grind
     rw [hneg] at go
     have k2:=fun H' hI' B'=>ih (r.length + s.length) (by omega) r s u u2 B' H' rfl hu hu2 ha2.2 hb2.2 (by omega) (by omega) hI'
     simp (maxSteps:=2000000) (disch:=omega) [hra,hrb,la,lb,hn,hn2,show ¬ ((r.length : Int) + 1 = 0) from by omega,show (0 : Int) < (r.length : Int) + 1 from by omega,show ¬ ((s.length : Int) + 1 = 0) from by omega,cl (go _)]
     rw [As]
     refine h3 c r d s H _ hI hxy.1 hxy.2 ha2.1 hb2.1 fun H' hI'=>?_
     simp (maxSteps:=2000000) (disch:=omega) [ht,ht2]
     exact k2 H' hI' _
theorem at_r {p : List Ce} {v f : I} (hv : IsSl v (Af p)) (hl : p.length <= 5000) (hF : FldV p v f) (x y : Int) (hx : -10000000 <= x /\ x <= 10000000) (hy : -10000000 <= y /\ y <= 10000000) (H : Hp) : Gives G 131 [.m f,.m (.i .i64 x),.m (.i .i64 y)] H (.m (.i .i64 (Dc p x y))) H:=by
 obtain ⟨bx,by_,w,h,fl,cs,rfl,hwh,hbx,hby,hin,hne,hfl,_⟩:=hF.ex
 have gg:=fun H=>AcQ hv (by omega) x y H
 unfold LA
 refine Ae rfl rfl rfl rfl rfl ?_
 cases fl with
 | false=>simp (maxSteps:=2000000) (disch:=omega) [cl (gg _)]
 | true =>
  obtain ⟨hP,hcs⟩:=hfl rfl
  have hrc:=hcs.rules
  simp only [Cw,DD] at hrc
  have wx : wr .i64 (bx + (w : Int)) = bx + w:=Aa (by omega) (by omega)
  have wy : wr .i64 (by_ + (h : Int)) = by_ + h:=Aa (by omega) (by omega)
  by_cases x1 : x < bx
  ·have e : Dc p x y = 0:=JW fun c hc=>by have:=hin c hc; omega
   simp (maxSteps:=2000000) (disch:=omega) [x1,e]
  by_cases x2 : bx + (w : Int) <= x
  ·have e : Dc p x y = 0:=JW fun c hc=>by have:=hin c hc; omega
   simp (maxSteps:=2000000) (disch:=omega) [x1,wx,x2,e]
  by_cases y1 : y < by_
  ·have e : Dc p x y = 0:=JW fun c hc=>by have:=hin c hc; omega
   simp (maxSteps:=2000000) (disch:=omega) [x1,wx,x2,y1,e]
  by_cases y2 : by_ + (h : Int) <= y
  ·have e : Dc p x y = 0:=JW fun c hc=>by have:=hin c hc; omega
   simp (maxSteps:=2000000) (disch:=omega) [x1,wx,x2,y1,wy,y2,e]
  obtain ⟨a,ha⟩:=AdM (show 0 <= x - bx by omega)
  obtain ⟨b,hb⟩:=AdM (show 0 <= y - by_ by omega)
  have haw : a < w:=by omega
  have hbh : b < h:=by omega
  have hk : b * w + a < w * h:=by
   have h1 : (b + 1) * w <= h * w:=Aed _ hbh
   rw [AdY,Nat.one_mul,AeH h w] at h1
   omega
  have hg:=VE p bx by_ (w:=w) (n:=w * h) (a:=a) (b:=b) haw hk
  rw [show bx + (a : Int) = x from by omega,show by_ + (b : Int) = y from by omega] at hg
  obtain ⟨M,hM⟩ : ∃ M,M = b * w:=⟨_,rfl⟩
  have hMi : (b : Int) * (w : Int) = (M : Int):=by rw [hM]; simp
  obtain ⟨P,hPe⟩ : ∃ P,P = w * h:=⟨_,rfl⟩
  rw [<- hM] at hk hg
  rw [<- hPe] at hk hg hP hrc
  obtain ⟨k0,hk0⟩ : ∃ k0,k0 = M + a:=⟨_,rfl⟩
  rw [<- hk0] at hg hk
  have hn : nth (Es (CR p bx by_ w P)) k0 = some [.i .i64 (Dc p x y)]:=CP hg
  have w55 : wr .i64 (y - by_) = (b : Int):=by rw [hb]; exact Aa (by omega) (by omega)
  have w59 : wr .i64 ((b : Int) * (w : Int)) = (M : Int):=by rw [hMi]; exact Aa (by omega) (by omega)
  have w61 : wr .i64 ((M : Int) + x) = (M : Int) + x:=Aa (by omega) (by omega)
  have w65 : wr .i64 ((M : Int) + x - bx) = (k0 : Int):=by rw [Aa (by omega) (by omega)]; omega
  have hk2 : (k0 : Int) < P:=by omega
  generalize Dc p x y = g at *
  simp (maxSteps:=2000000) (disch:=omega) [x1,wx,x2,y1,wy,y2,w55,w59,w61,w65,hrc,hn]
theorem AcG {t : TreeC} {h n v f : I} {es : List (List I)} (hT : TreeV t h n es) (hR : TreeR t) {p : List Ce} (hv : IsSl v (Af p)) (hl : p.length <= 5000) (hF : FldV p v f) (hp : GK t p) (x y : Int) (hx : -9000000 <= x /\ x <= 9000000) (hy : -9000000 <= y /\ y <= 9000000) (H : Hp) : Gives G 100 [.m (.ag [.i .i64 t.states,h,n]),.m f,.m (.i .i64 x),.m (.i .i64 y)] H (.m (.i .i64 (Bl t p x y))) H:=by
 have hrh:=hT.hd.rules
 simp only [Be] at hrh
 have hh:=BS hR.hood
 have ga:=fun x y hx hy H=>at_r hv hl hF x y hx hy H
 have hF2:=hF
 obtain ⟨bx,by_,w,k,fl,cs,rfl,_⟩:=hF2.ex
 have gv:=fun w H hw=>RY hT hR (w:=w) (ins:=Lv t p x y) hw (by rw [FN]; exact Adw _) (JU hR hp) H
 clear hF hF2
 unfold LA at ga ⊢
 refine Ae rfl rfl rfl rfl rfl ?_
 simp (maxSteps:=2000000) (disch:=omega) []
 refine (?key : ∀ (i : Nat) (o : V) (B : List (Nat × List V)) (H1 : Hp),i <= t.hood.length -> getB B 4 = some [.m (.i .i64 t.states),.m h,.m n] -> getB B 5 = some [.m (.b fl),.m (.i .i64 bx),.m (.i .i64 by_),.m (.i .i64 w),.m (.i .i64 k),.m cs,.m v] -> Adk ((Lv t p x y).take i) o H1 -> Run G c100_B0 (S100_0 (.m (.i .i64 x)) (.m (.i .i64 y)) (.fa 4 0) (.fa 5 0) o (.m (.i .i64 (i : Int))) B H1) _) 0 _ _ _ (Adz _) rfl rfl (.inl ⟨rfl,rfl,rfl⟩)
 refine Bi (fun i : Nat=>t.hood.length - i) fun i ih o B H1 hi hB4 hB5 ho=>?_
 unfold c100_B0
 have hnf:=Zk ho
 cases hy2 : t.hood[i]? with
 | none =>
  have : i = t.hood.length:=by have:=Adv.1 hy2; omega
  subst this
  rw [AdI (by rw [FN]; exact Adw _)] at ho
  have gc:=SU (F:=112) (t0:=.ag [.i .i64 t.states,h,n]) rfl rfl ho gv rfl
  have e : JM t (Lv t p x y) = Bl t p x y:=rfl
  rw [e] at gc
  simp (maxSteps:=2000000) (disch:=omega) [hrh,hB4,cl gc]
 | some o2 =>
  have hlt:=(Al hy2).1
  have hlt' : (i : Int) < t.hood.length:=by omega
  have hox:=Cg hy2
  have hob:=DC hR.hood o2 (Ady hy2)
  have wi : wr .i64 ((i : Int) + 1) = ((i + 1 : Nat) : Int):=Aa (by omega) (by omega)
  have wx : wr .i64 (x + o2.1) = x + o2.1:=Aa (by omega) (by omega)
  have wy : wr .i64 (y + o2.2) = y + o2.2:=Aa (by omega) (by omega)
  have g1:=fun H=>ga (x + o2.1) (y + o2.2) (by omega) (by omega) H
  have hs : (Lv t p x y)[i]? = some (Dc p (x + o2.1) (y + o2.2)):=by unfold Lv; rw [AdT,hy2]; rfl
  obtain ⟨o1,H2,hap,hn1,ho1⟩:=ST ho (by rw [AdE]; omega) (Dc p (x + o2.1) (y + o2.2))
  rw [<- Ao hs] at ho1
  have kk:=ih (i + 1) (by omega) o1 B H2 (by omega) hB4 hB5 ho1
  generalize Dc p (x + o2.1) (y + o2.2) = g at *
  simp (maxSteps:=2000000) (disch:=omega) [hrh,hlt',hox,hB4,hB5,wx,wy,cl (g1 _),hap,wi,Ap hn1,-Int.natCast_add]
  exact kk
end Go.Mx.Tryz
