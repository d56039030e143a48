/- Fields of the reference: the state of a cell, the new state of a cell. -/
import Derived.Test.YtlhjjcaifenlbaaGreatDoorRb
import Derived.Test.YtlhjjcaifenlbaaGreatDoorVn
set_option linter.unusedSimpArgs false
set_option linter.unusedVariables false
set_option linter.unusedSectionVars false
set_option maxRecDepth 100000
namespace Go.Mx.Tryz
open Go.Lib
instance : DecidableEq Ce:=fun a b=>if h : a.x = b.x /\ a.y = b.y /\ a.s = b.s then isTrue (by cases a; cases b; obtain ⟨h1,h2,h3⟩:=h; dsimp only at h1 h2 h3; rw [h1,h2,h3]) else isFalse fun e=>h (by rw [e]; exact ⟨rfl,rfl,rfl⟩)
noncomputable def stp (t : TreeC) (p : List Ce) : List Ce × Int:=@Classical.epsilon _ ⟨([],0)⟩ (Dd t p)
theorem Is {t : TreeC} {p : List Ce} {r : List Ce × Int} (h : Dd t p r) : stp t p = r:=It (@Classical.epsilon_spec_aux _ ⟨([],0)⟩ (Dd t p) ⟨r,h⟩) h
def Ei (t : TreeC) : Prop:=∀ p,BR t p = 0 -> Dd t p (stp t p)
theorem YL {t : TreeC} {q : List Ce} (hq : AI t = true) (h1 : q.Pairwise (fun a b=>AW a b = true)) (h2 : ∀ c,c ∈ q -> Cj c = true) (h3 : q.length <= 5000) (ht : Gi t q) : BR t q = 0:=by
  unfold BR
  rw [AcC hq,AcC (Fn h1 h2 h3),AcC ((Ht (by have:=(Db hq).s2; omega) _ q rfl).2 fun c hc=>(ht c hc).2)]
theorem Ir {t : TreeC} {p : List Ce} (hc : BR t p = 0) (hs : Dd t p (stp t p)) (he : (stp t p).2 = 0) : BR t (stp t p).1 = 0:=by
  obtain ⟨hq,hr,ht⟩:=BI hc
  have hs' : Dd t p ((stp t p).1,0):=by rw [<- he]; exact hs
  obtain ⟨k1,k2,k3,k4⟩:=Nt (Db hq) ht hs'
  exact YL hq k1 k2 k3 k4
theorem Rt {t : TreeC} {p : List Ce} (hs : Dd t p (stp t p)) (he : ¬ (stp t p).2 = 0) : (stp t p).1 = []:=by
  generalize stp t p = r at *
  rcases hs with ⟨rfl,_⟩ | ⟨_,q,_,_,rfl⟩
  · rfl
  · split
    · rfl
    · rename_i h5
      rw [Acz h5] at he
      exact absurd rfl he
noncomputable def VH (t : TreeC) (p : List Ce) : List Ce × Int:=if BR t p = 0 then stp t p else ([],BR t p)
noncomputable def BC (t : TreeC) : Nat -> List Ce -> List Ce × Int
  | 0,p=>(p,0)
  | n + 1,p=>if (stp t p).2 = 0 then BC t n (stp t p).1 else ([],(stp t p).2)
theorem VK {t : TreeC} : ∀ (n : Nat) (p : List Ce),¬ (BC t n p).2 = 0 -> (BC t n p).1 = []
  | 0,p,h=>absurd rfl h
  | n + 1,p,h=>by
    unfold BC at *
    by_cases he : (stp t p).2 = 0
    · rw [AcC he] at *
      exact VK n _ h
    · rw [Acz he]
noncomputable def rnE (t : TreeC) (p : List Ce) (n : Int) : List Ce × Int:=if BR t p = 0 then if 0 <= n /\ n <= 10000 then BC t n.toNat p else ([],2) else ([],BR t p)
theorem Rs {t : TreeC} (hq : AI t = true) : stp t [] = ([],0):=by
  have h0 : ∀ x y,Bg t [] x y = 0:=fun x y=>AdE fun h=>by
    obtain ⟨c,o,hc,_⟩:=Gv hq h
    cases hc
  refine Is (.inr ⟨fun x y h=>absurd (h0 x y) h,[],.nil,fun c=>⟨fun h=>(by cases h),fun h=>absurd (by rw [h.1]; exact h0 _ _) h.2⟩,rfl⟩)
def mvd : List Ce -> List Ce -> Option (Int × Int)
  | c :: r,d :: s=>if d :: s = (c :: r).map (fun e=>⟨e.x + (d.x - c.x),e.y + (d.y - c.y),e.s⟩) then some (d.x - c.x,d.y - c.y) else none
  | _,_=>none
theorem So (p : List Ce) : mvd p [] = none:=by cases p <;> rfl
noncomputable def GA (t : TreeC) (p : List Ce) : Nat -> Int -> List Ce -> (Int × Int × Int) × Bool × Int
  | 0,_,_=>((0,0,0),false,0)
  | k + 1,g,q=>if (stp t q).2 = 0 then match mvd p (stp t q).1 with
      | some d=>((g,d.1,d.2),true,0)
      | none=>GA t p k (g + 1) (stp t q).1
    else ((0,0,0),false,(stp t q).2)
theorem KU {t : TreeC} {p q : List Ce} {k : Nat} {g : Int} (he : (stp t q).2 = 0) : GA t p (k + 1) g q = match mvd p (stp t q).1 with
      | some d=>((g,d.1,d.2),true,0)
      | none=>GA t p k (g + 1) (stp t q).1:=by
  rw [GA,AcC he]
theorem NX {t : TreeC} {p q : List Ce} {k : Nat} {g : Int} (he : ¬ (stp t q).2 = 0) : GA t p (k + 1) g q = ((0,0,0),false,(stp t q).2):=by
  rw [GA,Acz he]
theorem Gz {t : TreeC} (hq : AI t = true) (p : List Ce) : ∀ (k : Nat) (g : Int),GA t p k g [] = ((0,0,0),false,0)
  | 0,_=>rfl
  | k + 1,g=>by
    rw [KU (by rw [Rs hq]),Rs hq]
    show (match mvd p [] with
      | some d=>((g,d.1,d.2),true,0)
      | none=>GA t p k (g + 1) []) = _
    rw [So]
    exact Gz hq p k (g + 1)
theorem KS {t : TreeC} (hq : AI t = true) (p : List Ce) : ∀ (k : Nat) (g : Int) (q : List Ce) (m : Int × Int × Int) (e : Int),GA t p k g q = (m,true,e) -> ∃ j : Nat,j < k /\ m.1 = g + j /\ e = 0 /\ ∀ i,i <= j -> (BC t i q).2 = 0 /\ ¬ (BC t i q).1 = []
  | 0,g,q,m,e,h=>by cases h
  | k + 1,g,q,m,e,h=>by
    have hne : ¬ q = []:=fun e=>by rw [e,Gz hq] at h; cases h
    by_cases he : (stp t q).2 = 0
    · rw [KU he] at h
      cases hm : mvd p (stp t q).1 with
      | some d =>
        rw [hm] at h
        cases h
        refine ⟨0,by omega,by simp,rfl,fun i hi=>?_⟩
        have : i = 0:=by omega
        subst this
        exact ⟨rfl,hne⟩
      | none =>
        rw [hm] at h
        obtain ⟨j,h1,h2,h3,h4⟩:=KS hq p k (g + 1) _ m e h
        refine ⟨j + 1,by omega,by omega,h3,fun i hi=>?_⟩
        cases i with
        | zero=>exact ⟨rfl,hne⟩
        | succ i =>
          have e : BC t (i + 1) q = BC t i (stp t q).1:=by rw [BC,AcC he]
          rw [e]
          exact h4 i (by omega)
    · rw [NX he] at h
      cases h
theorem NW {t : TreeC} (p : List Ce) : ∀ (k : Nat) (g : Int) (q : List Ce),¬ (GA t p k g q).2.2 = 0 -> (GA t p k g q).2.1 = false
  | 0,g,q,h=>rfl
  | k + 1,g,q,h=>by
    by_cases he : (stp t q).2 = 0
    · rw [KU he] at *
      cases hm : mvd p (stp t q).1 with
      | some d=>rw [hm] at h; exact absurd rfl h
      | none=>rw [hm] at h; exact NW p k _ _ h
    · rw [NX he]
noncomputable def Me (t : TreeC) (p : List Ce) (most : Int) : (Int × Int × Int) × Bool × Int:=if BR t p = 0 then if 1 <= most /\ most <= 64 then GA t p most.toNat 1 p else ((0,0,0),false,2) else ((0,0,0),false,BR t p)
theorem UU {t : TreeC} {p : List Ce} {most : Int} (h : ¬ (Me t p most).2.2 = 0) : (Me t p most).2.1 = false:=by
  unfold Me at *
  split
  · rename_i hc
    rw [AcC hc] at h
    split
    · rename_i hm
      rw [AcC hm] at h
      exact NW _ _ _ _ h
    · rfl
  · rfl
noncomputable def UQ (t : TreeC) (p : List Ce) (m : Int × Int × Int) : Bool × Int:=((Me t p m.1).2.1 && decide ((Me t p m.1).1 = m),(Me t p m.1).2.2)
structure Sh where
  c : List Ce
  m : Int × Int × Int
def Ro (p : List Ce) : Bool:=match Lb p with
  | [_,_,w,h]=>decide (10000 < w) || decide (10000 < h)
  | _=>false
noncomputable def AS (t : TreeC) (s : Sh) : Bool:=(!s.c.isEmpty && AP s.c) && (!Ro s.c && ((UQ t s.c s.m).1 && decide ((UQ t s.c s.m).2 = 0)))
def Spr (w : Int) (p : List Ce) : Prop:=∀ c d,c ∈ p -> d ∈ p -> c.x - d.x <= w /\ c.y - d.y <= w
theorem XQ {t : TreeC} (hq : AI t = true) {p : List Ce} (hs : Dd t p (stp t p)) {w : Int} (h : Spr w p) : Spr (w + 4) (stp t p).1:=by
  have near : ∀ c,c ∈ (stp t p).1 -> ∃ d,d ∈ p /\ (-2 <= c.x - d.x /\ c.x - d.x <= 2) /\ (-2 <= c.y - d.y /\ c.y - d.y <= 2):=by
    generalize stp t p = r at *
    intro c hc
    rcases hs with ⟨rfl,_⟩ | ⟨_,q,_,hm,rfl⟩
    · cases hc
    · split at hc
      · cases hc
      · have h1:=(hm c).1 hc
        have h2 : ¬ Bg t p c.x c.y = 0:=by rw [<- h1.1]; exact h1.2
        obtain ⟨d,o,hd,ho,ex,ey⟩:=Gv hq h2
        have hb:=Dp (Db hq).hood o ho
        exact ⟨d,hd,by omega,by omega⟩
  intro a b ha hb
  obtain ⟨a',ha',_,_⟩:=near a ha
  obtain ⟨b',hb',_,_⟩:=near b hb
  have:=h a' b' ha' hb'
  omega
theorem RH {t : TreeC} (hS : Ei t) : ∀ (n : Nat) (p : List Ce),BR t p = 0 -> (BC t n p).2 = 0 -> BR t (BC t n p).1 = 0
  | 0,p,hc,_=>hc
  | n + 1,p,hc,h=>by
    unfold BC at *
    by_cases he : (stp t p).2 = 0
    · rw [AcC he] at *
      exact RH hS n _ (Ir hc (hS p hc) he) h
    · rw [Acz he] at h
      exact absurd h he
theorem RG {t : TreeC} (hS : Ei t) (hq : AI t = true) : ∀ (n : Nat) (p : List Ce) (w : Int),BR t p = 0 -> Spr w p -> (BC t n p).2 = 0 -> Spr (w + 4 * n) (BC t n p).1
  | 0,p,w,hc,h,_=>by simpa [BC] using h
  | n + 1,p,w,hc,h,h0=>by
    unfold BC at *
    by_cases he : (stp t p).2 = 0
    · rw [AcC he] at *
      have:=RG hS hq n _ _ (Ir hc (hS p hc) he) (XQ hq (hS p hc) h) h0
      rw [show w + 4 * ((n + 1 : Nat) : Int) = w + 4 + 4 * (n : Int) from by omega]
      exact this
    · rw [Acz he] at h0
      exact absurd h0 he
structure ShipR (t : TreeC) (s : Sh) : Prop where
  q : AI t = true
  ck : BR t s.c = 0
  p1 : 1 <= s.m.1
  p2 : s.m.1 <= 64
  ph : ∀ i : Nat,(i : Int) < s.m.1 -> (BC t i s.c).2 = 0 /\ ¬ (BC t i s.c).1 = [] /\ BR t (BC t i s.c).1 = 0 /\ Spr 11000 (BC t i s.c).1
theorem Ur {p : List Ce} (hr : AP p = true) (hw : Ro p = false) : Spr 9999 p:=by
  obtain ⟨bx,by_,w,h,e,_,_,_,hall,_⟩:=Acn hr
  unfold Ro at hw
  rw [e] at hw
  simp only [Bool.or_eq_false_iff,decide_eq_false_iff_not] at hw
  intro c d hc hd
  have h1:=hall c hc
  have h2:=hall d hd
  omega
theorem Ew {t : TreeC} (hS : Ei t) {s : Sh} (h : AS t s = true) : ShipR t s:=by
  unfold AS at h
  simp only [Acx,Ada,AcK] at h
  obtain ⟨⟨h1,h2⟩,h3,h4,h5⟩:=h
  unfold UQ at h4 h5
  simp only [Acx,AcK] at h4 h5
  obtain ⟨h4,h6⟩:=h4
  unfold Me at h4 h5 h6
  have hc : BR t s.c = 0:=by
    refine AdE fun hn=>?_
    rw [Acz hn] at h4
    cases h4
  rw [AcC hc] at h4 h5 h6
  have hm : 1 <= s.m.1 /\ s.m.1 <= 64:=by
    refine AdE fun hn=>?_
    rw [Acz hn] at h4
    cases h4
  rw [AcC hm] at h4 h5 h6
  have hq:=(BI hc).1
  obtain ⟨j,k1,k2,_,k4⟩:=KS hq s.c s.m.1.toNat 1 s.c s.m 0 (by
    generalize GA t s.c s.m.1.toNat 1 s.c = r at *
    obtain ⟨a,b,c⟩:=r
    dsimp only at *
    rw [h4,h5,h6])
  refine ⟨hq,hc,hm.1,hm.2,fun i hi=>?_⟩
  have ki:=k4 i (by omega)
  refine ⟨ki.1,ki.2,RH hS i s.c hc ki.1,?_⟩
  have:=RG hS hq i s.c 9999 hc (Ur h2 h3) ki.1
  intro c d hc hd
  have:=this c d hc hd
  omega
def shF (p : List Ce) (dx dy : Int) : List Ce × Int:=if (-2097152 <= dx /\ dx <= 2097152) /\ (-2097152 <= dy /\ dy <= 2097152) then if (p.all fun c=>AE (c.x + dx) (c.y + dy)) = true then (p.map (mvC (-dx) (-dy)),0) else ([],5) else ([],5)
def tnS (k : Nat) (p : List Ce) : List Ce:=Ci (p.map (tnC k))
theorem Rr {k : Nat} {p : List Ce} (h : p.Pairwise fun a b=>AW a b = true) : Pl k p (tnS k p):=⟨Ev _,Gr (FJ k (Gs h))⟩
theorem Nr {k : Nat} {p q : List Ce} (h : p.Pairwise fun a b=>AW a b = true) (hq : Pl k p q) : q = tnS k p:=RM (Rr h).2 hq.2 (hq.1.trans (Rr h).1.symm)
theorem Abt {w : Int} {k : Nat} {p q : List Ce} (h : Spr w p) (hq : q.Perm (p.map (tnC k))) : Spr w q:=fun c d hc hd=>by
  obtain ⟨c',hc',rfl⟩:=Adc.1 (hq.mem_iff.1 hc)
  obtain ⟨d',hd',rfl⟩:=Adc.1 (hq.mem_iff.1 hd)
  have h1:=h c' d' hc' hd'
  have h2:=h d' c' hd' hc'
  unfold tnC CF
  split <;> dsimp only <;> omega
theorem Abu {w a b : Int} {p : List Ce} (h : Spr w p) : Spr w (p.map (mvC a b)):=fun c d hc hd=>by
  obtain ⟨c',hc',rfl⟩:=Adc.1 hc
  obtain ⟨d',hd',rfl⟩:=Adc.1 hd
  have h1:=h c' d' hc' hd'
  unfold mvC
  dsimp only
  omega
theorem IC {p : List Ce} (hr : AP p = true) (h : Spr 11000 p) : AP (Bn p) = true:=by
  obtain ⟨h1,h2,h3⟩:=Az hr
  refine Fn (YF h1) (fun c hc=>?_) (by unfold Bn; rw [AcR]; exact h3)
  refine RB (p:=p) (fun c d hc hd=>?_) (fun c hc=>?_) c hc
  · have:=h c d hc hd
    omega
  · exact (AG hr hc).2.2
theorem NS {p : List Ce} : Bn p = [] ↔ p = []:=by unfold Bn; simp
noncomputable def Ps (t : TreeC) (s : Sh) (n k : Nat) : List Ce:=Bn (tnS k (Bn (BC t n s.c).1))
theorem Nw {t : TreeC} {s : Sh} (h : ShipR t s) {n : Nat} (hn : (n : Int) < s.m.1) (k : Nat) : AP (Bn (BC t n s.c).1) = true /\ AP (tnS k (Bn (BC t n s.c).1)) = true /\ AP (Ps t s n k) = true /\ ¬ Ps t s n k = []:=by
  obtain ⟨h1,h2,h3,h4⟩:=h.ph n hn
  have hr:=(BI h3).2.1
  have k1:=IC hr h4
  have k2:=Rr (k:=k) (Az k1).1
  have k3:=Iq k1 k2
  have k4 : Spr 11000 (tnS k (Bn (BC t n s.c).1)):=Abt (Abu h4) k2.1
  refine ⟨k1,k3,IC k3 k4,fun e=>h2 ?_⟩
  have e1:=NS.1 e
  have e2:=k2.1.length_eq
  rw [e1,AcR] at e2
  exact NS.1 (AcT e2.symm)
structure St5 where
  i : Int
  n : Int
  k : Int
  x : Int
  y : Int
noncomputable def phF (t : TreeC) (s : Sh) (n : Int) : List Ce × Int:=if AI t = true then if (0 <= n /\ n <= 10000) /\ AS t s = true then (Bn (BC t (n.toNat % s.m.1.toNat) s.c).1,0) else ([],2) else ([],11)
noncomputable def plF (t : TreeC) (l : List Sh) (x : St5) : List Ce × Int:=if AI t = true then match (if 0 <= x.i then l[x.i.toNat]? else none) with
    | some s=>if (0 <= x.k /\ x.k <= 7) /\ ((0 <= x.n /\ x.n <= 10000) /\ AS t s = true) then shF (Ps t s (x.n.toNat % s.m.1.toNat) x.k.toNat) x.x x.y else ([],2)
    | none=>([],13)
  else ([],11)
theorem KG {p : List Ce} (hr : AP p = true) {dx dy : Int} : AP (shF p dx dy).1 = true /\ ((shF p dx dy).2 = 0 -> (shF p dx dy).1 = p.map (mvC (-dx) (-dy))):=by
  obtain ⟨h1,h2,h3⟩:=Az hr
  unfold shF
  split
  · split
    · rename_i ha
      refine ⟨Fn ?_ (fun c hc=>?_) (by rw [AcR]; exact h3),fun _=>rfl⟩
      · exact List.Pairwise.map _ (fun a b hab=>by rw [Su]; exact hab) h1
      · obtain ⟨d,hd,rfl⟩:=Adc.1 hc
        have k1:=AcO.1 ha d hd
        have k2:=AG hr hd
        unfold Cj mvC AE at *
        simp only [Acx,AcK] at *
        omega
    · exact ⟨rfl,fun h=>by cases h⟩
  · exact ⟨rfl,fun h=>by cases h⟩
theorem AbH {t : TreeC} (hS : Ei t) {l : List Sh} {x : St5} : AP (plF t l x).1 = true /\ ((plF t l x).2 = 0 -> ¬ (plF t l x).1 = []):=by
  unfold plF
  split
  · split
    · rename_i s _
      split
      · rename_i h
        have hR:=Ew hS h.2.2
        have hlt : ((x.n.toNat % s.m.1.toNat : Nat) : Int) < s.m.1:=by
          have:=hR.p1
          have:=Nat.mod_lt x.n.toNat (show 0 < s.m.1.toNat from by omega)
          omega
        obtain ⟨_,_,k3,k4⟩:=Nw hR hlt x.k.toNat
        refine ⟨(KG k3).1,fun h0=>?_⟩
        rw [(KG k3).2 h0]
        simpa using k4
      · exact ⟨rfl,fun h=>by cases h⟩
    · exact ⟨rfl,fun h=>by cases h⟩
  · exact ⟨rfl,fun h=>by cases h⟩
end Go.Mx.Tryz
set_option maxHeartbeats 4000000
namespace Go.Mx.Tryz
open Go.Lib Go.Proofs
theorem RQ {f : List Ce} {o : V} {H : Hp} (h : JC f o H) : view 20 H o = some (zP f):=by
 rcases h with ⟨rfl,rfl,rfl⟩ | ⟨hne,rfl,rfl⟩
 ·rfl
 ·have:=LS (r:=0) (b:=0) (X:=[]) (A:=[]) (q:=f) (n:=f.length) rfl (AcF _) 18
  rw [this]
  unfold zP
  rw [Acz hne]
theorem NR (l : List Ce) : DG (Ag l) = Aw l:=by
 unfold DG Ag Aw
 rw [List.map_map]
 rfl
theorem Ach (p : List Ce) (hne : p ≠ []) (hl : p.length <= 1000000) : Gives G 89 [.m (.sl (Ag p))] [] (.sl 0 p.length 3 0 p.length false) [Row.cs 73 3 (Aw p) 0 false]:=by
 refine .of_ret (BU mono rfl rfl rfl rfl rfl ?_)
 have hnil : DY 4 (.m (.sl (Ag p))) = some false:=rfl
 have ha : ∀ B,Am (fun _ _ _=>none) ⟨B,[]⟩ (.app 73 3 24) [.ls [],.m (.sl (Ag p))] = some (.sl 0 p.length 3 0 p.length false,⟨B,[Row.cs 73 3 (Aw p) 0 false]⟩):=fun B=>by
  obtain ⟨c,r,rfl⟩:=List.exists_cons_of_ne_nil hne
  show Bu ⟨B,[]⟩ 73 3 24 (DG (Ag (c :: r))) = _
  rw [NR]
  have h1 : Nat.ble ((Aw (c :: r)).length * 24) 140737488355328 = true:=by rw [BG]; exact AcI (by rw [BH]; omega)
  have h2 : ((Aw (c :: r)).all fun e=>Nat.beq e.length 3 && e.all CR) = true:=by
   unfold Aw
   rw [List.all_map,AcO]
   exact fun _ _=>rfl
  unfold Bu
  rw [h1,h2,BH]
  rfl
 simp [hnil,-Gm,ha]
theorem Vb : Gives G 89 [.m (.sl (Ag []))] [] (.ls []) []:=by
 refine .of_ret (BU mono rfl rfl rfl rfl rfl ?_)
 have hnil : DY 4 (.m (.sl (Ag []))) = some false:=rfl
 have ha : ∀ B,Am (fun _ _ _=>none) ⟨B,[]⟩ (.app 73 3 24) [.ls [],.m (.sl (Ag []))] = some (.ls [],⟨B,[]⟩):=fun B=>rfl
 simp [hnil,-Gm,ha]
theorem Va : Gives G 89 [.m (.nl 4)] [] (.m (.nl 4)) []:=by
 refine .of_ret (BU mono rfl rfl rfl rfl rfl ?_)
 have hnil : DY 4 (.m (.nl 4)) = some true:=rfl
 simp [hnil]
theorem Nx {p : List Ce} {dx dy : Int} (h1 : -2097152 <= dx /\ dx <= 2097152) (h2 : -2097152 <= dy /\ dy <= 2097152) : shF p dx dy = if (p.all fun c=>AE (c.x + dx) (c.y + dy)) = true then (p.map (mvC (-dx) (-dy)),0) else ([],5):=by
 unfold shF
 rw [AcC ⟨h1,h2⟩]
theorem Ny {p : List Ce} {dx dy : Int} (h : ¬ ((-2097152 <= dx /\ dx <= 2097152) /\ (-2097152 <= dy /\ dy <= 2097152))) : shF p dx dy = ([],5):=by
 unfold shF
 rw [Acz h]
theorem RE {p : List Ce} {dx dy : Int} {c : Ce} (h1 : -2097152 <= dx /\ dx <= 2097152) (h2 : -2097152 <= dy /\ dy <= 2097152) (hc : c ∈ p) (h : AE (c.x + dx) (c.y + dy) = false) : shF p dx dy = ([],5):=by
 rw [Nx h1 h2,Acz]
 rw [AcO]
 intro hh
 rw [hh c hc] at h
 cases h
theorem UA {v : I} {p : List Ce} (hv : IsSl v (Ag p)) (hp : AP p = true) (dx dy : Int) : ∃ x,IsSl x (Ag (shF p dx dy).1) /\ ∀ H,Gives G 46 [.m v,.m (.i .i64 dx),.m (.i .i64 dy)] H (.tu [.m x,.m (.i .i64 (shF p dx dy).2)]) H:=by
 have hl:=(Az hp).2.2
 have hr:=hv.rules
 simp only [show (Ag p).length = p.length from by simp [Ag]] at hr
 have g1:=fun H=>Da hv (by omega) H
 rw [hp] at g1
 by_cases hd : (-2097152 <= dx /\ dx <= 2097152) /\ (-2097152 <= dy /\ dy <= 2097152)
 rotate_left
 ·rw [Ny hd]
  refine ⟨.nl 4,AH,fun H=>Ae rfl rfl rfl rfl rfl ?_⟩
  by_cases h1 : 2097152 < max dx dy
  ·simp (maxSteps:=2000000) (disch:=omega) [cl (g1 _),h1]
  ·have h2 : min dx dy < -2097152:=by omega
   simp (maxSteps:=2000000) (disch:=omega) [cl (g1 _),h1,h2]
 obtain ⟨hx,hy⟩:=hd
 have h1 : ¬ 2097152 < max dx dy:=by omega
 have h2 : ¬ min dx dy < -2097152:=by omega
 by_cases hne : p = []
 ·subst hne
  rw [Nx hx hy]
  show ∃ x,IsSl x (Ag []) /\ ∀ H,Gives G 46 [.m v,.m (.i .i64 dx),.m (.i .i64 dy)] H (.tu [.m x,.m (.i .i64 0)]) H
  rcases hv with rfl | ⟨rfl,_⟩
  ·refine ⟨.sl [],Be _,fun H=>Ae rfl rfl rfl rfl rfl ?_⟩
   simp (maxSteps:=2000000) (disch:=omega) [cl (g1 _),h1,h2,cl Vb,c46_B0]
  ·refine ⟨.nl 4,AH,fun H=>Ae rfl rfl rfl rfl rfl ?_⟩
   simp (maxSteps:=2000000) (disch:=omega) [cl (g1 _),h1,h2,cl Va,c46_B0]
 have hve : v = .sl (Ag p):=by
  rcases hv with rfl | ⟨rfl,h0⟩
  ·rfl
  ·exact absurd (by simpa [Ag] using h0) hne
 subst hve
 have gc:=Ach p hne (by omega)
 have key : ∃ x H',Gives G 46 [.m (.sl (Ag p)),.m (.i .i64 dx),.m (.i .i64 dy)] [] x H' /\ (H' = [] /\ ∃ z,IsSl z (Ag (shF p dx dy).1) /\ x = .tu [.m z,.m (.i .i64 (shF p dx dy).2)]):=by
  refine AQ ?_
  refine Cu rfl rfl rfl rfl rfl ?_
  generalize hQ : (fun (x : V) (H' : Hp)=>H' = [] /\ ∃ z,IsSl z (Ag (shF p dx dy).1) /\ x = .tu [.m z,.m (.i .i64 (shF p dx dy).2)]) = Q
  have qk : shF p dx dy = (p.map (mvC (-dx) (-dy)),0) -> Q (.tu [.m (.sl (Ag (p.map (mvC (-dx) (-dy))))),.m (.i .i64 0)]) []:=fun h=>by rw [<- hQ]; exact ⟨rfl,_,by rw [h]; exact Be _,by rw [h]⟩
  have qe : shF p dx dy = ([],5) -> Q (.tu [.m (.nl 4),.m (.i .i64 5)]) []:=fun h=>by rw [<- hQ]; exact ⟨rfl,_,by rw [h]; exact AH,by rw [h]⟩
  clear hQ
  simp (maxSteps:=2000000) (disch:=omega) [cl (g1 _),h1,h2,cl gc]
  refine (?key : ∀ (j b : Nat) (g : List Ce) (B : List (Nat × List V)),j <= p.length -> b <= p.length -> g = (p.take j).map (mvC (-dx) (-dy)) ++ p.drop j -> ((p.take j).all fun c=>AE (c.x + dx) (c.y + dy)) = true -> Run G c46_B0 (S46_0 (.m (.i .i64 dx)) (.m (.i .i64 dy)) (.sl 0 p.length 3 0 p.length false) (.m (.i .i64 (p.length : Int))) (.m (.i .i64 (j : Int))) B [Row.cs 73 3 (Aw g) b false]) _) 0 0 p _ (AcF _) (AcF _) (by simp) rfl
  refine Bk (fun j : Nat=>p.length - j) fun j ih b g B hj hbl hg hall=>?_
  have hgl : g.length = p.length:=by rw [hg,AcN,AcR,AcL,Adf]; omega
  unfold c46_B0
  cases hpj : p[j]? with
  | some c =>
   have hlt:=(Al hpj).1
   have hlt' : (j : Int) < p.length:=by omega
   have wj : wr .i64 ((j : Int) + 1) = ((j + 1 : Nat) : Int):=Aa (by omega) (by omega)
   have hbc:=AG hp (AcE hpj)
   have w1 : wr .i64 (c.x + dx) = c.x + dx:=Aa (by omega) (by omega)
   have w2 : wr .i64 (c.y + dy) = c.y + dy:=Aa (by omega) (by omega)
   have htl : ((p.take j).map (mvC (-dx) (-dy))).length = j:=by rw [AcR,AcL]; omega
   have hgc : g[j]? = some c:=by
    rw [hg,AdA (by omega),htl,Nat.sub_self,(Al hpj).2]
    rfl
   have hgc1 : (g.set j ⟨c.x + dx,c.y,c.s⟩)[j]? = some ⟨c.x + dx,c.y,c.s⟩:=by
    rw [List.getElem?_set_self (by omega)]
   have hgc2 : (g.set j ⟨c.x + dx,c.y + dy,c.s⟩)[j]? = some ⟨c.x + dx,c.y + dy,c.s⟩:=by
    rw [List.getElem?_set_self (by omega)]
   have rx:=r3_x hgc
   have ry:=r3_y hgc1
   have wx:=w3_x hgc (c.x + dx)
   have wy:=w3_y hgc1 (c.y + dy)
   rw [List.set_set] at wy
   have e : g.set j ⟨c.x + dx,c.y + dy,c.s⟩ = (p.take (j + 1)).map (mvC (-dx) (-dy)) ++ p.drop (j + 1):=by
    rw [hg,List.set_append_right _ _ (by omega),htl,Nat.sub_self,(Al hpj).2,Ap hpj]
    simp [mvC]
   have rr : nth (Aw (g.set j ⟨c.x + dx,c.y + dy,c.s⟩)) j = some [.m (.i .i64 (c.x + dx)),.m (.i .i64 (c.y + dy)),.m (.i .i64 c.s)]:=CM hgc2
   have rr3 : DU 3 (Aw (g.set j ⟨c.x + dx,c.y + dy,c.s⟩)) j 0 3 = some [.m (.i .i64 (c.x + dx)),.m (.i .i64 (c.y + dy)),.m (.i .i64 c.s)]:=by
    rw [LY,rr]
    rfl
   have ga:=fun H=>YO ⟨c.x + dx,c.y + dy,c.s⟩ H
   have gp:=fun H=>Gt (c.x + dx) (c.y + dy) H
   dsimp only at ry wy ga
   have hall2 : AE (c.x + dx) (c.y + dy) = true -> ((p.take (j + 1)).all fun c=>AE (c.x + dx) (c.y + dy)) = true:=fun h=>by
    rw [Ap hpj,List.all_append,hall]
    simp [h]
   have k2:=fun h B'=>ih (j + 1) (by omega) p.length _ B' (by omega) (AcD _) e (hall2 h)
   cases hpl : AE (c.x + dx) (c.y + dy) with
   | true =>
    have k3:=k2 hpl
    rw [hpl] at gp
    simp (maxSteps:=2000000) (disch:=omega) [Ab,hlt',wj,w1,w2,rx,ry,wx,wy,rr3,hbl,hgl,cl (ga _),cl (gp _),-Int.natCast_add]
    exact k3 _
   | false =>
    have k3:=qe (RE hx hy (AcE hpj) hpl)
    rw [hpl] at gp
    simp (maxSteps:=2000000) (disch:=omega) [Ab,hlt',w1,w2,rx,ry,wx,wy,rr3,hbl,hgl,cl (ga _),cl (gp _)]
    exact k3
  | none =>
   have : j = p.length:=by have:=AcB.1 hpj; omega
   subst this
   rw [AcV] at hg hall
   rw [Ado,Adw] at hg
   have k2:=qk (by rw [Nx hx hy,AcC hall])
   rw [<- hg] at k2
   have hvw:=LS (r:=0) (b:=b) (X:=[]) (A:=[]) (q:=g) (n:=p.length) hgl hbl 18
   simp (maxSteps:=2000000) (disch:=omega) [hvw]
   exact k2
 obtain ⟨x,H',g,rfl,z,h1,rfl⟩:=key
 exact ⟨z,h1,fun H=>Ba (H:=H) (is:=[.sl (Ag p),.i .i64 dx,.i .i64 dy]) rfl rfl g rfl (.inl ⟨rfl,rfl⟩)⟩
theorem Uz {v : I} {p : List Ce} (hv : IsSl v (Ag p)) (hp : AP p = true) (dx dy : Int) (H : Hp) : Gives G 48 [.m v,.m (.i .i64 dx),.m (.i .i64 dy)] H (.tu [.m (zP (shF p dx dy).1),.m (.i .i64 (shF p dx dy).2)]) H:=by
 have hl:=(Az hp).2.2
 have hr:=hv.rules
 simp only [show (Ag p).length = p.length from by simp [Ag]] at hr
 have g1:=fun H=>Hy hv (by omega) H
 rw [hp] at g1
 by_cases hd : (-2097152 <= dx /\ dx <= 2097152) /\ (-2097152 <= dy /\ dy <= 2097152)
 rotate_left
 ·rw [Ny hd]
  refine Ae rfl rfl rfl rfl rfl ?_
  by_cases h1 : dx < -2097152
  ·simp (maxSteps:=2000000) (disch:=omega) [cl (g1 _),h1,zP]
  ·by_cases h2 : 2097152 < dx
   ·simp (maxSteps:=2000000) (disch:=omega) [cl (g1 _),h1,h2,zP]
   ·by_cases h3 : dy < -2097152
    ·simp (maxSteps:=2000000) (disch:=omega) [cl (g1 _),h1,h2,h3,zP]
    ·have h4 : 2097152 < dy:=by omega
     simp (maxSteps:=2000000) (disch:=omega) [cl (g1 _),h1,h2,h3,h4,zP]
 obtain ⟨hdx,hdy⟩:=hd
 refine Ae rfl rfl rfl rfl rfl ?_
 simp (maxSteps:=2000000) (disch:=omega) [cl (g1 _),show ¬ dx < -2097152 from by omega,show ¬ 2097152 < dx from by omega,show ¬ dy < -2097152 from by omega,show ¬ 2097152 < dy from by omega]
 refine (?key : ∀ (i : Nat) (f : List Ce) (o : V) (B : List (Nat × List V)) (H1 : Hp),i <= p.length -> f = (p.take i).map (mvC (-dx) (-dy)) -> ((p.take i).all fun c=>AE (c.x + dx) (c.y + dy)) = true -> JC f o H1 -> Run G c48_B0 (S48_0 (.m v) (.m (.i .i64 dx)) (.m (.i .i64 dy)) o (.m (.i .i64 (i : Int))) B H1) _) 0 [] _ _ _ (AcF _) rfl rfl (.inl ⟨rfl,rfl,rfl⟩)
 refine Bk (fun i : Nat=>p.length - i) fun i ih f o B H1 hi hf hall ho=>?_
 unfold c48_B0
 have hfl : f.length = i:=by rw [hf,AcR,AcL]; omega
 obtain ⟨hvw,hnf⟩:=Cb ho
 cases hx : p[i]? with
 | some c =>
  have hlt:=(Al hx).1
  have hlt' : (i : Int) < p.length:=by omega
  have hn:=An hx
  have wi : wr .i64 ((i : Int) + 1) = (i : Int) + 1:=Aa (by omega) (by omega)
  have htk : p.take (i + 1) = p.take i ++ [c]:=Ap hx
  have hbd:=AG hp (AcE hx)
  have wx : wr .i64 (c.x + dx) = c.x + dx:=Aa (by omega) (by omega)
  have wy : wr .i64 (c.y + dy) = c.y + dy:=Aa (by omega) (by omega)
  have gp:=fun H=>Gu (c.x + dx) (c.y + dy) H
  obtain ⟨o1,H2,ha,hn1,ho1⟩:=BP ho (by omega) (mvC (-dx) (-dy) c)
  have e1 : (mvC (-dx) (-dy) c).x = c.x + dx:=by unfold mvC; dsimp only; omega
  have e2 : (mvC (-dx) (-dy) c).y = c.y + dy:=by unfold mvC; dsimp only; omega
  have e3 : (mvC (-dx) (-dy) c).s = c.s:=rfl
  simp only [e1,e2,e3] at ha
  have he : f ++ [mvC (-dx) (-dy) c] = (p.take (i + 1)).map (mvC (-dx) (-dy)):=by rw [htk,hf]; simp
  cases hpl : AE (c.x + dx) (c.y + dy) with
  | true =>
   rw [hpl] at gp
   have hall2 : ((p.take (i + 1)).all fun c=>AE (c.x + dx) (c.y + dy)) = true:=by
    rw [htk,List.all_append,hall]
    simp [hpl]
   have k2:=fun B'=>ih (i + 1) (by omega) _ _ B' _ (by omega) he hall2 ho1
   generalize shF p dx dy = res at *
   simp (maxSteps:=2000000) (disch:=omega) [hr,hlt',hn,wi,wx,wy,cl (gp _),ha,As hn1]
   exact k2 _
  | false =>
   rw [hpl] at gp
   rw [RE hdx hdy (AcE hx) hpl]
   simp (maxSteps:=2000000) (disch:=omega) [hr,hlt',hn,wx,wy,cl (gp _),zP]
 | none =>
  have : i = p.length:=by have:=AcB.1 hx; omega
  subst this
  rw [AcV] at hf hall
  rw [Nx hdx hdy,AcC hall,<- hf]
  have hvw2:=RQ ho
  generalize zP f = zz at *
  simp (maxSteps:=2000000) (disch:=omega) [hr,hvw2,As hnf]
  exact hnf
theorem Sy {v : I} {p : List Ce} (hv : IsSl v (Ag p)) (hp : AP p = true) (H : Hp) : Gives G 116 [.m v] H (.m (if p = [] then v else zP (Bn p))) H:=by
 have hl:=(Az hp).2.2
 have hr:=hv.rules
 simp only [show (Ag p).length = p.length from by simp [Ag]] at hr
 have g1:=fun H=>Hy hv (by omega) H
 rw [hp] at g1
 refine Ae rfl rfl rfl rfl rfl ?_
 cases hpe : p with
 | nil =>
  have hl0 : p.length = 0:=by rw [hpe]; rfl
  rw [AcC rfl]
  rw [<- hpe] at *
  simp (maxSteps:=2000000) (disch:=omega) [cl (g1 _),hr,hl0]
 | cons c r =>
 have hne : ¬ p = []:=by rw [hpe]; simp
 rw [<- hpe,Acz hne]
 have h0 : p[0]? = some c:=by rw [hpe]; rfl
 have hn0:=An h0
 have hp0 : 0 < p.length:=(Al h0).1
 have hp0' : ¬ p.length = 0:=by omega
 have hp1' : ¬ (p.length : Int) = 0:=by omega
 have hlx : FX p = mnF c.x (p.map Ce.x):=by rw [hpe]; rfl
 have hly : FO p = mnF c.y (p.map Ce.y):=by rw [hpe]; rfl
 have hbx:=NO hp
 have hby:=NN hp
 simp (maxSteps:=2000000) (disch:=omega) [cl (g1 _),hr,hp0',hn0]
 refine (?key : ∀ (i : Nat) (x y : Int) (B : List (Nat × List V)),i <= p.length -> x = mnF c.x ((p.take i).map Ce.x) -> y = mnF c.y ((p.take i).map Ce.y) -> Run G c116_B0 (S116_0 (.m v) (.m (.i .i64 x)) (.m (.i .i64 y)) (.m (.i .i64 (i : Int))) B []) _) 0 c.x c.y _ (AcF _) rfl rfl
 refine Bk (fun i : Nat=>p.length - i) fun i ih x y B hi hx0 hy0=>?_
 unfold c116_B0
 cases hx : p[i]? with
 | some a =>
  have hlt:=(Al hx).1
  have hlt' : (i : Int) < p.length:=by omega
  have hn:=An hx
  have wi : wr .i64 ((i : Int) + 1) = ((i + 1 : Nat) : Int):=Aa (by omega) (by omega)
  have hmx:=Gx c.x ((p.take i).map Ce.x) a.x
  have hmy:=Gx c.y ((p.take i).map Ce.y) a.y
  rw [<- CC Ce.x hx,<- hx0] at hmx
  rw [<- CC Ce.y hx,<- hy0] at hmy
  have k2:=fun B'=>ih (i + 1) (by omega) (min x a.x) (min y a.y) B' (by omega) hmx.symm hmy.symm
  simp (maxSteps:=2000000) (disch:=omega) [hr,hlt',hn,wi,-Int.natCast_add]
  exact k2 _
 | none =>
  have : i = p.length:=by have:=AcB.1 hx; omega
  subst this
  clear ih
  rw [AcV] at hx0 hy0
  rw [<- hlx] at hx0
  rw [<- hly] at hy0
  subst hx0 hy0
  simp (maxSteps:=2000000) (disch:=omega) [hr]
  refine (?key2 : ∀ (i : Nat) (f : List Ce) (o : V) (B : List (Nat × List V)) (H1 : Hp),i <= p.length -> f = (p.take i).map (mvC (FX p) (FO p)) -> JC f o H1 -> Run G c116_B1 (S116_1 (.m v) (.m (.i .i64 (FX p))) (.m (.i .i64 (FO p))) o (.m (.i .i64 (i : Int))) B H1) _) 0 [] _ _ _ (AcF _) rfl (.inl ⟨rfl,rfl,rfl⟩)
  clear hx hi B
  refine Bk (fun i : Nat=>p.length - i) fun i ih f o B H1 hi hf ho=>?_
  unfold c116_B1
  have hfl : f.length = i:=by rw [hf,AcR,AcL]; omega
  obtain ⟨hvw,hnf⟩:=Cb ho
  cases hx : p[i]? with
  | some a =>
   have hlt:=(Al hx).1
   have hlt' : (i : Int) < p.length:=by omega
   have hn:=An hx
   have wi : wr .i64 ((i : Int) + 1) = ((i + 1 : Nat) : Int):=Aa (by omega) (by omega)
   have hba:=AG hp (AcE hx)
   have w1 : wr .i64 (a.x - FX p) = a.x - FX p:=Aa (by omega) (by omega)
   have w2 : wr .i64 (a.y - FO p) = a.y - FO p:=Aa (by omega) (by omega)
   obtain ⟨o1,H2,ha,hn1,ho1⟩:=BP ho (by omega) (mvC (FX p) (FO p) a)
   have e : f ++ [mvC (FX p) (FO p) a] = (p.take (i + 1)).map (mvC (FX p) (FO p)):=by rw [Ap hx,hf]; simp
   have k2:=fun B'=>ih (i + 1) (by omega) _ o1 B' H2 (by omega) e ho1
   simp only [mvC] at ha
   generalize FX p = lx at *
   generalize FO p = ly at *
   simp (maxSteps:=2000000) (disch:=omega) [hr,hlt',hn,wi,w1,w2,ha,As hn1,-Int.natCast_add]
   exact k2 _
  | none =>
   have : i = p.length:=by have:=AcB.1 hx; omega
   subst this
   rw [AcV] at hf
   have e : f = Bn p:=hf
   rw [e] at hvw
   generalize zP (Bn p) = z at *
   simp (maxSteps:=2000000) (disch:=omega) [hr,hvw,As hnf]
   exact hnf
theorem Iu {v : I} {p : List Ce} (hv : IsSl v (Ag p)) (hl : p.length <= 5000) (hg : ∀ c,c ∈ p -> Cj c = true) (ha : p.Pairwise apart) (H : Hp) : Gives G 94 [.m v] H (.tu [.m (zP (Ci p)),.m (.i .i64 0)]) H:=by
 have hr:=hv.rules
 simp only [show (Ag p).length = p.length from by simp [Ag]] at hr
 have gf:=fun H=>HA hv hl hg ha H
 generalize zP (Ci p) = z at *
 refine Ae rfl rfl rfl rfl rfl ?_
 simp (maxSteps:=2000000) (disch:=omega) [hr,show ¬ (5000 : Int) < p.length from by omega,show ¬ 5000 < p.length from by omega,cl (gf _)]
theorem XP {v : I} {p : List Ce} (hv : IsSl v (Ag p)) (hp : AP p = true) (k : Int) (hk : -9223372036854775808 <= k /\ k <= 9223372036854775807) (H : Hp) : Gives G 115 [.m (.i .i64 k),.m v] H (.tu [.m (zP (tnS (CN k) p)),.m (.i .i64 0)]) H:=by
 have hl : p.length <= 5000:=(Az hp).2.2
 have hr:=hv.rules
 simp only [show (Ag p).length = p.length from by simp [Ag]] at hr
 have g1:=fun H=>Hy hv (by omega) H
 rw [hp] at g1
 have hgd : ∀ c,c ∈ p.map (tnC (CN k)) -> Cj c = true:=fun c hc=>by
  have hq:=Iq hp (Rr (k:=CN k) (Az hp).1)
  exact (Az hq).2.1 c ((Rr (k:=CN k) (Az hp).1).1.mem_iff.2 hc)
 have hap : (p.map (tnC (CN k))).Pairwise apart:=FJ _ (Gs (Az hp).1)
 refine Ae rfl rfl rfl rfl rfl ?_
 simp (maxSteps:=2000000) (disch:=omega) [cl (g1 _)]
 refine (?key : ∀ (i : Nat) (f : List Ce) (o : V) (B : List (Nat × List V)) (H1 : Hp),i <= p.length -> f = (p.take i).map (tnC (CN k)) -> OutI f o H1 -> Run G c115_B0 (S115_0 (.m (.i .i64 k)) (.m v) o (.m (.i .i64 (i : Int))) B H1) _) 0 [] _ _ _ (AcF _) rfl (.inl ⟨rfl,rfl,rfl⟩)
 refine Bk (fun i : Nat=>p.length - i) fun i ih f o B H1 hi hf ho=>?_
 unfold c115_B0
 have hfl : f.length = i:=by rw [hf,AcR,AcL]; omega
 cases hx : p[i]? with
 | some c =>
  have hlt:=(Al hx).1
  have hlt' : (i : Int) < p.length:=by omega
  have hn:=An hx
  have wi : wr .i64 ((i : Int) + 1) = ((i + 1 : Nat) : Int):=Aa (by omega) (by omega)
  have htk : p.take (i + 1) = p.take i ++ [c]:=Ap hx
  have hbd:=AG hp (AcE hx)
  have ga:=fun H=>YQ k c.x c.y hk (by omega) (by omega) H
  have he : f ++ [tnC (CN k) c] = (p.take (i + 1)).map (tnC (CN k)):=by rw [htk,hf]; simp
  have hnf:=Yr ho
  obtain ⟨o1,H2,ha,hn1,ho1⟩:=RW ho (by omega) (.cs 43 2 [[.m (.i .i64 (tnC (CN k) c).x),.m (.i .i64 (tnC (CN k) c).y)]] 1 false) (tnC (CN k) c)
  have e1 : (tnC (CN k) c).x = (CF (CN k) c.x c.y).1:=rfl
  have e2 : (tnC (CN k) c).y = (CF (CN k) c.x c.y).2:=rfl
  have e3 : (tnC (CN k) c).s = c.s:=rfl
  have k2:=fun B'=>ih (i + 1) (by omega) _ o1 B' H2 (by omega) he ho1
  simp only [e1,e2,e3] at ha
  generalize (CF (CN k) c.x c.y).1 = tx at *
  generalize (CF (CN k) c.x c.y).2 = ty at *
  have hse:=fun y=>RF H1 (Row.cs 43 2 [[.m (.i .i64 0),.m (.i .i64 0)]] 0 false) y
  have hne:=fun (y : Row)=>Sk H1 [y] 0
  simp only [Nat.add_zero] at hne
  have hn0 : ∀ y : Row,nth [y] 0 = some y:=fun _=>rfl
  have hw : DD 2 [[V.m (.i .i64 0),V.m (.i .i64 0)]] 0 0 [V.m (.i .i64 tx),V.m (.i .i64 ty)] = some [[V.m (.i .i64 tx),V.m (.i .i64 ty)]]:=rfl
  have hr0 : DU 2 [[V.m (.i .i64 tx),V.m (.i .i64 ty)]] 0 0 1 = some [V.m (.i .i64 tx)]:=rfl
  have hr1 : DU 2 [[V.m (.i .i64 tx),V.m (.i .i64 ty)]] 0 1 1 = some [V.m (.i .i64 ty)]:=rfl
  simp (maxSteps:=2000000) (disch:=omega) [Ab,hr,hlt',hn,wi,cl (ga _),hse,hne,hn0,hw,hr0,hr1,ha,As hn1,-Int.natCast_add]
  exact k2 _
 | none =>
  have : i = p.length:=by have:=AcB.1 hx; omega
  subst this
  clear ih hx hi
  rw [AcV] at hf
  rcases ho with ⟨h1,rfl,rfl⟩ | ⟨hne,rfl,hn1⟩
  ·have : p = []:=by cases p with | nil=>rfl | cons a b=>simp [h1] at hf
   subst this
   have gf:=fun H=>Iu (p:=[]) AH (by simp) (by simp) List.Pairwise.nil H
   simp (maxSteps:=2000000) (disch:=omega) [hr,cl (gf _)]
   rfl
  ·subst hf
   have gf:=Iu (Be (Ag (p.map (tnC (CN k))))) (by rw [AcR]; exact hl) hgd hap []
   have hsn : Ci (p.map (tnC (CN k))) ≠ []:=fun h=>by
    have:=Ef (p.map (tnC (CN k)))
    rw [h] at this
    exact hne (AcT this.symm)
   have hzg : Gg (.tu [.m (zP (Ci (p.map (tnC (CN k))))),.m (.i .i64 0)]) = false:=by
    unfold zP
    rw [Acz hsn]
    rfl
   have hvv:=Rp hn1 (AcF _) 18
   unfold tnS
   generalize p.map (tnC (CN k)) = f at *
   have hvs : Ak (view 20 H1) [V.sl 1 f.length 3 0 f.length false] = some [.sl (Ag f)]:=by
    simp only [Ak,hvv,AcG]
   have hfz : AR ([V.sl 1 f.length 3 0 f.length false].flatMap DN) H1 = some (H1.set 1 (.cs 73 3 (Aw f) 0 true)):=by
    show Option.bind (nth H1 1) _ = _
    rw [hn1]
    show Option.bind (gd ((Aw f).all fun e=>e.all isM) (some (Row.cs 73 3 (Aw f) 0 true))) _ = _
    rw [Hx]
    show Option.bind (Bl H1 1 _) _ = _
    rw [BF _ _ _ (Mc hn1)]
    rfl
   have gF:=Dy (is:=[.sl (Ag f)]) rfl rfl gf hvs (by simp [DN,GP]) hzg rfl hfz
   generalize zP (Ci f) = zz at *
   simp (maxSteps:=2000000) (disch:=omega) [hr,cl gF]
def SX (p : List Ce) (c : Ce) : Bool:=p.any fun d=>decide (d.x = c.x) && decide (d.y = c.y)
theorem KN (d : Ce) (s : List Ce) (c : Ce) : SX (d :: s) c = ((decide (d.x = c.x) && decide (d.y = c.y)) || SX s c):=rfl
theorem Sf {p : List Ce} {c : Ce} (h : ∀ d,d ∈ p -> apart c d) : SX p c = false:=by
 unfold SX
 rw [List.any_eq_false]
 intro d hd
 have:=h d hd
 unfold apart at this
 simp only [Acx,AcK]
 exact fun hh=>this ⟨hh.1.symm,hh.2.symm⟩
theorem Se {d : Ce} {s : List Ce} {c : Ce} (h : apart c d) : SX (d :: s) c = SX s c:=by
 rw [KN]
 have : (decide (d.x = c.x) && decide (d.y = c.y)) = false:=by
  rw [Bool.eq_false_iff]
  simp only [ne_eq,Acx,AcK]
  exact fun hh=>h ⟨hh.1.symm,hh.2.symm⟩
 rw [this,Bool.false_or]
theorem Sv {a b : Ce} (h : AW a b = true) : apart a b:=by
 unfold AW at h
 unfold apart
 simp at h
 omega
def pkF (a b : List Ce) (has : Bool) : List Ce:=a.filter fun c=>SX b c == has
theorem pk_a {c : Ce} {r b : List Ce} (has : Bool) (h : ∀ d,d ∈ b -> AW c d = true) : pkF (c :: r) b has = (if has = true then [] else [c]) ++ pkF r b has:=by
 have e:=Sf (p:=b) (c:=c) fun d hd=>Sv (h d hd)
 unfold pkF
 rw [List.filter_cons,e]
 cases has <;> rfl
theorem pk_b {d : Ce} {a s : List Ce} (has : Bool) (h : ∀ c,c ∈ a -> AW d c = true) : pkF a (d :: s) has = pkF a s has:=by
 unfold pkF
 refine List.filter_congr fun c hc=>?_
 rw [Se (IG (Sv (h c hc)))]
theorem pk_ab {c d : Ce} {r s : List Ce} (has : Bool) (hx : c.x = d.x) (hy : c.y = d.y) (h : ∀ e,e ∈ r -> AW c e = true) : pkF (c :: r) (d :: s) has = (if has = true then [c] else []) ++ pkF r s has:=by
 have e : SX (d :: s) c = true:=by rw [KN,hx,hy]; simp
 have e2 : pkF r (d :: s) has = pkF r s has:=pk_b has fun e he=>by
  have:=h e he
  unfold AW at *
  rw [<- hx,<- hy]
  exact this
 rw [<- e2]
 unfold pkF
 rw [List.filter_cons,e]
 cases has <;> rfl
theorem Yl (b : List Ce) (has : Bool) : pkF [] b has = []:=rfl
theorem VM {a b : List Ce} : pkF a b true = [] ↔ ∀ c,c ∈ a -> ∀ d,d ∈ b -> apart c d:=by
 unfold pkF
 rw [List.filter_eq_nil_iff]
 refine ⟨fun h c hc d hd hh=>?_,fun h c hc=>?_⟩
 ·have h1:=h c hc
  have h2 : SX b c = true:=by
   unfold SX
   rw [List.any_eq_true]
   exact ⟨d,hd,by simp [hh.1,hh.2]⟩
  rw [h2] at h1
  exact h1 rfl
 ·rw [Sf fun d hd=>h c hc d hd]
  simp
theorem Ph (p : List Ce) : Xb 3 (Ag p) = true:=by
 cases p <;> rfl
theorem LU {v : I} {c : Ce} {r : List Ce} (h : IsSl v (Ag (c :: r))) : ∃ u,IsSl u (Ag r) /\ Ao (.slc 3 true false false) [.m v,.m (.i .i64 1)] = some (.m u):=by
 refine ⟨subI v 1 (Ag (c :: r)).length,?_,?_⟩
 ·have:=h.sub 1 (Ag (c :: r)).length
  have e : ((Ag (c :: r)).drop 1).take ((Ag (c :: r)).length - 1) = Ag r:=by
   show (Ag r).take _ = _
   rw [AcP (by simp [Ag])]
  rw [e] at this
  exact this
 ·rw [h.slc (Ph _) rfl]
  have hb : HN (Ag (c :: r)).length true false false [.m (.i .i64 1)] = some (1,(Ag (c :: r)).length):=by
   rw [XD]
   have : bnd (Ag (c :: r)).length (.m (.i .i64 1)) = some 1:=by
    show gd (Nat.ble 1 (Ag (c :: r)).length) (some 1) = _
    rw [BG,AcI (by simp [Ag])]
    rfl
   rw [this]
   rfl
  rw [hb]
  rfl
def Vis (f : Nat) (cap : List V) (x y : Ce) (a b : Bool) : List V:=[.m (.ag x.i),.m (.ag y.i),.m (.b a),.m (.b b)] ++ cap
set_option maxHeartbeats 2000000 in
theorem YB {f : Nat} {cap : List V} (hcap : AB (.fn f cap) = true) {Inv : List Ce -> List Ce -> Hp -> Prop}
  (h1 : ∀ c r b H (Q : V -> Hp -> Prop),Inv (c :: r) b H -> (∀ d,d ∈ b -> AW c d = true) -> (∀ H',Inv r b H' -> Q (.tu []) H') -> Ret G f (Vis f cap c ⟨0,0,0⟩ true false) H Q)
  (h2 : ∀ d s a H (Q : V -> Hp -> Prop),Inv a (d :: s) H -> (∀ c,c ∈ a -> AW d c = true) -> (∀ H',Inv a s H' -> Q (.tu []) H') -> Ret G f (Vis f cap ⟨0,0,0⟩ d false true) H Q)
  (h3 : ∀ c r d s H (Q : V -> Hp -> Prop),Inv (c :: r) (d :: s) H -> c.x = d.x -> c.y = d.y -> (∀ e,e ∈ r -> AW c e = true) -> (∀ e,e ∈ s -> AW d e = true) -> (∀ H',Inv r s H' -> Q (.tu []) H') -> Ret G f (Vis f cap c d true true) H Q)
  {v w : I} {a b : List Ce} (hv : IsSl v (Ag a)) (hw : IsSl w (Ag b)) (ha : a.Pairwise fun x y=>AW x y = true) (hb : b.Pairwise fun x y=>AW x y = true) (hla : a.length <= 1000000) (hlb : b.length <= 1000000) {H : Hp} (hI : Inv a b H) {Q : V -> Hp -> Prop} (hQ : ∀ H',Inv [] [] H' -> Q (.tu []) H') : Ret G 90 [.m v,.m w,.fn f cap] H Q:=by
 refine BU mono rfl rfl rfl (by simp [hcap]) rfl ?_
 simp (maxSteps:=2000000) (disch:=omega) []
 refine (?key : ∀ (k : Nat) (a b : List Ce) (v w : I) (B : List (Nat × List V)) (H : Hp),a.length + b.length = k -> IsSl v (Ag a) -> IsSl w (Ag b) -> (a.Pairwise fun x y=>AW x y = true) -> (b.Pairwise fun x y=>AW x y = true) -> a.length <= 1000000 -> b.length <= 1000000 -> Inv a b H -> Run G c90_B0 (S90_0 (.m v) (.m w) (.fn f cap) B H) _) _ a b v w _ H rfl hv hw ha hb hla hlb hI
 clear hI hlb hla hb ha hw hv a b v w H
 refine Bk (fun k : Nat=>k) fun k ih a b v w B H hk hv hw ha hb hla hlb hI=>?_
 unfold c90_B0
 have hra:=hv.rules
 have hrb:=hw.rules
 simp only [show (Ag a).length = a.length from by simp [Ag]] at hra
 simp only [show (Ag b).length = b.length from by simp [Ag]] at hrb
 cases hae : a with
 | nil =>
  have la : a.length = 0:=by rw [hae]; rfl
  cases hbe : b with
  | nil =>
   have lb : b.length = 0:=by rw [hbe]; rfl
   have k2:=hQ H (by rw [hae,hbe] at hI; exact hI)
   simp (maxSteps:=2000000) (disch:=omega) [hra,hrb,la,lb]
   exact k2
  | cons d s =>
   have hd : b[0]? = some d:=by rw [hbe]; rfl
   have hn:=An hd
   have lb : b.length = s.length + 1:=by rw [hbe]; rfl
   rw [hbe] at hw hb hI
   rw [hae] at hI
   obtain ⟨u,hu,ht⟩:=LU hw
   have hb2:=(Adl.1 hb)
   have k2:=fun H' hI' B'=>ih s.length (by omega) [] s v u B' H' (by simp) (by rw [<- hae]; exact hv) hu .nil hb2.2 (by simp) (by omega) hI'
   simp (maxSteps:=2000000) (disch:=omega) [hra,hrb,la,lb,hn,show ¬ ((s.length : Int) + 1 = 0) from by omega,show (0 : Int) < (s.length : Int) + 1 from by omega]
   rw [Ar]
   refine h2 d s [] H _ hI (fun c hc=>by cases hc) fun H' hI'=>?_
   simp (maxSteps:=2000000) (disch:=omega) [ht]
   exact k2 H' hI' _
 | cons c r =>
  have hc : a[0]? = some c:=by rw [hae]; rfl
  have hn:=An hc
  have la : a.length = r.length + 1:=by rw [hae]; rfl
  rw [hae] at hv ha hI
  obtain ⟨u,hu,ht⟩:=LU hv
  have ha2:=(Adl.1 ha)
  cases hbe : b with
  | nil =>
   have lb : b.length = 0:=by rw [hbe]; rfl
   rw [hbe] at hI
   have k2:=fun H' hI' B'=>ih r.length (by omega) r [] u w B' H' (by simp) hu (by rw [<- hbe]; exact hw) ha2.2 .nil (by omega) (by simp) hI'
   simp (maxSteps:=2000000) (disch:=omega) [hra,hrb,la,lb,hn,show ¬ ((r.length : Int) + 1 = 0) from by omega,show (0 : Int) < (r.length : Int) + 1 from by omega]
   rw [Ar]
   refine h1 c r [] H _ hI (fun c hc=>by cases hc) fun H' hI'=>?_
   simp (maxSteps:=2000000) (disch:=omega) [ht]
   exact k2 H' hI' _
  | cons d s =>
   have hd : b[0]? = some d:=by rw [hbe]; rfl
   have hn2:=An hd
   have lb : b.length = s.length + 1:=by rw [hbe]; rfl
   rw [hbe] at hw hb hI
   obtain ⟨u2,hu2,ht2⟩:=LU hw
   have hb2:=(Adl.1 hb)
   have go:=fun H=>NG c d H
   by_cases hlt : AW c d = true
   ·have hneg : Jw c.x c.y d.x d.y = -1:=by
     unfold AW at hlt
     unfold Jw Dr
     simp only [AcK] at hlt
     grind
    rw [hneg] at go
    have k2:=fun H' hI' B'=>ih (r.length + (s.length + 1)) (by omega) r (d :: s) u w B' H' rfl hu hw ha2.2 hb (by omega) (by simp; omega) hI'
    simp (maxSteps:=2000000) (disch:=omega) [hra,hrb,la,lb,hn,hn2,show ¬ ((r.length : Int) + 1 = 0) from by omega,show (0 : Int) < (r.length : Int) + 1 from by omega,show ¬ ((s.length : Int) + 1 = 0) from by omega,cl (go _)]
    rw [Ar]
    refine h1 c r (d :: s) H _ hI (fun e he=>?_) fun H' hI'=>?_
    ·rcases AcU.1 he with rfl | he
     ·exact hlt
     ·exact Ez hlt (hb2.1 e he)
    simp (maxSteps:=2000000) (disch:=omega) [ht]
    exact k2 H' hI' _
   ·by_cases hgt : AW d c = true
    ·have hneg : Jw c.x c.y d.x d.y = 1:=by
      unfold AW at hgt
      unfold Jw Dr
      simp only [AcK] at hgt
      grind
     rw [hneg] at go
     have k2:=fun H' hI' B'=>ih (r.length + 1 + s.length) (by omega) (c :: r) s v u2 B' H' rfl hv hu2 ha hb2.2 (by simp; omega) (by omega) hI'
     simp (maxSteps:=2000000) (disch:=omega) [hra,hrb,la,lb,hn,hn2,show ¬ ((r.length : Int) + 1 = 0) from by omega,show (0 : Int) < (r.length : Int) + 1 from by omega,show ¬ ((s.length : Int) + 1 = 0) from by omega,cl (go _)]
     rw [Ar]
     refine h2 d s (c :: r) H _ hI (fun e he=>?_) fun H' hI'=>?_
     ·rcases AcU.1 he with rfl | he
      ·exact hgt
      ·exact Ez hgt (ha2.1 e he)
     simp (maxSteps:=2000000) (disch:=omega) [ht2]
     exact k2 H' hI' _
    ·have hxy : c.x = d.x /\ c.y = d.y:=by
      unfold AW at hlt hgt
      simp only [AcK] at hlt hgt
      omega
     have hneg : Jw c.x c.y d.x d.y = 0:=by
      unfold Jw Dr
      grind
     rw [hneg] at go
     have k2:=fun H' hI' B'=>ih (r.length + s.length) (by omega) r s u u2 B' H' rfl hu hu2 ha2.2 hb2.2 (by omega) (by omega) hI'
     simp (maxSteps:=2000000) (disch:=omega) [hra,hrb,la,lb,hn,hn2,show ¬ ((r.length : Int) + 1 = 0) from by omega,show (0 : Int) < (r.length : Int) + 1 from by omega,show ¬ ((s.length : Int) + 1 = 0) from by omega,cl (go _)]
     rw [Ar]
     refine h3 c r d s H _ hI hxy.1 hxy.2 ha2.1 hb2.1 fun H' hI'=>?_
     simp (maxSteps:=2000000) (disch:=omega) [ht,ht2]
     exact k2 H' hI' _
theorem at_r {p : List Ce} {v f : I} (hv : IsSl v (Ag p)) (hl : p.length <= 5000) (hF : FldV p v f) (x y : Int) (hx : -10000000 <= x /\ x <= 10000000) (hy : -10000000 <= y /\ y <= 10000000) (H : Hp) : Gives G 131 [.m f,.m (.i .i64 x),.m (.i .i64 y)] H (.m (.i .i64 (CU p x y))) H:=by
 obtain ⟨bx,by_,w,h,fl,cs,rfl,hwh,hbx,hby,hin,hne,hfl,_⟩:=hF.ex
 have gg:=fun H=>get_r hv (by omega) x y H
 unfold KV
 refine Ae rfl rfl rfl rfl rfl ?_
 cases fl with
 | false=>simp (maxSteps:=2000000) (disch:=omega) [cl (gg _)]
 | true =>
  obtain ⟨hP,hcs⟩:=hfl rfl
  have hrc:=hcs.rules
  simp only [Ck,Dq] at hrc
  have wx : wr .i64 (bx + (w : Int)) = bx + w:=Aa (by omega) (by omega)
  have wy : wr .i64 (by_ + (h : Int)) = by_ + h:=Aa (by omega) (by omega)
  by_cases x1 : x < bx
  ·have e : CU p x y = 0:=Jv fun c hc=>by have:=hin c hc; omega
   simp (maxSteps:=2000000) (disch:=omega) [x1,e]
  by_cases x2 : bx + (w : Int) <= x
  ·have e : CU p x y = 0:=Jv fun c hc=>by have:=hin c hc; omega
   simp (maxSteps:=2000000) (disch:=omega) [x1,wx,x2,e]
  by_cases y1 : y < by_
  ·have e : CU p x y = 0:=Jv fun c hc=>by have:=hin c hc; omega
   simp (maxSteps:=2000000) (disch:=omega) [x1,wx,x2,y1,e]
  by_cases y2 : by_ + (h : Int) <= y
  ·have e : CU p x y = 0:=Jv fun c hc=>by have:=hin c hc; omega
   simp (maxSteps:=2000000) (disch:=omega) [x1,wx,x2,y1,wy,y2,e]
  obtain ⟨a,ha⟩:=AcQ (show 0 <= x - bx by omega)
  obtain ⟨b,hb⟩:=AcQ (show 0 <= y - by_ by omega)
  have haw : a < w:=by omega
  have hbh : b < h:=by omega
  have hk : b * w + a < w * h:=by
   have h1 : (b + 1) * w <= h * w:=Adh _ hbh
   rw [Add,Nat.one_mul,AdK h w] at h1
   omega
  have hg:=UT p bx by_ (w:=w) (n:=w * h) (a:=a) (b:=b) haw hk
  rw [show bx + (a : Int) = x from by omega,show by_ + (b : Int) = y from by omega] at hg
  obtain ⟨M,hM⟩ : ∃ M,M = b * w:=⟨_,rfl⟩
  have hMi : (b : Int) * (w : Int) = (M : Int):=by rw [hM]; simp
  obtain ⟨P,hPe⟩ : ∃ P,P = w * h:=⟨_,rfl⟩
  rw [<- hM] at hk hg
  rw [<- hPe] at hk hg hP hrc
  obtain ⟨k0,hk0⟩ : ∃ k0,k0 = M + a:=⟨_,rfl⟩
  rw [<- hk0] at hg hk
  have hn : nth (Ec (CD p bx by_ w P)) k0 = some [.i .i64 (CU p x y)]:=CB hg
  have w55 : wr .i64 (y - by_) = (b : Int):=by rw [hb]; exact Aa (by omega) (by omega)
  have w59 : wr .i64 ((b : Int) * (w : Int)) = (M : Int):=by rw [hMi]; exact Aa (by omega) (by omega)
  have w61 : wr .i64 ((M : Int) + x) = (M : Int) + x:=Aa (by omega) (by omega)
  have w65 : wr .i64 ((M : Int) + x - bx) = (k0 : Int):=by rw [Aa (by omega) (by omega)]; omega
  have hk2 : (k0 : Int) < P:=by omega
  generalize CU p x y = g at *
  simp (maxSteps:=2000000) (disch:=omega) [x1,wx,x2,y1,wy,y2,w55,w59,w61,w65,hrc,hn]
theorem AbN {t : TreeC} {h n v f : I} {es : List (List I)} (hT : TreeV t h n es) (hR : TreeR t) {p : List Ce} (hv : IsSl v (Ag p)) (hl : p.length <= 5000) (hF : FldV p v f) (hp : Gi t p) (x y : Int) (hx : -9000000 <= x /\ x <= 9000000) (hy : -9000000 <= y /\ y <= 9000000) (H : Hp) : Gives G 100 [.m (.ag [.i .i64 t.states,h,n]),.m f,.m (.i .i64 x),.m (.i .i64 y)] H (.m (.i .i64 (Bg t p x y))) H:=by
 have hrh:=hT.hd.rules
 simp only [Bb] at hrh
 have hh:=BN hR.hood
 have ga:=fun x y hx hy H=>at_r hv hl hF x y hx hy H
 have hF2:=hF
 obtain ⟨bx,by_,w,k,fl,cs,rfl,_⟩:=hF2.ex
 have gv:=fun w H hw=>Rq hT hR (w:=w) (ins:=KP t p x y) hw (by rw [Fq]; exact AcD _) (Js hR hp) H
 clear hF hF2
 unfold KV at ga ⊢
 refine Ae rfl rfl rfl rfl rfl ?_
 simp (maxSteps:=2000000) (disch:=omega) []
 refine (?key : ∀ (i : Nat) (o : V) (B : List (Nat × List V)) (H1 : Hp),i <= t.hood.length -> getB B 4 = some [.m (.i .i64 t.states),.m h,.m n] -> getB B 5 = some [.m (.b fl),.m (.i .i64 bx),.m (.i .i64 by_),.m (.i .i64 w),.m (.i .i64 k),.m cs,.m v] -> Acq ((KP t p x y).take i) o H1 -> Run G c100_B0 (S100_0 (.m (.i .i64 x)) (.m (.i .i64 y)) (.fa 4 0) (.fa 5 0) o (.m (.i .i64 (i : Int))) B H1) _) 0 _ _ _ (AcF _) rfl rfl (.inl ⟨rfl,rfl,rfl⟩)
 refine Bk (fun i : Nat=>t.hood.length - i) fun i ih o B H1 hi hB4 hB5 ho=>?_
 unfold c100_B0
 have hnf:=Yv ho
 cases hy2 : t.hood[i]? with
 | none =>
  have : i = t.hood.length:=by have:=AcB.1 hy2; omega
  subst this
  rw [AcP (by rw [Fq]; exact AcD _)] at ho
  have gc:=Si (F:=112) (t0:=.ag [.i .i64 t.states,h,n]) rfl rfl ho gv rfl
  have e : Jj t (KP t p x y) = Bg t p x y:=rfl
  rw [e] at gc
  simp (maxSteps:=2000000) (disch:=omega) [hrh,hB4,cl gc]
 | some o2 =>
  have hlt:=(Al hy2).1
  have hlt' : (i : Int) < t.hood.length:=by omega
  have hox:=BX hy2
  have hob:=Dp hR.hood o2 (AcE hy2)
  have wi : wr .i64 ((i : Int) + 1) = ((i + 1 : Nat) : Int):=Aa (by omega) (by omega)
  have wx : wr .i64 (x + o2.1) = x + o2.1:=Aa (by omega) (by omega)
  have wy : wr .i64 (y + o2.2) = y + o2.2:=Aa (by omega) (by omega)
  have g1:=fun H=>ga (x + o2.1) (y + o2.2) (by omega) (by omega) H
  have hs : (KP t p x y)[i]? = some (CU p (x + o2.1) (y + o2.2)):=by unfold KP; rw [AcY,hy2]; rfl
  obtain ⟨o1,H2,hap,hn1,ho1⟩:=Sg ho (by rw [AcL]; omega) (CU p (x + o2.1) (y + o2.2))
  rw [<- Ap hs] at ho1
  have kk:=ih (i + 1) (by omega) o1 B H2 (by omega) hB4 hB5 ho1
  generalize CU p (x + o2.1) (y + o2.2) = g at *
  simp (maxSteps:=2000000) (disch:=omega) [hrh,hlt',hox,hB4,hB5,wx,wy,cl (g1 _),hap,wi,As hn1,-Int.natCast_add]
  exact kk
end Go.Mx.Tryz
