/- Rows of numbers, shown. -/
import Derived.Test.YtlhjjcaifenlbaaGreatDoorSrx
import Derived.Test.YtlhjjcaifenlbaaGreatDoorStr
import Derived.KernelRfl
import Derived.Test.YtlhjjcaifenlbaaGreatDoorSz
set_option linter.unusedSimpArgs false
set_option linter.unusedVariables false
set_option linter.unusedSectionVars false
set_option maxRecDepth 100000
namespace Go.Mx.Tryz
open Go.Sort Go.Lib
instance : Inhabited Ce:=⟨⟨0,0,0⟩⟩
def OX : Rw Ce 3 true where
 enc c:=c.i.map .m
 val c:=.m (.ag c.i)
 len c:=rfl
 pos:=by decide
 one c:=rfl
 ld c:=by simp [Ce.i]
 st c:=by simp [Ce.i]
def ceCmp (A : Hp) : Cmp OX A 69 AO where
 ok _:=True
 ext _ _ _:=Aez
 cmp a b:=JX a.x a.y b.x b.y
 neg a b:=by
  unfold JX AO
  grind [DE]
 run a b row C _:=SO a b _
theorem OG : SWO AO where
 irrefl x:=by simp [AO]
 trans x y z h1 h2:=by simp only [AO,AdF] at *; omega
 ntrans x y z h1 h2:=by simp only [AO,decide_eq_false_iff_not] at *; omega
open Go.Proofs
def LH (c : Ce) : Option Int:=if AF c.x c.y = false then some 5 else if c.s < 0 \/ 8 <= c.s then some 10 else none
def bad : List Ce -> Option Int
 | []=>none
 | c :: r=>match LH c with
  | some e=>some e
  | none=>bad r
def liv (p : List Ce) : List Ce:=p.filter fun c=>decide (0 < c.s)
def Ax (p : List Ce) : List (List V):=p.map OX.enc
@[simp] theorem BD (p : List Ce) : (Ax p).length = p.length:=by simp [Ax]
theorem Da {p : List Ce} {i : Nat} {c : Ce} (h : p[i]? = some c) : nth (Ax p) i = some [.m (.i .i64 c.x),.m (.i .i64 c.y),.m (.i .i64 c.s)]:=by
 rw [AS]
 simp [Ax,h,OX,Ce.i]
def zP (p : List Ce) : I:=if p = [] then .nl 4 else .sl (Af p)
theorem Ch (p : List Ce) : IsSl (zP p) (Af p):=by
 unfold zP
 split
 ·rename_i h; subst h; exact AC
 ·exact Ba _
def Jl (f : List Ce) (o : V) (H : Hp) : Prop:=(f = [] /\ o = .m (.nl 4) /\ H = []) \/ (f ≠ [] /\ o = .sl 0 f.length 3 0 f.length false /\ H = [.cs 73 3 (Ax f) 0 false])
theorem BM {f : List Ce} {o : V} {H : Hp} (h : Jl f o H) (hl : f.length <= 1000000) (c : Ce) : ∃ o1 H1,(∀ B,Ea ⟨B,H⟩ 73 3 24 o [[.m (.i .i64 c.x),.m (.i .i64 c.y),.m (.i .i64 c.s)]] = some (o1,⟨B,H1⟩)) /\ AA o1 = true /\ Jl (f ++ [c]) o1 H1:=by
 rcases h with ⟨rfl,rfl,rfl⟩ | ⟨hne,rfl,rfl⟩
 ·exact ⟨_,_,fun B=>rfl,rfl,.inr ⟨by simp,rfl,rfl⟩⟩
 ·have ha:=fun B=>CJ (M:=⟨B,[.cs 73 3 (Ax f) 0 false]⟩) (r:=0) (bytes:=24) (xs:=[[.m (.i .i64 c.x),.m (.i .i64 c.y),.m (.i .i64 c.s)]]) rfl (by simp) (by simp; omega) rfl
  simp only [BD,AdZ,Aeh,Aey,AeE] at ha
  have e : Ax f ++ [[.m (.i .i64 c.x),.m (.i .i64 c.y),.m (.i .i64 c.s)]] = Ax (f ++ [c]):=by simp [Ax,OX,Ce.i]
  rw [e] at ha
  exact ⟨_,_,ha,rfl,.inr ⟨by simp,by simp,rfl⟩⟩
def tw : List Ce -> Bool
 | []=>false
 | [_]=>false
 | a :: b :: r=>decide (a.x = b.x /\ a.y = b.y) || tw (b :: r)
def Aan (q : List Ce) : V:=if tw q = true then .tu [.m (.nl 4),.m (.i .i64 8)] else if 5000 < q.length then .tu [.m (.nl 4),.m (.i .i64 6)] else .tu [.m (zP q),.m (.i .i64 0)]
def Asc (q : List Ce) : Prop:=∀ (i j : Nat) (a b : Ce),i < j -> q[i]? = some a -> q[j]? = some b -> AO b a = false
theorem Vh (H : Hp) : Gives G 68 [.m (.nl 4),.m (.fn 69 [])] H (.tu []) H:=⟨40,by kernel_rfl⟩
theorem My {r b n : Nat} {X A : Hp} {q : List Ce} (hn : q.length = n) (hb : b <= n) (k : Nat) : view (k + 2) (.cs 73 3 (Ax q) b false :: X) (.sl 0 n 3 0 n false) = some (.sl (Af q)):=by
 have e : elems (.cs 73 3 (Ax q) b false :: X) (.sl 0 n 3 0 n false) = some (Ax q):=by
  show gd (Nat.ble b n && Nat.beq 3 3) (some (((Ax q).drop 0).take n)) = _
  rw [Bc,AdA hb,AeC,AdI (by simp; omega)]
  rfl
 show Option.bind (elems _ (.sl 0 n 3 0 n false)) _ = _
 rw [e]
 show Option.bind (Ah _ (Ax q)) _ = _
 have ho : ∀ (H : Hp) (m : List Ce),Ah (fun e=>Ah (view (k + 1) H) e) (Ax m) = some (Af m):=by
  intro H m
  induction m with
  | nil=>rfl
  | cons x t ih =>
   show Option.bind (some [I.i .i64 x.x,.i .i64 x.y,.i .i64 x.s]) _ = _
   simp only [Adx]
   show Option.bind (Ah _ (Ax t)) _ = _
   rw [ih]
   rfl
 rw [ho]
 rfl
theorem Ja {f : List Ce} {d' : Array Ce} (h : PermIn 0 f.length f.toArray d') : d'.toList.Perm f /\ d'.size = f.length:=by
 have hs : d'.size = f.length:=by rw [h.1]; simp
 refine ⟨?_,hs⟩
 have hp:=h.2.2
 have e1 : (d'.extract 0 f.length) = d':=by rw [<- hs]; simp
 have e2 : (f.toArray.extract 0 f.length) = f.toArray:=by
  have : f.length = f.toArray.size:=by simp
  rw [this]; simp
 rw [e1,e2] at hp
 simpa using hp
theorem WG {d' : Array Ce} {n : Nat} (hs : d'.size = n) (h : SortedIn AO 0 n d') : Asc d'.toList:=fun i j a b hij ha hb=>by
 obtain ⟨h1,rfl⟩:=Adq.1 ha
 obtain ⟨h2,rfl⟩:=Adq.1 hb
 have h1' : i < d'.size:=by simpa using h1
 have h2' : j < d'.size:=by simpa using h2
 have:=h i j (Adz _) hij (by omega)
 rw [getElem!_pos d' j h2',getElem!_pos d' i h1'] at this
 simpa using this
theorem ME (es : List (List V)) (ix : Nat) : Ej 3 es ix 0 3 = (nth es ix).bind fun e=>DY 3 e:=rfl
set_option maxHeartbeats 2000000 in
theorem WB {v : I} {p : List Ce} (hv : IsSl v (Af p)) (hl : p.length <= 1000000) (H : Hp) :
  (∃ e,bad p = some e /\ Gives G 35 [.m v] H (.tu [.m (.nl 4),.m (.i .i64 e)]) H) \/ (bad p = none /\ ∃ q,q.Perm (liv p) /\ Asc q /\ Gives G 35 [.m v] H (Aan q) H):=by
 have hr:=hv.rules
 have key : ∃ x H',Gives G 35 [.m v] H x H' /\ (H' = H /\ ((∃ e,bad p = some e /\ x = .tu [.m (.nl 4),.m (.i .i64 e)]) \/ (bad p = none /\ ∃ q,q.Perm (liv p) /\ Asc q /\ x = Aan q))):=by
  refine AI ?_
  refine Cl rfl rfl rfl rfl rfl ?_
  simp (maxSteps:=2000000) (disch:=omega) [hr]
  refine (?key : ∀ (i : Nat) (o : V) (B : List (Nat × List V)) (H1 : Hp),i <= p.length -> Jl (liv (p.take i)) o H1 -> bad (p.take i) = none -> bad p = bad (p.drop i) -> Run G c35_B0 (S35_0 o (.m v) (.m (.i .i64 p.length)) (.m (.i .i64 (i : Int))) B H1) _) 0 (.m (.nl 4)) [] [] (Adz _) (.inl ⟨rfl,rfl,rfl⟩) rfl rfl
  refine Bi (fun i : Nat=>p.length - i) fun i ih o B H1 hi ho hbt hb=>?_
  have hnf : AA o = true:=by
   rcases ho with ⟨_,rfl,_⟩ | ⟨_,rfl,_⟩ <;> rfl
  have hfl : (liv (p.take i)).length <= i:=AeG (Aeu _ _) (by rw [AdE]; omega)
  unfold c35_B0
  cases hx : p[i]? with
  | some c =>
   have hlt:=(Al hx).1
   have hlt' : (i : Int) < p.length:=by omega
   have hn:=An hx
   have wi : wr .i64 ((i : Int) + 1) = (i : Int) + 1:=Aa (by omega) (by omega)
   have g1:=fun H=>ZF c H
   have g2:=fun H=>GV c.x c.y H
   have e1 : bad (c :: p.drop (i + 1)) = match LH c with | some e=>some e | none=>bad (p.drop (i + 1)):=rfl
   rw [(Al hx).2,e1] at hb
   have htk : p.take (i + 1) = p.take i ++ [c]:=Ao hx
   by_cases hp : AF c.x c.y = true
   ·rw [hp] at g2
    by_cases hs0 : c.s < 0
    ·have hbc : LH c = some 10:=by unfold LH; rw [Ads (by rw [hp]; simp),Adu (.inl hs0)]
     rw [hbc] at hb
     simp (maxSteps:=2000000) (disch:=omega) [Ab,hr,hlt',hn,cl (g1 _),cl (g2 _),hs0,hb]
    by_cases hs8 : 8 <= c.s
    ·have hbc : LH c = some 10:=by unfold LH; rw [Ads (by rw [hp]; simp),Adu (.inr hs8)]
     rw [hbc] at hb
     simp (maxSteps:=2000000) (disch:=omega) [Ab,hr,hlt',hn,cl (g1 _),cl (g2 _),hs0,hs8,hb]
    have hbc : LH c = none:=by unfold LH; rw [Ads (by rw [hp]; simp),Ads (by omega)]
    rw [hbc] at hb
    replace hb : bad p = bad (p.drop (i + 1)):=hb
    have hbt2 : bad (p.take (i + 1)) = none:=by
     rw [htk]
     have : ∀ l : List Ce,bad l = none -> bad (l ++ [c]) = none:=fun l=>by
      induction l with
      | nil=>intro _; show (match LH c with | some e=>some e | none=>none) = none; rw [hbc]
      | cons d r ih =>
       intro h
       have f1 : bad (d :: r) = match LH d with | some e=>some e | none=>bad r:=rfl
       have f2 : bad (d :: (r ++ [c])) = match LH d with | some e=>some e | none=>bad (r ++ [c]):=rfl
       rw [AeB,f2]
       rw [f1] at h
       cases hd : LH d with
       | some e=>rw [hd] at h; cases h
       | none=>rw [hd] at h; exact ih h
     exact this _ hbt
    by_cases hs1 : 0 < c.s
    ·have hlv : liv (p.take (i + 1)) = liv (p.take i) ++ [c]:=by
      rw [htk]
      unfold liv
      rw [List.filter_append]
      simp [hs1]
     obtain ⟨o1,H2,ha,hn1,ho1⟩:=BM ho (by omega) c
     rw [<- hlv] at ho1
     simp (maxSteps:=2000000) (disch:=omega) [Ab,hr,hlt',hn,cl (g1 _),cl (g2 _),hs0,hs8,hs1,ha,Ap hn1,wi]
     exact ih (i + 1) (by omega) _ _ _ (by omega) ho1 hbt2 hb
    ·have hlv : liv (p.take (i + 1)) = liv (p.take i):=by
      rw [htk]
      unfold liv
      rw [List.filter_append]
      simp [hs1]
     rw [<- hlv] at ho
     simp (maxSteps:=2000000) (disch:=omega) [Ab,hr,hlt',hn,cl (g1 _),cl (g2 _),hs0,hs8,hs1,wi]
     exact ih (i + 1) (by omega) _ _ _ (by omega) ho hbt2 hb
   ·rw [Bool.not_eq_true] at hp
    rw [hp] at g2
    have hbc : LH c = some 5:=by unfold LH; rw [Adu hp]
    rw [hbc] at hb
    simp (maxSteps:=2000000) (disch:=omega) [Ab,hr,hlt',hn,cl (g1 _),cl (g2 _),hb]
  | none =>
   have : i = p.length:=by have:=Adv.1 hx; omega
   subst this
   have hb0 : bad p = none:=by rw [hb,Aeg]; rfl
   rw [AdQ] at ho
   rcases ho with ⟨hf,rfl,rfl⟩ | ⟨hf,rfl,rfl⟩
   ·have gs:=fun H=>Vh H
    simp (maxSteps:=2000000) (disch:=omega) [cl (gs _),hb0]
    unfold c35_B1
    simp (maxSteps:=2000000) (disch:=omega) []
    exact ⟨[],by rw [hf],fun i j a b _ h=>by simp at h,rfl⟩
   ·generalize hfe : liv p = f at *
    clear ih hx
    have hfl2 : f.length <= 1000000:=by rw [<- hfe]; exact AeG (Aeu _ _) (by omega)
    simp (maxSteps:=2000000) (disch:=omega) []
    rw [As]
    have hrow : Row.cs 73 3 (Ax f) 0 false = .cs 73 3 (Bb OX f.toArray) 0 false:=by simp [Bb,Ax]
    rw [hrow]
    refine Sj (A:=[]) (ceCmp []) OG (n:=f.length) (by omega) [] Aez f.toArray 0 (by simp) (Adz _) _ fun d' b1 X hp hso hb1=>?_
    obtain ⟨hperm,hsz⟩:=Ja hp
    have hasc:=WG hsz hso
    have hrow2 : Bb OX d' = Ax d'.toList:=rfl
    have hql : d'.toList.length = f.length:=by simpa using hsz
    rw [hrow2]
    generalize d'.toList = q at *
    have hres : Aan q = if tw q = true then .tu [.m (.nl 4),.m (.i .i64 8)] else if 5000 < q.length then .tu [.m (.nl 4),.m (.i .i64 6)] else .tu [.m (zP q),.m (.i .i64 0)]:=rfl
    have hq0 : q ≠ []:=fun e=>by subst e; simp at hql; exact hf (AdN hql.symm)
    obtain ⟨a0,r0,hqe⟩:=List.exists_cons_of_ne_nil hq0
    simp (maxSteps:=2000000) (disch:=omega) []
    refine (?key2 : ∀ (j : Nat) (B : List (Nat × List V)),1 <= j -> j <= q.length -> tw q = tw (q.drop (j - 1)) -> Run G c35_B1 (S35_1 (.sl 0 f.length 3 0 f.length false) (.m (.i .i64 (j : Int))) B (.cs 73 3 (Ax q) b1 false :: X)) _) 1 _ (Adw _) (by have:=List.length_pos_iff.2 hq0; omega) rfl
    refine Bi (fun j : Nat=>q.length - j) fun j ih B h1j hj htw=>?_
    unfold c35_B1
    have wj : wr .i64 ((j : Int) + 1) = (j : Int) + 1:=Aa (by omega) (by omega)
    have wj1 : wr .i64 ((j : Int) - 1) = (j : Int) - 1:=Aa (by omega) (by omega)
    cases hx : q[j]? with
    | some c =>
     have hlt:=(Al hx).1
     obtain ⟨a,ha⟩ : ∃ a,q[j - 1]? = some a:=⟨q[j - 1]'(by omega),Adt _⟩
     have hlt' : (j : Int) < f.length:=by omega
     have hltn : j < f.length:=by omega
     have hltm : (j : Int) - 1 < f.length:=by omega
     have h0m : (0 : Int) <= (j : Int) - 1:=by omega
     have htn : ((j : Int) - 1).toNat = j - 1:=by omega
     have hn:=Da hx
     have hna:=Da ha
     have e0 : q.drop (j - 1) = a :: c :: q.drop (j + 1):=by
      have:=(Al ha).2
      rw [this,show j - 1 + 1 = j by omega,(Al hx).2]
     have e1 : tw (a :: c :: q.drop (j + 1)) = (decide (a.x = c.x /\ a.y = c.y) || tw (c :: q.drop (j + 1))):=rfl
     rw [e0,e1] at htw
     have g1:=fun H=>ZF a H
     have g2:=fun H=>ZF c H
     by_cases heq : a.x = c.x /\ a.y = c.y
     ·rw [AdA heq,Bool.true_or] at htw
      rw [htw,Adu rfl] at hres
      have heq1 : (decide (a.x = c.x) && decide (a.y = c.y)) = true:=by simpa using heq
      simp (maxSteps:=2000000) (disch:=omega) [Ab,hlt',htn,wj1,hb1,ME,hn,hna,cl (g1 _),cl (g2 _),heq1,hb0]
      exact ⟨q,hperm,hasc,hres.symm⟩
     ·rw [AdB heq,Bool.false_or] at htw
      have heq2 : (decide (a.x = c.x) && decide (a.y = c.y)) = false:=by
       rw [Bool.eq_false_iff]
       simpa using heq
      simp (maxSteps:=2000000) (disch:=omega) [Ab,hlt',htn,wj1,hb1,ME,hn,hna,cl (g1 _),cl (g2 _),heq2,wj]
      exact ih (j + 1) (by omega) _ (by omega) (by omega) (by rw [htw,show j + 1 - 1 = j by omega,(Al hx).2])
    | none =>
     have : j = q.length:=by have:=Adv.1 hx; omega
     have hlt' : ¬ (j : Int) < f.length:=by omega
     have htw0 : tw q = false:=by
      rw [htw]
      have : (q.drop (j - 1)).length = 1:=by rw [Aeb]; omega
      match hm : q.drop (j - 1),this with
      | [x],_=>rfl
     rw [htw0,Ads (by simp)] at hres
     by_cases h5 : 5000 < q.length
     ·have h5' : (5000 : Int) < f.length:=by omega
      rw [Adu h5] at hres
      simp (maxSteps:=2000000) (disch:=omega) [hlt',h5',hb0]
      exact ⟨q,hperm,hasc,hres.symm⟩
     ·have h5' : ¬ (5000 : Int) < f.length:=by omega
      rw [Ads h5] at hres
      have hv:=My (r:=0) (X:=X) (A:=[]) hql hb1 18
      simp (maxSteps:=2000000) (disch:=omega) [hlt',h5',hb0,hv]
      refine ⟨q,hperm,hasc,?_⟩
      rw [hres]
      unfold zP
      rw [Ads hq0]
 obtain ⟨x,H',h1,rfl,h2⟩:=key
 rcases h2 with ⟨e,h3,rfl⟩ | ⟨h3,q,h4,h5,rfl⟩
 ·exact .inl ⟨e,h3,h1⟩
 ·exact .inr ⟨h3,q,h4,h5,h1⟩
end Go.Mx.Tryz
namespace Go.Mx.Tryz
open Go.Lib
theorem Oc {H : Hp} {r b : Nat} {q : List Ce} (h : nth H r = some (.cs 73 3 (Ax q) b false)) (hb : b <= q.length) (k : Nat) : view (k + 2) H (.sl r q.length 3 0 q.length false) = some (.sl (Af q)):=by
 have e : elems H (.sl r q.length 3 0 q.length false) = some (Ax q):=by
  show Option.bind (nth H r) _ = _
  rw [h]
  show gd (Nat.ble b q.length && Nat.beq 3 3) (some (((Ax q).drop 0).take q.length)) = _
  rw [Bc,AdA hb,AeC,AdI (by simp)]
  rfl
 show Option.bind (elems H (.sl r q.length 3 0 q.length false)) _ = _
 rw [e]
 show Option.bind (Ah _ (Ax q)) _ = _
 have ho : ∀ (H : Hp) (m : List Ce),Ah (fun e=>Ah (view (k + 1) H) e) (Ax m) = some (Af m):=by
  intro H m
  induction m with
  | nil=>rfl
  | cons x t ih =>
   show Option.bind (some [I.i .i64 x.x,.i .i64 x.y,.i .i64 x.s]) _ = _
   simp only [Adx]
   show Option.bind (Ah _ (Ax t)) _ = _
   rw [ih]
   rfl
 rw [ho]
 rfl
theorem FG (q : List Ce) : ((Ax q).all fun e=>e.all isM) = true:=by
 simp [Ax,OX,Ce.i,isM]
def apart (a b : Ce) : Prop:=¬ (a.x = b.x /\ a.y = b.y)
theorem OW : ∀ (p : List Ce) (o : Option Ce),CS o p = true -> p.Pairwise (fun a b=>AO a b = true) /\ (∀ a,o = some a -> ∀ d,d ∈ p -> AO a d = true) /\ ∀ d,d ∈ p -> Cr d = true
 | [],_,_=>⟨.nil,fun _ _ d hd=>by simp at hd,fun d hd=>by simp at hd⟩
 | c :: r,o,h=>by
  have h' : Cr c = true /\ (∀ a,o = some a -> AO a c = true) /\ CS (some c) r = true:=by
   cases o with
   | none =>
    have : (Cr c && CS (some c) r) = true:=h
    rw [Adr] at this
    exact ⟨this.1,fun _ h=>(by cases h),this.2⟩
   | some a =>
    have : (Cr c && AO a c && CS (some c) r) = true:=h
    simp only [Adr] at this
    exact ⟨this.1.1,fun _ h=>(by cases h; exact this.1.2),this.2⟩
  obtain ⟨g1,g2,g3⟩:=h'
  obtain ⟨i1,i2,i3⟩:=OW r (some c) g3
  refine ⟨AdR.2 ⟨fun d hd=>i2 c rfl d hd,i1⟩,fun a ha d hd=>?_,fun d hd=>?_⟩
  ·rcases AdP.1 hd with rfl | hd
   ·exact g2 a ha
   ·have h1:=g2 a ha
    have h2:=i2 c rfl d hd
    unfold AO at *
    grind
  ·rcases AdP.1 hd with rfl | hd
   ·exact g1
   ·exact i3 d hd
theorem Av {p : List Ce} (h : AL p = true) : p.Pairwise (fun a b=>AO a b = true) /\ (∀ d,d ∈ p -> Cr d = true) /\ p.length <= 5000:=by
 unfold AL at h
 simp only [Adr,AdF] at h
 have:=OW p none h.2
 exact ⟨this.1,this.2.2,h.1⟩
theorem Hi : ∀ {p : List Ce},(∀ c,c ∈ p -> Cr c = true) -> bad p = none
 | [],_=>rfl
 | c :: r,h=>by
  have hc:=h c (by simp)
  unfold Cr at hc
  simp only [Adr,AdF] at hc
  have e : LH c = none:=by
   unfold LH
   rw [Ads (by rw [hc.1.1]; simp),Ads (by omega)]
  have e2 : bad (c :: r) = match LH c with | some e=>some e | none=>bad r:=rfl
  rw [e2,e]
  exact Hi fun d hd=>h d (by simp [hd])
theorem Yw : ∀ {p : List Ce},p.Pairwise (fun a b=>AO a b = true) -> tw p = false
 | [],_=>rfl
 | [_],_=>rfl
 | a :: b :: r,h=>by
  have e : tw (a :: b :: r) = (decide (a.x = b.x /\ a.y = b.y) || tw (b :: r)):=rfl
  obtain ⟨h1,h2⟩:=AdR.1 h
  have:=h1 b (by simp)
  rw [e,Yw h2,Bool.or_false]
  unfold AO at this
  simp at this ⊢
  omega
theorem Adj {p q : List Ce} (hw : p.Pairwise (fun a b=>AO a b = true)) (hq : Asc q) (hpm : q.Perm p) : q = p:=by
 have hqp : q.Pairwise (fun a b=>AO b a = false):=by
  rw [Aes]
  intro i j hi hj hij
  exact hq i j _ _ hij (Adt hi) (Adt hj)
 have hpp : p.Pairwise (fun a b=>AO b a = false):=hw.imp fun {a b} h=>by
  unfold AO at *
  simp at h ⊢
  omega
 refine hpm.eq_of_pairwise (fun a b ha hb h1 h2=>?_) hqp hpp
 have ha' : a ∈ p:=hpm.mem_iff.1 ha
 obtain ⟨i,hi,rfl⟩:=List.mem_iff_getElem.1 ha'
 obtain ⟨j,hj,rfl⟩:=List.mem_iff_getElem.1 hb
 rcases Nat.lt_trichotomy i j with h | h | h
 ·have:=Aes.1 hw i j hi hj h
  rw [this] at h2; cases h2
 ·subst h; rfl
 ·have:=Aes.1 hw j i hj hi h
  rw [this] at h1; cases h1
theorem Gt {p q : List Ce} (h : q.Perm p) (ha : p.Pairwise apart) : q.Pairwise apart:=by
 refine (h.pairwise_iff (fun {a b} hab=>?_)).2 ha
 exact fun ⟨h1,h2⟩=>hab ⟨h1.symm,h2.symm⟩
theorem Tz {q : List Ce} (ha : Asc q) (hp : q.Pairwise apart) : q.Pairwise (fun a b=>AO a b = true):=by
 rw [Aes] at hp ⊢
 intro i j hi hj hij
 have h1:=ha i j _ _ hij (Adt hi) (Adt hj)
 have h2:=hp i j hi hj hij
 unfold AO at *
 unfold apart at h2
 simp at *
 omega
theorem Hc {c : Ce} (h : Cr c = true) : AF c.x c.y = true /\ 1 <= c.s /\ c.s < 8:=by
 unfold Cr at h
 simp only [Adr,AdF] at h
 exact ⟨h.1.1,h.1.2,h.2⟩
theorem OF {p : List Ce} (h : ∀ c,c ∈ p -> Cr c = true) : liv p = p:=by
 unfold liv
 rw [List.filter_eq_self]
 intro c hc
 have:=Hc (h c hc)
 exact AdA (by omega)
theorem FH : ∀ {p : List Ce},p.Pairwise (fun a b=>AO a b = true) -> (∀ c,c ∈ p -> Cr c = true) -> p.length <= 5000 -> AL p = true:=fun {p} h1 h2 h3=>by
 have key : ∀ (p : List Ce) (o : Option Ce),p.Pairwise (fun a b=>AO a b = true) -> (∀ a,o = some a -> ∀ d,d ∈ p -> AO a d = true) -> (∀ c,c ∈ p -> Cr c = true) -> CS o p = true:=by
  intro p
  induction p with
  | nil=>intro o _ _ _; cases o <;> rfl
  | cons c r ih =>
   intro o h1 h2 h3
   obtain ⟨h4,h5⟩:=AdR.1 h1
   have i:=ih (some c) h5 (fun a ha d hd=>by cases ha; exact h4 d hd) (fun d hd=>h3 d (Aek _ hd))
   cases o with
   | none =>
    show (Cr c && CS (some c) r) = true
    rw [h3 c (AdL ..),i]
    rfl
   | some a =>
    show (Cr c && AO a c && CS (some c) r) = true
    rw [h3 c (AdL ..),i,h2 a rfl c (AdL ..)]
    rfl
 unfold AL
 rw [AdA h3,key p none h1 (fun a h=>by cases h) h2]
 rfl
end Go.Mx.Tryz
set_option maxHeartbeats 4000000
namespace Go.Mx.Tryz
open Go.Sort Go.Lib Go.Proofs
def LM (c : Ce) : List Ce -> List Ce
 | []=>[c]
 | d :: r=>if AO c d = true then c :: d :: r else d :: LM c r
theorem FP (c : Ce) : ∀ p,(LM c p).Perm (c :: p)
 | []=>List.Perm.refl _
 | d :: r=>by
  unfold LM
  split
  ·exact List.Perm.refl _
  ·exact ((FP c r).cons d).trans (List.Perm.swap c d r)
theorem Vy (c : Ce) (p : List Ce) : (LM c p).length = p.length + 1:=(FP c p).length_eq
theorem Zr {a b c : Ce} (h1 : AO a b = true) (h2 : AO b c = true) : AO a c = true:=by
 unfold AO at *
 simp at *
 omega
theorem PL {a b : Ce} (h : apart a b) (h1 : AO a b = false) : AO b a = true:=by
 unfold AO at *
 unfold apart at h
 simp at *
 omega
theorem Jk {a b : Ce} (h : apart a b) : apart b a:=fun ⟨h1,h2⟩=>h ⟨h1.symm,h2.symm⟩
theorem Tf (c : Ce) : ∀ p : List Ce,p.Pairwise (fun a b=>AO a b = true) -> (∀ d,d ∈ p -> apart c d) -> (LM c p).Pairwise (fun a b=>AO a b = true)
 | [],_,_=>by simp [LM]
 | d :: r,h,ha=>by
  obtain ⟨h1,h2⟩:=AdR.1 h
  unfold LM
  split
  ·rename_i hl
   refine AdR.2 ⟨fun e he=>?_,h⟩
   rcases AdP.1 he with rfl | he
   ·exact hl
   ·exact Zr hl (h1 e he)
  ·rename_i hl
   refine AdR.2 ⟨fun e he=>?_,Tf c r h2 fun e he=>ha e (Aek _ he)⟩
   rcases AdP.1 ((FP c r).mem_iff.1 he) with rfl | he
   ·exact PL (ha d (AdL ..)) (by simpa using hl)
   ·exact h1 e he
def Ci (p : List Ce) : List Ce:=p.foldl (fun a c=>LM c a) []
theorem IX (p : List Ce) (c : Ce) : Ci (p ++ [c]) = LM c (Ci p):=by simp [Ci]
theorem Gp : ∀ n (p : List Ce),p.length = n -> (Ci p).Perm p /\ (p.Pairwise apart -> (Ci p).Pairwise (fun a b=>AO a b = true))
 | 0,p,h=>by
  have : p = []:=AdN h
  subst this
  exact ⟨List.Perm.refl _,fun _=>List.Pairwise.nil⟩
 | n + 1,p,h=>by
  obtain ⟨q,c,rfl⟩ : ∃ q c,p = q ++ [c]:=⟨p.dropLast,p.getLast (by intro e; rw [e] at h; simp at h),(List.dropLast_concat_getLast _).symm⟩
  have hq : q.length = n:=by simpa using h
  obtain ⟨h1,h2⟩:=Gp n q hq
  rw [IX]
  refine ⟨(FP c _).trans ((h1.cons c).trans (List.perm_append_singleton c q).symm),fun hp=>?_⟩
  rw [Aen] at hp
  refine Tf c _ (h2 hp.1) fun d hd=>?_
  exact Jk (hp.2.2 d (h1.mem_iff.1 hd) c (List.mem_singleton_self c))
theorem DA (p : List Ce) : (Ci p).Perm p:=(Gp _ p rfl).1
theorem FE {p : List Ce} (h : p.Pairwise apart) : (Ci p).Pairwise (fun a b=>AO a b = true):=(Gp _ p rfl).2 h
theorem CD (p : List Ce) : (Ci p).length = p.length:=(DA p).length_eq
theorem MF {p q : List Ce} (hp : p.Pairwise (fun a b=>AO a b = true)) (hq : q.Pairwise (fun a b=>AO a b = true)) (h : q.Perm p) : q = p:=by
 refine Adj hp (fun i j a b hij ha hb=>?_) h
 obtain ⟨h1,rfl⟩:=Adq.1 ha
 obtain ⟨h2,rfl⟩:=Adq.1 hb
 have:=Aes.1 hq i j h1 h2 hij
 unfold AO at *
 simp at *
 omega
theorem BW {f : List Ce} {o : V} {H : Hp} (h : Jl f o H) : viewR H o = some (.m (zP f)) /\ AA o = true:=by
 rcases h with ⟨rfl,rfl,rfl⟩ | ⟨hne,rfl,rfl⟩
 ·exact ⟨rfl,rfl⟩
 ·have:=My (r:=0) (b:=0) (X:=[]) (A:=[]) (q:=f) (n:=f.length) rfl (Adz _) 18
  refine ⟨?_,rfl⟩
  show (view 20 _ _).bind _ = _
  rw [this]
  unfold zP
  rw [Ads hne]
  rfl
theorem Vx {v : I} {p : List Ce} (hv : IsSl v (Af p)) (hl : p.length <= 900000) (c : Ce) (H : Hp) : Gives G 79 [.m v,.m (.ag [.i .i64 c.x,.i .i64 c.y,.i .i64 c.s])] H (.m (zP (LM c p))) H:=by
 have hr:=hv.rules
 simp only [show (Af p).length = p.length from by simp [Af]] at hr
 refine Ae rfl rfl rfl rfl rfl ?_
 simp (maxSteps:=2000000) (disch:=omega) []
 refine (?key : ∀ (i : Nat) (dn : Bool) (f : List Ce) (o : V) (B : List (Nat × List V)) (H1 : Hp),i <= p.length -> (if dn then LM c p = f ++ p.drop i else f = p.take i /\ LM c p = p.take i ++ LM c (p.drop i)) -> Jl f o H1 -> getB B 3 = some [.m (.i .i64 c.x),.m (.i .i64 c.y),.m (.i .i64 c.s)] -> Run G c79_B0 (S79_0 (.m v) (.fa 3 0) o (.m (.b dn)) (.m (.i .i64 (i : Int))) B H1) _) 0 false [] _ _ _ (Adz _) ⟨rfl,rfl⟩ (.inl ⟨rfl,rfl,rfl⟩) rfl
 refine Bi (fun i : Nat=>p.length - i) fun i ih dn f o B H1 hi hd ho hB=>?_
 obtain ⟨hvw,hnf⟩:=BW ho
 unfold c79_B0
 cases hx : p[i]? with
 | some d =>
  have hlt:=(Al hx).1
  have hlt' : (i : Int) < p.length:=by omega
  have hn:=An hx
  have wi : wr .i64 ((i : Int) + 1) = (i : Int) + 1:=Aa (by omega) (by omega)
  have gb:=fun H=>JZ c d H
  have hdr:=(Al hx).2
  have htk : p.take (i + 1) = p.take i ++ [d]:=Ao hx
  cases dn with
  | true =>
   simp only [if_true] at hd
   have hfl : f.length <= 900001:=by
    have:=congrArg List.length hd
    rw [Vy,AdC] at this
    omega
   obtain ⟨o1,H2,ha,hn1,ho1⟩:=BM ho (by omega) d
   simp (maxSteps:=2000000) (disch:=omega) [hr,hlt',hn,wi,hB,Ad,ha,Ap hn1]
   exact ih (i + 1) (by omega) true _ _ _ _ (by omega) (by simp only [if_true]; rw [hd,hdr]; simp) ho1 hB
  | false =>
   simp only [AeD,if_false] at hd
   obtain ⟨rfl,hd2⟩:=hd
   have hfl : (p.take i).length <= 900000:=by rw [AdE]; omega
   cases hb : AO c d with
   | true =>
    rw [hb] at gb
    obtain ⟨o1,H2,ha,hn1,ho1⟩:=BM ho (by omega) c
    obtain ⟨o2,H3,ha2,hn2,ho2⟩:=BM ho1 (by simp; omega) d
    simp (maxSteps:=2000000) (disch:=omega) [hr,hlt',hn,wi,hB,Ad,cl (gb _),ha,Ap hn1,ha2,Ap hn2]
    refine ih (i + 1) (by omega) true _ _ _ _ (by omega) ?_ ho2 hB
    simp only [if_true]
    rw [hd2,hdr]
    simp [LM,hb]
   | false =>
    rw [hb] at gb
    obtain ⟨o1,H2,ha,hn1,ho1⟩:=BM ho (by omega) d
    simp (maxSteps:=2000000) (disch:=omega) [hr,hlt',hn,wi,hB,Ad,cl (gb _),ha,Ap hn1]
    refine ih (i + 1) (by omega) false _ _ _ _ (by omega) ?_ ho1 hB
    simp only [AeD,if_false]
    refine ⟨htk.symm,?_⟩
    rw [hd2,hdr,htk]
    simp [LM,hb]
 | none =>
  have : i = p.length:=by have:=Adv.1 hx; omega
  subst this
  clear ih
  cases dn with
  | true =>
   simp only [if_true,Aeg,Ael] at hd
   simp (maxSteps:=2000000) (disch:=omega) [hr,hvw,hnf,Ap hnf,hd]
  | false =>
   simp only [AeD,if_false,Aeg,AdQ] at hd
   obtain ⟨rfl,hd2⟩:=hd
   obtain ⟨o1,H2,ha,hn1,ho1⟩:=BM ho (by omega) c
   obtain ⟨hvw1,_⟩:=BW ho1
   have e : LM c f = f ++ [c]:=hd2
   simp (maxSteps:=2000000) (disch:=omega) [hr,hB,ha,Ap hn1,hvw1,hn1,e]
theorem Ic {v : I} {p : List Ce} (hv : IsSl v (Af p)) (hl : p.length <= 5000) (hg : ∀ c,c ∈ p -> Cr c = true) (ha : p.Pairwise apart) (H : Hp) : Gives G 40 [.m v] H (.tu [.m (zP (Ci p)),.m (.i .i64 0)]) H:=by
 have hr:=hv.rules
 simp only [show (Af p).length = p.length from by simp [Af]] at hr
 refine Ae rfl rfl rfl rfl rfl ?_
 simp (maxSteps:=2000000) (disch:=omega) []
 refine (?key : ∀ (i : Nat) (B : List (Nat × List V)),i <= p.length -> Run G c40_B0 (S40_0 (.m v) (.m (.nl 4)) (.m (.i .i64 (i : Int))) B []) _) 0 _ (Adz _)
 refine Bi (fun i : Nat=>p.length - i) fun i ih B hi=>?_
 unfold c40_B0
 cases hx : p[i]? with
 | some c =>
  have hlt:=(Al hx).1
  have hlt' : (i : Int) < p.length:=by omega
  have hn:=An hx
  have wi : wr .i64 ((i : Int) + 1) = (i : Int) + 1:=Aa (by omega) (by omega)
  obtain ⟨h1,h2,h3⟩:=Hc (hg c (Ady hx))
  have gp:=fun H=>GW c.x c.y H
  rw [h1] at gp
  have h4 : ¬ c.s < 0:=by omega
  have h5 : ¬ 8 <= c.s:=by omega
  simp (maxSteps:=2000000) (disch:=omega) [hr,hlt',hn,wi,cl (gp _),h4,h5]
  exact ih (i + 1) (by omega) _ (by omega)
 | none =>
  have : i = p.length:=by have:=Adv.1 hx; omega
  subst this
  clear ih hx hi
  simp (maxSteps:=2000000) (disch:=omega) [hr]
  refine (?key2 : ∀ (i : Nat) (z : I) (B : List (Nat × List V)),i <= p.length -> z = zP (Ci (p.take i)) -> Run G c40_B1 (S40_1 (.m v) (.m z) (.m (.i .i64 (i : Int))) B []) _) 0 (.nl 4) _ (Adz _) rfl
  refine Bi (fun i : Nat=>p.length - i) fun i ih z B hi hz=>?_
  unfold c40_B1
  cases hx : p[i]? with
  | some c =>
   have hlt:=(Al hx).1
   have hlt' : (i : Int) < p.length:=by omega
   have hn:=An hx
   have wi : wr .i64 ((i : Int) + 1) = (i : Int) + 1:=Aa (by omega) (by omega)
   obtain ⟨h1,h2,h3⟩:=Hc (hg c (Ady hx))
   have h4 : ¬ c.s = 0:=by omega
   have htk : p.take (i + 1) = p.take i ++ [c]:=Ao hx
   have gi:=fun H=>Vx (v:=z) (by rw [hz]; exact Ch _) (by rw [CD,AdE]; omega) c H
   rw [<- IX,<- htk] at gi
   simp (maxSteps:=2000000) (disch:=omega) [hr,hlt',hn,wi,cl (gi _),h4]
   exact ih (i + 1) (by omega) _ _ (by omega) rfl
  | none =>
   have : i = p.length:=by have:=Adv.1 hx; omega
   subst this
   clear ih hx hi
   rw [AdQ] at hz
   have hs : IsSl z (Af (Ci p)):=by rw [hz]; exact Ch _
   have hrs:=hs.rules
   have hpw:=FE ha
   have hsl:=CD p
   simp only [show (Af (Ci p)).length = p.length from by simp [Af,hsl]] at hrs
   generalize hq : Ci p = q at *
   rw [<- hz]
   simp (maxSteps:=2000000) (disch:=omega) [hr]
   refine (?key3 : ∀ (j : Nat) (B : List (Nat × List V)),1 <= j -> Run G c40_B2 (S40_2 (.m z) (.m (.i .i64 (j : Int))) B []) _) 1 _ (Adw _)
   refine Bi (fun j : Nat=>q.length - j) fun j ih B h1j=>?_
   unfold c40_B2
   cases hx : q[j]? with
   | some c =>
    have hlt:=(Al hx).1
    have hlt2 : j < p.length:=by omega
    have hlt' : (j : Int) < p.length:=by omega
    have wj : wr .i64 ((j : Int) + 1) = (j : Int) + 1:=Aa (by omega) (by omega)
    have wj1 : wr .i64 ((j : Int) - 1) = (j : Int) - 1:=Aa (by omega) (by omega)
    obtain ⟨a,hax⟩ : ∃ a,q[j - 1]? = some a:=⟨q[j - 1]'(by omega),Adt _⟩
    have hn:=An hx
    have hna:=An hax
    have hltm : (j : Int) - 1 < p.length:=by omega
    have h0m : (0 : Int) <= (j : Int) - 1:=by omega
    have htn : ((j : Int) - 1).toNat = j - 1:=by omega
    have hls : AO a c = true:=by
     obtain ⟨h1,rfl⟩:=Adq.1 hax
     obtain ⟨h2,rfl⟩:=Adq.1 hx
     exact Aes.1 hpw _ _ h1 h2 (by omega)
    have gb:=fun H=>JZ a c H
    rw [hls] at gb
    simp (maxSteps:=2000000) (disch:=omega) [hrs,hlt',htn,hn,hna,wj,wj1,cl (gb _)]
    exact ih (j + 1) (by omega) _ (by omega)
   | none =>
    have hj : q.length <= j:=Adv.1 hx
    have hlt' : ¬ (j : Int) < p.length:=by omega
    have h5 : ¬ (5000 : Int) < p.length:=by omega
    simp (maxSteps:=2000000) (disch:=omega) [hrs,hlt',h5]
def mvC (a b : Int) (c : Ce) : Ce:=⟨c.x - a,c.y - b,c.s⟩
def tnC (k : Nat) (c : Ce) : Ce:=⟨(CT k c.x c.y).1,(CT k c.x c.y).2,c.s⟩
def GA : List Ce -> Int
 | []=>0
 | c :: r=>mnF c.x ((c :: r).map Ce.x)
def Gs : List Ce -> Int
 | []=>0
 | c :: r=>mnF c.y ((c :: r).map Ce.y)
def Bs (p : List Ce) : List Ce:=p.map (mvC (GA p) (Gs p))
theorem EK (f : List Ce) (c : Ce) : Ax f ++ [[.m (.i .i64 c.x),.m (.i .i64 c.y),.m (.i .i64 c.s)]] = Ax (f ++ [c]):=by simp [Ax,OX,Ce.i]
theorem Ln (f : List Ce) (hl : f.length <= 1000000) (c : Ce) (B : List (Nat × List V)) : Ea ⟨B,[.cs 73 3 (Ax f) 0 false]⟩ 73 3 24 (.sl 0 f.length 3 0 f.length false) [[.m (.i .i64 c.x),.m (.i .i64 c.y),.m (.i .i64 c.s)]] = some (.sl 0 (f ++ [c]).length 3 0 (f ++ [c]).length false,⟨B,[.cs 73 3 (Ax (f ++ [c])) 0 false]⟩):=by
 have ha:=CJ (M:=⟨B,[.cs 73 3 (Ax f) 0 false]⟩) (r:=0) (bytes:=24) (xs:=[[.m (.i .i64 c.x),.m (.i .i64 c.y),.m (.i .i64 c.s)]]) rfl (by simp) (by simp; omega) rfl
 simp only [BD,AdZ,Aeh,Aey,AeE,EK] at ha
 rw [ha]
 simp
theorem AH {p : List Ce} (h : AL p = true) {c : Ce} (hc : c ∈ p) : (-1048576 <= c.x /\ c.x <= 1048576) /\ (-1048576 <= c.y /\ c.y <= 1048576) /\ 1 <= c.s /\ c.s < 8:=by
 have:=(Av h).2.1 c hc
 unfold Cr AF at this
 simp only [Adr,AdF] at this
 omega
theorem OE {p : List Ce} (h : AL p = true) : -1048576 <= GA p /\ GA p <= 1048576:=by
 cases p with
 | nil=>simp [GA]
 | cons c r =>
  have hb:=AH h (AdL ..)
  have h1 : mnF c.x ((c :: r).map Ce.x) <= c.x:=(Ij _ _).1
  have h2 : -1048576 <= mnF c.x ((c :: r).map Ce.x):=Je _ _ _ ⟨by omega,fun y hy=>by
   obtain ⟨d,hd,rfl⟩:=AdU.1 hy
   have:=AH h hd
   omega⟩
  show -1048576 <= mnF c.x ((c :: r).map Ce.x) /\ mnF c.x ((c :: r).map Ce.x) <= 1048576
  omega
theorem OD {p : List Ce} (h : AL p = true) : -1048576 <= Gs p /\ Gs p <= 1048576:=by
 cases p with
 | nil=>simp [Gs]
 | cons c r =>
  have hb:=AH h (AdL ..)
  have h1 : mnF c.y ((c :: r).map Ce.y) <= c.y:=(Ij _ _).1
  have h2 : -1048576 <= mnF c.y ((c :: r).map Ce.y):=Je _ _ _ ⟨by omega,fun y hy=>by
   obtain ⟨d,hd,rfl⟩:=AdU.1 hy
   have:=AH h hd
   omega⟩
  show -1048576 <= mnF c.y ((c :: r).map Ce.y) /\ mnF c.y ((c :: r).map Ce.y) <= 1048576
  omega
theorem WA {v : I} {p : List Ce} (hv : IsSl v (Af p)) (hp : AL p = true) (H : Hp) : Gives G 88 [.m v] H (.m (if p = [] then v else .sl (Af (Bs p)))) H:=by
 have hl : p.length <= 5000:=(Av hp).2.2
 have hr:=hv.rules
 have gb:=fun H=>Ade hv (by omega) H
 have gr:=fun H=>CI hv (by omega) H
 rw [hp] at gr
 refine Ae rfl rfl rfl rfl rfl ?_
 cases hpe : p with
 | nil =>
  subst hpe
  simp (maxSteps:=2000000) (disch:=omega) [Ab,Ad,cl (gb _),OY,LG]
 | cons c0 r0 =>
  have hne : p ≠ []:=by rw [hpe]; simp
  rw [<- hpe]
  obtain ⟨bw,bh,hbc⟩ : ∃ bw bh,LG p = [GA p,Gs p,bw,bh]:=by
   obtain ⟨d,hd⟩ : ∃ d,(c0 :: r0)[(c0 :: r0).length - 1]? = some d:=⟨_,Adt (by simp)⟩
   have hy:=(JP (by rw [<- hpe]; exact hp) hd).1
   have hlow : Gs (c0 :: r0) = c0.y:=hy
   have hp' : AL (c0 :: r0) = true:=by rw [<- hpe]; exact hp
   rw [hpe]
   simp only [LG]
   rw [Adu hp',hlow]
   exact ⟨_,_,rfl⟩
  have hbv : OY p = .tu [.m (.ag [.i .i64 (GA p),.i .i64 (Gs p),.i .i64 bw,.i .i64 bh]),.m (.b true)]:=by
   unfold OY
   rw [hbc,hp]
   simp [hne]
  rw [hbv] at gb
  have hlx:=OE hp
  have hly:=OD hp
  have hnc : Nat.beq 0 p.length = false:=by cases hq : p with | nil=>exact absurd hq hne | cons _ _=>rfl
  simp only [show (Af p).length = p.length from by simp [Af]] at hr
  have hcap : p.length * 24 <= 281474976710656:=by omega
  have hcap2 : p.length <= 9223372036854775807:=by omega
  have hdc : decide (0 = p.length) = false:=by rw [<- Ff]; exact hnc
  simp (maxSteps:=2000000) (disch:=omega) [Ab,hr,Ad,cl (gb _),cl (gr _),hne,hcap,hcap2,hdc]
  refine (?key : ∀ (i : Nat) (f : List Ce) (B : List (Nat × List V)),i <= p.length -> f = (p.take i).map (mvC (GA p) (Gs p)) -> getB B 3 = some [.m (.i .i64 (GA p)),.m (.i .i64 (Gs p)),.m (.i .i64 bw),.m (.i .i64 bh)] -> Run G c88_B0 (S88_0 (.fa 3 0) (.sl 0 f.length 3 0 f.length false) (.m v) (.m (.i .i64 p.length)) (.m (.i .i64 (i : Int))) B [.cs 73 3 (Ax f) 0 false]) _) 0 [] [(3,[.m (.i .i64 (GA p)),.m (.i .i64 (Gs p)),.m (.i .i64 bw),.m (.i .i64 bh)])] (Adz _) rfl rfl
  refine Bi (fun i : Nat=>p.length - i) fun i ih f B hi hf0 hB=>?_
  unfold c88_B0
  cases hx : p[i]? with
  | some c =>
   have hlt:=(Al hx).1
   have hlt' : (i : Int) < p.length:=by omega
   have hn:=An hx
   have wi : wr .i64 ((i : Int) + 1) = (i : Int) + 1:=Aa (by omega) (by omega)
   have htk : p.take (i + 1) = p.take i ++ [c]:=Ao hx
   have hb:=AH hp (Ady hx)
   have w1 : wr .i64 (c.x - GA p) = c.x - GA p:=Aa (by omega) (by omega)
   have w2 : wr .i64 (c.y - Gs p) = c.y - Gs p:=Aa (by omega) (by omega)
   have hf : f.length <= 1000000:=by rw [hf0,AdJ,AdE]; omega
   have ha:=fun B=>Ln f hf (mvC (GA p) (Gs p) c) B
   have e : f ++ [mvC (GA p) (Gs p) c] = (p.take (i + 1)).map (mvC (GA p) (Gs p)):=by rw [htk,hf0]; simp
   have ih':=ih (i + 1) (by omega) (f ++ [mvC (GA p) (Gs p) c])
   clear ih hf0
   generalize f ++ [mvC (GA p) (Gs p) c] = f' at *
   simp only [mvC] at ha
   simp (maxSteps:=2000000) (disch:=omega) [Ab,hr,hlt',hn,wi,hB,w1,w2,ha]
   exact ih' _ (by omega) e (by simpa using hB)
  | none =>
   have : i = p.length:=by have:=Adv.1 hx; omega
   subst this
   clear ih
   rw [AdQ] at hf0
   have hvv:=My (r:=0) (b:=0) (X:=[]) (A:=[]) (q:=Bs p) (n:=(Bs p).length) rfl (Adz _) 18
   have e : f = Bs p:=hf0
   rw [e]
   clear e hf0
   generalize Bs p = f at *
   have hvr : viewR [.cs 73 3 (Ax f) 0 false] (.sl 0 f.length 3 0 f.length false) = some (.m (.sl (Af f))):=by
    show (view 20 _ _).bind _ = _
    rw [hvv]
    rfl
   simp (maxSteps:=2000000) (disch:=omega) [hvr]
theorem Ov (a b : Ce) (H : Hp) : Gives G 121 [.m (.ag [.i .i64 a.x,.i .i64 a.y,.i .i64 a.s]),.m (.ag [.i .i64 b.x,.i .i64 b.y,.i .i64 b.s])] H (.m (.i .i64 (JX a.x a.y b.x b.y))) H:=by
 refine Ae rfl rfl rfl rfl rfl ?_
 have hv:=AT (vs:=[.ls [[.i .i64 (DE a.y b.y)],[.i .i64 (DE a.x b.x)]]]) (H:=[]) rfl rfl (AcD (DE a.y b.y) (DE a.x b.x) []) rfl (.inl ⟨rfl,rfl⟩)
 simp [cl (AcZ _ _ _),cl hv,JX]
def Adc (A : Hp) : Cmp OX A 121 AO where
 ok _:=True
 ext _ _ _:=Aez
 cmp a b:=JX a.x a.y b.x b.y
 neg a b:=by
  unfold JX AO
  grind [DE]
 run a b row C _:=Ov a b _
theorem VQ {k : Nat} {x y : Int} (hx : -1048576 <= x /\ x <= 1048576) (hy : -1048576 <= y /\ y <= 1048576) : (-1048576 <= (CT k x y).1 /\ (CT k x y).1 <= 1048576) /\ (-1048576 <= (CT k x y).2 /\ (CT k x y).2 <= 1048576):=by
 unfold CT
 split <;> dsimp only <;> omega
theorem VP {k : Nat} {x y z w : Int} (h1 : (CT k x y).1 = (CT k z w).1) (h2 : (CT k x y).2 = (CT k z w).2) : x = z /\ y = w:=by
 unfold CT at h1 h2
 split at h1 <;> simp at h1 h2 <;> omega
theorem Dh {p : List Ce} (h : p.Pairwise (fun a b=>AO a b = true)) : p.Pairwise apart:=h.imp fun {a b} h=>by
 unfold AO at h
 unfold apart
 simp at h
 omega
def PU (k : Nat) (p q : List Ce) : Prop:=q.Perm (p.map (tnC k)) /\ q.Pairwise (fun a b=>AO a b = true)
theorem Gm (k : Nat) {p : List Ce} (h : p.Pairwise apart) : (p.map (tnC k)).Pairwise apart:=by
 rw [List.pairwise_map]
 refine h.imp fun {a b} h h2=>h ?_
 exact VP (k:=k) h2.1 h2.2
theorem IT {k : Nat} {p q : List Ce} (hp : AL p = true) (h : PU k p q) : AL q = true:=by
 obtain ⟨h1,h2⟩:=h
 obtain ⟨_,h4,h5⟩:=Av hp
 refine FH h2 (fun c hc=>?_) (by rw [h1.length_eq,AdJ]; exact h5)
 obtain ⟨d,hd,rfl⟩:=AdU.1 (h1.mem_iff.1 hc)
 have hb:=AH hp hd
 have:=VQ (k:=k) hb.1 hb.2.1
 unfold Cr AF tnC
 simp only [Adr,AdF]
 omega
theorem Wn {v : I} {p : List Ce} (hv : IsSl v (Af p)) (hp : AL p = true) (k : Int) (H : Hp) : ∃ q,PU (Db k) p q /\ Gives G 87 [.m (.i .i64 k),.m v] H (.tu [.m (.sl (Af q)),.m (.i .i64 0)]) H:=by
 have hl : p.length <= 5000:=(Av hp).2.2
 have hr:=hv.rules
 simp only [show (Af p).length = p.length from by simp [Af]] at hr
 have gr:=fun H=>CI hv (by omega) H
 rw [hp] at gr
 have key : ∃ x H',Gives G 87 [.m (.i .i64 k),.m v] H x H' /\ (H' = H /\ ∃ q,PU (Db k) p q /\ x = .tu [.m (.sl (Af q)),.m (.i .i64 0)]):=by
  refine AI ?_
  refine Cl rfl rfl rfl rfl rfl ?_
  have hcap : p.length * 24 <= 281474976710656:=by omega
  have hcap2 : p.length <= 9223372036854775807:=by omega
  simp (maxSteps:=2000000) (disch:=omega) [Ab,hr,cl (gr _),hcap,hcap2]
  generalize hlim : decide (0 = p.length) = lim
  refine (?key : ∀ (i : Nat) (f : List Ce) (B : List (Nat × List V)),i <= p.length -> f = (p.take i).map (tnC (Db k)) -> Run G c87_B0 (S87_0 (.m (.i .i64 k)) (.sl 0 f.length 3 0 f.length lim) (.m v) (.m (.i .i64 p.length)) (.m (.i .i64 (i : Int))) B [.cs 73 3 (Ax f) 0 false]) _) 0 [] [] (Adz _) rfl
  refine Bi (fun i : Nat=>p.length - i) fun i ih f B hi hf0=>?_
  unfold c87_B0
  cases hx : p[i]? with
  | some c =>
   have hlt:=(Al hx).1
   have hlt' : (i : Int) < p.length:=by omega
   have hn:=An hx
   have wi : wr .i64 ((i : Int) + 1) = (i : Int) + 1:=Aa (by omega) (by omega)
   have htk : p.take (i + 1) = p.take i ++ [c]:=Ao hx
   have hb:=AH hp (Ady hx)
   have ga:=fun H=>ZG k c.x c.y (by omega) (by omega) H
   have hlf : lim = false:=by rw [<- hlim]; exact AdB (by omega)
   subst hlf
   have hf : f.length <= 1000000:=by rw [hf0,AdJ,AdE]; omega
   have ha:=fun B=>Ln f hf (tnC (Db k) c) B
   have e : f ++ [tnC (Db k) c] = (p.take (i + 1)).map (tnC (Db k)):=by rw [htk,hf0]; simp
   have ih':=ih (i + 1) (by omega) (f ++ [tnC (Db k) c])
   clear ih hf0
   generalize f ++ [tnC (Db k) c] = f' at *
   simp only [tnC] at ha
   simp (maxSteps:=2000000) (disch:=omega) [Ab,hr,hlt',hn,wi,cl (ga _),ha]
   exact ih' _ (by omega) e
  | none =>
   have : i = p.length:=by have:=Adv.1 hx; omega
   subst this
   clear ih
   rw [AdQ] at hf0
   have hfl : f.length <= 5000:=by rw [hf0,AdJ]; exact hl
   simp (maxSteps:=2000000) (disch:=omega) []
   rw [As]
   have hrow : Row.cs 73 3 (Ax f) 0 false = .cs 73 3 (Bb OX f.toArray) 0 false:=by simp [Bb,Ax]
   rw [hrow]
   refine Sj (A:=[]) (Adc []) OG (n:=f.length) (by omega) [] Aez f.toArray 0 (by simp) (Adz _) _ fun d' b1 X hpm hso hb1=>?_
   obtain ⟨hperm,hsz⟩:=Ja hpm
   have hasc:=WG hsz hso
   have hrow2 : Bb OX d' = Ax d'.toList:=rfl
   have hql : d'.toList.length = f.length:=by simpa using hsz
   rw [hrow2]
   generalize d'.toList = q at *
   have hap : (p.map (tnC (Db k))).Pairwise apart:=Gm _ (Dh (Av hp).1)
   rw [<- hf0] at hap
   have hq : PU (Db k) p q:=⟨by rw [<- hf0]; exact hperm,Tz hasc (Gt hperm hap)⟩
   have hvv:=My (r:=0) (X:=X) (A:=[]) hql hb1 18
   have hvl : view 20 (.cs 73 3 (Ax q) b1 false :: X) (.sl 0 f.length 3 0 f.length lim) = some (.sl (Af q)):=by cases lim <;> exact hvv
   simp (maxSteps:=2000000) (disch:=omega) [hvl]
   exact ⟨q,hq,rfl⟩
 obtain ⟨x,H',h1,rfl,q,h2,rfl⟩:=key
 exact ⟨q,h2,h1⟩
def OutI (f : List Ce) (o : V) (H : Hp) : Prop:=(f = [] /\ o = .m (.nl 4) /\ H = []) \/ (f ≠ [] /\ o = .sl 1 f.length 3 0 f.length false /\ nth H 1 = some (.cs 73 3 (Ax f) 0 false))
theorem Ze {f : List Ce} {o : V} {H : Hp} (h : OutI f o H) : AA o = true:=by
 rcases h with ⟨_,rfl,_⟩ | ⟨_,rfl,_⟩ <;> rfl
theorem SI {f : List Ce} {o : V} {H : Hp} (h : OutI f o H) (hl : f.length <= 1000000) (q : Row) (c : Ce) : ∃ o1 H1,(∀ B,Ea ⟨B,H ++ [q]⟩ 73 3 24 o [[.m (.i .i64 c.x),.m (.i .i64 c.y),.m (.i .i64 c.s)]] = some (o1,⟨B,H1⟩)) /\ AA o1 = true /\ OutI (f ++ [c]) o1 H1:=by
 rcases h with ⟨rfl,rfl,rfl⟩ | ⟨hne,rfl,h1⟩
 ·exact ⟨_,_,fun B=>rfl,rfl,.inr ⟨by simp,rfl,rfl⟩⟩
 ·have h2 : nth (H ++ [q]) 1 = some (.cs 73 3 (Ax f) 0 false):=by rw [Lu _ _ _ (GL h1)]; exact h1
  have ha:=fun B=>CJ (M:=⟨B,H ++ [q]⟩) (r:=1) (bytes:=24) (xs:=[[.m (.i .i64 c.x),.m (.i .i64 c.y),.m (.i .i64 c.s)]]) h2 (by simp) (by simp; omega) rfl
  simp only [BD,AdZ,Aeh,Aey,EK] at ha
  refine ⟨_,_,ha,rfl,.inr ⟨by simp,by simp,?_⟩⟩
  exact FM (GL h2)
theorem Sn {α : Type} (l : List α) (x y : α) : Bk (l ++ [x]) l.length y = some (l ++ [y]):=by
 rw [BA _ _ _ (by simp)]
 simp
def lowK (g : Ce -> Int) : List Ce -> Int
 | []=>0
 | c :: r=>mnF (g c) ((c :: r).map g)
theorem w3_x {g : List Ce} {j : Nat} {c : Ce} (h : g[j]? = some c) (x : Int) : DS 3 (Ax g) j 0 [.m (.i .i64 x)] = some (Ax (g.set j ⟨x,c.y,c.s⟩)):=by
 show (nth (Ax g) j).bind _ = _
 rw [Da h]
 show Bk (Ax g) j [.m (.i .i64 x),.m (.i .i64 c.y),.m (.i .i64 c.s)] = _
 rw [BA _ _ _ (by simpa using (Al h).1)]
 simp [Ax,List.map_set,OX,Ce.i]
theorem w3_y {g : List Ce} {j : Nat} {c : Ce} (h : g[j]? = some c) (y : Int) : DS 3 (Ax g) j 1 [.m (.i .i64 y)] = some (Ax (g.set j ⟨c.x,y,c.s⟩)):=by
 show (nth (Ax g) j).bind _ = _
 rw [Da h]
 show Bk (Ax g) j [.m (.i .i64 c.x),.m (.i .i64 y),.m (.i .i64 c.s)] = _
 rw [BA _ _ _ (by simpa using (Al h).1)]
 simp [Ax,List.map_set,OX,Ce.i]
theorem r3_x {g : List Ce} {j : Nat} {c : Ce} (h : g[j]? = some c) : Ej 3 (Ax g) j 0 1 = some [.m (.i .i64 c.x)]:=by
 show (nth (Ax g) j).bind _ = _
 rw [Da h]
 rfl
theorem r3_y {g : List Ce} {j : Nat} {c : Ce} (h : g[j]? = some c) : Ej 3 (Ax g) j 1 1 = some [.m (.i .i64 c.y)]:=by
 show (nth (Ax g) j).bind _ = _
 rw [Da h]
 rfl
theorem AcK (f : List Ce) : lowK Ce.x f = GA f:=by cases f <;> rfl
theorem AcJ (f : List Ce) : lowK Ce.y f = Gs f:=by cases f <;> rfl
theorem Tc (g : Ce -> Int) {p : List Ce} (hne : p ≠ []) : (∀ c,c ∈ p -> lowK g p <= g c) /\ ∀ x,(∀ c,c ∈ p -> x <= g c) -> x <= lowK g p:=by
 obtain ⟨c,r,rfl⟩:=List.exists_cons_of_ne_nil hne
 refine ⟨fun d hd=>(Ij ((c :: r).map g) (g c)).2 _ (List.mem_map_of_mem hd),fun x hx=>Je _ _ _ ⟨hx c (AdL ..),fun y hy=>?_⟩⟩
 obtain ⟨d,hd,rfl⟩:=AdU.1 hy
 exact hx d hd
theorem Td (a b : Int) (c d : Ce) : AO (mvC a b c) (mvC a b d) = AO c d:=by
 unfold AO mvC
 rw [Aec]
 simp only [AdF]
 omega
theorem Zt {p : List Ce} (h : p.Pairwise (fun a b=>AO a b = true)) : (Bs p).Pairwise (fun a b=>AO a b = true):=by
 unfold Bs
 rw [List.pairwise_map]
 exact h.imp fun {a b} h=>by rw [Td]; exact h
def Span (p : List Ce) : Prop:=∀ c d,c ∈ p -> d ∈ p -> c.x - d.x <= 1048576 /\ c.y - d.y <= 1048576
theorem Si {p : List Ce} (h : Span p) (hs : ∀ c,c ∈ p -> 1 <= c.s /\ c.s < 8) : ∀ c,c ∈ Bs p -> Cr c = true:=fun c hc=>by
 obtain ⟨d,hd,rfl⟩:=AdU.1 hc
 have hne : p ≠ []:=fun e=>by subst e; cases hd
 obtain ⟨x1,x2⟩:=Tc Ce.x hne
 obtain ⟨y1,y2⟩:=Tc Ce.y hne
 have a1:=x1 d hd
 have b1:=y1 d hd
 have a2:=x2 (d.x - 1048576) fun e he=>by have:=(h d e hd he).1; omega
 have b2:=y2 (d.y - 1048576) fun e he=>by have:=(h d e hd he).2; omega
 rw [AcK] at a1 a2
 rw [AcJ] at b1 b2
 have:=hs d hd
 unfold Cr AF mvC
 simp only [Adr,AdF]
 omega
theorem WF (p : List Ce) : ∃ x y w h,LG p = [x,y,w,h]:=by
 unfold LG
 split
 ·exact ⟨_,_,_,_,rfl⟩
 ·split
  ·exact ⟨_,_,_,_,rfl⟩
  ·exact ⟨_,_,_,_,rfl⟩
def cmpC (c d : Ce) : Int:=if c.y = d.y then if c.x = d.x then DE c.s d.s else DE c.x d.x else DE c.y d.y
def Iq : List Ce -> List Ce -> Int
 | [],[]=>0
 | [],_ :: _=>-1
 | _ :: _,[]=>1
 | c :: r,d :: t=>if cmpC c d = 0 then Iq r t else cmpC c d
theorem GB {x y : Int} : DE x y = 0 ↔ x = y:=by
 unfold DE
 split
 ·constructor <;> intro h <;> omega
 ·split <;> constructor <;> intro h <;> omega
theorem Tt {c d : Ce} : cmpC c d = 0 ↔ c = d:=by
 obtain ⟨a1,a2,a3⟩:=c
 obtain ⟨b1,b2,b3⟩:=d
 unfold cmpC
 simp only [Ce.mk.injEq]
 split
 ·split
  ·rw [GB]; constructor <;> intro h <;> simp_all
  ·rw [GB]; constructor <;> intro h <;> simp_all
 ·rw [GB]; constructor <;> intro h <;> simp_all
theorem Fa : ∀ {p q : List Ce},Iq p q = 0 ↔ p = q
 | [],[]=>by simp [Iq]
 | [],_ :: _=>by simp [Iq]
 | _ :: _,[]=>by simp [Iq]
 | c :: r,d :: t=>by
  unfold Iq
  split
  ·rename_i h
   rw [Fa,Tt.1 h]
   simp
  ·rename_i h
   constructor
   ·intro h2; exact absurd h2 h
   ·intro h2
    have : c = d:=(List.cons.inj h2).1
    exact absurd (Tt.2 this) h
theorem PJ (x y : Int) (H : Hp) : Gives G 85 [.m (.i .i64 x),.m (.i .i64 y)] H (.m (.i .i64 (DE x y))) H:=by
 refine Ae rfl rfl rfl rfl rfl ?_
 by_cases h1 : x < y
 ·simp (maxSteps:=2000000) (disch:=omega) [h1,DE]
 ·by_cases h2 : y < x
  ·simp (maxSteps:=2000000) (disch:=omega) [h1,h2,DE]
  ·simp (maxSteps:=2000000) (disch:=omega) [h1,h2,DE]
theorem OT {p q : List Ce} {i : Nat} (h : p.drop i = [] \/ q.drop i = []) : Iq (p.drop i) (q.drop i) = DE ((p.drop i).length : Int) ((q.drop i).length : Int):=by
 rcases h with h | h <;> rw [h]
 ·cases hq : q.drop i with
  | nil=>rfl
  | cons a r=>show (-1 : Int) = _; unfold DE; rw [Adu (by simp <;> omega)]
 ·cases hq : p.drop i with
  | nil=>rfl
  | cons a r=>show (1 : Int) = _; unfold DE; rw [Ads (by simp <;> omega),Adu (by simp <;> omega)]
theorem OU {a b i : Nat} (h1 : i <= a) (h2 : i <= b) : DE ((a - i : Nat) : Int) ((b - i : Nat) : Int) = DE a b:=by
 unfold DE
 have e1 : (((a - i : Nat) : Int) < ((b - i : Nat) : Int)) = ((a : Int) < b):=by rw [eq_iff_iff]; omega
 have e2 : (((b - i : Nat) : Int) < ((a - i : Nat) : Int)) = ((b : Int) < a):=by rw [eq_iff_iff]; omega
 simp only [e1,e2]
set_option maxHeartbeats 2000000 in
theorem Tr {v w : I} {p q : List Ce} (hv : IsSl v (Af p)) (hw : IsSl w (Af q)) (hl : p.length <= 1000000) (hl2 : q.length <= 1000000) (H : Hp) : Gives G 44 [.m v,.m w] H (.m (.i .i64 (Iq p q))) H:=by
 refine Ae rfl rfl rfl rfl rfl ?_
 have hr:=hv.rules
 have hr2:=hw.rules
 simp only [show (Af p).length = p.length from by simp [Af]] at hr
 simp only [show (Af q).length = q.length from by simp [Af]] at hr2
 have go:=fun x y H=>PJ x y H
 simp (maxSteps:=2000000) (disch:=omega) []
 refine (?key : ∀ (i : Nat) (B : List (Nat × List V)),i <= p.length -> i <= q.length -> Iq p q = Iq (p.drop i) (q.drop i) -> Run G c44_B0 (S44_0 (.m v) (.m w) (.m (.i .i64 (i : Int))) B []) _) 0 [] (Adz _) (Adz _) rfl
 refine Bi (fun i : Nat=>p.length - i) fun i ih B hi hi2 hc=>?_
 unfold c44_B0
 cases hx : p[i]? with
 | none =>
  have hle:=Adv.1 hx
  have hlt' : ¬ (i : Int) < p.length:=by omega
  rw [OT (.inl (List.drop_eq_nil_of_le hle)),Aeb,Aeb,OU hi hi2] at hc
  simp (maxSteps:=2000000) (disch:=omega) [hr,hr2,hlt',cl (go _ _ _),hc]
 | some c =>
  have hlt:=(Al hx).1
  have hlt' : (i : Int) < p.length:=by omega
  have hn:=An hx
  cases hy : q[i]? with
  | none =>
   have hle:=Adv.1 hy
   have hlt2' : ¬ (i : Int) < q.length:=by omega
   rw [OT (.inr (List.drop_eq_nil_of_le hle)),Aeb,Aeb,OU hi hi2] at hc
   simp (maxSteps:=2000000) (disch:=omega) [hr,hr2,hlt',hlt2',cl (go _ _ _),hc]
  | some d =>
   have hlt2:=(Al hy).1
   have hlt2' : (i : Int) < q.length:=by omega
   have hn2:=An hy
   have wi : wr .i64 ((i : Int) + 1) = (i : Int) + 1:=Aa (by omega) (by omega)
   have e1 : Iq (c :: p.drop (i + 1)) (d :: q.drop (i + 1)) = if cmpC c d = 0 then Iq (p.drop (i + 1)) (q.drop (i + 1)) else cmpC c d:=rfl
   rw [(Al hx).2,(Al hy).2,e1] at hc
   by_cases h1 : c.y = d.y
   ·by_cases h2 : c.x = d.x
    ·by_cases h3 : c.s = d.s
     ·have e : cmpC c d = 0:=by unfold cmpC; rw [Adu h1,Adu h2]; exact GB.2 h3
      rw [Adu e] at hc
      simp (maxSteps:=2000000) (disch:=omega) [hr,hr2,hlt',hlt2',hn,hn2,wi,h1,h2,h3]
      exact ih (i + 1) (by omega) _ (by omega) (by omega) hc
     ·have e : cmpC c d = DE c.s d.s:=by unfold cmpC; rw [Adu h1,Adu h2]
      have h0 : ¬ DE c.s d.s = 0:=fun h=>h3 (GB.1 h)
      rw [e,Ads h0] at hc
      simp (maxSteps:=2000000) (disch:=omega) [hr,hr2,hlt',hlt2',hn,hn2,h1,h2,h3,cl (go _ _ _),hc]
    ·have e : cmpC c d = DE c.x d.x:=by unfold cmpC; rw [Adu h1,Ads h2]
     have h0 : ¬ DE c.x d.x = 0:=fun h=>h2 (GB.1 h)
     rw [e,Ads h0] at hc
     simp (maxSteps:=2000000) (disch:=omega) [hr,hr2,hlt',hlt2',hn,hn2,h1,h2,cl (go _ _ _),hc]
   ·have e : cmpC c d = DE c.y d.y:=by unfold cmpC; rw [Ads h1]
    have h0 : ¬ DE c.y d.y = 0:=fun h=>h1 (GB.1 h)
    rw [e,Ads h0] at hc
    simp (maxSteps:=2000000) (disch:=omega) [hr,hr2,hlt',hlt2',hn,hn2,h1,cl (go _ _ _),hc]
theorem FI {v w : I} {p q : List Ce} (hv : IsSl v (Af p)) (hw : IsSl w (Af q)) (hl : p.length <= 1000000) (hl2 : q.length <= 1000000) (H : Hp) : Gives G 17 [.m v,.m w] H (.m (.b (decide (Iq p q = 0)))) H:=by
 refine Ae rfl rfl rfl rfl rfl ?_
 simp (maxSteps:=2000000) (disch:=omega) [cl (Tr hv hw hl hl2 _)]
set_option maxHeartbeats 2000000 in
theorem Zx {v w : I} {p q : List Ce} (hv : IsSl v (Af p)) (hw : IsSl w (Af q)) (hl : p.length <= 1000000) (hl2 : q.length <= 1000000) (H : Hp) : Gives G 83 [.m v,.m w] H (.m (.b (decide (Iq p q = 0)))) H:=by
 refine Ae rfl rfl rfl rfl rfl ?_
 have hr:=hv.rules
 have hr2:=hw.rules
 simp only [show (Af p).length = p.length from by simp [Af]] at hr
 simp only [show (Af q).length = q.length from by simp [Af]] at hr2
 by_cases hlen : p.length = q.length
 ·have hlen' : (p.length : Int) = q.length:=by omega
  simp (maxSteps:=2000000) (disch:=omega) [hr,hr2,hlen]
  refine (?key : ∀ (i : Nat) (B : List (Nat × List V)),i <= q.length -> Iq p q = Iq (p.drop i) (q.drop i) -> Run G c83_B0 (S83_0 (.m v) (.m w) (.m (.i .i64 q.length)) (.m (.i .i64 (i : Int))) B []) _) 0 [] (Adz _) rfl
  refine Bi (fun i : Nat=>q.length - i) fun i ih B hi hc=>?_
  unfold c83_B0
  cases hy : q[i]? with
  | some d =>
   have hlt2:=(Al hy).1
   obtain ⟨c,hx⟩ : ∃ c,p[i]? = some c:=⟨p[i]'(by omega),Adt _⟩
   have hlt:=(Al hx).1
   have hlt2' : (i : Int) < q.length:=by omega
   have hn:=An hx
   have hn2:=An hy
   have wi : wr .i64 ((i : Int) + 1) = (i : Int) + 1:=Aa (by omega) (by omega)
   have e1 : Iq (c :: p.drop (i + 1)) (d :: q.drop (i + 1)) = if cmpC c d = 0 then Iq (p.drop (i + 1)) (q.drop (i + 1)) else cmpC c d:=rfl
   rw [(Al hx).2,(Al hy).2,e1] at hc
   by_cases he : c.x = d.x /\ c.y = d.y /\ c.s = d.s
   ·have e : cmpC c d = 0:=by
     unfold cmpC
     rw [Adu he.2.1,Adu he.1,GB]
     exact he.2.2
    rw [Adu e] at hc
    simp (maxSteps:=2000000) (disch:=omega) [hr,hr2,hlen,hlt2',hn,hn2,wi,he.1,he.2.1,he.2.2]
    exact ih (i + 1) (by omega) _ (by omega) hc
   ·have e : ¬ cmpC c d = 0:=fun h=>he (by rw [Tt.1 h]; exact ⟨rfl,rfl,rfl⟩)
    rw [Ads e] at hc
    have he1 : (decide (c.x = d.x) && (decide (c.y = d.y) && decide (c.s = d.s))) = false:=by
     rw [Bool.eq_false_iff]
     simpa using he
    have he2 : (decide (c.x = d.x) && decide (c.y = d.y) && decide (c.s = d.s)) = false:=by
     rw [Bool.and_assoc]; exact he1
    simp (maxSteps:=2000000) (disch:=omega) [hr,hr2,hlen,hlt2',hn,hn2,he1,hc,e]
  | none =>
   have : i = q.length:=by have:=Adv.1 hy; omega
   subst this
   rw [Aeg,List.drop_eq_nil_of_le (by omega)] at hc
   have hc' : Iq p q = 0:=hc
   simp (maxSteps:=2000000) (disch:=omega) [hc']
 ·have hlen' : ¬ (p.length : Int) = q.length:=by omega
  have e : ¬ Iq p q = 0:=fun h=>hlen (by rw [Fa.1 h])
  simp (maxSteps:=2000000) (disch:=omega) [hr,hr2,hlen',e]
theorem Acm {v w : I} {p q : List Ce} (hv : IsSl v (Af p)) (hw : IsSl w (Af q)) (hl : p.length <= 1000000) (hl2 : q.length <= 1000000) (H : Hp) : Gives G 42 [.m v,.m w] H (.m (.b (decide (Iq p q = 0)))) H:=by
 refine Ae rfl rfl rfl rfl rfl ?_
 simp (maxSteps:=2000000) (disch:=omega) [cl (Zx hv hw hl hl2 _)]
end Go.Mx.Tryz
namespace Go.Mx.Tryz
open Go.Lib
structure StI (t : TreeC) (p : List Ce) (D : List (Int × Int)) (l : List Ce) : Prop where
 al : ∀ c,c ∈ l -> (c.x,c.y) ∈ D /\ c.s = Bl t p c.x c.y /\ ¬ c.s = 0 /\ AF c.x c.y = true
 cov : ∀ k,k ∈ D -> ¬ Bl t p k.1 k.2 = 0 -> ∃ c,c ∈ l /\ c.x = k.1 /\ c.y = k.2
 ap : l.Pairwise apart
theorem YD (t : TreeC) (p : List Ce) : StI t p [] []:=⟨by simp,by simp,.nil⟩
theorem Ve {t : TreeC} {p : List Ce} {D : List (Int × Int)} {l : List Ce} (h : StI t p D l) {k : Int × Int} (hk : Bl t p k.1 k.2 = 0) : StI t p (D ++ [k]) l :=
 ⟨fun c hc=>by obtain ⟨a,b⟩:=h.al c hc; exact ⟨by simp [a],b⟩,fun j hj hn=>by
  rcases AdX.1 hj with hj | hj
  ·exact h.cov j hj hn
  ·rw [AdO.1 hj] at hn
   exact absurd hk hn,h.ap⟩
theorem YF {t : TreeC} {p : List Ce} {D : List (Int × Int)} {l : List Ce} (h : StI t p D l) {x y : Int} (hD : (x,y) ∉ D) (hk : ¬ Bl t p x y = 0) (hp : AF x y = true) : StI t p (D ++ [(x,y)]) (l ++ [⟨x,y,Bl t p x y⟩]):=by
 refine ⟨fun c hc=>?_,fun j hj hn=>?_,?_⟩
 ·rcases AdX.1 hc with hc | hc
  ·obtain ⟨a,b⟩:=h.al c hc
   exact ⟨by simp [a],b⟩
  ·rw [AdO.1 hc]
   exact ⟨by simp,rfl,hk,hp⟩
 ·rcases AdX.1 hj with hj | hj
  ·obtain ⟨c,h1,h2⟩:=h.cov j hj hn
   exact ⟨c,by simp [h1],h2⟩
  ·rw [AdO.1 hj]
   exact ⟨⟨x,y,Bl t p x y⟩,by simp,rfl,rfl⟩
 ·rw [Aen]
  refine ⟨h.ap,by simp,fun a ha b hb=>?_⟩
  rw [AdO.1 hb]
  intro ⟨h1,h2⟩
  have:=(h.al a ha).1
  dsimp only at h1 h2
  rw [h1,h2] at this
  exact hD this
theorem Sg {t : TreeC} {p : List Ce} {x y : Int} (hk : ¬ Bl t p x y = 0) (hp : AF x y = false) : Do t p ([],5):=.inl ⟨rfl,x,y,hk,hp⟩
theorem YE {t : TreeC} {p : List Ce} {D : List (Int × Int)} {l q : List Ce} (hq : AJ t = true) (h : StI t p D l) (hall : ∀ c o,c ∈ p -> o ∈ t.hood -> (c.x - o.1,c.y - o.2) ∈ D) (hp : q.Perm l) (hs : q.Pairwise (fun a b=>AO a b = true)) : Do t p (if 5000 < q.length then ([],6) else (q,0)):=by
 have hD : ∀ x y,¬ Bl t p x y = 0 -> ∃ c,c ∈ l /\ c.x = x /\ c.y = y:=fun x y hn=>by
  obtain ⟨c,o,hc,ho,rfl,rfl⟩:=GY hq hn
  exact h.cov _ (hall c o hc ho) hn
 refine .inr ⟨fun x y hn=>?_,q,hs,fun c=>⟨fun hc=>?_,fun hc=>?_⟩,rfl⟩
 ·obtain ⟨c,hc,rfl,rfl⟩:=hD x y hn
  exact (h.al c hc).2.2.2
 ·have:=h.al c (hp.mem_iff.1 hc)
  exact ⟨this.2.1,this.2.2.1⟩
 ·obtain ⟨d,hd,e1,e2⟩:=hD c.x c.y (by rw [<- hc.1]; exact hc.2)
  have h2:=(h.al d hd).2.1
  have : d = c:=by
   obtain ⟨a1,a2,a3⟩:=d
   obtain ⟨b1,b2,b3⟩:=c
   dsimp only at e1 e2 h2 hc
   subst e1 e2
   congr 1
   rw [h2]
   exact hc.1.symm
  exact hp.mem_iff.2 (this ▸ hd)
theorem Vf {t : TreeC} (hr : TreeR t) {p : List Ce} (ht : GK t p) {D : List (Int × Int)} {l : List Ce} (h : StI t p D l) : ∀ c,c ∈ l -> Cr c = true:=fun c hc=>by
 obtain ⟨_,h1,h2,h3⟩:=h.al c hc
 have h4:=EL hr ht c.x c.y
 rw [<- h1] at h4
 have:=hr.s8
 unfold Cr
 rw [h3]
 simp only [Aev,Adr,AdF]
 omega
theorem Vg {t : TreeC} (hr : TreeR t) {p : List Ce} (ht : GK t p) {D : List (Int × Int)} {l q : List Ce} (h : StI t p D l) (hq : q.Perm (liv l)) (ha : Asc q) : bad l = none /\ q.Perm l /\ q.Pairwise (fun a b=>AO a b = true) /\ Aan q = if 5000 < q.length then .tu [.m (.nl 4),.m (.i .i64 6)] else .tu [.m (zP q),.m (.i .i64 0)]:=by
 have hg : ∀ c,c ∈ l -> Cr c = true:=fun c hc=>by
  obtain ⟨_,h1,h2,h3⟩:=h.al c hc
  have h4:=EL hr ht c.x c.y
  rw [<- h1] at h4
  have:=hr.s8
  unfold Cr
  rw [h3]
  simp only [Aev,Adr,AdF]
  omega
 rw [OF hg] at hq
 have hw:=Tz ha (Gt hq h.ap)
 refine ⟨Hi hg,hq,hw,?_⟩
 unfold Aan
 rw [Yw hw,Ads (by simp)]
inductive HisR (t : TreeC) (p : List Ce) : List (List Ce) -> Prop
 | one : HisR t p [p]
 | snoc {ps : List (List Ce)} {a q : List Ce} : HisR t p (ps ++ [a]) -> Do t a (q,0) -> HisR t p (ps ++ [a] ++ [q])
def HisQ (t : TreeC) (p : List Ce) (n : Nat) (res : List (List Ce) × Int) : Prop :=
 (res.2 = 0 /\ res.1.length = n + 1 /\ HisR t p res.1) \/ (∃ ps a,ps.length < n /\ HisR t p (ps ++ [a]) /\ Do t a ([],res.2) /\ ¬ res.2 = 0 /\ res.1 = [])
end Go.Mx.Tryz
namespace Go.Mx.Tryz
theorem optN (k : Nat) (H : Hp) : ∀ m : List Int,Ah (fun e=>Ah (view (k + 1) H) e) (Bo m) = some (Es m)
 | []=>rfl
 | x :: r=>by
  show Option.bind (some [I.i .i64 x]) _ = _
  simp only [Adx]
  have:=optN k H r
  show Option.bind (Ah _ (Bo r)) _ = _
  rw [this]
  rfl
theorem Ss (l : List Int) (a n : Nat) : ((Bo l).drop a).take n = Bo ((l.drop a).take n):=by
 unfold Bo; rw [List.map_take,List.map_drop]
theorem AcX {H : Hp} {r ver st len base : Nat} {lim fz : Bool} {l : List Int} (h : nth H r = some (.cs 3 1 (Bo l) base fz)) (hb : base <= ver) : elems H (.sl r ver 1 st len lim) = some (Bo ((l.drop st).take len)):=by
 show Option.bind (nth H r) _ = _
 rw [h]
 show gd (Nat.ble base ver && Nat.beq 1 1) (some (((Bo l).drop st).take len)) = _
 rw [Bc,AdA hb,Ss]
 rfl
theorem Va {H : Hp} {r ver st len base : Nat} {lim fz : Bool} {l : List Int} (h : nth H r = some (.cs 3 1 (Bo l) base fz)) (hb : base <= ver) (k : Nat) : view (k + 2) H (.sl r ver 1 st len lim) = some (.sl (Es ((l.drop st).take len))):=by
 show Option.bind (elems H (.sl r ver 1 st len lim)) _ = _
 rw [AcX h hb]
 show Option.bind (Ah _ (Bo _)) _ = _
 rw [optN]
 rfl
end Go.Mx.Tryz
