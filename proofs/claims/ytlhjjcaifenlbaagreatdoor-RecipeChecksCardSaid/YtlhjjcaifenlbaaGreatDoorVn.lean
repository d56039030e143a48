/- Rows of numbers, shown. -/
import Derived.Test.YtlhjjcaifenlbaaGreatDoorSrx
import Derived.Test.YtlhjjcaifenlbaaGreatDoorStr
import Derived.KernelRfl
import Derived.Test.YtlhjjcaifenlbaaGreatDoorSz
set_option linter.unusedSimpArgs false
set_option linter.unusedVariables false
set_option linter.unusedSectionVars false
set_option maxRecDepth 100000
namespace Go.Mx.Tryz
open Go.Sort Go.Lib
instance : Inhabited Ce:=⟨⟨0,0,0⟩⟩
def Oc : Rw Ce 3 true where
 enc c:=c.i.map .m
 val c:=.m (.ag c.i)
 len c:=rfl
 pos:=by decide
 one c:=rfl
 ld c:=by simp [Ce.i]
 st c:=by simp [Ce.i]
def ceCmp (A : Hp) : Cmp Oc A 69 AW where
 ok _:=True
 ext _ _ _:=Ady
 cmp a b:=Jw a.x a.y b.x b.y
 neg a b:=by
  unfold Jw AW
  grind [Dr]
 run a b row C _:=Sb a b _
theorem NQ : SWO AW where
 irrefl x:=by simp [AW]
 trans x y z h1 h2:=by simp only [AW,AcK] at *; omega
 ntrans x y z h1 h2:=by simp only [AW,decide_eq_false_iff_not] at *; omega
open Go.Proofs
def Lc (c : Ce) : Option Int:=if AE c.x c.y = false then some 5 else if c.s < 0 \/ 8 <= c.s then some 10 else none
def bad : List Ce -> Option Int
 | []=>none
 | c :: r=>match Lc c with
  | some e=>some e
  | none=>bad r
def liv (p : List Ce) : List Ce:=p.filter fun c=>decide (0 < c.s)
def Aw (p : List Ce) : List (List V):=p.map Oc.enc
@[simp] theorem BH (p : List Ce) : (Aw p).length = p.length:=by simp [Aw]
theorem CM {p : List Ce} {i : Nat} {c : Ce} (h : p[i]? = some c) : nth (Aw p) i = some [.m (.i .i64 c.x),.m (.i .i64 c.y),.m (.i .i64 c.s)]:=by
 rw [AV]
 simp [Aw,h,Oc,Ce.i]
def zP (p : List Ce) : I:=if p = [] then .nl 4 else .sl (Ag p)
theorem Cr (p : List Ce) : IsSl (zP p) (Ag p):=by
 unfold zP
 split
 ·rename_i h; subst h; exact AH
 ·exact Be _
def JC (f : List Ce) (o : V) (H : Hp) : Prop:=(f = [] /\ o = .m (.nl 4) /\ H = []) \/ (f ≠ [] /\ o = .sl 0 f.length 3 0 f.length false /\ H = [.cs 73 3 (Aw f) 0 false])
theorem BP {f : List Ce} {o : V} {H : Hp} (h : JC f o H) (hl : f.length <= 1000000) (c : Ce) : ∃ o1 H1,(∀ B,EJ ⟨B,H⟩ 73 3 24 o [[.m (.i .i64 c.x),.m (.i .i64 c.y),.m (.i .i64 c.s)]] = some (o1,⟨B,H1⟩)) /\ AB o1 = true /\ JC (f ++ [c]) o1 H1:=by
 rcases h with ⟨rfl,rfl,rfl⟩ | ⟨hne,rfl,rfl⟩
 ·exact ⟨_,_,fun B=>rfl,rfl,.inr ⟨by simp,rfl,rfl⟩⟩
 ·have ha:=fun B=>Dc (M:=⟨B,[.cs 73 3 (Aw f) 0 false]⟩) (r:=0) (bytes:=24) (xs:=[[.m (.i .i64 c.x),.m (.i .i64 c.y),.m (.i .i64 c.s)]]) rfl (by simp) (by simp; omega) rfl
  simp only [BH,Adk,Adp,AdF,List.set_cons_zero] at ha
  have e : Aw f ++ [[.m (.i .i64 c.x),.m (.i .i64 c.y),.m (.i .i64 c.s)]] = Aw (f ++ [c]):=by simp [Aw,Oc,Ce.i]
  rw [e] at ha
  exact ⟨_,_,ha,rfl,.inr ⟨by simp,by simp,rfl⟩⟩
def tw : List Ce -> Bool
 | []=>false
 | [_]=>false
 | a :: b :: r=>decide (a.x = b.x /\ a.y = b.y) || tw (b :: r)
def Zw (q : List Ce) : V:=if tw q = true then .tu [.m (.nl 4),.m (.i .i64 8)] else if 5000 < q.length then .tu [.m (.nl 4),.m (.i .i64 6)] else .tu [.m (zP q),.m (.i .i64 0)]
def Asc (q : List Ce) : Prop:=∀ (i j : Nat) (a b : Ce),i < j -> q[i]? = some a -> q[j]? = some b -> AW b a = false
theorem Uy (H : Hp) : Gives G 68 [.m (.nl 4),.m (.fn 69 [])] H (.tu []) H:=⟨40,by kernel_rfl⟩
theorem LS {r b n : Nat} {X A : Hp} {q : List Ce} (hn : q.length = n) (hb : b <= n) (k : Nat) : view (k + 2) (.cs 73 3 (Aw q) b false :: X) (.sl 0 n 3 0 n false) = some (.sl (Ag q)):=by
 have e : elems (.cs 73 3 (Aw q) b false :: X) (.sl 0 n 3 0 n false) = some (Aw q):=by
  show gd (Nat.ble b n && Nat.beq 3 3) (some (((Aw q).drop 0).take n)) = _
  rw [BG,AcI hb,List.drop_zero,AcP (by simp; omega)]
  rfl
 show Option.bind (elems _ (.sl 0 n 3 0 n false)) _ = _
 rw [e]
 show Option.bind (Ak _ (Aw q)) _ = _
 have ho : ∀ (H : Hp) (m : List Ce),Ak (fun e=>Ak (view (k + 1) H) e) (Aw m) = some (Ag m):=by
  intro H m
  induction m with
  | nil=>rfl
  | cons x t ih =>
   show Option.bind (some [I.i .i64 x.x,.i .i64 x.y,.i .i64 x.s]) _ = _
   simp only [AcG]
   show Option.bind (Ak _ (Aw t)) _ = _
   rw [ih]
   rfl
 rw [ho]
 rfl
theorem Ix {f : List Ce} {d' : Array Ce} (h : PermIn 0 f.length f.toArray d') : d'.toList.Perm f /\ d'.size = f.length:=by
 have hs : d'.size = f.length:=by rw [h.1]; simp
 refine ⟨?_,hs⟩
 have hp:=h.2.2
 have e1 : (d'.extract 0 f.length) = d':=by rw [<- hs]; simp
 have e2 : (f.toArray.extract 0 f.length) = f.toArray:=by
  have : f.length = f.toArray.size:=by simp
  rw [this]; simp
 rw [e1,e2] at hp
 simpa using hp
theorem VX {d' : Array Ce} {n : Nat} (hs : d'.size = n) (h : SortedIn AW 0 n d') : Asc d'.toList:=fun i j a b hij ha hb=>by
 obtain ⟨h1,rfl⟩:=Acy.1 ha
 obtain ⟨h2,rfl⟩:=Acy.1 hb
 have h1' : i < d'.size:=by simpa using h1
 have h2' : j < d'.size:=by simpa using h2
 have:=h i j (AcF _) hij (by omega)
 rw [getElem!_pos d' j h2',getElem!_pos d' i h1'] at this
 simpa using this
theorem LY (es : List (List V)) (ix : Nat) : DU 3 es ix 0 3 = (nth es ix).bind fun e=>DJ 3 e:=rfl
set_option maxHeartbeats 2000000 in
theorem VT {v : I} {p : List Ce} (hv : IsSl v (Ag p)) (hl : p.length <= 1000000) (H : Hp) :
  (∃ e,bad p = some e /\ Gives G 35 [.m v] H (.tu [.m (.nl 4),.m (.i .i64 e)]) H) \/ (bad p = none /\ ∃ q,q.Perm (liv p) /\ Asc q /\ Gives G 35 [.m v] H (Zw q) H):=by
 have hr:=hv.rules
 have key : ∃ x H',Gives G 35 [.m v] H x H' /\ (H' = H /\ ((∃ e,bad p = some e /\ x = .tu [.m (.nl 4),.m (.i .i64 e)]) \/ (bad p = none /\ ∃ q,q.Perm (liv p) /\ Asc q /\ x = Zw q))):=by
  refine AQ ?_
  refine Cu rfl rfl rfl rfl rfl ?_
  simp (maxSteps:=2000000) (disch:=omega) [hr]
  refine (?key : ∀ (i : Nat) (o : V) (B : List (Nat × List V)) (H1 : Hp),i <= p.length -> JC (liv (p.take i)) o H1 -> bad (p.take i) = none -> bad p = bad (p.drop i) -> Run G c35_B0 (S35_0 o (.m v) (.m (.i .i64 p.length)) (.m (.i .i64 (i : Int))) B H1) _) 0 (.m (.nl 4)) [] [] (AcF _) (.inl ⟨rfl,rfl,rfl⟩) rfl rfl
  refine Bk (fun i : Nat=>p.length - i) fun i ih o B H1 hi ho hbt hb=>?_
  have hnf : AB o = true:=by
   rcases ho with ⟨_,rfl,_⟩ | ⟨_,rfl,_⟩ <;> rfl
  have hfl : (liv (p.take i)).length <= i:=AdJ (List.length_filter_le _ _) (by rw [AcL]; omega)
  unfold c35_B0
  cases hx : p[i]? with
  | some c =>
   have hlt:=(Al hx).1
   have hlt' : (i : Int) < p.length:=by omega
   have hn:=An hx
   have wi : wr .i64 ((i : Int) + 1) = (i : Int) + 1:=Aa (by omega) (by omega)
   have g1:=fun H=>YO c H
   have g2:=fun H=>Gt c.x c.y H
   have e1 : bad (c :: p.drop (i + 1)) = match Lc c with | some e=>some e | none=>bad (p.drop (i + 1)):=rfl
   rw [(Al hx).2,e1] at hb
   have htk : p.take (i + 1) = p.take i ++ [c]:=Ap hx
   by_cases hp : AE c.x c.y = true
   ·rw [hp] at g2
    by_cases hs0 : c.s < 0
    ·have hbc : Lc c = some 10:=by unfold Lc; rw [Acz (by rw [hp]; simp),AcC (.inl hs0)]
     rw [hbc] at hb
     simp (maxSteps:=2000000) (disch:=omega) [Ab,hr,hlt',hn,cl (g1 _),cl (g2 _),hs0,hb]
    by_cases hs8 : 8 <= c.s
    ·have hbc : Lc c = some 10:=by unfold Lc; rw [Acz (by rw [hp]; simp),AcC (.inr hs8)]
     rw [hbc] at hb
     simp (maxSteps:=2000000) (disch:=omega) [Ab,hr,hlt',hn,cl (g1 _),cl (g2 _),hs0,hs8,hb]
    have hbc : Lc c = none:=by unfold Lc; rw [Acz (by rw [hp]; simp),Acz (by omega)]
    rw [hbc] at hb
    replace hb : bad p = bad (p.drop (i + 1)):=hb
    have hbt2 : bad (p.take (i + 1)) = none:=by
     rw [htk]
     have : ∀ l : List Ce,bad l = none -> bad (l ++ [c]) = none:=fun l=>by
      induction l with
      | nil=>intro _; show (match Lc c with | some e=>some e | none=>none) = none; rw [hbc]
      | cons d r ih =>
       intro h
       have f1 : bad (d :: r) = match Lc d with | some e=>some e | none=>bad r:=rfl
       have f2 : bad (d :: (r ++ [c])) = match Lc d with | some e=>some e | none=>bad (r ++ [c]):=rfl
       rw [AdD,f2]
       rw [f1] at h
       cases hd : Lc d with
       | some e=>rw [hd] at h; cases h
       | none=>rw [hd] at h; exact ih h
     exact this _ hbt
    by_cases hs1 : 0 < c.s
    ·have hlv : liv (p.take (i + 1)) = liv (p.take i) ++ [c]:=by
      rw [htk]
      unfold liv
      rw [List.filter_append]
      simp [hs1]
     obtain ⟨o1,H2,ha,hn1,ho1⟩:=BP ho (by omega) c
     rw [<- hlv] at ho1
     simp (maxSteps:=2000000) (disch:=omega) [Ab,hr,hlt',hn,cl (g1 _),cl (g2 _),hs0,hs8,hs1,ha,As hn1,wi]
     exact ih (i + 1) (by omega) _ _ _ (by omega) ho1 hbt2 hb
    ·have hlv : liv (p.take (i + 1)) = liv (p.take i):=by
      rw [htk]
      unfold liv
      rw [List.filter_append]
      simp [hs1]
     rw [<- hlv] at ho
     simp (maxSteps:=2000000) (disch:=omega) [Ab,hr,hlt',hn,cl (g1 _),cl (g2 _),hs0,hs8,hs1,wi]
     exact ih (i + 1) (by omega) _ _ _ (by omega) ho hbt2 hb
   ·rw [Bool.not_eq_true] at hp
    rw [hp] at g2
    have hbc : Lc c = some 5:=by unfold Lc; rw [AcC hp]
    rw [hbc] at hb
    simp (maxSteps:=2000000) (disch:=omega) [Ab,hr,hlt',hn,cl (g1 _),cl (g2 _),hb]
  | none =>
   have : i = p.length:=by have:=AcB.1 hx; omega
   subst this
   have hb0 : bad p = none:=by rw [hb,Ado]; rfl
   rw [AcV] at ho
   rcases ho with ⟨hf,rfl,rfl⟩ | ⟨hf,rfl,rfl⟩
   ·have gs:=fun H=>Uy H
    simp (maxSteps:=2000000) (disch:=omega) [cl (gs _),hb0]
    unfold c35_B1
    simp (maxSteps:=2000000) (disch:=omega) []
    exact ⟨[],by rw [hf],fun i j a b _ h=>by simp at h,rfl⟩
   ·generalize hfe : liv p = f at *
    clear ih hx
    have hfl2 : f.length <= 1000000:=by rw [<- hfe]; exact AdJ (List.length_filter_le _ _) (by omega)
    simp (maxSteps:=2000000) (disch:=omega) []
    rw [Ar]
    have hrow : Row.cs 73 3 (Aw f) 0 false = .cs 73 3 (AZ Oc f.toArray) 0 false:=by simp [AZ,Aw]
    rw [hrow]
    refine RC (A:=[]) (ceCmp []) NQ (n:=f.length) (by omega) [] Ady f.toArray 0 (by simp) (AcF _) _ fun d' b1 X hp hso hb1=>?_
    obtain ⟨hperm,hsz⟩:=Ix hp
    have hasc:=VX hsz hso
    have hrow2 : AZ Oc d' = Aw d'.toList:=rfl
    have hql : d'.toList.length = f.length:=by simpa using hsz
    rw [hrow2]
    generalize d'.toList = q at *
    have hres : Zw q = if tw q = true then .tu [.m (.nl 4),.m (.i .i64 8)] else if 5000 < q.length then .tu [.m (.nl 4),.m (.i .i64 6)] else .tu [.m (zP q),.m (.i .i64 0)]:=rfl
    have hq0 : q ≠ []:=fun e=>by subst e; simp at hql; exact hf (AcT hql.symm)
    obtain ⟨a0,r0,hqe⟩:=List.exists_cons_of_ne_nil hq0
    simp (maxSteps:=2000000) (disch:=omega) []
    refine (?key2 : ∀ (j : Nat) (B : List (Nat × List V)),1 <= j -> j <= q.length -> tw q = tw (q.drop (j - 1)) -> Run G c35_B1 (S35_1 (.sl 0 f.length 3 0 f.length false) (.m (.i .i64 (j : Int))) B (.cs 73 3 (Aw q) b1 false :: X)) _) 1 _ (AcD _) (by have:=List.length_pos_iff.2 hq0; omega) rfl
    refine Bk (fun j : Nat=>q.length - j) fun j ih B h1j hj htw=>?_
    unfold c35_B1
    have wj : wr .i64 ((j : Int) + 1) = (j : Int) + 1:=Aa (by omega) (by omega)
    have wj1 : wr .i64 ((j : Int) - 1) = (j : Int) - 1:=Aa (by omega) (by omega)
    cases hx : q[j]? with
    | some c =>
     have hlt:=(Al hx).1
     obtain ⟨a,ha⟩ : ∃ a,q[j - 1]? = some a:=⟨q[j - 1]'(by omega),AcA _⟩
     have hlt' : (j : Int) < f.length:=by omega
     have hltn : j < f.length:=by omega
     have hltm : (j : Int) - 1 < f.length:=by omega
     have h0m : (0 : Int) <= (j : Int) - 1:=by omega
     have htn : ((j : Int) - 1).toNat = j - 1:=by omega
     have hn:=CM hx
     have hna:=CM ha
     have e0 : q.drop (j - 1) = a :: c :: q.drop (j + 1):=by
      have:=(Al ha).2
      rw [this,show j - 1 + 1 = j by omega,(Al hx).2]
     have e1 : tw (a :: c :: q.drop (j + 1)) = (decide (a.x = c.x /\ a.y = c.y) || tw (c :: q.drop (j + 1))):=rfl
     rw [e0,e1] at htw
     have g1:=fun H=>YO a H
     have g2:=fun H=>YO c H
     by_cases heq : a.x = c.x /\ a.y = c.y
     ·rw [AcI heq,Bool.true_or] at htw
      rw [htw,AcC rfl] at hres
      have heq1 : (decide (a.x = c.x) && decide (a.y = c.y)) = true:=by simpa using heq
      simp (maxSteps:=2000000) (disch:=omega) [Ab,hlt',htn,wj1,hb1,LY,hn,hna,cl (g1 _),cl (g2 _),heq1,hb0]
      exact ⟨q,hperm,hasc,hres.symm⟩
     ·rw [AcH heq,Bool.false_or] at htw
      have heq2 : (decide (a.x = c.x) && decide (a.y = c.y)) = false:=by
       rw [Bool.eq_false_iff]
       simpa using heq
      simp (maxSteps:=2000000) (disch:=omega) [Ab,hlt',htn,wj1,hb1,LY,hn,hna,cl (g1 _),cl (g2 _),heq2,wj]
      exact ih (j + 1) (by omega) _ (by omega) (by omega) (by rw [htw,show j + 1 - 1 = j by omega,(Al hx).2])
    | none =>
     have : j = q.length:=by have:=AcB.1 hx; omega
     have hlt' : ¬ (j : Int) < f.length:=by omega
     have htw0 : tw q = false:=by
      rw [htw]
      have : (q.drop (j - 1)).length = 1:=by rw [Adf]; omega
      match hm : q.drop (j - 1),this with
      | [x],_=>rfl
     rw [htw0,Acz (by simp)] at hres
     by_cases h5 : 5000 < q.length
     ·have h5' : (5000 : Int) < f.length:=by omega
      rw [AcC h5] at hres
      simp (maxSteps:=2000000) (disch:=omega) [hlt',h5',hb0]
      exact ⟨q,hperm,hasc,hres.symm⟩
     ·have h5' : ¬ (5000 : Int) < f.length:=by omega
      rw [Acz h5] at hres
      have hv:=LS (r:=0) (X:=X) (A:=[]) hql hb1 18
      simp (maxSteps:=2000000) (disch:=omega) [hlt',h5',hb0,hv]
      refine ⟨q,hperm,hasc,?_⟩
      rw [hres]
      unfold zP
      rw [Acz hq0]
 obtain ⟨x,H',h1,rfl,h2⟩:=key
 rcases h2 with ⟨e,h3,rfl⟩ | ⟨h3,q,h4,h5,rfl⟩
 ·exact .inl ⟨e,h3,h1⟩
 ·exact .inr ⟨h3,q,h4,h5,h1⟩
end Go.Mx.Tryz
namespace Go.Mx.Tryz
open Go.Lib
theorem Rp {H : Hp} {r b : Nat} {q : List Ce} (h : nth H r = some (.cs 73 3 (Aw q) b false)) (hb : b <= q.length) (k : Nat) : view (k + 2) H (.sl r q.length 3 0 q.length false) = some (.sl (Ag q)):=by
 have e : elems H (.sl r q.length 3 0 q.length false) = some (Aw q):=by
  show Option.bind (nth H r) _ = _
  rw [h]
  show gd (Nat.ble b q.length && Nat.beq 3 3) (some (((Aw q).drop 0).take q.length)) = _
  rw [BG,AcI hb,List.drop_zero,AcP (by simp)]
  rfl
 show Option.bind (elems H (.sl r q.length 3 0 q.length false)) _ = _
 rw [e]
 show Option.bind (Ak _ (Aw q)) _ = _
 have ho : ∀ (H : Hp) (m : List Ce),Ak (fun e=>Ak (view (k + 1) H) e) (Aw m) = some (Ag m):=by
  intro H m
  induction m with
  | nil=>rfl
  | cons x t ih =>
   show Option.bind (some [I.i .i64 x.x,.i .i64 x.y,.i .i64 x.s]) _ = _
   simp only [AcG]
   show Option.bind (Ak _ (Aw t)) _ = _
   rw [ih]
   rfl
 rw [ho]
 rfl
theorem Hx (q : List Ce) : ((Aw q).all fun e=>e.all isM) = true:=by
 simp [Aw,Oc,Ce.i,isM]
def apart (a b : Ce) : Prop:=¬ (a.x = b.x /\ a.y = b.y)
theorem Ob : ∀ (p : List Ce) (o : Option Ce),CE o p = true -> p.Pairwise (fun a b=>AW a b = true) /\ (∀ a,o = some a -> ∀ d,d ∈ p -> AW a d = true) /\ ∀ d,d ∈ p -> Cj d = true
 | [],_,_=>⟨.nil,fun _ _ d hd=>by simp at hd,fun d hd=>by simp at hd⟩
 | c :: r,o,h=>by
  have h' : Cj c = true /\ (∀ a,o = some a -> AW a c = true) /\ CE (some c) r = true:=by
   cases o with
   | none =>
    have : (Cj c && CE (some c) r) = true:=h
    rw [Acx] at this
    exact ⟨this.1,fun _ h=>(by cases h),this.2⟩
   | some a =>
    have : (Cj c && AW a c && CE (some c) r) = true:=h
    simp only [Acx] at this
    exact ⟨this.1.1,fun _ h=>(by cases h; exact this.1.2),this.2⟩
  obtain ⟨g1,g2,g3⟩:=h'
  obtain ⟨i1,i2,i3⟩:=Ob r (some c) g3
  refine ⟨Adl.2 ⟨fun d hd=>i2 c rfl d hd,i1⟩,fun a ha d hd=>?_,fun d hd=>?_⟩
  ·rcases AcU.1 hd with rfl | hd
   ·exact g2 a ha
   ·have h1:=g2 a ha
    have h2:=i2 c rfl d hd
    unfold AW at *
    grind
  ·rcases AcU.1 hd with rfl | hd
   ·exact g1
   ·exact i3 d hd
theorem Az {p : List Ce} (h : AP p = true) : p.Pairwise (fun a b=>AW a b = true) /\ (∀ d,d ∈ p -> Cj d = true) /\ p.length <= 5000:=by
 unfold AP at h
 simp only [Acx,AcK] at h
 have:=Ob p none h.2
 exact ⟨this.1,this.2.2,h.1⟩
theorem GD : ∀ {p : List Ce},(∀ c,c ∈ p -> Cj c = true) -> bad p = none
 | [],_=>rfl
 | c :: r,h=>by
  have hc:=h c (by simp)
  unfold Cj at hc
  simp only [Acx,AcK] at hc
  have e : Lc c = none:=by
   unfold Lc
   rw [Acz (by rw [hc.1.1]; simp),Acz (by omega)]
  have e2 : bad (c :: r) = match Lc c with | some e=>some e | none=>bad r:=rfl
  rw [e2,e]
  exact GD fun d hd=>h d (by simp [hd])
theorem XO : ∀ {p : List Ce},p.Pairwise (fun a b=>AW a b = true) -> tw p = false
 | [],_=>rfl
 | [_],_=>rfl
 | a :: b :: r,h=>by
  have e : tw (a :: b :: r) = (decide (a.x = b.x /\ a.y = b.y) || tw (b :: r)):=rfl
  obtain ⟨h1,h2⟩:=Adl.1 h
  have:=h1 b (by simp)
  rw [e,XO h2,Bool.or_false]
  unfold AW at this
  simp at this ⊢
  omega
theorem Aco {p q : List Ce} (hw : p.Pairwise (fun a b=>AW a b = true)) (hq : Asc q) (hpm : q.Perm p) : q = p:=by
 have hqp : q.Pairwise (fun a b=>AW b a = false):=by
  rw [Adt]
  intro i j hi hj hij
  exact hq i j _ _ hij (AcA hi) (AcA hj)
 have hpp : p.Pairwise (fun a b=>AW b a = false):=hw.imp fun {a b} h=>by
  unfold AW at *
  simp at h ⊢
  omega
 refine hpm.eq_of_pairwise (fun a b ha hb h1 h2=>?_) hqp hpp
 have ha' : a ∈ p:=hpm.mem_iff.1 ha
 obtain ⟨i,hi,rfl⟩:=List.mem_iff_getElem.1 ha'
 obtain ⟨j,hj,rfl⟩:=List.mem_iff_getElem.1 hb
 rcases Nat.lt_trichotomy i j with h | h | h
 ·have:=Adt.1 hw i j hi hj h
  rw [this] at h2; cases h2
 ·subst h; rfl
 ·have:=Adt.1 hw j i hj hi h
  rw [this] at h1; cases h1
theorem FP {p q : List Ce} (h : q.Perm p) (ha : p.Pairwise apart) : q.Pairwise apart:=by
 refine (h.pairwise_iff (fun {a b} hab=>?_)).2 ha
 exact fun ⟨h1,h2⟩=>hab ⟨h1.symm,h2.symm⟩
theorem SQ {q : List Ce} (ha : Asc q) (hp : q.Pairwise apart) : q.Pairwise (fun a b=>AW a b = true):=by
 rw [Adt] at hp ⊢
 intro i j hi hj hij
 have h1:=ha i j _ _ hij (AcA hi) (AcA hj)
 have h2:=hp i j hi hj hij
 unfold AW at *
 unfold apart at h2
 simp at *
 omega
theorem Jt {c : Ce} (h : Cj c = true) : AE c.x c.y = true /\ 1 <= c.s /\ c.s < 8:=by
 unfold Cj at h
 simp only [Acx,AcK] at h
 exact ⟨h.1.1,h.1.2,h.2⟩
theorem NP {p : List Ce} (h : ∀ c,c ∈ p -> Cj c = true) : liv p = p:=by
 unfold liv
 rw [List.filter_eq_self]
 intro c hc
 have:=Jt (h c hc)
 exact AcI (by omega)
theorem Fn : ∀ {p : List Ce},p.Pairwise (fun a b=>AW a b = true) -> (∀ c,c ∈ p -> Cj c = true) -> p.length <= 5000 -> AP p = true:=fun {p} h1 h2 h3=>by
 have key : ∀ (p : List Ce) (o : Option Ce),p.Pairwise (fun a b=>AW a b = true) -> (∀ a,o = some a -> ∀ d,d ∈ p -> AW a d = true) -> (∀ c,c ∈ p -> Cj c = true) -> CE o p = true:=by
  intro p
  induction p with
  | nil=>intro o _ _ _; cases o <;> rfl
  | cons c r ih =>
   intro o h1 h2 h3
   obtain ⟨h4,h5⟩:=Adl.1 h1
   have i:=ih (some c) h5 (fun a ha d hd=>by cases ha; exact h4 d hd) (fun d hd=>h3 d (AdI _ hd))
   cases o with
   | none =>
    show (Cj c && CE (some c) r) = true
    rw [h3 c (AcX ..),i]
    rfl
   | some a =>
    show (Cj c && AW a c && CE (some c) r) = true
    rw [h3 c (AcX ..),i,h2 a rfl c (AcX ..)]
    rfl
 unfold AP
 rw [AcI h3,key p none h1 (fun a h=>by cases h) h2]
 rfl
end Go.Mx.Tryz
set_option maxHeartbeats 4000000
namespace Go.Mx.Tryz
open Go.Sort Go.Lib Go.Proofs
def Lg (c : Ce) : List Ce -> List Ce
 | []=>[c]
 | d :: r=>if AW c d = true then c :: d :: r else d :: Lg c r
theorem Fr (c : Ce) : ∀ p,(Lg c p).Perm (c :: p)
 | []=>List.Perm.refl _
 | d :: r=>by
  unfold Lg
  split
  ·exact List.Perm.refl _
  ·exact ((Fr c r).cons d).trans (List.Perm.swap c d r)
theorem UN (c : Ce) (p : List Ce) : (Lg c p).length = p.length + 1:=(Fr c p).length_eq
theorem YD {a b c : Ce} (h1 : AW a b = true) (h2 : AW b c = true) : AW a c = true:=by
 unfold AW at *
 simp at *
 omega
theorem OZ {a b : Ce} (h : apart a b) (h1 : AW a b = false) : AW b a = true:=by
 unfold AW at *
 unfold apart at h
 simp at *
 omega
theorem IG {a b : Ce} (h : apart a b) : apart b a:=fun ⟨h1,h2⟩=>h ⟨h1.symm,h2.symm⟩
theorem Sw (c : Ce) : ∀ p : List Ce,p.Pairwise (fun a b=>AW a b = true) -> (∀ d,d ∈ p -> apart c d) -> (Lg c p).Pairwise (fun a b=>AW a b = true)
 | [],_,_=>by simp [Lg]
 | d :: r,h,ha=>by
  obtain ⟨h1,h2⟩:=Adl.1 h
  unfold Lg
  split
  ·rename_i hl
   refine Adl.2 ⟨fun e he=>?_,h⟩
   rcases AcU.1 he with rfl | he
   ·exact hl
   ·exact YD hl (h1 e he)
  ·rename_i hl
   refine Adl.2 ⟨fun e he=>?_,Sw c r h2 fun e he=>ha e (AdI _ he)⟩
   rcases AcU.1 ((Fr c r).mem_iff.1 he) with rfl | he
   ·exact OZ (ha d (AcX ..)) (by simpa using hl)
   ·exact h1 e he
def Ci (p : List Ce) : List Ce:=p.foldl (fun a c=>Lg c a) []
theorem Iv (p : List Ce) (c : Ce) : Ci (p ++ [c]) = Lg c (Ci p):=by simp [Ci]
theorem FL : ∀ n (p : List Ce),p.length = n -> (Ci p).Perm p /\ (p.Pairwise apart -> (Ci p).Pairwise (fun a b=>AW a b = true))
 | 0,p,h=>by
  have : p = []:=AcT h
  subst this
  exact ⟨List.Perm.refl _,fun _=>List.Pairwise.nil⟩
 | n + 1,p,h=>by
  obtain ⟨q,c,rfl⟩ : ∃ q c,p = q ++ [c]:=⟨p.dropLast,p.getLast (by intro e; rw [e] at h; simp at h),(List.dropLast_concat_getLast _).symm⟩
  have hq : q.length = n:=by simpa using h
  obtain ⟨h1,h2⟩:=FL n q hq
  rw [Iv]
  refine ⟨(Fr c _).trans ((h1.cons c).trans (List.perm_append_singleton c q).symm),fun hp=>?_⟩
  rw [Adv] at hp
  refine Sw c _ (h2 hp.1) fun d hd=>?_
  exact IG (hp.2.2 d (h1.mem_iff.1 hd) c (List.mem_singleton_self c))
theorem Ev (p : List Ce) : (Ci p).Perm p:=(FL _ p rfl).1
theorem Gr {p : List Ce} (h : p.Pairwise apart) : (Ci p).Pairwise (fun a b=>AW a b = true):=(FL _ p rfl).2 h
theorem Ef (p : List Ce) : (Ci p).length = p.length:=(Ev p).length_eq
theorem RM {p q : List Ce} (hp : p.Pairwise (fun a b=>AW a b = true)) (hq : q.Pairwise (fun a b=>AW a b = true)) (h : q.Perm p) : q = p:=by
 refine Aco hp (fun i j a b hij ha hb=>?_) h
 obtain ⟨h1,rfl⟩:=Acy.1 ha
 obtain ⟨h2,rfl⟩:=Acy.1 hb
 have:=Adt.1 hq i j h1 h2 hij
 unfold AW at *
 simp at *
 omega
theorem Cb {f : List Ce} {o : V} {H : Hp} (h : JC f o H) : viewR H o = some (.m (zP f)) /\ AB o = true:=by
 rcases h with ⟨rfl,rfl,rfl⟩ | ⟨hne,rfl,rfl⟩
 ·exact ⟨rfl,rfl⟩
 ·have:=LS (r:=0) (b:=0) (X:=[]) (A:=[]) (q:=f) (n:=f.length) rfl (AcF _) 18
  refine ⟨?_,rfl⟩
  show (view 20 _ _).bind _ = _
  rw [this]
  unfold zP
  rw [Acz hne]
  rfl
theorem UM {v : I} {p : List Ce} (hv : IsSl v (Ag p)) (hl : p.length <= 900000) (c : Ce) (H : Hp) : Gives G 79 [.m v,.m (.ag [.i .i64 c.x,.i .i64 c.y,.i .i64 c.s])] H (.m (zP (Lg c p))) H:=by
 have hr:=hv.rules
 simp only [show (Ag p).length = p.length from by simp [Ag]] at hr
 refine Ae rfl rfl rfl rfl rfl ?_
 simp (maxSteps:=2000000) (disch:=omega) []
 refine (?key : ∀ (i : Nat) (dn : Bool) (f : List Ce) (o : V) (B : List (Nat × List V)) (H1 : Hp),i <= p.length -> (if dn then Lg c p = f ++ p.drop i else f = p.take i /\ Lg c p = p.take i ++ Lg c (p.drop i)) -> JC f o H1 -> getB B 3 = some [.m (.i .i64 c.x),.m (.i .i64 c.y),.m (.i .i64 c.s)] -> Run G c79_B0 (S79_0 (.m v) (.fa 3 0) o (.m (.b dn)) (.m (.i .i64 (i : Int))) B H1) _) 0 false [] _ _ _ (AcF _) ⟨rfl,rfl⟩ (.inl ⟨rfl,rfl,rfl⟩) rfl
 refine Bk (fun i : Nat=>p.length - i) fun i ih dn f o B H1 hi hd ho hB=>?_
 obtain ⟨hvw,hnf⟩:=Cb ho
 unfold c79_B0
 cases hx : p[i]? with
 | some d =>
  have hlt:=(Al hx).1
  have hlt' : (i : Int) < p.length:=by omega
  have hn:=An hx
  have wi : wr .i64 ((i : Int) + 1) = (i : Int) + 1:=Aa (by omega) (by omega)
  have gb:=fun H=>Jx c d H
  have hdr:=(Al hx).2
  have htk : p.take (i + 1) = p.take i ++ [d]:=Ap hx
  cases dn with
  | true =>
   simp only [if_true] at hd
   have hfl : f.length <= 900001:=by
    have:=congrArg List.length hd
    rw [UN,AcN] at this
    omega
   obtain ⟨o1,H2,ha,hn1,ho1⟩:=BP ho (by omega) d
   simp (maxSteps:=2000000) (disch:=omega) [hr,hlt',hn,wi,hB,Ad,ha,As hn1]
   exact ih (i + 1) (by omega) true _ _ _ _ (by omega) (by simp only [if_true]; rw [hd,hdr]; simp) ho1 hB
  | false =>
   simp only [AdG,if_false] at hd
   obtain ⟨rfl,hd2⟩:=hd
   have hfl : (p.take i).length <= 900000:=by rw [AcL]; omega
   cases hb : AW c d with
   | true =>
    rw [hb] at gb
    obtain ⟨o1,H2,ha,hn1,ho1⟩:=BP ho (by omega) c
    obtain ⟨o2,H3,ha2,hn2,ho2⟩:=BP ho1 (by simp; omega) d
    simp (maxSteps:=2000000) (disch:=omega) [hr,hlt',hn,wi,hB,Ad,cl (gb _),ha,As hn1,ha2,As hn2]
    refine ih (i + 1) (by omega) true _ _ _ _ (by omega) ?_ ho2 hB
    simp only [if_true]
    rw [hd2,hdr]
    simp [Lg,hb]
   | false =>
    rw [hb] at gb
    obtain ⟨o1,H2,ha,hn1,ho1⟩:=BP ho (by omega) d
    simp (maxSteps:=2000000) (disch:=omega) [hr,hlt',hn,wi,hB,Ad,cl (gb _),ha,As hn1]
    refine ih (i + 1) (by omega) false _ _ _ _ (by omega) ?_ ho1 hB
    simp only [AdG,if_false]
    refine ⟨htk.symm,?_⟩
    rw [hd2,hdr,htk]
    simp [Lg,hb]
 | none =>
  have : i = p.length:=by have:=AcB.1 hx; omega
  subst this
  clear ih
  cases dn with
  | true =>
   simp only [if_true,Ado,Adw] at hd
   simp (maxSteps:=2000000) (disch:=omega) [hr,hvw,hnf,As hnf,hd]
  | false =>
   simp only [AdG,if_false,Ado,AcV] at hd
   obtain ⟨rfl,hd2⟩:=hd
   obtain ⟨o1,H2,ha,hn1,ho1⟩:=BP ho (by omega) c
   obtain ⟨hvw1,_⟩:=Cb ho1
   have e : Lg c f = f ++ [c]:=hd2
   simp (maxSteps:=2000000) (disch:=omega) [hr,hB,ha,As hn1,hvw1,hn1,e]
theorem HA {v : I} {p : List Ce} (hv : IsSl v (Ag p)) (hl : p.length <= 5000) (hg : ∀ c,c ∈ p -> Cj c = true) (ha : p.Pairwise apart) (H : Hp) : Gives G 40 [.m v] H (.tu [.m (zP (Ci p)),.m (.i .i64 0)]) H:=by
 have hr:=hv.rules
 simp only [show (Ag p).length = p.length from by simp [Ag]] at hr
 refine Ae rfl rfl rfl rfl rfl ?_
 simp (maxSteps:=2000000) (disch:=omega) []
 refine (?key : ∀ (i : Nat) (B : List (Nat × List V)),i <= p.length -> Run G c40_B0 (S40_0 (.m v) (.m (.nl 4)) (.m (.i .i64 (i : Int))) B []) _) 0 _ (AcF _)
 refine Bk (fun i : Nat=>p.length - i) fun i ih B hi=>?_
 unfold c40_B0
 cases hx : p[i]? with
 | some c =>
  have hlt:=(Al hx).1
  have hlt' : (i : Int) < p.length:=by omega
  have hn:=An hx
  have wi : wr .i64 ((i : Int) + 1) = (i : Int) + 1:=Aa (by omega) (by omega)
  obtain ⟨h1,h2,h3⟩:=Jt (hg c (AcE hx))
  have gp:=fun H=>Gu c.x c.y H
  rw [h1] at gp
  have h4 : ¬ c.s < 0:=by omega
  have h5 : ¬ 8 <= c.s:=by omega
  simp (maxSteps:=2000000) (disch:=omega) [hr,hlt',hn,wi,cl (gp _),h4,h5]
  exact ih (i + 1) (by omega) _ (by omega)
 | none =>
  have : i = p.length:=by have:=AcB.1 hx; omega
  subst this
  clear ih hx hi
  simp (maxSteps:=2000000) (disch:=omega) [hr]
  refine (?key2 : ∀ (i : Nat) (z : I) (B : List (Nat × List V)),i <= p.length -> z = zP (Ci (p.take i)) -> Run G c40_B1 (S40_1 (.m v) (.m z) (.m (.i .i64 (i : Int))) B []) _) 0 (.nl 4) _ (AcF _) rfl
  refine Bk (fun i : Nat=>p.length - i) fun i ih z B hi hz=>?_
  unfold c40_B1
  cases hx : p[i]? with
  | some c =>
   have hlt:=(Al hx).1
   have hlt' : (i : Int) < p.length:=by omega
   have hn:=An hx
   have wi : wr .i64 ((i : Int) + 1) = (i : Int) + 1:=Aa (by omega) (by omega)
   obtain ⟨h1,h2,h3⟩:=Jt (hg c (AcE hx))
   have h4 : ¬ c.s = 0:=by omega
   have htk : p.take (i + 1) = p.take i ++ [c]:=Ap hx
   have gi:=fun H=>UM (v:=z) (by rw [hz]; exact Cr _) (by rw [Ef,AcL]; omega) c H
   rw [<- Iv,<- htk] at gi
   simp (maxSteps:=2000000) (disch:=omega) [hr,hlt',hn,wi,cl (gi _),h4]
   exact ih (i + 1) (by omega) _ _ (by omega) rfl
  | none =>
   have : i = p.length:=by have:=AcB.1 hx; omega
   subst this
   clear ih hx hi
   rw [AcV] at hz
   have hs : IsSl z (Ag (Ci p)):=by rw [hz]; exact Cr _
   have hrs:=hs.rules
   have hpw:=Gr ha
   have hsl:=Ef p
   simp only [show (Ag (Ci p)).length = p.length from by simp [Ag,hsl]] at hrs
   generalize hq : Ci p = q at *
   rw [<- hz]
   simp (maxSteps:=2000000) (disch:=omega) [hr]
   refine (?key3 : ∀ (j : Nat) (B : List (Nat × List V)),1 <= j -> Run G c40_B2 (S40_2 (.m z) (.m (.i .i64 (j : Int))) B []) _) 1 _ (AcD _)
   refine Bk (fun j : Nat=>q.length - j) fun j ih B h1j=>?_
   unfold c40_B2
   cases hx : q[j]? with
   | some c =>
    have hlt:=(Al hx).1
    have hlt2 : j < p.length:=by omega
    have hlt' : (j : Int) < p.length:=by omega
    have wj : wr .i64 ((j : Int) + 1) = (j : Int) + 1:=Aa (by omega) (by omega)
    have wj1 : wr .i64 ((j : Int) - 1) = (j : Int) - 1:=Aa (by omega) (by omega)
    obtain ⟨a,hax⟩ : ∃ a,q[j - 1]? = some a:=⟨q[j - 1]'(by omega),AcA _⟩
    have hn:=An hx
    have hna:=An hax
    have hltm : (j : Int) - 1 < p.length:=by omega
    have h0m : (0 : Int) <= (j : Int) - 1:=by omega
    have htn : ((j : Int) - 1).toNat = j - 1:=by omega
    have hls : AW a c = true:=by
     obtain ⟨h1,rfl⟩:=Acy.1 hax
     obtain ⟨h2,rfl⟩:=Acy.1 hx
     exact Adt.1 hpw _ _ h1 h2 (by omega)
    have gb:=fun H=>Jx a c H
    rw [hls] at gb
    simp (maxSteps:=2000000) (disch:=omega) [hrs,hlt',htn,hn,hna,wj,wj1,cl (gb _)]
    exact ih (j + 1) (by omega) _ (by omega)
   | none =>
    have hj : q.length <= j:=AcB.1 hx
    have hlt' : ¬ (j : Int) < p.length:=by omega
    have h5 : ¬ (5000 : Int) < p.length:=by omega
    simp (maxSteps:=2000000) (disch:=omega) [hrs,hlt',h5]
def mvC (a b : Int) (c : Ce) : Ce:=⟨c.x - a,c.y - b,c.s⟩
def tnC (k : Nat) (c : Ce) : Ce:=⟨(CF k c.x c.y).1,(CF k c.x c.y).2,c.s⟩
def FX : List Ce -> Int
 | []=>0
 | c :: r=>mnF c.x ((c :: r).map Ce.x)
def FO : List Ce -> Int
 | []=>0
 | c :: r=>mnF c.y ((c :: r).map Ce.y)
def Bn (p : List Ce) : List Ce:=p.map (mvC (FX p) (FO p))
theorem FM (f : List Ce) (c : Ce) : Aw f ++ [[.m (.i .i64 c.x),.m (.i .i64 c.y),.m (.i .i64 c.s)]] = Aw (f ++ [c]):=by simp [Aw,Oc,Ce.i]
theorem KJ (f : List Ce) (hl : f.length <= 1000000) (c : Ce) (B : List (Nat × List V)) : EJ ⟨B,[.cs 73 3 (Aw f) 0 false]⟩ 73 3 24 (.sl 0 f.length 3 0 f.length false) [[.m (.i .i64 c.x),.m (.i .i64 c.y),.m (.i .i64 c.s)]] = some (.sl 0 (f ++ [c]).length 3 0 (f ++ [c]).length false,⟨B,[.cs 73 3 (Aw (f ++ [c])) 0 false]⟩):=by
 have ha:=Dc (M:=⟨B,[.cs 73 3 (Aw f) 0 false]⟩) (r:=0) (bytes:=24) (xs:=[[.m (.i .i64 c.x),.m (.i .i64 c.y),.m (.i .i64 c.s)]]) rfl (by simp) (by simp; omega) rfl
 simp only [BH,Adk,Adp,AdF,List.set_cons_zero,FM] at ha
 rw [ha]
 simp
theorem AG {p : List Ce} (h : AP p = true) {c : Ce} (hc : c ∈ p) : (-1048576 <= c.x /\ c.x <= 1048576) /\ (-1048576 <= c.y /\ c.y <= 1048576) /\ 1 <= c.s /\ c.s < 8:=by
 have:=(Az h).2.1 c hc
 unfold Cj AE at this
 simp only [Acx,AcK] at this
 omega
theorem NO {p : List Ce} (h : AP p = true) : -1048576 <= FX p /\ FX p <= 1048576:=by
 cases p with
 | nil=>simp [FX]
 | cons c r =>
  have hb:=AG h (AcX ..)
  have h1 : mnF c.x ((c :: r).map Ce.x) <= c.x:=(HG _ _).1
  have h2 : -1048576 <= mnF c.x ((c :: r).map Ce.x):=IA _ _ _ ⟨by omega,fun y hy=>by
   obtain ⟨d,hd,rfl⟩:=Adc.1 hy
   have:=AG h hd
   omega⟩
  show -1048576 <= mnF c.x ((c :: r).map Ce.x) /\ mnF c.x ((c :: r).map Ce.x) <= 1048576
  omega
theorem NN {p : List Ce} (h : AP p = true) : -1048576 <= FO p /\ FO p <= 1048576:=by
 cases p with
 | nil=>simp [FO]
 | cons c r =>
  have hb:=AG h (AcX ..)
  have h1 : mnF c.y ((c :: r).map Ce.y) <= c.y:=(HG _ _).1
  have h2 : -1048576 <= mnF c.y ((c :: r).map Ce.y):=IA _ _ _ ⟨by omega,fun y hy=>by
   obtain ⟨d,hd,rfl⟩:=Adc.1 hy
   have:=AG h hd
   omega⟩
  show -1048576 <= mnF c.y ((c :: r).map Ce.y) /\ mnF c.y ((c :: r).map Ce.y) <= 1048576
  omega
theorem VS {v : I} {p : List Ce} (hv : IsSl v (Ag p)) (hp : AP p = true) (H : Hp) : Gives G 88 [.m v] H (.m (if p = [] then v else .sl (Ag (Bn p)))) H:=by
 have hl : p.length <= 5000:=(Az hp).2.2
 have hr:=hv.rules
 have gb:=fun H=>Acl hv (by omega) H
 have gr:=fun H=>Da hv (by omega) H
 rw [hp] at gr
 refine Ae rfl rfl rfl rfl rfl ?_
 cases hpe : p with
 | nil =>
  subst hpe
  simp (maxSteps:=2000000) (disch:=omega) [Ab,Ad,cl (gb _),Od,Lb]
 | cons c0 r0 =>
  have hne : p ≠ []:=by rw [hpe]; simp
  rw [<- hpe]
  obtain ⟨bw,bh,hbc⟩ : ∃ bw bh,Lb p = [FX p,FO p,bw,bh]:=by
   obtain ⟨d,hd⟩ : ∃ d,(c0 :: r0)[(c0 :: r0).length - 1]? = some d:=⟨_,AcA (by simp)⟩
   have hy:=(Jl (by rw [<- hpe]; exact hp) hd).1
   have hlow : FO (c0 :: r0) = c0.y:=hy
   have hp' : AP (c0 :: r0) = true:=by rw [<- hpe]; exact hp
   rw [hpe]
   simp only [Lb]
   rw [AcC hp',hlow]
   exact ⟨_,_,rfl⟩
  have hbv : Od p = .tu [.m (.ag [.i .i64 (FX p),.i .i64 (FO p),.i .i64 bw,.i .i64 bh]),.m (.b true)]:=by
   unfold Od
   rw [hbc,hp]
   simp [hne]
  rw [hbv] at gb
  have hlx:=NO hp
  have hly:=NN hp
  have hnc : Nat.beq 0 p.length = false:=by cases hq : p with | nil=>exact absurd hq hne | cons _ _=>rfl
  simp only [show (Ag p).length = p.length from by simp [Ag]] at hr
  have hcap : p.length * 24 <= 281474976710656:=by omega
  have hcap2 : p.length <= 9223372036854775807:=by omega
  have hdc : decide (0 = p.length) = false:=by rw [<- ER]; exact hnc
  simp (maxSteps:=2000000) (disch:=omega) [Ab,hr,Ad,cl (gb _),cl (gr _),hne,hcap,hcap2,hdc]
  refine (?key : ∀ (i : Nat) (f : List Ce) (B : List (Nat × List V)),i <= p.length -> f = (p.take i).map (mvC (FX p) (FO p)) -> getB B 3 = some [.m (.i .i64 (FX p)),.m (.i .i64 (FO p)),.m (.i .i64 bw),.m (.i .i64 bh)] -> Run G c88_B0 (S88_0 (.fa 3 0) (.sl 0 f.length 3 0 f.length false) (.m v) (.m (.i .i64 p.length)) (.m (.i .i64 (i : Int))) B [.cs 73 3 (Aw f) 0 false]) _) 0 [] [(3,[.m (.i .i64 (FX p)),.m (.i .i64 (FO p)),.m (.i .i64 bw),.m (.i .i64 bh)])] (AcF _) rfl rfl
  refine Bk (fun i : Nat=>p.length - i) fun i ih f B hi hf0 hB=>?_
  unfold c88_B0
  cases hx : p[i]? with
  | some c =>
   have hlt:=(Al hx).1
   have hlt' : (i : Int) < p.length:=by omega
   have hn:=An hx
   have wi : wr .i64 ((i : Int) + 1) = (i : Int) + 1:=Aa (by omega) (by omega)
   have htk : p.take (i + 1) = p.take i ++ [c]:=Ap hx
   have hb:=AG hp (AcE hx)
   have w1 : wr .i64 (c.x - FX p) = c.x - FX p:=Aa (by omega) (by omega)
   have w2 : wr .i64 (c.y - FO p) = c.y - FO p:=Aa (by omega) (by omega)
   have hf : f.length <= 1000000:=by rw [hf0,AcR,AcL]; omega
   have ha:=fun B=>KJ f hf (mvC (FX p) (FO p) c) B
   have e : f ++ [mvC (FX p) (FO p) c] = (p.take (i + 1)).map (mvC (FX p) (FO p)):=by rw [htk,hf0]; simp
   have ih':=ih (i + 1) (by omega) (f ++ [mvC (FX p) (FO p) c])
   clear ih hf0
   generalize f ++ [mvC (FX p) (FO p) c] = f' at *
   simp only [mvC] at ha
   simp (maxSteps:=2000000) (disch:=omega) [Ab,hr,hlt',hn,wi,hB,w1,w2,ha]
   exact ih' _ (by omega) e (by simpa using hB)
  | none =>
   have : i = p.length:=by have:=AcB.1 hx; omega
   subst this
   clear ih
   rw [AcV] at hf0
   have hvv:=LS (r:=0) (b:=0) (X:=[]) (A:=[]) (q:=Bn p) (n:=(Bn p).length) rfl (AcF _) 18
   have e : f = Bn p:=hf0
   rw [e]
   clear e hf0
   generalize Bn p = f at *
   have hvr : viewR [.cs 73 3 (Aw f) 0 false] (.sl 0 f.length 3 0 f.length false) = some (.m (.sl (Ag f))):=by
    show (view 20 _ _).bind _ = _
    rw [hvv]
    rfl
   simp (maxSteps:=2000000) (disch:=omega) [hvr]
theorem NG (a b : Ce) (H : Hp) : Gives G 121 [.m (.ag [.i .i64 a.x,.i .i64 a.y,.i .i64 a.s]),.m (.ag [.i .i64 b.x,.i .i64 b.y,.i .i64 b.s])] H (.m (.i .i64 (Jw a.x a.y b.x b.y))) H:=by
 refine Ae rfl rfl rfl rfl rfl ?_
 have hv:=Ba (vs:=[.ls [[.i .i64 (Dr a.y b.y)],[.i .i64 (Dr a.x b.x)]]]) (H:=[]) rfl rfl (AbK (Dr a.y b.y) (Dr a.x b.x) []) rfl (.inl ⟨rfl,rfl⟩)
 simp [cl (Acg _ _ _),cl hv,Jw]
def Acj (A : Hp) : Cmp Oc A 121 AW where
 ok _:=True
 ext _ _ _:=Ady
 cmp a b:=Jw a.x a.y b.x b.y
 neg a b:=by
  unfold Jw AW
  grind [Dr]
 run a b row C _:=NG a b _
theorem Vh {k : Nat} {x y : Int} (hx : -1048576 <= x /\ x <= 1048576) (hy : -1048576 <= y /\ y <= 1048576) : (-1048576 <= (CF k x y).1 /\ (CF k x y).1 <= 1048576) /\ (-1048576 <= (CF k x y).2 /\ (CF k x y).2 <= 1048576):=by
 unfold CF
 split <;> dsimp only <;> omega
theorem Vg {k : Nat} {x y z w : Int} (h1 : (CF k x y).1 = (CF k z w).1) (h2 : (CF k x y).2 = (CF k z w).2) : x = z /\ y = w:=by
 unfold CF at h1 h2
 split at h1 <;> simp at h1 h2 <;> omega
theorem Gs {p : List Ce} (h : p.Pairwise (fun a b=>AW a b = true)) : p.Pairwise apart:=h.imp fun {a b} h=>by
 unfold AW at h
 unfold apart
 simp at h
 omega
def Pl (k : Nat) (p q : List Ce) : Prop:=q.Perm (p.map (tnC k)) /\ q.Pairwise (fun a b=>AW a b = true)
theorem FJ (k : Nat) {p : List Ce} (h : p.Pairwise apart) : (p.map (tnC k)).Pairwise apart:=by
 rw [List.pairwise_map]
 refine h.imp fun {a b} h h2=>h ?_
 exact Vg (k:=k) h2.1 h2.2
theorem Iq {k : Nat} {p q : List Ce} (hp : AP p = true) (h : Pl k p q) : AP q = true:=by
 obtain ⟨h1,h2⟩:=h
 obtain ⟨_,h4,h5⟩:=Az hp
 refine Fn h2 (fun c hc=>?_) (by rw [h1.length_eq,AcR]; exact h5)
 obtain ⟨d,hd,rfl⟩:=Adc.1 (h1.mem_iff.1 hc)
 have hb:=AG hp hd
 have:=Vh (k:=k) hb.1 hb.2.1
 unfold Cj AE tnC
 simp only [Acx,AcK]
 omega
theorem VF {v : I} {p : List Ce} (hv : IsSl v (Ag p)) (hp : AP p = true) (k : Int) (H : Hp) : ∃ q,Pl (CN k) p q /\ Gives G 87 [.m (.i .i64 k),.m v] H (.tu [.m (.sl (Ag q)),.m (.i .i64 0)]) H:=by
 have hl : p.length <= 5000:=(Az hp).2.2
 have hr:=hv.rules
 simp only [show (Ag p).length = p.length from by simp [Ag]] at hr
 have gr:=fun H=>Da hv (by omega) H
 rw [hp] at gr
 have key : ∃ x H',Gives G 87 [.m (.i .i64 k),.m v] H x H' /\ (H' = H /\ ∃ q,Pl (CN k) p q /\ x = .tu [.m (.sl (Ag q)),.m (.i .i64 0)]):=by
  refine AQ ?_
  refine Cu rfl rfl rfl rfl rfl ?_
  have hcap : p.length * 24 <= 281474976710656:=by omega
  have hcap2 : p.length <= 9223372036854775807:=by omega
  simp (maxSteps:=2000000) (disch:=omega) [Ab,hr,cl (gr _),hcap,hcap2]
  generalize hlim : decide (0 = p.length) = lim
  refine (?key : ∀ (i : Nat) (f : List Ce) (B : List (Nat × List V)),i <= p.length -> f = (p.take i).map (tnC (CN k)) -> Run G c87_B0 (S87_0 (.m (.i .i64 k)) (.sl 0 f.length 3 0 f.length lim) (.m v) (.m (.i .i64 p.length)) (.m (.i .i64 (i : Int))) B [.cs 73 3 (Aw f) 0 false]) _) 0 [] [] (AcF _) rfl
  refine Bk (fun i : Nat=>p.length - i) fun i ih f B hi hf0=>?_
  unfold c87_B0
  cases hx : p[i]? with
  | some c =>
   have hlt:=(Al hx).1
   have hlt' : (i : Int) < p.length:=by omega
   have hn:=An hx
   have wi : wr .i64 ((i : Int) + 1) = (i : Int) + 1:=Aa (by omega) (by omega)
   have htk : p.take (i + 1) = p.take i ++ [c]:=Ap hx
   have hb:=AG hp (AcE hx)
   have ga:=fun H=>YP k c.x c.y (by omega) (by omega) H
   have hlf : lim = false:=by rw [<- hlim]; exact AcH (by omega)
   subst hlf
   have hf : f.length <= 1000000:=by rw [hf0,AcR,AcL]; omega
   have ha:=fun B=>KJ f hf (tnC (CN k) c) B
   have e : f ++ [tnC (CN k) c] = (p.take (i + 1)).map (tnC (CN k)):=by rw [htk,hf0]; simp
   have ih':=ih (i + 1) (by omega) (f ++ [tnC (CN k) c])
   clear ih hf0
   generalize f ++ [tnC (CN k) c] = f' at *
   simp only [tnC] at ha
   simp (maxSteps:=2000000) (disch:=omega) [Ab,hr,hlt',hn,wi,cl (ga _),ha]
   exact ih' _ (by omega) e
  | none =>
   have : i = p.length:=by have:=AcB.1 hx; omega
   subst this
   clear ih
   rw [AcV] at hf0
   have hfl : f.length <= 5000:=by rw [hf0,AcR]; exact hl
   simp (maxSteps:=2000000) (disch:=omega) []
   rw [Ar]
   have hrow : Row.cs 73 3 (Aw f) 0 false = .cs 73 3 (AZ Oc f.toArray) 0 false:=by simp [AZ,Aw]
   rw [hrow]
   refine RC (A:=[]) (Acj []) NQ (n:=f.length) (by omega) [] Ady f.toArray 0 (by simp) (AcF _) _ fun d' b1 X hpm hso hb1=>?_
   obtain ⟨hperm,hsz⟩:=Ix hpm
   have hasc:=VX hsz hso
   have hrow2 : AZ Oc d' = Aw d'.toList:=rfl
   have hql : d'.toList.length = f.length:=by simpa using hsz
   rw [hrow2]
   generalize d'.toList = q at *
   have hap : (p.map (tnC (CN k))).Pairwise apart:=FJ _ (Gs (Az hp).1)
   rw [<- hf0] at hap
   have hq : Pl (CN k) p q:=⟨by rw [<- hf0]; exact hperm,SQ hasc (FP hperm hap)⟩
   have hvv:=LS (r:=0) (X:=X) (A:=[]) hql hb1 18
   have hvl : view 20 (.cs 73 3 (Aw q) b1 false :: X) (.sl 0 f.length 3 0 f.length lim) = some (.sl (Ag q)):=by cases lim <;> exact hvv
   simp (maxSteps:=2000000) (disch:=omega) [hvl]
   exact ⟨q,hq,rfl⟩
 obtain ⟨x,H',h1,rfl,q,h2,rfl⟩:=key
 exact ⟨q,h2,h1⟩
def OutI (f : List Ce) (o : V) (H : Hp) : Prop:=(f = [] /\ o = .m (.nl 4) /\ H = []) \/ (f ≠ [] /\ o = .sl 1 f.length 3 0 f.length false /\ nth H 1 = some (.cs 73 3 (Aw f) 0 false))
theorem Yr {f : List Ce} {o : V} {H : Hp} (h : OutI f o H) : AB o = true:=by
 rcases h with ⟨_,rfl,_⟩ | ⟨_,rfl,_⟩ <;> rfl
theorem RW {f : List Ce} {o : V} {H : Hp} (h : OutI f o H) (hl : f.length <= 1000000) (q : Row) (c : Ce) : ∃ o1 H1,(∀ B,EJ ⟨B,H ++ [q]⟩ 73 3 24 o [[.m (.i .i64 c.x),.m (.i .i64 c.y),.m (.i .i64 c.s)]] = some (o1,⟨B,H1⟩)) /\ AB o1 = true /\ OutI (f ++ [c]) o1 H1:=by
 rcases h with ⟨rfl,rfl,rfl⟩ | ⟨hne,rfl,h1⟩
 ·exact ⟨_,_,fun B=>rfl,rfl,.inr ⟨by simp,rfl,rfl⟩⟩
 ·have h2 : nth (H ++ [q]) 1 = some (.cs 73 3 (Aw f) 0 false):=by rw [Sl _ _ _ (Mc h1)]; exact h1
  have ha:=fun B=>Dc (M:=⟨B,H ++ [q]⟩) (r:=1) (bytes:=24) (xs:=[[.m (.i .i64 c.x),.m (.i .i64 c.y),.m (.i .i64 c.s)]]) h2 (by simp) (by simp; omega) rfl
  simp only [BH,Adk,Adp,AdF,FM] at ha
  refine ⟨_,_,ha,rfl,.inr ⟨by simp,by simp,?_⟩⟩
  exact HF (Mc h2)
theorem RF {α : Type} (l : List α) (x y : α) : Bl (l ++ [x]) l.length y = some (l ++ [y]):=by
 rw [BF _ _ _ (by simp)]
 simp
def lowK (g : Ce -> Int) : List Ce -> Int
 | []=>0
 | c :: r=>mnF (g c) ((c :: r).map g)
theorem w3_x {g : List Ce} {j : Nat} {c : Ce} (h : g[j]? = some c) (x : Int) : DD 3 (Aw g) j 0 [.m (.i .i64 x)] = some (Aw (g.set j ⟨x,c.y,c.s⟩)):=by
 show (nth (Aw g) j).bind _ = _
 rw [CM h]
 show Bl (Aw g) j [.m (.i .i64 x),.m (.i .i64 c.y),.m (.i .i64 c.s)] = _
 rw [BF _ _ _ (by simpa using (Al h).1)]
 simp [Aw,List.map_set,Oc,Ce.i]
theorem w3_y {g : List Ce} {j : Nat} {c : Ce} (h : g[j]? = some c) (y : Int) : DD 3 (Aw g) j 1 [.m (.i .i64 y)] = some (Aw (g.set j ⟨c.x,y,c.s⟩)):=by
 show (nth (Aw g) j).bind _ = _
 rw [CM h]
 show Bl (Aw g) j [.m (.i .i64 c.x),.m (.i .i64 y),.m (.i .i64 c.s)] = _
 rw [BF _ _ _ (by simpa using (Al h).1)]
 simp [Aw,List.map_set,Oc,Ce.i]
theorem r3_x {g : List Ce} {j : Nat} {c : Ce} (h : g[j]? = some c) : DU 3 (Aw g) j 0 1 = some [.m (.i .i64 c.x)]:=by
 show (nth (Aw g) j).bind _ = _
 rw [CM h]
 rfl
theorem r3_y {g : List Ce} {j : Nat} {c : Ce} (h : g[j]? = some c) : DU 3 (Aw g) j 1 1 = some [.m (.i .i64 c.y)]:=by
 show (nth (Aw g) j).bind _ = _
 rw [CM h]
 rfl
theorem AbR (f : List Ce) : lowK Ce.x f = FX f:=by cases f <;> rfl
theorem AbQ (f : List Ce) : lowK Ce.y f = FO f:=by cases f <;> rfl
theorem Ss (g : Ce -> Int) {p : List Ce} (hne : p ≠ []) : (∀ c,c ∈ p -> lowK g p <= g c) /\ ∀ x,(∀ c,c ∈ p -> x <= g c) -> x <= lowK g p:=by
 obtain ⟨c,r,rfl⟩:=List.exists_cons_of_ne_nil hne
 refine ⟨fun d hd=>(HG ((c :: r).map g) (g c)).2 _ (List.mem_map_of_mem hd),fun x hx=>IA _ _ _ ⟨hx c (AcX ..),fun y hy=>?_⟩⟩
 obtain ⟨d,hd,rfl⟩:=Adc.1 hy
 exact hx d hd
theorem Su (a b : Int) (c d : Ce) : AW (mvC a b c) (mvC a b d) = AW c d:=by
 unfold AW mvC
 rw [Adg]
 simp only [AcK]
 omega
theorem YF {p : List Ce} (h : p.Pairwise (fun a b=>AW a b = true)) : (Bn p).Pairwise (fun a b=>AW a b = true):=by
 unfold Bn
 rw [List.pairwise_map]
 exact h.imp fun {a b} h=>by rw [Su]; exact h
def Span (p : List Ce) : Prop:=∀ c d,c ∈ p -> d ∈ p -> c.x - d.x <= 1048576 /\ c.y - d.y <= 1048576
theorem RB {p : List Ce} (h : Span p) (hs : ∀ c,c ∈ p -> 1 <= c.s /\ c.s < 8) : ∀ c,c ∈ Bn p -> Cj c = true:=fun c hc=>by
 obtain ⟨d,hd,rfl⟩:=Adc.1 hc
 have hne : p ≠ []:=fun e=>by subst e; cases hd
 obtain ⟨x1,x2⟩:=Ss Ce.x hne
 obtain ⟨y1,y2⟩:=Ss Ce.y hne
 have a1:=x1 d hd
 have b1:=y1 d hd
 have a2:=x2 (d.x - 1048576) fun e he=>by have:=(h d e hd he).1; omega
 have b2:=y2 (d.y - 1048576) fun e he=>by have:=(h d e hd he).2; omega
 rw [AbR] at a1 a2
 rw [AbQ] at b1 b2
 have:=hs d hd
 unfold Cj AE mvC
 simp only [Acx,AcK]
 omega
theorem VW (p : List Ce) : ∃ x y w h,Lb p = [x,y,w,h]:=by
 unfold Lb
 split
 ·exact ⟨_,_,_,_,rfl⟩
 ·split
  ·exact ⟨_,_,_,_,rfl⟩
  ·exact ⟨_,_,_,_,rfl⟩
def cmpC (c d : Ce) : Int:=if c.y = d.y then if c.x = d.x then Dr c.s d.s else Dr c.x d.x else Dr c.y d.y
def HO : List Ce -> List Ce -> Int
 | [],[]=>0
 | [],_ :: _=>-1
 | _ :: _,[]=>1
 | c :: r,d :: t=>if cmpC c d = 0 then HO r t else cmpC c d
theorem FZ {x y : Int} : Dr x y = 0 ↔ x = y:=by
 unfold Dr
 split
 ·constructor <;> intro h <;> omega
 ·split <;> constructor <;> intro h <;> omega
theorem SL {c d : Ce} : cmpC c d = 0 ↔ c = d:=by
 obtain ⟨a1,a2,a3⟩:=c
 obtain ⟨b1,b2,b3⟩:=d
 unfold cmpC
 simp only [Ce.mk.injEq]
 split
 ·split
  ·rw [FZ]; constructor <;> intro h <;> simp_all
  ·rw [FZ]; constructor <;> intro h <;> simp_all
 ·rw [FZ]; constructor <;> intro h <;> simp_all
theorem Fs : ∀ {p q : List Ce},HO p q = 0 ↔ p = q
 | [],[]=>by simp [HO]
 | [],_ :: _=>by simp [HO]
 | _ :: _,[]=>by simp [HO]
 | c :: r,d :: t=>by
  unfold HO
  split
  ·rename_i h
   rw [Fs,SL.1 h]
   simp
  ·rename_i h
   constructor
   ·intro h2; exact absurd h2 h
   ·intro h2
    have : c = d:=(List.cons.inj h2).1
    exact absurd (SL.2 this) h
theorem OX (x y : Int) (H : Hp) : Gives G 85 [.m (.i .i64 x),.m (.i .i64 y)] H (.m (.i .i64 (Dr x y))) H:=by
 refine Ae rfl rfl rfl rfl rfl ?_
 by_cases h1 : x < y
 ·simp (maxSteps:=2000000) (disch:=omega) [h1,Dr]
 ·by_cases h2 : y < x
  ·simp (maxSteps:=2000000) (disch:=omega) [h1,h2,Dr]
  ·simp (maxSteps:=2000000) (disch:=omega) [h1,h2,Dr]
theorem NY {p q : List Ce} {i : Nat} (h : p.drop i = [] \/ q.drop i = []) : HO (p.drop i) (q.drop i) = Dr ((p.drop i).length : Int) ((q.drop i).length : Int):=by
 rcases h with h | h <;> rw [h]
 ·cases hq : q.drop i with
  | nil=>rfl
  | cons a r=>show (-1 : Int) = _; unfold Dr; rw [AcC (by simp <;> omega)]
 ·cases hq : p.drop i with
  | nil=>rfl
  | cons a r=>show (1 : Int) = _; unfold Dr; rw [Acz (by simp <;> omega),AcC (by simp <;> omega)]
theorem NZ {a b i : Nat} (h1 : i <= a) (h2 : i <= b) : Dr ((a - i : Nat) : Int) ((b - i : Nat) : Int) = Dr a b:=by
 unfold Dr
 have e1 : (((a - i : Nat) : Int) < ((b - i : Nat) : Int)) = ((a : Int) < b):=by rw [eq_iff_iff]; omega
 have e2 : (((b - i : Nat) : Int) < ((a - i : Nat) : Int)) = ((b : Int) < a):=by rw [eq_iff_iff]; omega
 simp only [e1,e2]
set_option maxHeartbeats 2000000 in
theorem SJ {v w : I} {p q : List Ce} (hv : IsSl v (Ag p)) (hw : IsSl w (Ag q)) (hl : p.length <= 1000000) (hl2 : q.length <= 1000000) (H : Hp) : Gives G 44 [.m v,.m w] H (.m (.i .i64 (HO p q))) H:=by
 refine Ae rfl rfl rfl rfl rfl ?_
 have hr:=hv.rules
 have hr2:=hw.rules
 simp only [show (Ag p).length = p.length from by simp [Ag]] at hr
 simp only [show (Ag q).length = q.length from by simp [Ag]] at hr2
 have go:=fun x y H=>OX x y H
 simp (maxSteps:=2000000) (disch:=omega) []
 refine (?key : ∀ (i : Nat) (B : List (Nat × List V)),i <= p.length -> i <= q.length -> HO p q = HO (p.drop i) (q.drop i) -> Run G c44_B0 (S44_0 (.m v) (.m w) (.m (.i .i64 (i : Int))) B []) _) 0 [] (AcF _) (AcF _) rfl
 refine Bk (fun i : Nat=>p.length - i) fun i ih B hi hi2 hc=>?_
 unfold c44_B0
 cases hx : p[i]? with
 | none =>
  have hle:=AcB.1 hx
  have hlt' : ¬ (i : Int) < p.length:=by omega
  rw [NY (.inl (List.drop_eq_nil_of_le hle)),Adf,Adf,NZ hi hi2] at hc
  simp (maxSteps:=2000000) (disch:=omega) [hr,hr2,hlt',cl (go _ _ _),hc]
 | some c =>
  have hlt:=(Al hx).1
  have hlt' : (i : Int) < p.length:=by omega
  have hn:=An hx
  cases hy : q[i]? with
  | none =>
   have hle:=AcB.1 hy
   have hlt2' : ¬ (i : Int) < q.length:=by omega
   rw [NY (.inr (List.drop_eq_nil_of_le hle)),Adf,Adf,NZ hi hi2] at hc
   simp (maxSteps:=2000000) (disch:=omega) [hr,hr2,hlt',hlt2',cl (go _ _ _),hc]
  | some d =>
   have hlt2:=(Al hy).1
   have hlt2' : (i : Int) < q.length:=by omega
   have hn2:=An hy
   have wi : wr .i64 ((i : Int) + 1) = (i : Int) + 1:=Aa (by omega) (by omega)
   have e1 : HO (c :: p.drop (i + 1)) (d :: q.drop (i + 1)) = if cmpC c d = 0 then HO (p.drop (i + 1)) (q.drop (i + 1)) else cmpC c d:=rfl
   rw [(Al hx).2,(Al hy).2,e1] at hc
   by_cases h1 : c.y = d.y
   ·by_cases h2 : c.x = d.x
    ·by_cases h3 : c.s = d.s
     ·have e : cmpC c d = 0:=by unfold cmpC; rw [AcC h1,AcC h2]; exact FZ.2 h3
      rw [AcC e] at hc
      simp (maxSteps:=2000000) (disch:=omega) [hr,hr2,hlt',hlt2',hn,hn2,wi,h1,h2,h3]
      exact ih (i + 1) (by omega) _ (by omega) (by omega) hc
     ·have e : cmpC c d = Dr c.s d.s:=by unfold cmpC; rw [AcC h1,AcC h2]
      have h0 : ¬ Dr c.s d.s = 0:=fun h=>h3 (FZ.1 h)
      rw [e,Acz h0] at hc
      simp (maxSteps:=2000000) (disch:=omega) [hr,hr2,hlt',hlt2',hn,hn2,h1,h2,h3,cl (go _ _ _),hc]
    ·have e : cmpC c d = Dr c.x d.x:=by unfold cmpC; rw [AcC h1,Acz h2]
     have h0 : ¬ Dr c.x d.x = 0:=fun h=>h2 (FZ.1 h)
     rw [e,Acz h0] at hc
     simp (maxSteps:=2000000) (disch:=omega) [hr,hr2,hlt',hlt2',hn,hn2,h1,h2,cl (go _ _ _),hc]
   ·have e : cmpC c d = Dr c.y d.y:=by unfold cmpC; rw [Acz h1]
    have h0 : ¬ Dr c.y d.y = 0:=fun h=>h1 (FZ.1 h)
    rw [e,Acz h0] at hc
    simp (maxSteps:=2000000) (disch:=omega) [hr,hr2,hlt',hlt2',hn,hn2,h1,cl (go _ _ _),hc]
theorem Hz {v w : I} {p q : List Ce} (hv : IsSl v (Ag p)) (hw : IsSl w (Ag q)) (hl : p.length <= 1000000) (hl2 : q.length <= 1000000) (H : Hp) : Gives G 17 [.m v,.m w] H (.m (.b (decide (HO p q = 0)))) H:=by
 refine Ae rfl rfl rfl rfl rfl ?_
 simp (maxSteps:=2000000) (disch:=omega) [cl (SJ hv hw hl hl2 _)]
set_option maxHeartbeats 2000000 in
theorem YI {v w : I} {p q : List Ce} (hv : IsSl v (Ag p)) (hw : IsSl w (Ag q)) (hl : p.length <= 1000000) (hl2 : q.length <= 1000000) (H : Hp) : Gives G 83 [.m v,.m w] H (.m (.b (decide (HO p q = 0)))) H:=by
 refine Ae rfl rfl rfl rfl rfl ?_
 have hr:=hv.rules
 have hr2:=hw.rules
 simp only [show (Ag p).length = p.length from by simp [Ag]] at hr
 simp only [show (Ag q).length = q.length from by simp [Ag]] at hr2
 by_cases hlen : p.length = q.length
 ·have hlen' : (p.length : Int) = q.length:=by omega
  simp (maxSteps:=2000000) (disch:=omega) [hr,hr2,hlen]
  refine (?key : ∀ (i : Nat) (B : List (Nat × List V)),i <= q.length -> HO p q = HO (p.drop i) (q.drop i) -> Run G c83_B0 (S83_0 (.m v) (.m w) (.m (.i .i64 q.length)) (.m (.i .i64 (i : Int))) B []) _) 0 [] (AcF _) rfl
  refine Bk (fun i : Nat=>q.length - i) fun i ih B hi hc=>?_
  unfold c83_B0
  cases hy : q[i]? with
  | some d =>
   have hlt2:=(Al hy).1
   obtain ⟨c,hx⟩ : ∃ c,p[i]? = some c:=⟨p[i]'(by omega),AcA _⟩
   have hlt:=(Al hx).1
   have hlt2' : (i : Int) < q.length:=by omega
   have hn:=An hx
   have hn2:=An hy
   have wi : wr .i64 ((i : Int) + 1) = (i : Int) + 1:=Aa (by omega) (by omega)
   have e1 : HO (c :: p.drop (i + 1)) (d :: q.drop (i + 1)) = if cmpC c d = 0 then HO (p.drop (i + 1)) (q.drop (i + 1)) else cmpC c d:=rfl
   rw [(Al hx).2,(Al hy).2,e1] at hc
   by_cases he : c.x = d.x /\ c.y = d.y /\ c.s = d.s
   ·have e : cmpC c d = 0:=by
     unfold cmpC
     rw [AcC he.2.1,AcC he.1,FZ]
     exact he.2.2
    rw [AcC e] at hc
    simp (maxSteps:=2000000) (disch:=omega) [hr,hr2,hlen,hlt2',hn,hn2,wi,he.1,he.2.1,he.2.2]
    exact ih (i + 1) (by omega) _ (by omega) hc
   ·have e : ¬ cmpC c d = 0:=fun h=>he (by rw [SL.1 h]; exact ⟨rfl,rfl,rfl⟩)
    rw [Acz e] at hc
    have he1 : (decide (c.x = d.x) && (decide (c.y = d.y) && decide (c.s = d.s))) = false:=by
     rw [Bool.eq_false_iff]
     simpa using he
    have he2 : (decide (c.x = d.x) && decide (c.y = d.y) && decide (c.s = d.s)) = false:=by
     rw [Bool.and_assoc]; exact he1
    simp (maxSteps:=2000000) (disch:=omega) [hr,hr2,hlen,hlt2',hn,hn2,he1,hc,e]
  | none =>
   have : i = q.length:=by have:=AcB.1 hy; omega
   subst this
   rw [Ado,List.drop_eq_nil_of_le (by omega)] at hc
   have hc' : HO p q = 0:=hc
   simp (maxSteps:=2000000) (disch:=omega) [hc']
 ·have hlen' : ¬ (p.length : Int) = q.length:=by omega
  have e : ¬ HO p q = 0:=fun h=>hlen (by rw [Fs.1 h])
  simp (maxSteps:=2000000) (disch:=omega) [hr,hr2,hlen',e]
theorem Abv {v w : I} {p q : List Ce} (hv : IsSl v (Ag p)) (hw : IsSl w (Ag q)) (hl : p.length <= 1000000) (hl2 : q.length <= 1000000) (H : Hp) : Gives G 42 [.m v,.m w] H (.m (.b (decide (HO p q = 0)))) H:=by
 refine Ae rfl rfl rfl rfl rfl ?_
 simp (maxSteps:=2000000) (disch:=omega) [cl (YI hv hw hl hl2 _)]
end Go.Mx.Tryz
namespace Go.Mx.Tryz
open Go.Lib
structure StI (t : TreeC) (p : List Ce) (D : List (Int × Int)) (l : List Ce) : Prop where
 al : ∀ c,c ∈ l -> (c.x,c.y) ∈ D /\ c.s = Bg t p c.x c.y /\ ¬ c.s = 0 /\ AE c.x c.y = true
 cov : ∀ k,k ∈ D -> ¬ Bg t p k.1 k.2 = 0 -> ∃ c,c ∈ l /\ c.x = k.1 /\ c.y = k.2
 ap : l.Pairwise apart
theorem XU (t : TreeC) (p : List Ce) : StI t p [] []:=⟨by simp,by simp,.nil⟩
theorem Uv {t : TreeC} {p : List Ce} {D : List (Int × Int)} {l : List Ce} (h : StI t p D l) {k : Int × Int} (hk : Bg t p k.1 k.2 = 0) : StI t p (D ++ [k]) l :=
 ⟨fun c hc=>by obtain ⟨a,b⟩:=h.al c hc; exact ⟨by simp [a],b⟩,fun j hj hn=>by
  rcases Adx.1 hj with hj | hj
  ·exact h.cov j hj hn
  ·rw [AcZ.1 hj] at hn
   exact absurd hk hn,h.ap⟩
theorem XW {t : TreeC} {p : List Ce} {D : List (Int × Int)} {l : List Ce} (h : StI t p D l) {x y : Int} (hD : (x,y) ∉ D) (hk : ¬ Bg t p x y = 0) (hp : AE x y = true) : StI t p (D ++ [(x,y)]) (l ++ [⟨x,y,Bg t p x y⟩]):=by
 refine ⟨fun c hc=>?_,fun j hj hn=>?_,?_⟩
 ·rcases Adx.1 hc with hc | hc
  ·obtain ⟨a,b⟩:=h.al c hc
   exact ⟨by simp [a],b⟩
  ·rw [AcZ.1 hc]
   exact ⟨by simp,rfl,hk,hp⟩
 ·rcases Adx.1 hj with hj | hj
  ·obtain ⟨c,h1,h2⟩:=h.cov j hj hn
   exact ⟨c,by simp [h1],h2⟩
  ·rw [AcZ.1 hj]
   exact ⟨⟨x,y,Bg t p x y⟩,by simp,rfl,rfl⟩
 ·rw [Adv]
  refine ⟨h.ap,by simp,fun a ha b hb=>?_⟩
  rw [AcZ.1 hb]
  intro ⟨h1,h2⟩
  have:=(h.al a ha).1
  dsimp only at h1 h2
  rw [h1,h2] at this
  exact hD this
theorem RA {t : TreeC} {p : List Ce} {x y : Int} (hk : ¬ Bg t p x y = 0) (hp : AE x y = false) : Dd t p ([],5):=.inl ⟨rfl,x,y,hk,hp⟩
theorem XV {t : TreeC} {p : List Ce} {D : List (Int × Int)} {l q : List Ce} (hq : AI t = true) (h : StI t p D l) (hall : ∀ c o,c ∈ p -> o ∈ t.hood -> (c.x - o.1,c.y - o.2) ∈ D) (hp : q.Perm l) (hs : q.Pairwise (fun a b=>AW a b = true)) : Dd t p (if 5000 < q.length then ([],6) else (q,0)):=by
 have hD : ∀ x y,¬ Bg t p x y = 0 -> ∃ c,c ∈ l /\ c.x = x /\ c.y = y:=fun x y hn=>by
  obtain ⟨c,o,hc,ho,rfl,rfl⟩:=Gv hq hn
  exact h.cov _ (hall c o hc ho) hn
 refine .inr ⟨fun x y hn=>?_,q,hs,fun c=>⟨fun hc=>?_,fun hc=>?_⟩,rfl⟩
 ·obtain ⟨c,hc,rfl,rfl⟩:=hD x y hn
  exact (h.al c hc).2.2.2
 ·have:=h.al c (hp.mem_iff.1 hc)
  exact ⟨this.2.1,this.2.2.1⟩
 ·obtain ⟨d,hd,e1,e2⟩:=hD c.x c.y (by rw [<- hc.1]; exact hc.2)
  have h2:=(h.al d hd).2.1
  have : d = c:=by
   obtain ⟨a1,a2,a3⟩:=d
   obtain ⟨b1,b2,b3⟩:=c
   dsimp only at e1 e2 h2 hc
   subst e1 e2
   congr 1
   rw [h2]
   exact hc.1.symm
  exact hp.mem_iff.2 (this ▸ hd)
theorem Uw {t : TreeC} (hr : TreeR t) {p : List Ce} (ht : Gi t p) {D : List (Int × Int)} {l : List Ce} (h : StI t p D l) : ∀ c,c ∈ l -> Cj c = true:=fun c hc=>by
 obtain ⟨_,h1,h2,h3⟩:=h.al c hc
 have h4:=Ey hr ht c.x c.y
 rw [<- h1] at h4
 have:=hr.s8
 unfold Cj
 rw [h3]
 simp only [AdB,Acx,AcK]
 omega
theorem Ux {t : TreeC} (hr : TreeR t) {p : List Ce} (ht : Gi t p) {D : List (Int × Int)} {l q : List Ce} (h : StI t p D l) (hq : q.Perm (liv l)) (ha : Asc q) : bad l = none /\ q.Perm l /\ q.Pairwise (fun a b=>AW a b = true) /\ Zw q = if 5000 < q.length then .tu [.m (.nl 4),.m (.i .i64 6)] else .tu [.m (zP q),.m (.i .i64 0)]:=by
 have hg : ∀ c,c ∈ l -> Cj c = true:=fun c hc=>by
  obtain ⟨_,h1,h2,h3⟩:=h.al c hc
  have h4:=Ey hr ht c.x c.y
  rw [<- h1] at h4
  have:=hr.s8
  unfold Cj
  rw [h3]
  simp only [AdB,Acx,AcK]
  omega
 rw [NP hg] at hq
 have hw:=SQ ha (FP hq h.ap)
 refine ⟨GD hg,hq,hw,?_⟩
 unfold Zw
 rw [XO hw,Acz (by simp)]
inductive HisR (t : TreeC) (p : List Ce) : List (List Ce) -> Prop
 | one : HisR t p [p]
 | snoc {ps : List (List Ce)} {a q : List Ce} : HisR t p (ps ++ [a]) -> Dd t a (q,0) -> HisR t p (ps ++ [a] ++ [q])
def HisQ (t : TreeC) (p : List Ce) (n : Nat) (res : List (List Ce) × Int) : Prop :=
 (res.2 = 0 /\ res.1.length = n + 1 /\ HisR t p res.1) \/ (∃ ps a,ps.length < n /\ HisR t p (ps ++ [a]) /\ Dd t a ([],res.2) /\ ¬ res.2 = 0 /\ res.1 = [])
end Go.Mx.Tryz
namespace Go.Mx.Tryz
theorem optN (k : Nat) (H : Hp) : ∀ m : List Int,Ak (fun e=>Ak (view (k + 1) H) e) (Bh m) = some (Ec m)
 | []=>rfl
 | x :: r=>by
  show Option.bind (some [I.i .i64 x]) _ = _
  simp only [AcG]
  have:=optN k H r
  show Option.bind (Ak _ (Bh r)) _ = _
  rw [this]
  rfl
theorem RJ (l : List Int) (a n : Nat) : ((Bh l).drop a).take n = Bh ((l.drop a).take n):=by
 unfold Bh; rw [List.map_take,List.map_drop]
theorem Ace {H : Hp} {r ver st len base : Nat} {lim fz : Bool} {l : List Int} (h : nth H r = some (.cs 3 1 (Bh l) base fz)) (hb : base <= ver) : elems H (.sl r ver 1 st len lim) = some (Bh ((l.drop st).take len)):=by
 show Option.bind (nth H r) _ = _
 rw [h]
 show gd (Nat.ble base ver && Nat.beq 1 1) (some (((Bh l).drop st).take len)) = _
 rw [BG,AcI hb,RJ]
 rfl
theorem Us {H : Hp} {r ver st len base : Nat} {lim fz : Bool} {l : List Int} (h : nth H r = some (.cs 3 1 (Bh l) base fz)) (hb : base <= ver) (k : Nat) : view (k + 2) H (.sl r ver 1 st len lim) = some (.sl (Ec ((l.drop st).take len))):=by
 show Option.bind (elems H (.sl r ver 1 st len lim)) _ = _
 rw [Ace h hb]
 show Option.bind (Ak _ (Bh _)) _ = _
 rw [optN]
 rfl
end Go.Mx.Tryz
