/- Compare of patterns: both texts; Same. -/
import Derived.Test.YtpaddecplgomeaaGreatDoorSrx
import Derived.Test.YtpaddecplgomeaaGreatDoorStr
import Derived.KernelRfl
import Derived.Test.YtpaddecplgomeaaGreatDoorSz
set_option linter.unusedSimpArgs false
set_option linter.unusedVariables false
set_option linter.unusedSectionVars false
set_option maxRecDepth 100000
namespace Go.Mx.Tryz
open Go.Sort Go.Lib
instance : Inhabited Ce:=⟨⟨0,0,0⟩⟩
def Ue : Rw Ce 3 true where
 enc c:=c.i.map .m
 val c:=.m (.ag c.i)
 len c:=rfl
 pos:=by decide
 one c:=rfl
 ld c:=by simp [Ce.i]
 st c:=by simp [Ce.i]
def ceCmp (A : Hp) : Cmp Ue A 115 BG where
 ok _:=True
 ext _ _ _:=AfE
 cmp a b:=QP a.x a.y b.x b.y
 neg a b:=by
  unfold QP BG
  grind [TS]
 run a b row C _:=Te a b _
theorem Wg : SWO BG where
 irrefl x:=by simp [BG]
 trans x y z h1 h2:=by simp only [BG,Afe] at *; omega
 ntrans x y z h1 h2:=by simp only [BG,decide_eq_false_iff_not] at *; omega
open Go.Proofs
def Jo (c : Ce) : Option Int:=if DB c.x c.y = false then some 5 else if c.s < 0 \/ 8 <= c.s then some 10 else none
def bad : List Ce -> Option Int
 | []=>none
 | c :: r=>match Jo c with
  | some e=>some e
  | none=>bad r
def liv (p : List Ce) : List Ce:=p.filter fun c=>decide (0 < c.s)
def AH (p : List Ce) : List (List V):=p.map Ue.enc
@[simp] theorem Ek (p : List Ce) : (AH p).length = p.length:=by simp [AH]
theorem Dz {p : List Ce} {i : Nat} {c : Ce} (h : p[i]? = some c) : nth (AH p) i = some [.m (.i .i64 c.x),.m (.i .i64 c.y),.m (.i .i64 c.s)]:=by
 rw [AA]
 simp [AH,h,Ue,Ce.i]
def zP (p : List Ce) : I:=if p = [] then .nl 4 else .sl (Ao p)
theorem Qr (p : List Ce) : IsSl (zP p) (Ao p):=by
 unfold zP
 split
 ·rename_i h; subst h; exact ED
 ·exact Ci _
def KG (f : List Ce) (o : V) (H : Hp) : Prop:=(f = [] /\ o = .m (.nl 4) /\ H = []) \/ (f ≠ [] /\ o = .sl 0 f.length 3 0 f.length false /\ H = [.cs 60 3 (AH f) 0 false])
theorem Ct {f : List Ce} {o : V} {H : Hp} (h : KG f o H) (hl : f.length <= 1000000) (c : Ce) : ∃ o1 H1,(∀ B,FP ⟨B,H⟩ 60 3 24 o [[.m (.i .i64 c.x),.m (.i .i64 c.y),.m (.i .i64 c.s)]] = some (o1,⟨B,H1⟩)) /\ Ax o1 = true /\ KG (f ++ [c]) o1 H1:=by
 rcases h with ⟨rfl,rfl,rfl⟩ | ⟨hne,rfl,rfl⟩
 ·exact ⟨_,_,fun B=>rfl,rfl,.inr ⟨by simp,rfl,rfl⟩⟩
 ·have ha:=fun B=>Er (M:=⟨B,[.cs 60 3 (AH f) 0 false]⟩) (r:=0) (bytes:=24) (xs:=[[.m (.i .i64 c.x),.m (.i .i64 c.y),.m (.i .i64 c.s)]]) rfl (by simp) (by simp; omega) rfl
  simp only [Ek,Afj,Aft,AfL,List.set_cons_zero] at ha
  have e : AH f ++ [[.m (.i .i64 c.x),.m (.i .i64 c.y),.m (.i .i64 c.s)]] = AH (f ++ [c]):=by simp [AH,Ue,Ce.i]
  rw [e] at ha
  exact ⟨_,_,ha,rfl,.inr ⟨by simp,by simp,rfl⟩⟩
def tw : List Ce -> Bool
 | []=>false
 | [_]=>false
 | a :: b :: r=>decide (a.x = b.x /\ a.y = b.y) || tw (b :: r)
def Abg (q : List Ce) : V:=if tw q = true then .tu [.m (.nl 4),.m (.i .i64 8)] else if 5000 < q.length then .tu [.m (.nl 4),.m (.i .i64 6)] else .tu [.m (zP q),.m (.i .i64 0)]
def Asc (q : List Ce) : Prop:=∀ (i j : Nat) (a b : Ce),i < j -> q[i]? = some a -> q[j]? = some b -> BG b a = false
theorem VN (H : Hp) : Gives G 167 [.m (.nl 4),.m (.fn 115 [])] H (.tu []) H:=⟨40,by kernel_rfl⟩
theorem Nj {r b n : Nat} {X A : Hp} {q : List Ce} (hn : q.length = n) (hb : b <= n) (k : Nat) : view (k + 2) (.cs 60 3 (AH q) b false :: X) (.sl 0 n 3 0 n false) = some (.sl (Ao q)):=by
 have e : elems (.cs 60 3 (AH q) b false :: X) (.sl 0 n 3 0 n false) = some (AH q):=by
  show gd (Nat.ble b n && Nat.beq 3 3) (some (((AH q).drop 0).take n)) = _
  rw [Bd,Afc hb,List.drop_zero,AeY (by simp; omega)]
  rfl
 show Option.bind (elems _ (.sl 0 n 3 0 n false)) _ = _
 rw [e]
 show Option.bind (Af _ (AH q)) _ = _
 have ho : ∀ (H : Hp) (m : List Ce),Af (fun e=>Af (view (k + 1) H) e) (AH m) = some (Ao m):=by
  intro H m
  induction m with
  | nil=>rfl
  | cons x t ih =>
   show Option.bind (some [I.i .i64 x.x,.i .i64 x.y,.i .i64 x.s]) _ = _
   simp only [AeM]
   show Option.bind (Af _ (AH t)) _ = _
   rw [ih]
   rfl
 rw [ho]
 rfl
theorem Qw {f : List Ce} {d' : Array Ce} (h : PermIn 0 f.length f.toArray d') : d'.toList.Perm f /\ d'.size = f.length:=by
 have hs : d'.size = f.length:=by rw [h.1]; simp
 refine ⟨?_,hs⟩
 have hp:=h.2.2
 have e1 : (d'.extract 0 f.length) = d':=by rw [<- hs]; simp
 have e2 : (f.toArray.extract 0 f.length) = f.toArray:=by
  have : f.length = f.toArray.size:=by simp
  rw [this]; simp
 rw [e1,e2] at hp
 simpa using hp
theorem Aew {d' : Array Ce} {n : Nat} (hs : d'.size = n) (h : SortedIn BG 0 n d') : Asc d'.toList:=fun i j a b hij ha hb=>by
 obtain ⟨h1,rfl⟩:=AeG.1 ha
 obtain ⟨h2,rfl⟩:=AeG.1 hb
 have h1' : i < d'.size:=by simpa using h1
 have h2' : j < d'.size:=by simpa using h2
 have:=h i j (AeR _) hij (by omega)
 rw [getElem!_pos d' j h2',getElem!_pos d' i h1'] at this
 simpa using this
theorem SR (es : List (List V)) (ix : Nat) : CX 3 es ix 0 3 = (nth es ix).bind fun e=>CH 3 e:=rfl
set_option maxHeartbeats 2000000 in
theorem Aeh {v : I} {p : List Ce} (hv : IsSl v (Ao p)) (hl : p.length <= 1000000) (H : Hp) :
  (∃ e,bad p = some e /\ Gives G 114 [.m v] H (.tu [.m (.nl 4),.m (.i .i64 e)]) H) \/ (bad p = none /\ ∃ q,q.Perm (liv p) /\ Asc q /\ Gives G 114 [.m v] H (Abg q) H):=by
 have hr:=hv.rules
 have key : ∃ x H',Gives G 114 [.m v] H x H' /\ (H' = H /\ ((∃ e,bad p = some e /\ x = .tu [.m (.nl 4),.m (.i .i64 e)]) \/ (bad p = none /\ ∃ q,q.Perm (liv p) /\ Asc q /\ x = Abg q))):=by
  refine BX ?_
  refine Hw rfl rfl rfl rfl rfl ?_
  simp (disch:=omega) [hr]
  refine (?key : ∀ (i : Nat) (o : V) (B : List (Nat × List V)) (H1 : Hp),i <= p.length -> KG (liv (p.take i)) o H1 -> bad (p.take i) = none -> bad p = bad (p.drop i) -> Run G c114_B0 (S114_0 o (.m v) (.m (.i .i64 p.length)) (.m (.i .i64 (i : Int))) B H1) _) 0 (.m (.nl 4)) [] [] (AeR _) (.inl ⟨rfl,rfl,rfl⟩) rfl rfl
  refine BO (fun i : Nat=>p.length - i) fun i ih o B H1 hi ho hbt hb=>?_
  have hnf : Ax o = true:=by
   rcases ho with ⟨_,rfl,_⟩ | ⟨_,rfl,_⟩ <;> rfl
  have hfl : (liv (p.take i)).length <= i:=AfP (List.length_filter_le _ _) (by rw [AeZ]; omega)
  unfold c114_B0
  cases hx : p[i]? with
  | some c =>
   have hlt:=(Av hx).1
   have hlt' : (i : Int) < p.length:=by omega
   have hn:=AK hx
   have wi : wr .i64 ((i : Int) + 1) = (i : Int) + 1:=wr_i64 (by omega) (by omega)
   have g1:=fun H=>Abm c H
   have g2:=fun H=>JY c.x c.y H
   have e1 : bad (c :: p.drop (i + 1)) = match Jo c with | some e=>some e | none=>bad (p.drop (i + 1)):=rfl
   rw [(Av hx).2,e1] at hb
   have htk : p.take (i + 1) = p.take i ++ [c]:=AQ hx
   by_cases hp : DB c.x c.y = true
   ·rw [hp] at g2
    by_cases hs0 : c.s < 0
    ·have hbc : Jo c = some 10:=by unfold Jo; rw [AeF (by rw [hp]; simp),AeJ (.inl hs0)]
     rw [hbc] at hb
     simp (disch:=omega) [gd_and,hr,hlt',hn,cl (g1 _),cl (g2 _),hs0,hb]
    by_cases hs8 : 8 <= c.s
    ·have hbc : Jo c = some 10:=by unfold Jo; rw [AeF (by rw [hp]; simp),AeJ (.inr hs8)]
     rw [hbc] at hb
     simp (disch:=omega) [gd_and,hr,hlt',hn,cl (g1 _),cl (g2 _),hs0,hs8,hb]
    have hbc : Jo c = none:=by unfold Jo; rw [AeF (by rw [hp]; simp),AeF (by omega)]
    rw [hbc] at hb
    replace hb : bad p = bad (p.drop (i + 1)):=hb
    have hbt2 : bad (p.take (i + 1)) = none:=by
     rw [htk]
     have : ∀ l : List Ce,bad l = none -> bad (l ++ [c]) = none:=fun l=>by
      induction l with
      | nil=>intro _; show (match Jo c with | some e=>some e | none=>none) = none; rw [hbc]
      | cons d r ih =>
       intro h
       have f1 : bad (d :: r) = match Jo d with | some e=>some e | none=>bad r:=rfl
       have f2 : bad (d :: (r ++ [c])) = match Jo d with | some e=>some e | none=>bad (r ++ [c]):=rfl
       rw [Afo,f2]
       rw [f1] at h
       cases hd : Jo d with
       | some e=>rw [hd] at h; cases h
       | none=>rw [hd] at h; exact ih h
     exact this _ hbt
    by_cases hs1 : 0 < c.s
    ·have hlv : liv (p.take (i + 1)) = liv (p.take i) ++ [c]:=by
      rw [htk]
      unfold liv
      rw [List.filter_append]
      simp [hs1]
     obtain ⟨o1,H2,ha,hn1,ho1⟩:=Ct ho (by omega) c
     rw [<- hlv] at ho1
     simp (disch:=omega) [gd_and,hr,hlt',hn,cl (g1 _),cl (g2 _),hs0,hs8,hs1,ha,Ag hn1,wi]
     exact ih (i + 1) (by omega) _ _ _ (by omega) ho1 hbt2 hb
    ·have hlv : liv (p.take (i + 1)) = liv (p.take i):=by
      rw [htk]
      unfold liv
      rw [List.filter_append]
      simp [hs1]
     rw [<- hlv] at ho
     simp (disch:=omega) [gd_and,hr,hlt',hn,cl (g1 _),cl (g2 _),hs0,hs8,hs1,wi]
     exact ih (i + 1) (by omega) _ _ _ (by omega) ho hbt2 hb
   ·rw [Bool.not_eq_true] at hp
    rw [hp] at g2
    have hbc : Jo c = some 5:=by unfold Jo; rw [AeJ hp]
    rw [hbc] at hb
    simp (disch:=omega) [gd_and,hr,hlt',hn,cl (g1 _),cl (g2 _),hb]
  | none =>
   have : i = p.length:=by have:=AeU.1 hx; omega
   subst this
   have hb0 : bad p = none:=by rw [hb,AfR]; rfl
   rw [AfM] at ho
   rcases ho with ⟨hf,rfl,rfl⟩ | ⟨hf,rfl,rfl⟩
   ·have gs:=fun H=>VN H
    simp (disch:=omega) [cl (gs _),hb0]
    unfold c114_B1
    simp (disch:=omega) []
    exact ⟨[],by rw [hf],fun i j a b _ h=>by simp at h,rfl⟩
   ·generalize hfe : liv p = f at *
    clear ih hx
    have hfl2 : f.length <= 1000000:=by rw [<- hfe]; exact AfP (List.length_filter_le _ _) (by omega)
    simp (disch:=omega) []
    rw [Ak]
    have hrow : Row.cs 60 3 (AH f) 0 false = .cs 60 3 (Bb Ue f.toArray) 0 false:=by simp [Bb,AH]
    rw [hrow]
    refine Zw (A:=[]) (ceCmp []) Wg (n:=f.length) (by omega) [] AfE f.toArray 0 (by simp) (AeR _) _ fun d' b1 X hp hso hb1=>?_
    obtain ⟨hperm,hsz⟩:=Qw hp
    have hasc:=Aew hsz hso
    have hrow2 : Bb Ue d' = AH d'.toList:=rfl
    have hql : d'.toList.length = f.length:=by simpa using hsz
    rw [hrow2]
    generalize d'.toList = q at *
    have hres : Abg q = if tw q = true then .tu [.m (.nl 4),.m (.i .i64 8)] else if 5000 < q.length then .tu [.m (.nl 4),.m (.i .i64 6)] else .tu [.m (zP q),.m (.i .i64 0)]:=rfl
    have hq0 : q ≠ []:=fun e=>by subst e; simp at hql; exact hf (Afa hql.symm)
    obtain ⟨a0,r0,hqe⟩:=Afq hq0
    simp (disch:=omega) []
    refine (?key2 : ∀ (j : Nat) (B : List (Nat × List V)),1 <= j -> j <= q.length -> tw q = tw (q.drop (j - 1)) -> Run G c114_B1 (S114_1 (.sl 0 f.length 3 0 f.length false) (.m (.i .i64 (j : Int))) B (.cs 60 3 (AH q) b1 false :: X)) _) 1 _ (AeI _) (by have:=AfA.2 hq0; omega) rfl
    refine BO (fun j : Nat=>q.length - j) fun j ih B h1j hj htw=>?_
    unfold c114_B1
    have wj : wr .i64 ((j : Int) + 1) = (j : Int) + 1:=wr_i64 (by omega) (by omega)
    have wj1 : wr .i64 ((j : Int) - 1) = (j : Int) - 1:=wr_i64 (by omega) (by omega)
    cases hx : q[j]? with
    | some c =>
     have hlt:=(Av hx).1
     obtain ⟨a,ha⟩ : ∃ a,q[j - 1]? = some a:=⟨q[j - 1]'(by omega),AeK _⟩
     have hlt' : (j : Int) < f.length:=by omega
     have hltn : j < f.length:=by omega
     have hltm : (j : Int) - 1 < f.length:=by omega
     have h0m : (0 : Int) <= (j : Int) - 1:=by omega
     have htn : ((j : Int) - 1).toNat = j - 1:=by omega
     have hn:=Dz hx
     have hna:=Dz ha
     have e0 : q.drop (j - 1) = a :: c :: q.drop (j + 1):=by
      have:=(Av ha).2
      rw [this,show j - 1 + 1 = j by omega,(Av hx).2]
     have e1 : tw (a :: c :: q.drop (j + 1)) = (decide (a.x = c.x /\ a.y = c.y) || tw (c :: q.drop (j + 1))):=rfl
     rw [e0,e1] at htw
     have g1:=fun H=>Abm a H
     have g2:=fun H=>Abm c H
     by_cases heq : a.x = c.x /\ a.y = c.y
     ·rw [Afc heq,Bool.true_or] at htw
      rw [htw,AeJ rfl] at hres
      have heq1 : (decide (a.x = c.x) && decide (a.y = c.y)) = true:=by simpa using heq
      simp (disch:=omega) [gd_and,hlt',htn,wj1,hb1,SR,hn,hna,cl (g1 _),cl (g2 _),heq1,hb0]
      exact ⟨q,hperm,hasc,hres.symm⟩
     ·rw [Afz heq,Bool.false_or] at htw
      have heq2 : (decide (a.x = c.x) && decide (a.y = c.y)) = false:=by
       rw [Bool.eq_false_iff]
       simpa using heq
      simp (disch:=omega) [gd_and,hlt',htn,wj1,hb1,SR,hn,hna,cl (g1 _),cl (g2 _),heq2,wj]
      exact ih (j + 1) (by omega) _ (by omega) (by omega) (by rw [htw,show j + 1 - 1 = j by omega,(Av hx).2])
    | none =>
     have : j = q.length:=by have:=AeU.1 hx; omega
     have hlt' : ¬ (j : Int) < f.length:=by omega
     have htw0 : tw q = false:=by
      rw [htw]
      have : (q.drop (j - 1)).length = 1:=by rw [Afu]; omega
      match hm : q.drop (j - 1),this with
      | [x],_=>rfl
     rw [htw0,AeF (by simp)] at hres
     by_cases h5 : 5000 < q.length
     ·have h5' : (5000 : Int) < f.length:=by omega
      rw [AeJ h5] at hres
      simp (disch:=omega) [hlt',h5',hb0]
      exact ⟨q,hperm,hasc,hres.symm⟩
     ·have h5' : ¬ (5000 : Int) < f.length:=by omega
      rw [AeF h5] at hres
      have hv:=Nj (r:=0) (X:=X) (A:=[]) hql hb1 18
      simp (disch:=omega) [hlt',h5',hb0,hv]
      refine ⟨q,hperm,hasc,?_⟩
      rw [hres]
      unfold zP
      rw [AeF hq0]
 obtain ⟨x,H',h1,rfl,h2⟩:=key
 rcases h2 with ⟨e,h3,rfl⟩ | ⟨h3,q,h4,h5,rfl⟩
 ·exact .inl ⟨e,h3,h1⟩
 ·exact .inr ⟨h3,q,h4,h5,h1⟩
end Go.Mx.Tryz
namespace Go.Mx.Tryz
open Go.Lib
theorem AcY {H : Hp} {r b : Nat} {q : List Ce} (h : nth H r = some (.cs 60 3 (AH q) b false)) (hb : b <= q.length) (k : Nat) : view (k + 2) H (.sl r q.length 3 0 q.length false) = some (.sl (Ao q)):=by
 have e : elems H (.sl r q.length 3 0 q.length false) = some (AH q):=by
  show Option.bind (nth H r) _ = _
  rw [h]
  show gd (Nat.ble b q.length && Nat.beq 3 3) (some (((AH q).drop 0).take q.length)) = _
  rw [Bd,Afc hb,List.drop_zero,AeY (by simp)]
  rfl
 show Option.bind (elems H (.sl r q.length 3 0 q.length false)) _ = _
 rw [e]
 show Option.bind (Af _ (AH q)) _ = _
 have ho : ∀ (H : Hp) (m : List Ce),Af (fun e=>Af (view (k + 1) H) e) (AH m) = some (Ao m):=by
  intro H m
  induction m with
  | nil=>rfl
  | cons x t ih =>
   show Option.bind (some [I.i .i64 x.x,.i .i64 x.y,.i .i64 x.s]) _ = _
   simp only [AeM]
   show Option.bind (Af _ (AH t)) _ = _
   rw [ih]
   rfl
 rw [ho]
 rfl
theorem Ig (q : List Ce) : ((AH q).all fun e=>e.all isM) = true:=by
 simp [AH,Ue,Ce.i,isM]
def apart (a b : Ce) : Prop:=¬ (a.x = b.x /\ a.y = b.y)
theorem Py : ∀ (p : List Ce) (o : Option Ce),CD o p = true -> p.Pairwise (fun a b=>BG a b = true) /\ (∀ a,o = some a -> ∀ d,d ∈ p -> BG a d = true) /\ ∀ d,d ∈ p -> EQ d = true
 | [],_,_=>⟨.nil,fun _ _ d hd=>by simp at hd,fun d hd=>by simp at hd⟩
 | c :: r,o,h=>by
  have h' : EQ c = true /\ (∀ a,o = some a -> BG a c = true) /\ CD (some c) r = true:=by
   cases o with
   | none =>
    have : (EQ c && CD (some c) r) = true:=h
    rw [AeH] at this
    exact ⟨this.1,fun _ h=>(by cases h),this.2⟩
   | some a =>
    have : (EQ c && BG a c && CD (some c) r) = true:=h
    simp only [AeH] at this
    exact ⟨this.1.1,fun _ h=>(by cases h; exact this.1.2),this.2⟩
  obtain ⟨g1,g2,g3⟩:=h'
  obtain ⟨i1,i2,i3⟩:=Py r (some c) g3
  refine ⟨AfN.2 ⟨fun d hd=>i2 c rfl d hd,i1⟩,fun a ha d hd=>?_,fun d hd=>?_⟩
  ·rcases Aff.1 hd with rfl | hd
   ·exact g2 a ha
   ·have h1:=g2 a ha
    have h2:=i2 c rfl d hd
    unfold BG at *
    grind
  ·rcases Aff.1 hd with rfl | hd
   ·exact g1
   ·exact i3 d hd
theorem Bh {p : List Ce} (h : right p = true) : p.Pairwise (fun a b=>BG a b = true) /\ (∀ d,d ∈ p -> EQ d = true) /\ p.length <= 5000:=by
 unfold right at h
 simp only [AeH,Afe] at h
 have:=Py p none h.2
 exact ⟨this.1,this.2.2,h.1⟩
theorem PC : ∀ {p : List Ce},(∀ c,c ∈ p -> EQ c = true) -> bad p = none
 | [],_=>rfl
 | c :: r,h=>by
  have hc:=h c (by simp)
  unfold EQ at hc
  simp only [AeH,Afe] at hc
  have e : Jo c = none:=by
   unfold Jo
   rw [AeF (by rw [hc.1.1]; simp),AeF (by omega)]
  have e2 : bad (c :: r) = match Jo c with | some e=>some e | none=>bad r:=rfl
  rw [e2,e]
  exact PC fun d hd=>h d (by simp [hd])
theorem AcZ : ∀ {p : List Ce},p.Pairwise (fun a b=>BG a b = true) -> tw p = false
 | [],_=>rfl
 | [_],_=>rfl
 | a :: b :: r,h=>by
  have e : tw (a :: b :: r) = (decide (a.x = b.x /\ a.y = b.y) || tw (b :: r)):=rfl
  obtain ⟨h1,h2⟩:=AfN.1 h
  have:=h1 b (by simp)
  rw [e,AcZ h2,Bool.or_false]
  unfold BG at this
  simp at this ⊢
  omega
theorem Aex {p q : List Ce} (hw : p.Pairwise (fun a b=>BG a b = true)) (hq : Asc q) (hpm : q.Perm p) : q = p:=by
 have hqp : q.Pairwise (fun a b=>BG b a = false):=by
  rw [AfY]
  intro i j hi hj hij
  exact hq i j _ _ hij (AeK hi) (AeK hj)
 have hpp : p.Pairwise (fun a b=>BG b a = false):=hw.imp fun {a b} h=>by
  unfold BG at *
  simp at h ⊢
  omega
 refine hpm.eq_of_pairwise (fun a b ha hb h1 h2=>?_) hqp hpp
 have ha' : a ∈ p:=hpm.mem_iff.1 ha
 obtain ⟨i,hi,rfl⟩:=List.mem_iff_getElem.1 ha'
 obtain ⟨j,hj,rfl⟩:=List.mem_iff_getElem.1 hb
 rcases Nat.lt_trichotomy i j with h | h | h
 ·have:=AfY.1 hw i j hi hj h
  rw [this] at h2; cases h2
 ·subst h; rfl
 ·have:=AfY.1 hw j i hj hi h
  rw [this] at h1; cases h1
theorem QH {p q : List Ce} (h : q.Perm p) (ha : p.Pairwise apart) : q.Pairwise apart:=by
 refine (h.pairwise_iff (fun {a b} hab=>?_)).2 ha
 exact fun ⟨h1,h2⟩=>hab ⟨h1.symm,h2.symm⟩
theorem Aev {q : List Ce} (ha : Asc q) (hp : q.Pairwise apart) : q.Pairwise (fun a b=>BG a b = true):=by
 rw [AfY] at hp ⊢
 intro i j hi hj hij
 have h1:=ha i j _ _ hij (AeK hi) (AeK hj)
 have h2:=hp i j hi hj hij
 unfold BG at *
 unfold apart at h2
 simp at *
 omega
theorem Kq {c : Ce} (h : EQ c = true) : DB c.x c.y = true /\ 1 <= c.s /\ c.s < 8:=by
 unfold EQ at h
 simp only [AeH,Afe] at h
 exact ⟨h.1.1,h.1.2,h.2⟩
theorem Wf {p : List Ce} (h : ∀ c,c ∈ p -> EQ c = true) : liv p = p:=by
 unfold liv
 rw [List.filter_eq_self]
 intro c hc
 have:=Kq (h c hc)
 exact Afc (by omega)
theorem VQ : ∀ {p : List Ce},p.Pairwise (fun a b=>BG a b = true) -> (∀ c,c ∈ p -> EQ c = true) -> p.length <= 5000 -> right p = true:=fun {p} h1 h2 h3=>by
 have key : ∀ (p : List Ce) (o : Option Ce),p.Pairwise (fun a b=>BG a b = true) -> (∀ a,o = some a -> ∀ d,d ∈ p -> BG a d = true) -> (∀ c,c ∈ p -> EQ c = true) -> CD o p = true:=by
  intro p
  induction p with
  | nil=>intro o _ _ _; cases o <;> rfl
  | cons c r ih =>
   intro o h1 h2 h3
   obtain ⟨h4,h5⟩:=AfN.1 h1
   have i:=ih (some c) h5 (fun a ha d hd=>by cases ha; exact h4 d hd) (fun d hd=>h3 d (AfI _ hd))
   cases o with
   | none =>
    show (EQ c && CD (some c) r) = true
    rw [h3 c (Afh ..),i]
    rfl
   | some a =>
    show (EQ c && BG a c && CD (some c) r) = true
    rw [h3 c (Afh ..),i,h2 a rfl c (Afh ..)]
    rfl
 unfold right
 rw [Afc h3,key p none h1 (fun a h=>by cases h) h2]
 rfl
end Go.Mx.Tryz
set_option maxHeartbeats 4000000
namespace Go.Mx.Tryz
open Go.Sort Go.Lib Go.Proofs
def Mq (c : Ce) : List Ce -> List Ce
 | []=>[c]
 | d :: r=>if BG c d = true then c :: d :: r else d :: Mq c r
theorem FN (c : Ce) : ∀ p,(Mq c p).Perm (c :: p)
 | []=>List.Perm.refl _
 | d :: r=>by
  unfold Mq
  split
  ·exact List.Perm.refl _
  ·exact ((FN c r).cons d).trans (List.Perm.swap c d r)
theorem Wm (c : Ce) (p : List Ce) : (Mq c p).length = p.length + 1:=(FN c p).length_eq
theorem ZV {a b c : Ce} (h1 : BG a b = true) (h2 : BG b c = true) : BG a c = true:=by
 unfold BG at *
 simp at *
 omega
theorem Qz {a b : Ce} (h : apart a b) (h1 : BG a b = false) : BG b a = true:=by
 unfold BG at *
 unfold apart at h
 simp at *
 omega
theorem QG {a b : Ce} (h : apart a b) : apart b a:=fun ⟨h1,h2⟩=>h ⟨h1.symm,h2.symm⟩
theorem Tv (c : Ce) : ∀ p : List Ce,p.Pairwise (fun a b=>BG a b = true) -> (∀ d,d ∈ p -> apart c d) -> (Mq c p).Pairwise (fun a b=>BG a b = true)
 | [],_,_=>by simp [Mq]
 | d :: r,h,ha=>by
  obtain ⟨h1,h2⟩:=AfN.1 h
  unfold Mq
  split
  ·rename_i hl
   refine AfN.2 ⟨fun e he=>?_,h⟩
   rcases Aff.1 he with rfl | he
   ·exact hl
   ·exact ZV hl (h1 e he)
  ·rename_i hl
   refine AfN.2 ⟨fun e he=>?_,Tv c r h2 fun e he=>ha e (AfI _ he)⟩
   rcases Aff.1 ((FN c r).mem_iff.1 he) with rfl | he
   ·exact Qz (ha d (Afh ..)) (by simpa using hl)
   ·exact h1 e he
def DX (p : List Ce) : List Ce:=p.foldl (fun a c=>Mq c a) []
theorem Jd (p : List Ce) (c : Ce) : DX (p ++ [c]) = Mq c (DX p):=by simp [DX]
theorem Gl : ∀ n (p : List Ce),p.length = n -> (DX p).Perm p /\ (p.Pairwise apart -> (DX p).Pairwise (fun a b=>BG a b = true))
 | 0,p,h=>by
  have : p = []:=Afa h
  subst this
  exact ⟨List.Perm.refl _,fun _=>List.Pairwise.nil⟩
 | n + 1,p,h=>by
  obtain ⟨q,c,rfl⟩ : ∃ q c,p = q ++ [c]:=⟨p.dropLast,p.getLast (by intro e; rw [e] at h; simp at h),(List.dropLast_concat_getLast _).symm⟩
  have hq : q.length = n:=by simpa using h
  obtain ⟨h1,h2⟩:=Gl n q hq
  rw [Jd]
  refine ⟨(FN c _).trans ((h1.cons c).trans (List.perm_append_singleton c q).symm),fun hp=>?_⟩
  rw [List.pairwise_append] at hp
  refine Tv c _ (h2 hp.1) fun d hd=>?_
  exact QG (hp.2.2 d (h1.mem_iff.1 hd) c (List.mem_singleton_self c))
theorem Gm (p : List Ce) : (DX p).Perm p:=(Gl _ p rfl).1
theorem JU {p : List Ce} (h : p.Pairwise apart) : (DX p).Pairwise (fun a b=>BG a b = true):=(Gl _ p rfl).2 h
theorem FH (p : List Ce) : (DX p).length = p.length:=(Gm p).length_eq
theorem SS {p q : List Ce} (hp : p.Pairwise (fun a b=>BG a b = true)) (hq : q.Pairwise (fun a b=>BG a b = true)) (h : q.Perm p) : q = p:=by
 refine Aex hp (fun i j a b hij ha hb=>?_) h
 obtain ⟨h1,rfl⟩:=AeG.1 ha
 obtain ⟨h2,rfl⟩:=AeG.1 hb
 have:=AfY.1 hq i j h1 h2 hij
 unfold BG at *
 simp at *
 omega
theorem BE {f : List Ce} {o : V} {H : Hp} (h : KG f o H) : viewR H o = some (.m (zP f)) /\ Ax o = true:=by
 rcases h with ⟨rfl,rfl,rfl⟩ | ⟨hne,rfl,rfl⟩
 ·exact ⟨rfl,rfl⟩
 ·have:=Nj (r:=0) (b:=0) (X:=[]) (A:=[]) (q:=f) (n:=f.length) rfl (AeR _) 18
  refine ⟨?_,rfl⟩
  show (view 20 _ _).bind _ = _
  rw [this]
  unfold zP
  rw [AeF hne]
  rfl
theorem Wl {v : I} {p : List Ce} (hv : IsSl v (Ao p)) (hl : p.length <= 900000) (c : Ce) (H : Hp) : Gives G 141 [.m v,.m (.ag [.i .i64 c.x,.i .i64 c.y,.i .i64 c.s])] H (.m (zP (Mq c p))) H:=by
 have hr:=hv.rules
 simp only [show (Ao p).length = p.length from by simp [Ao]] at hr
 refine Ah rfl rfl rfl rfl rfl ?_
 simp (disch:=omega) []
 refine (?key : ∀ (i : Nat) (dn : Bool) (f : List Ce) (o : V) (B : List (Nat × List V)) (H1 : Hp),i <= p.length -> (if dn then Mq c p = f ++ p.drop i else f = p.take i /\ Mq c p = p.take i ++ Mq c (p.drop i)) -> KG f o H1 -> getB B 3 = some [.m (.i .i64 c.x),.m (.i .i64 c.y),.m (.i .i64 c.s)] -> Run G c141_B0 (S141_0 (.m v) (.fa 3 0) o (.m (.b dn)) (.m (.i .i64 (i : Int))) B H1) _) 0 false [] _ _ _ (AeR _) ⟨rfl,rfl⟩ (.inl ⟨rfl,rfl,rfl⟩) rfl
 refine BO (fun i : Nat=>p.length - i) fun i ih dn f o B H1 hi hd ho hB=>?_
 obtain ⟨hvw,hnf⟩:=BE ho
 unfold c141_B0
 cases hx : p[i]? with
 | some d =>
  have hlt:=(Av hx).1
  have hlt' : (i : Int) < p.length:=by omega
  have hn:=AK hx
  have wi : wr .i64 ((i : Int) + 1) = (i : Int) + 1:=wr_i64 (by omega) (by omega)
  have gb:=fun H=>Kw c d H
  have hdr:=(Av hx).2
  have htk : p.take (i + 1) = p.take i ++ [d]:=AQ hx
  cases dn with
  | true =>
   simp only [if_true] at hd
   have hfl : f.length <= 900001:=by
    have:=congrArg List.length hd
    rw [Wm,AeL] at this
    omega
   obtain ⟨o1,H2,ha,hn1,ho1⟩:=Ct ho (by omega) d
   simp (disch:=omega) [hr,hlt',hn,wi,hB,Aa,ha,Ag hn1]
   exact ih (i + 1) (by omega) true _ _ _ _ (by omega) (by simp only [if_true]; rw [hd,hdr]; simp) ho1 hB
  | false =>
   simp only [Agb,if_false] at hd
   obtain ⟨rfl,hd2⟩:=hd
   have hfl : (p.take i).length <= 900000:=by rw [AeZ]; omega
   cases hb : BG c d with
   | true =>
    rw [hb] at gb
    obtain ⟨o1,H2,ha,hn1,ho1⟩:=Ct ho (by omega) c
    obtain ⟨o2,H3,ha2,hn2,ho2⟩:=Ct ho1 (by simp; omega) d
    simp (disch:=omega) [hr,hlt',hn,wi,hB,Aa,cl (gb _),ha,Ag hn1,ha2,Ag hn2]
    refine ih (i + 1) (by omega) true _ _ _ _ (by omega) ?_ ho2 hB
    simp only [if_true]
    rw [hd2,hdr]
    simp [Mq,hb]
   | false =>
    rw [hb] at gb
    obtain ⟨o1,H2,ha,hn1,ho1⟩:=Ct ho (by omega) d
    simp (disch:=omega) [hr,hlt',hn,wi,hB,Aa,cl (gb _),ha,Ag hn1]
    refine ih (i + 1) (by omega) false _ _ _ _ (by omega) ?_ ho1 hB
    simp only [Agb,if_false]
    refine ⟨htk.symm,?_⟩
    rw [hd2,hdr,htk]
    simp [Mq,hb]
 | none =>
  have : i = p.length:=by have:=AeU.1 hx; omega
  subst this
  clear ih
  cases dn with
  | true =>
   simp only [if_true,AfR,Afd] at hd
   simp (disch:=omega) [hr,hvw,hnf,Ag hnf,hd]
  | false =>
   simp only [Agb,if_false,AfR,AfM] at hd
   obtain ⟨rfl,hd2⟩:=hd
   obtain ⟨o1,H2,ha,hn1,ho1⟩:=Ct ho (by omega) c
   obtain ⟨hvw1,_⟩:=BE ho1
   have e : Mq c f = f ++ [c]:=hd2
   simp (disch:=omega) [hr,hB,ha,Ag hn1,hvw1,hn1,e]
theorem LX {v : I} {p : List Ce} (hv : IsSl v (Ao p)) (hl : p.length <= 5000) (hg : ∀ c,c ∈ p -> EQ c = true) (ha : p.Pairwise apart) (H : Hp) : Gives G 92 [.m v] H (.tu [.m (zP (DX p)),.m (.i .i64 0)]) H:=by
 have hr:=hv.rules
 simp only [show (Ao p).length = p.length from by simp [Ao]] at hr
 refine Ah rfl rfl rfl rfl rfl ?_
 simp (disch:=omega) []
 refine (?key : ∀ (i : Nat) (B : List (Nat × List V)),i <= p.length -> Run G c92_B0 (S92_0 (.m v) (.m (.nl 4)) (.m (.i .i64 (i : Int))) B []) _) 0 _ (AeR _)
 refine BO (fun i : Nat=>p.length - i) fun i ih B hi=>?_
 unfold c92_B0
 cases hx : p[i]? with
 | some c =>
  have hlt:=(Av hx).1
  have hlt' : (i : Int) < p.length:=by omega
  have hn:=AK hx
  have wi : wr .i64 ((i : Int) + 1) = (i : Int) + 1:=wr_i64 (by omega) (by omega)
  obtain ⟨h1,h2,h3⟩:=Kq (hg c (AeO hx))
  have gp:=fun H=>JZ c.x c.y H
  rw [h1] at gp
  have h4 : ¬ c.s < 0:=by omega
  have h5 : ¬ 8 <= c.s:=by omega
  simp (disch:=omega) [hr,hlt',hn,wi,cl (gp _),h4,h5]
  exact ih (i + 1) (by omega) _ (by omega)
 | none =>
  have : i = p.length:=by have:=AeU.1 hx; omega
  subst this
  clear ih hx hi
  simp (disch:=omega) [hr]
  refine (?key2 : ∀ (i : Nat) (z : I) (B : List (Nat × List V)),i <= p.length -> z = zP (DX (p.take i)) -> Run G c92_B1 (S92_1 (.m v) (.m z) (.m (.i .i64 (i : Int))) B []) _) 0 (.nl 4) _ (AeR _) rfl
  refine BO (fun i : Nat=>p.length - i) fun i ih z B hi hz=>?_
  unfold c92_B1
  cases hx : p[i]? with
  | some c =>
   have hlt:=(Av hx).1
   have hlt' : (i : Int) < p.length:=by omega
   have hn:=AK hx
   have wi : wr .i64 ((i : Int) + 1) = (i : Int) + 1:=wr_i64 (by omega) (by omega)
   obtain ⟨h1,h2,h3⟩:=Kq (hg c (AeO hx))
   have h4 : ¬ c.s = 0:=by omega
   have htk : p.take (i + 1) = p.take i ++ [c]:=AQ hx
   have gi:=fun H=>Wl (v:=z) (by rw [hz]; exact Qr _) (by rw [FH,AeZ]; omega) c H
   rw [<- Jd,<- htk] at gi
   simp (disch:=omega) [hr,hlt',hn,wi,cl (gi _),h4]
   exact ih (i + 1) (by omega) _ _ (by omega) rfl
  | none =>
   have : i = p.length:=by have:=AeU.1 hx; omega
   subst this
   clear ih hx hi
   rw [AfM] at hz
   have hs : IsSl z (Ao (DX p)):=by rw [hz]; exact Qr _
   have hrs:=hs.rules
   have hpw:=JU ha
   have hsl:=FH p
   simp only [show (Ao (DX p)).length = p.length from by simp [Ao,hsl]] at hrs
   generalize hq : DX p = q at *
   rw [<- hz]
   simp (disch:=omega) [hr]
   refine (?key3 : ∀ (j : Nat) (B : List (Nat × List V)),1 <= j -> Run G c92_B2 (S92_2 (.m z) (.m (.i .i64 (j : Int))) B []) _) 1 _ (AeI _)
   refine BO (fun j : Nat=>q.length - j) fun j ih B h1j=>?_
   unfold c92_B2
   cases hx : q[j]? with
   | some c =>
    have hlt:=(Av hx).1
    have hlt2 : j < p.length:=by omega
    have hlt' : (j : Int) < p.length:=by omega
    have wj : wr .i64 ((j : Int) + 1) = (j : Int) + 1:=wr_i64 (by omega) (by omega)
    have wj1 : wr .i64 ((j : Int) - 1) = (j : Int) - 1:=wr_i64 (by omega) (by omega)
    obtain ⟨a,hax⟩ : ∃ a,q[j - 1]? = some a:=⟨q[j - 1]'(by omega),AeK _⟩
    have hn:=AK hx
    have hna:=AK hax
    have hltm : (j : Int) - 1 < p.length:=by omega
    have h0m : (0 : Int) <= (j : Int) - 1:=by omega
    have htn : ((j : Int) - 1).toNat = j - 1:=by omega
    have hls : BG a c = true:=by
     obtain ⟨h1,rfl⟩:=AeG.1 hax
     obtain ⟨h2,rfl⟩:=AeG.1 hx
     exact AfY.1 hpw _ _ h1 h2 (by omega)
    have gb:=fun H=>Kw a c H
    rw [hls] at gb
    simp (disch:=omega) [hrs,hlt',htn,hn,hna,wj,wj1,cl (gb _)]
    exact ih (j + 1) (by omega) _ (by omega)
   | none =>
    have hj : q.length <= j:=AeU.1 hx
    have hlt' : ¬ (j : Int) < p.length:=by omega
    have h5 : ¬ (5000 : Int) < p.length:=by omega
    simp (disch:=omega) [hrs,hlt',h5]
def mvC (a b : Int) (c : Ce) : Ce:=⟨c.x - a,c.y - b,c.s⟩
def tnC (k : Nat) (c : Ce) : Ce:=⟨(Co k c.x c.y).1,(Co k c.x c.y).2,c.s⟩
def Mg : List Ce -> Int
 | []=>0
 | c :: r=>mnF c.x ((c :: r).map Ce.x)
def KE : List Ce -> Int
 | []=>0
 | c :: r=>mnF c.y ((c :: r).map Ce.y)
def Bt (p : List Ce) : List Ce:=p.map (mvC (Mg p) (KE p))
theorem Je (f : List Ce) (c : Ce) : AH f ++ [[.m (.i .i64 c.x),.m (.i .i64 c.y),.m (.i .i64 c.s)]] = AH (f ++ [c]):=by simp [AH,Ue,Ce.i]
theorem Tc (f : List Ce) (hl : f.length <= 1000000) (c : Ce) (B : List (Nat × List V)) : FP ⟨B,[.cs 60 3 (AH f) 0 false]⟩ 60 3 24 (.sl 0 f.length 3 0 f.length false) [[.m (.i .i64 c.x),.m (.i .i64 c.y),.m (.i .i64 c.s)]] = some (.sl 0 (f ++ [c]).length 3 0 (f ++ [c]).length false,⟨B,[.cs 60 3 (AH (f ++ [c])) 0 false]⟩):=by
 have ha:=Er (M:=⟨B,[.cs 60 3 (AH f) 0 false]⟩) (r:=0) (bytes:=24) (xs:=[[.m (.i .i64 c.x),.m (.i .i64 c.y),.m (.i .i64 c.s)]]) rfl (by simp) (by simp; omega) rfl
 simp only [Ek,Afj,Aft,AfL,List.set_cons_zero,Je] at ha
 rw [ha]
 simp
theorem AZ {p : List Ce} (h : right p = true) {c : Ce} (hc : c ∈ p) : (-1048576 <= c.x /\ c.x <= 1048576) /\ (-1048576 <= c.y /\ c.y <= 1048576) /\ 1 <= c.s /\ c.s < 8:=by
 have:=(Bh h).2.1 c hc
 unfold EQ DB at this
 simp only [AeH,Afe] at this
 omega
theorem Ki {p : List Ce} (h : right p = true) : -1048576 <= Mg p /\ Mg p <= 1048576:=by
 cases p with
 | nil=>simp [Mg]
 | cons c r =>
  have hb:=AZ h (Afh ..)
  have h1 : mnF c.x ((c :: r).map Ce.x) <= c.x:=(FJ _ _).1
  have h2 : -1048576 <= mnF c.x ((c :: r).map Ce.x):=GB _ _ _ ⟨by omega,fun y hy=>by
   obtain ⟨d,hd,rfl⟩:=Afb.1 hy
   have:=AZ h hd
   omega⟩
  show -1048576 <= mnF c.x ((c :: r).map Ce.x) /\ mnF c.x ((c :: r).map Ce.x) <= 1048576
  omega
theorem Wd {p : List Ce} (h : right p = true) : -1048576 <= KE p /\ KE p <= 1048576:=by
 cases p with
 | nil=>simp [KE]
 | cons c r =>
  have hb:=AZ h (Afh ..)
  have h1 : mnF c.y ((c :: r).map Ce.y) <= c.y:=(FJ _ _).1
  have h2 : -1048576 <= mnF c.y ((c :: r).map Ce.y):=GB _ _ _ ⟨by omega,fun y hy=>by
   obtain ⟨d,hd,rfl⟩:=Afb.1 hy
   have:=AZ h hd
   omega⟩
  show -1048576 <= mnF c.y ((c :: r).map Ce.y) /\ mnF c.y ((c :: r).map Ce.y) <= 1048576
  omega
set_option maxHeartbeats 2000000 in
theorem Aef {v : I} {p : List Ce} (hv : IsSl v (Ao p)) (hp : right p = true) (H : Hp) : Gives G 71 [.m v] H (.m (if p = [] then v else .sl (Ao (Bt p)))) H:=by
 have hl : p.length <= 5000:=(Bh hp).2.2
 have hr:=hv.rules
 have gb:=fun H=>Aes hv (by omega) H
 have gr:=fun H=>No hv (by omega) H
 rw [hp] at gr
 refine Ah rfl rfl rfl rfl rfl ?_
 cases hpe : p with
 | nil =>
  subst hpe
  simp (disch:=omega) [gd_and,Aa,cl (gb _),ND,NE]
 | cons c0 r0 =>
  have hne : p ≠ []:=by rw [hpe]; simp
  rw [<- hpe]
  obtain ⟨bw,bh,hbc⟩ : ∃ bw bh,NE p = [Mg p,KE p,bw,bh]:=by
   obtain ⟨d,hd⟩ : ∃ d,(c0 :: r0)[(c0 :: r0).length - 1]? = some d:=⟨_,AeK (by simp)⟩
   have hy:=(JW (by rw [<- hpe]; exact hp) hd).1
   have hlow : KE (c0 :: r0) = c0.y:=hy
   have hp' : right (c0 :: r0) = true:=by rw [<- hpe]; exact hp
   rw [hpe]
   simp only [NE]
   rw [AeJ hp',hlow]
   exact ⟨_,_,rfl⟩
  have hbv : ND p = .tu [.m (.ag [.i .i64 (Mg p),.i .i64 (KE p),.i .i64 bw,.i .i64 bh]),.m (.b true)]:=by
   unfold ND
   rw [hbc,hp]
   simp [hne]
  rw [hbv] at gb
  have hlx:=Ki hp
  have hly:=Wd hp
  have hnc : Nat.beq 0 p.length = false:=by cases hq : p with | nil=>exact absurd hq hne | cons _ _=>rfl
  simp only [show (Ao p).length = p.length from by simp [Ao]] at hr
  have hcap : p.length * 24 <= 281474976710656:=by omega
  have hcap2 : p.length <= 9223372036854775807:=by omega
  have hdc : decide (0 = p.length) = false:=by rw [<- Fj]; exact hnc
  simp (disch:=omega) [gd_and,hr,Aa,cl (gb _),cl (gr _),hne,hcap,hcap2,hdc]
  refine (?key : ∀ (i : Nat) (f : List Ce) (B : List (Nat × List V)),i <= p.length -> f = (p.take i).map (mvC (Mg p) (KE p)) -> getB B 3 = some [.m (.i .i64 (Mg p)),.m (.i .i64 (KE p)),.m (.i .i64 bw),.m (.i .i64 bh)] -> Run G c71_B0 (S71_0 (.fa 3 0) (.sl 0 f.length 3 0 f.length false) (.m v) (.m (.i .i64 p.length)) (.m (.i .i64 (i : Int))) B [.cs 60 3 (AH f) 0 false]) _) 0 [] [(3,[.m (.i .i64 (Mg p)),.m (.i .i64 (KE p)),.m (.i .i64 bw),.m (.i .i64 bh)])] (AeR _) rfl rfl
  refine BO (fun i : Nat=>p.length - i) fun i ih f B hi hf0 hB=>?_
  unfold c71_B0
  cases hx : p[i]? with
  | some c =>
   have hlt:=(Av hx).1
   have hlt' : (i : Int) < p.length:=by omega
   have hn:=AK hx
   have wi : wr .i64 ((i : Int) + 1) = (i : Int) + 1:=wr_i64 (by omega) (by omega)
   have htk : p.take (i + 1) = p.take i ++ [c]:=AQ hx
   have hb:=AZ hp (AeO hx)
   have w1 : wr .i64 (c.x - Mg p) = c.x - Mg p:=wr_i64 (by omega) (by omega)
   have w2 : wr .i64 (c.y - KE p) = c.y - KE p:=wr_i64 (by omega) (by omega)
   have hf : f.length <= 1000000:=by rw [hf0,AeX,AeZ]; omega
   have ha:=fun B=>Tc f hf (mvC (Mg p) (KE p) c) B
   have e : f ++ [mvC (Mg p) (KE p) c] = (p.take (i + 1)).map (mvC (Mg p) (KE p)):=by rw [htk,hf0]; simp
   have ih':=ih (i + 1) (by omega) (f ++ [mvC (Mg p) (KE p) c])
   clear ih hf0
   generalize f ++ [mvC (Mg p) (KE p) c] = f' at *
   simp only [mvC] at ha
   simp (disch:=omega) [gd_and,hr,hlt',hn,wi,hB,w1,w2,ha]
   exact ih' _ (by omega) e (by simpa using hB)
  | none =>
   have : i = p.length:=by have:=AeU.1 hx; omega
   subst this
   clear ih
   rw [AfM] at hf0
   have hvv:=Nj (r:=0) (b:=0) (X:=[]) (A:=[]) (q:=Bt p) (n:=(Bt p).length) rfl (AeR _) 18
   have e : f = Bt p:=hf0
   rw [e]
   clear e hf0
   generalize Bt p = f at *
   have hvr : viewR [.cs 60 3 (AH f) 0 false] (.sl 0 f.length 3 0 f.length false) = some (.m (.sl (Ao f))):=by
    show (view 20 _ _).bind _ = _
    rw [hvv]
    rfl
   simp (disch:=omega) [hvr]
theorem WF {k : Nat} {x y : Int} (hx : -1048576 <= x /\ x <= 1048576) (hy : -1048576 <= y /\ y <= 1048576) : (-1048576 <= (Co k x y).1 /\ (Co k x y).1 <= 1048576) /\ (-1048576 <= (Co k x y).2 /\ (Co k x y).2 <= 1048576):=by
 unfold Co
 split <;> dsimp only <;> omega
theorem WE {k : Nat} {x y z w : Int} (h1 : (Co k x y).1 = (Co k z w).1) (h2 : (Co k x y).2 = (Co k z w).2) : x = z /\ y = w:=by
 unfold Co at h1 h2
 split at h1 <;> simp at h1 h2 <;> omega
theorem GX {p : List Ce} (h : p.Pairwise (fun a b=>BG a b = true)) : p.Pairwise apart:=h.imp fun {a b} h=>by
 unfold BG at h
 unfold apart
 simp at h
 omega
theorem Jb (k : Nat) {p : List Ce} (h : p.Pairwise apart) : (p.map (tnC k)).Pairwise apart:=by
 rw [List.pairwise_map]
 refine h.imp fun {a b} h h2=>h ?_
 exact WE (k:=k) h2.1 h2.2
def OutI (f : List Ce) (o : V) (H : Hp) : Prop:=(f = [] /\ o = .m (.nl 4) /\ H = []) \/ (f ≠ [] /\ o = .sl 1 f.length 3 0 f.length false /\ nth H 1 = some (.cs 60 3 (AH f) 0 false))
theorem ZJ {f : List Ce} {o : V} {H : Hp} (h : OutI f o H) : Ax o = true:=by
 rcases h with ⟨_,rfl,_⟩ | ⟨_,rfl,_⟩ <;> rfl
theorem Td {f : List Ce} {o : V} {H : Hp} (h : OutI f o H) (hl : f.length <= 1000000) (q : Row) (c : Ce) : ∃ o1 H1,(∀ B,FP ⟨B,H ++ [q]⟩ 60 3 24 o [[.m (.i .i64 c.x),.m (.i .i64 c.y),.m (.i .i64 c.s)]] = some (o1,⟨B,H1⟩)) /\ Ax o1 = true /\ OutI (f ++ [c]) o1 H1:=by
 rcases h with ⟨rfl,rfl,rfl⟩ | ⟨hne,rfl,h1⟩
 ·exact ⟨_,_,fun B=>rfl,rfl,.inr ⟨by simp,rfl,rfl⟩⟩
 ·have h2 : nth (H ++ [q]) 1 = some (.cs 60 3 (AH f) 0 false):=by rw [BF _ _ _ (AI h1)]; exact h1
  have ha:=fun B=>Er (M:=⟨B,H ++ [q]⟩) (r:=1) (bytes:=24) (xs:=[[.m (.i .i64 c.x),.m (.i .i64 c.y),.m (.i .i64 c.s)]]) h2 (by simp) (by simp; omega) rfl
  simp only [Ek,Afj,Aft,AfL,Je] at ha
  refine ⟨_,_,ha,rfl,.inr ⟨by simp,by simp,?_⟩⟩
  exact AO (AI h2)
theorem SK {α : Type} (l : List α) (x y : α) : AF (l ++ [x]) l.length y = some (l ++ [y]):=by
 rw [Am _ _ _ (by simp)]
 simp
def Kj (g : Ce -> Int) : List Ce -> Int
 | []=>0
 | c :: r=>mnF (g c) ((c :: r).map g)
theorem Mh (g : Ce -> Int) (p : List Ce) (c : Ce) (i : Nat) (hi : p.length = i) : Kj g (p ++ [c]) = if i = 0 \/ g c < Kj g p then g c else Kj g p:=by
 cases p with
 | nil=>simp at hi; subst hi; simp [Kj,mnF]
 | cons d r =>
  have h0 : ¬ i = 0:=by simp at hi; omega
  have e : ((d :: r) ++ [c]).map g = (d :: r).map g ++ [g c]:=by simp
  show mnF (g d) (((d :: r) ++ [c]).map g) = _
  rw [e,Kg]
  show min (Kj g (d :: r)) (g c) = _
  simp only [h0,false_or]
  rw [Int.min_def]
  split <;> split <;> omega
theorem w3_x {g : List Ce} {j : Nat} {c : Ce} (h : g[j]? = some c) (x : Int) : BD 3 (AH g) j 0 [.m (.i .i64 x)] = some (AH (g.set j ⟨x,c.y,c.s⟩)):=by
 show (nth (AH g) j).bind _ = _
 rw [Dz h]
 show AF (AH g) j [.m (.i .i64 x),.m (.i .i64 c.y),.m (.i .i64 c.s)] = _
 rw [Am _ _ _ (by simpa using (Av h).1)]
 simp [AH,List.map_set,Ue,Ce.i]
theorem w3_y {g : List Ce} {j : Nat} {c : Ce} (h : g[j]? = some c) (y : Int) : BD 3 (AH g) j 1 [.m (.i .i64 y)] = some (AH (g.set j ⟨c.x,y,c.s⟩)):=by
 show (nth (AH g) j).bind _ = _
 rw [Dz h]
 show AF (AH g) j [.m (.i .i64 c.x),.m (.i .i64 y),.m (.i .i64 c.s)] = _
 rw [Am _ _ _ (by simpa using (Av h).1)]
 simp [AH,List.map_set,Ue,Ce.i]
theorem r3_x {g : List Ce} {j : Nat} {c : Ce} (h : g[j]? = some c) : CX 3 (AH g) j 0 1 = some [.m (.i .i64 c.x)]:=by
 show (nth (AH g) j).bind _ = _
 rw [Dz h]
 rfl
theorem r3_y {g : List Ce} {j : Nat} {c : Ce} (h : g[j]? = some c) : CX 3 (AH g) j 1 1 = some [.m (.i .i64 c.y)]:=by
 show (nth (AH g) j).bind _ = _
 rw [Dz h]
 rfl
theorem Ji (f : List Ce) : Kj Ce.x f = Mg f:=by cases f <;> rfl
theorem Jh (f : List Ce) : Kj Ce.y f = KE f:=by cases f <;> rfl
theorem Tr (g : Ce -> Int) {f : List Ce} (h : ∀ c,c ∈ f -> -1048576 <= g c /\ g c <= 1048576) (hne : f ≠ []) : -1048576 <= Kj g f /\ Kj g f <= 1048576:=by
 obtain ⟨c,r,rfl⟩:=Afq hne
 have hb:=h c (Afh ..)
 have h1 : mnF (g c) ((c :: r).map g) <= g c:=(FJ _ _).1
 have h2 : -1048576 <= mnF (g c) ((c :: r).map g):=GB _ _ _ ⟨by omega,fun y hy=>by
  obtain ⟨d,hd,rfl⟩:=Afb.1 hy
  have:=h d hd
  omega⟩
 show -1048576 <= mnF (g c) ((c :: r).map g) /\ mnF (g c) ((c :: r).map g) <= 1048576
 omega
theorem Jg (a b : Int) {p : List Ce} (h : p.Pairwise apart) : (p.map (mvC a b)).Pairwise apart:=by
 rw [List.pairwise_map]
 refine h.imp fun {c d} h h2=>h ?_
 obtain ⟨h3,h4⟩:=h2
 simp only [mvC] at h3 h4
 omega
set_option maxHeartbeats 2000000 in
theorem Aaf {v : I} {p : List Ce} (hv : IsSl v (Ao p)) (hp : right p = true) (k : Int) (hk : -9223372036854775808 <= k /\ k <= 9223372036854775807) (H : Hp)
  (hb : ∀ c,c ∈ Bt (p.map (tnC (DS k))) -> EQ c = true) : Gives G 81 [.m v,.m (.i .i64 k)] H (.m (zP (DX (Bt (p.map (tnC (DS k))))))) H:=by
 have hl : p.length <= 5000:=(Bh hp).2.2
 have hr:=hv.rules
 simp only [show (Ao p).length = p.length from by simp [Ao]] at hr
 refine Ah rfl rfl rfl rfl rfl ?_
 simp (disch:=omega) []
 refine (?key : ∀ (i : Nat) (f : List Ce) (o : V) (x y : Int) (B : List (Nat × List V)) (H1 : Hp),i <= p.length -> f = (p.take i).map (tnC (DS k)) -> x = Kj Ce.x f -> y = Kj Ce.y f -> OutI f o H1 -> Run G c81_B0 (S81_0 (.m v) (.m (.i .i64 k)) (.m (.i .i64 x)) (.m (.i .i64 y)) o (.m (.i .i64 (i : Int))) B H1) _) 0 [] _ 0 0 _ _ (AeR _) rfl rfl rfl (.inl ⟨rfl,rfl,rfl⟩)
 refine BO (fun i : Nat=>p.length - i) fun i ih f o x y B H1 hi hf hx0 hy0 ho=>?_
 unfold c81_B0
 have hfl : f.length = i:=by rw [hf,AeX,AeZ]; omega
 cases hx : p[i]? with
 | some c =>
  have hlt:=(Av hx).1
  have hlt' : (i : Int) < p.length:=by omega
  have hn:=AK hx
  have wi : wr .i64 ((i : Int) + 1) = (i : Int) + 1:=wr_i64 (by omega) (by omega)
  have htk : p.take (i + 1) = p.take i ++ [c]:=AQ hx
  have hbd:=AZ hp (AeO hx)
  have ga:=fun H=>AaA k c.x c.y hk (by omega) (by omega) H
  have he : f ++ [tnC (DS k) c] = (p.take (i + 1)).map (tnC (DS k)):=by rw [htk,hf]; simp
  have hnf:=ZJ ho
  have sx:=Mh Ce.x f (tnC (DS k) c) i hfl
  have sy:=Mh Ce.y f (tnC (DS k) c) i hfl
  obtain ⟨o1,H2,ha,hn1,ho1⟩:=Td ho (by omega) (.cs 70 2 [[.m (.i .i64 (tnC (DS k) c).x),.m (.i .i64 (tnC (DS k) c).y)]] 1 false) (tnC (DS k) c)
  have e1 : (tnC (DS k) c).x = (Co (DS k) c.x c.y).1:=rfl
  have e2 : (tnC (DS k) c).y = (Co (DS k) c.x c.y).2:=rfl
  have e3 : (tnC (DS k) c).s = c.s:=rfl
  simp only [e1,e2,e3] at ha sx sy
  generalize hq : tnC (DS k) c = q at *
  generalize (Co (DS k) c.x c.y).1 = tx at *
  generalize (Co (DS k) c.x c.y).2 = ty at *
  have hse:=fun y=>SK H1 (Row.cs 70 2 [[.m (.i .i64 0),.m (.i .i64 0)]] 0 false) y
  have hne:=fun (y : Row)=>Dc H1 [y] 0
  simp only [Nat.add_zero] at hne
  have hn0 : ∀ y : Row,nth [y] 0 = some y:=fun _=>rfl
  have hw : BD 2 [[V.m (.i .i64 0),V.m (.i .i64 0)]] 0 0 [V.m (.i .i64 tx),V.m (.i .i64 ty)] = some [[V.m (.i .i64 tx),V.m (.i .i64 ty)]]:=rfl
  have hr0 : CX 2 [[V.m (.i .i64 tx),V.m (.i .i64 ty)]] 0 0 1 = some [V.m (.i .i64 tx)]:=rfl
  have hr1 : CX 2 [[V.m (.i .i64 tx),V.m (.i .i64 ty)]] 0 1 1 = some [V.m (.i .i64 ty)]:=rfl
  by_cases h0 : i = 0
  ·have sx' : tx = Kj Ce.x (f ++ [q]):=by rw [sx,AeJ (.inl h0)]
   have sy' : ty = Kj Ce.y (f ++ [q]):=by rw [sy,AeJ (.inl h0)]
   have ih1:=ih (i + 1) (by omega) (f ++ [q]) o1 tx ty B H2 (by omega) he sx' sy' ho1
   clear ih sx sy sx' sy' he hf ho ho1 hx0 hy0 hi hfl hnf hx htk
   subst h0
   simp (disch:=omega) [gd_and,wr_i64,hr,hlt,hn,cl (ga _),hse,hne,hn0,hw,hr0,hr1,ha,Ag hn1]
   exact ih1
  ·have h0' : ¬ (i : Int) = 0:=by omega
   by_cases hx1 : tx < x
   ·by_cases hy1 : ty < y
    ·
     simp (disch:=omega) [gd_and,hr,hlt',hn,wi,cl (ga _),hse,hne,hn0,hw,hr0,hr1,h0,hx1,hy1,ha,Ag hn1]
     exact ih (i + 1) (by omega) _ _ _ _ _ _ (by omega) he (by rw [sx,AeJ (.inr (by rw [<- hx0]; exact hx1))]) (by rw [sy,AeJ (.inr (by rw [<- hy0]; exact hy1))]) ho1
    ·
     simp (disch:=omega) [gd_and,hr,hlt',hn,wi,cl (ga _),hse,hne,hn0,hw,hr0,hr1,h0,hx1,hy1,ha,Ag hn1]
     exact ih (i + 1) (by omega) _ _ _ _ _ _ (by omega) he (by rw [sx,AeJ (.inr (by rw [<- hx0]; exact hx1))]) (by rw [sy,AeF (not_or.2 ⟨h0,by rw [<- hy0]; exact hy1⟩)]; exact hy0) ho1
   ·by_cases hy1 : ty < y
    ·
     simp (disch:=omega) [gd_and,hr,hlt',hn,wi,cl (ga _),hse,hne,hn0,hw,hr0,hr1,h0,hx1,hy1,ha,Ag hn1]
     exact ih (i + 1) (by omega) _ _ _ _ _ _ (by omega) he (by rw [sx,AeF (not_or.2 ⟨h0,by rw [<- hx0]; exact hx1⟩)]; exact hx0) (by rw [sy,AeJ (.inr (by rw [<- hy0]; exact hy1))]) ho1
    ·
     simp (disch:=omega) [gd_and,hr,hlt',hn,wi,cl (ga _),hse,hne,hn0,hw,hr0,hr1,h0,hx1,hy1,ha,Ag hn1]
     exact ih (i + 1) (by omega) _ _ _ _ _ _ (by omega) he (by rw [sx,AeF (not_or.2 ⟨h0,by rw [<- hx0]; exact hx1⟩)]; exact hx0) (by rw [sy,AeF (not_or.2 ⟨h0,by rw [<- hy0]; exact hy1⟩)]; exact hy0) ho1
 | none =>
  have : i = p.length:=by have:=AeU.1 hx; omega
  subst this
  clear ih hx hi
  rw [AfM] at hf
  rw [Ji] at hx0
  rw [Jh] at hy0
  simp (disch:=omega) [hr]
  have hbnd : ∀ c,c ∈ f -> (-1048576 <= c.x /\ c.x <= 1048576) /\ (-1048576 <= c.y /\ c.y <= 1048576):=fun c hc=>by
   rw [hf] at hc
   obtain ⟨d,hd,rfl⟩:=Afb.1 hc
   have hb:=AZ hp hd
   exact WF hb.1 hb.2.1
  rcases ho with ⟨h1,rfl,rfl⟩ | ⟨hne,rfl,hn1⟩
  ·have : p = []:=by cases p with | nil=>rfl | cons a b=>simp [h1] at hf
   subst this
   unfold c81_B1
   have gf:=fun H=>LX (p:=[]) ED (by simp) (by simp) List.Pairwise.nil H
   simp (disch:=omega) [cl (gf _)]
   rfl
  ·have hxb : -1048576 <= x /\ x <= 1048576:=by
    rw [hx0]
    rw [<- Ji]
    exact Tr Ce.x (fun c hc=>(hbnd c hc).1) hne
   have hyb : -1048576 <= y /\ y <= 1048576:=by
    rw [hy0]
    rw [<- Jh]
    exact Tr Ce.y (fun c hc=>(hbnd c hc).2) hne
   refine (?key2 : ∀ (j b : Nat) (g : List Ce) (B : List (Nat × List V)) (H1 : Hp),j <= f.length -> b <= f.length -> g = (f.take j).map (mvC x y) ++ f.drop j -> nth H1 1 = some (.cs 60 3 (AH g) b false) -> Run G c81_B1 (S81_1 (.m (.i .i64 x)) (.m (.i .i64 y)) (.sl 1 f.length 3 0 f.length false) (.m (.i .i64 (j : Int))) B H1) _) 0 0 f _ _ (AeR _) (AeR _) (by simp) hn1
   clear hn1 H1 B
   refine BO (fun j : Nat=>f.length - j) fun j ih b g B H1 hj hbl hg hn1=>?_
   have hgl : g.length = f.length:=by rw [hg,AeL,AeX,AeZ,Afu]; omega
   unfold c81_B1
   cases hx : f[j]? with
   | some c =>
    have hlt:=(Av hx).1
    have hlt' : (j : Int) < f.length:=by omega
    have wj : wr .i64 ((j : Int) + 1) = (j : Int) + 1:=wr_i64 (by omega) (by omega)
    have hbc:=hbnd c (AeO hx)
    have w1 : wr .i64 (c.x - x) = c.x - x:=wr_i64 (by omega) (by omega)
    have w2 : wr .i64 (c.y - y) = c.y - y:=wr_i64 (by omega) (by omega)
    have htl : ((f.take j).map (mvC x y)).length = j:=by rw [AeX,AeZ]; omega
    have hgc : g[j]? = some c:=by
     rw [hg,Afp (by omega),htl,Nat.sub_self,(Av hx).2]
     rfl
    have hgc1 : (g.set j ⟨c.x - x,c.y,c.s⟩)[j]? = some ⟨c.x - x,c.y,c.s⟩:=by
     rw [List.getElem?_set_self (by omega)]
    have rx:=r3_x hgc
    have ry:=r3_y hgc1
    have wx:=w3_x hgc (c.x - x)
    have wy:=w3_y hgc1 (c.y - y)
    rw [List.set_set] at wy
    have hlH:=AI hn1
    have hs1:=fun r=>Am H1 1 r hlH
    have hs2:=fun a r=>Am (H1.set 1 a) 1 r (by simpa using hlH)
    have hn2:=fun (a : Row)=>AO (x:=a) hlH
    have e : g.set j ⟨c.x - x,c.y - y,c.s⟩ = (f.take (j + 1)).map (mvC x y) ++ f.drop (j + 1):=by
     rw [hg,Aga _ _ (by omega),htl,Nat.sub_self,(Av hx).2,AQ hx]
     simp [mvC]
    dsimp only at ry wy
    simp (disch:=omega) [gd_and,hlt',wj,w1,w2,hn1,hn2,rx,ry,wx,wy,hs1,hs2,hbl,hgl]
    refine ih (j + 1) (by omega) f.length _ _ _ (by omega) (AeI _) e ?_
    simp [hlH,AO]
   | none =>
    have : j = f.length:=by have:=AeU.1 hx; omega
    subst this
    clear ih
    have hgh : g = Bt f:=by
     rw [hg,AfM,AfR,Afd,hx0,hy0]
     rfl
    rw [<- hf] at hb ⊢
    have hgn : DX g ≠ []:=fun h=>by
     have:=FH g
     rw [h] at this
     rw [hgl] at this
     exact hne (Afa this.symm)
    have hfa : f.Pairwise apart:=by rw [hf]; exact Jb _ (GX (Bh hp).1)
    have hga : g.Pairwise apart:=by
     rw [hgh]
     exact Jg _ _ hfa
    have hzg : Gg (.tu [.m (zP (DX g)),.m (.i .i64 0)]) = false:=by
     unfold zP
     rw [AeF hgn]
     rfl
    have gf:=LX (Ci (Ao g)) (by omega) (by rw [hgh]; exact hb) hga []
    have hvv:=AcY hn1 (by omega) 18
    have hvs : Af (view 20 H1) [V.sl 1 f.length 3 0 f.length false] = some [.sl (Ao g)]:=by
     rw [<- hgl]
     simp only [Af,hvv,AeM]
    have hfz : AT ([V.sl 1 f.length 3 0 f.length false].flatMap DT) H1 = some (H1.set 1 (.cs 60 3 (AH g) b true)):=by
     show Option.bind (nth H1 1) _ = _
     rw [hn1]
     show Option.bind (gd ((AH g).all fun e=>e.all isM) (some (Row.cs 60 3 (AH g) b true))) _ = _
     rw [Ig]
     show Option.bind (AF H1 1 _) _ = _
     rw [Am _ _ _ (AI hn1)]
     rfl
    have gF:=CA (is:=[.sl (Ao g)]) rfl rfl gf hvs (by simp [DT,GS]) hzg rfl hfz
    rw [<- hgh]
    generalize zP (DX g) = zz at *
    simp (disch:=omega) [cl gF]
theorem Gq (g : Ce -> Int) {p : List Ce} (hne : p ≠ []) : (∀ c,c ∈ p -> Kj g p <= g c) /\ ∀ x,(∀ c,c ∈ p -> x <= g c) -> x <= Kj g p:=by
 obtain ⟨c,r,rfl⟩:=Afq hne
 refine ⟨fun d hd=>(FJ ((c :: r).map g) (g c)).2 _ (List.mem_map_of_mem hd),fun x hx=>GB _ _ _ ⟨hx c (Afh ..),fun y hy=>?_⟩⟩
 obtain ⟨d,hd,rfl⟩:=Afb.1 hy
 exact hx d hd
theorem ZW (a b : Int) (c d : Ce) : BG (mvC a b c) (mvC a b d) = BG c d:=by
 unfold BG mvC
 rw [Afs]
 simp only [Afe]
 omega
theorem NB {p : List Ce} (h : p.Pairwise (fun a b=>BG a b = true)) : (Bt p).Pairwise (fun a b=>BG a b = true):=by
 unfold Bt
 rw [List.pairwise_map]
 exact h.imp fun {a b} h=>by rw [ZW]; exact h
def Aee (k : Nat) (p : List Ce) : List Ce:=DX (Bt (p.map (tnC k)))
def TY (p : List Ce) : Prop:=∀ c d,c ∈ p -> d ∈ p -> c.x - d.x <= 1048576 /\ c.y - d.y <= 1048576
theorem Zu (k : Nat) {p : List Ce} (h : TY p) : TY (p.map (tnC k)):=fun c d hc hd=>by
 obtain ⟨a,ha,rfl⟩:=Afb.1 hc
 obtain ⟨b,hb,rfl⟩:=Afb.1 hd
 have h1:=h a b ha hb
 have h2:=h b a hb ha
 unfold tnC Co
 split <;> dsimp only <;> omega
theorem LS {p : List Ce} (h : TY p) (hs : ∀ c,c ∈ p -> 1 <= c.s /\ c.s < 8) : ∀ c,c ∈ Bt p -> EQ c = true:=fun c hc=>by
 obtain ⟨d,hd,rfl⟩:=Afb.1 hc
 have hne : p ≠ []:=fun e=>by subst e; cases hd
 obtain ⟨x1,x2⟩:=Gq Ce.x hne
 obtain ⟨y1,y2⟩:=Gq Ce.y hne
 have a1:=x1 d hd
 have b1:=y1 d hd
 have a2:=x2 (d.x - 1048576) fun e he=>by have:=(h d e hd he).1; omega
 have b2:=y2 (d.y - 1048576) fun e he=>by have:=(h d e hd he).2; omega
 rw [Ji] at a1 a2
 rw [Jh] at b1 b2
 have:=hs d hd
 unfold EQ DB mvC
 simp only [AeH,Afe]
 omega
theorem tn_s {k : Nat} {p : List Ce} (hp : right p = true) : ∀ c,c ∈ p.map (tnC k) -> 1 <= c.s /\ c.s < 8:=fun c hc=>by
 obtain ⟨d,hd,rfl⟩:=Afb.1 hc
 exact (AZ hp hd).2.2
theorem Ps {k : Nat} {p : List Ce} (hp : right p = true) (h : TY p) : ∀ c,c ∈ Bt (p.map (tnC k)) -> EQ c = true:=LS (Zu k h) (tn_s hp)
theorem TA {k : Nat} {p : List Ce} (hp : right p = true) (h : TY p) : right (Aee k p) = true:=by
 have ha : (Bt (p.map (tnC k))).Pairwise apart:=Jg _ _ (Jb k (GX (Bh hp).1))
 refine VQ (JU ha) (fun c hc=>Ps hp h c ((Gm _).mem_iff.1 hc)) ?_
 unfold Aee
 rw [FH]
 unfold Bt
 rw [AeX,AeX]
 exact (Bh hp).2.2
theorem Aed {v : I} {p : List Ce} (hv : IsSl v (Ao p)) (hp : right p = true) (hs : TY p) (k : Int) (hk : -9223372036854775808 <= k /\ k <= 9223372036854775807) (H : Hp) : Gives G 81 [.m v,.m (.i .i64 k)] H (.m (zP (Aee (DS k) p))) H:=Aaf hv hp k hk H (Ps hp hs)
def Cd (p : List Ce) : Bool:=match NE p with
 | [_,_,w,h]=>decide (1048577 < w \/ 1048577 < h)
 | _=>false
theorem Xv (p : List Ce) : ∃ x y w h,NE p = [x,y,w,h]:=by
 unfold NE
 split
 ·exact ⟨_,_,_,_,rfl⟩
 ·split
  ·exact ⟨_,_,_,_,rfl⟩
  ·exact ⟨_,_,_,_,rfl⟩
theorem ZY {v : I} {p : List Ce} (hv : IsSl v (Ao p)) (hl : (p.length : Int) <= 9223372036854775807) (H : Hp) : Gives G 70 [.m v] H (.m (.b (Cd p))) H:=by
 have gb:=fun H=>Aes hv hl H
 obtain ⟨x,y,w,h,e⟩:=Xv p
 have e2 : ND p = .tu [.m (.ag [.i .i64 x,.i .i64 y,.i .i64 w,.i .i64 h]),.m (.b (!p.isEmpty && right p))]:=by unfold ND; rw [e]; rfl
 rw [e2] at gb
 have e3 : Cd p = decide (1048577 < max w h):=by
  unfold Cd
  rw [e]
  dsimp only
  congr 1
  rw [eq_iff_iff]
  omega
 rw [e3]
 refine Ah rfl rfl rfl rfl rfl ?_
 simp (disch:=omega) [gd_and,cl (gb _)]
theorem ZZ {v : I} {p : List Ce} (hv : IsSl v (Ao p)) (hl : (p.length : Int) <= 9223372036854775807) (H : Hp) : Gives G 79 [.m v] H (.m (.b (Cd p))) H:=by
 have gb:=fun H=>box_r hv hl H
 obtain ⟨x,y,w,h,e⟩:=Xv p
 have e2 : ND p = .tu [.m (.ag [.i .i64 x,.i .i64 y,.i .i64 w,.i .i64 h]),.m (.b (!p.isEmpty && right p))]:=by unfold ND; rw [e]; rfl
 rw [e2] at gb
 refine Ah rfl rfl rfl rfl rfl ?_
 have e3 : Cd p = decide (1048577 < w \/ 1048577 < h):=by
  unfold Cd
  rw [e]
 rw [e3]
 by_cases hw : 1048577 < w
 ·simp (disch:=omega) [gd_and,cl (gb _),hw]
 ·simp (disch:=omega) [gd_and,cl (gb _),hw]
theorem Ic {p : List Ce} (hp : right p = true) (h : Cd p = false) : TY p:=by
 intro c d hc hd
 cases p with
 | nil=>cases hc
 | cons a r =>
  obtain ⟨l,hl⟩ : ∃ d,(a :: r)[(a :: r).length - 1]? = some d:=⟨_,AeK (by simp)⟩
  obtain ⟨y1,y2⟩:=JW hp hl
  have hla : ∀ h,(a :: r).getLast h = l:=fun h=>by
   rw [List.getLast_eq_getElem,<- AeD,<- hl,AeK]
  have mx:=fun (e : Ce) (he : e ∈ a :: r)=>(Mf ((a :: r).map Ce.x) a.x).2 _ (List.mem_map_of_mem he)
  have mn:=fun (e : Ce) (he : e ∈ a :: r)=>(FJ ((a :: r).map Ce.x) a.x).2 _ (List.mem_map_of_mem he)
  have my:=fun (e : Ce) (he : e ∈ a :: r)=>(Mf ((a :: r).map Ce.y) a.y).2 _ (List.mem_map_of_mem he)
  have ny:=fun (e : Ce) (he : e ∈ a :: r)=>(FJ ((a :: r).map Ce.y) a.y).2 _ (List.mem_map_of_mem he)
  have bx:=Ki hp
  have bX : mxF a.x ((a :: r).map Ce.x) <= 1048576:=Me _ _ _ ⟨(AZ hp (Afh ..)).1.2,fun y hy=>by
   obtain ⟨e,he,rfl⟩:=Afb.1 hy
   exact (AZ hp he).1.2⟩
  have hb1:=AZ hp (Afh (a:=a) (l:=r))
  have hb2:=AZ hp (AeO hl)
  have m1:=mx c hc
  have m2:=mn d hd
  have m3:=my c hc
  have m4:=ny d hd
  have m5:=mn a (Afh ..)
  have m6:=mx a (Afh ..)
  have bx' : -1048576 <= mnF a.x ((a :: r).map Ce.x):=bx.1
  unfold Cd NE at h
  dsimp only at h
  rw [AeJ hp,hla] at h
  rw [y1] at m4
  rw [y2] at m3
  generalize mnF a.x ((a :: r).map Ce.x) = n at *
  generalize mxF a.x ((a :: r).map Ce.x) = m at *
  dsimp only at h
  rw [wr_i64 (x:=m - n) (by omega) (by omega),wr_i64 (x:=m - n + 1) (by omega) (by omega),wr_i64 (x:=l.y - a.y) (by omega) (by omega),wr_i64 (x:=l.y - a.y + 1) (by omega) (by omega)] at h
  simp only [decide_eq_false_iff_not] at h
  omega
end Go.Mx.Tryz
