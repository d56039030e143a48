/- Compare of patterns: both texts; Same. -/
import Derived.Test.YtpaddecplgomeaaGreatDoorSrx
import Derived.Test.YtpaddecplgomeaaGreatDoorStr
import Derived.KernelRfl
import Derived.Test.YtpaddecplgomeaaGreatDoorSz
set_option linter.unusedSimpArgs false
set_option linter.unusedVariables false
set_option linter.unusedSectionVars false
set_option maxRecDepth 100000
namespace Go.Mx.Tryz
open Go.Sort Go.Lib
instance : Inhabited Ce:=⟨⟨0,0,0⟩⟩
def Ud : Rw Ce 3 true where
 enc c:=c.i.map .m
 val c:=.m (.ag c.i)
 len c:=rfl
 pos:=by decide
 one c:=rfl
 ld c:=by simp [Ce.i]
 st c:=by simp [Ce.i]
def ceCmp (A : Hp) : Cmp Ud A 115 BG where
 ok _:=True
 ext _ _ _:=Afv
 cmp a b:=QJ a.x a.y b.x b.y
 neg a b:=by
  unfold QJ BG
  grind [EW]
 run a b row C _:=Tc a b _
theorem VZ : SWO BG where
 irrefl x:=by simp [BG]
 trans x y z h1 h2:=by simp only [BG,AeW] at *; omega
 ntrans x y z h1 h2:=by simp only [BG,decide_eq_false_iff_not] at *; omega
open Go.Proofs
def Ji (c : Ce) : Option Int:=if DC c.x c.y = false then some 5 else if c.s < 0 \/ 8 <= c.s then some 10 else none
def bad : List Ce -> Option Int
 | []=>none
 | c :: r=>match Ji c with
  | some e=>some e
  | none=>bad r
def liv (p : List Ce) : List Ce:=p.filter fun c=>decide (0 < c.s)
def AI (p : List Ce) : List (List V):=p.map Ud.enc
@[simp] theorem Ei (p : List Ce) : (AI p).length = p.length:=by simp [AI]
theorem DA {p : List Ce} {i : Nat} {c : Ce} (h : p[i]? = some c) : nth (AI p) i = some [.m (.i .i64 c.x),.m (.i .i64 c.y),.m (.i .i64 c.s)]:=by
 rw [AB]
 simp [AI,h,Ud,Ce.i]
def zP (p : List Ce) : I:=if p = [] then .nl 4 else .sl (An p)
theorem Ql (p : List Ce) : IsSl (zP p) (An p):=by
 unfold zP
 split
 ·rename_i h; subst h; exact Da
 ·exact Cg _
def Kt (f : List Ce) (o : V) (H : Hp) : Prop:=(f = [] /\ o = .m (.nl 4) /\ H = []) \/ (f ≠ [] /\ o = .sl 0 f.length 3 0 f.length false /\ H = [.cs 60 3 (AI f) 0 false])
theorem Cs {f : List Ce} {o : V} {H : Hp} (h : Kt f o H) (hl : f.length <= 1000000) (c : Ce) : ∃ o1 H1,(∀ B,Gi ⟨B,H⟩ 60 3 24 o [[.m (.i .i64 c.x),.m (.i .i64 c.y),.m (.i .i64 c.s)]] = some (o1,⟨B,H1⟩)) /\ Ay o1 = true /\ Kt (f ++ [c]) o1 H1:=by
 rcases h with ⟨rfl,rfl,rfl⟩ | ⟨hne,rfl,rfl⟩
 ·exact ⟨_,_,fun B=>rfl,rfl,.inr ⟨by simp,rfl,rfl⟩⟩
 ·have ha:=fun B=>Fk (M:=⟨B,[.cs 60 3 (AI f) 0 false]⟩) (r:=0) (bytes:=24) (xs:=[[.m (.i .i64 c.x),.m (.i .i64 c.y),.m (.i .i64 c.s)]]) rfl (by simp) (by simp; omega) rfl
  simp only [Ei,AeZ,Afo,AfC,List.set_cons_zero] at ha
  have e : AI f ++ [[.m (.i .i64 c.x),.m (.i .i64 c.y),.m (.i .i64 c.s)]] = AI (f ++ [c]):=by simp [AI,Ud,Ce.i]
  rw [e] at ha
  exact ⟨_,_,ha,rfl,.inr ⟨by simp,by simp,rfl⟩⟩
def tw : List Ce -> Bool
 | []=>false
 | [_]=>false
 | a :: b :: r=>decide (a.x = b.x /\ a.y = b.y) || tw (b :: r)
def AaW (q : List Ce) : V:=if tw q = true then .tu [.m (.nl 4),.m (.i .i64 8)] else if 5000 < q.length then .tu [.m (.nl 4),.m (.i .i64 6)] else .tu [.m (zP q),.m (.i .i64 0)]
def Asc (q : List Ce) : Prop:=∀ (i j : Nat) (a b : Ce),i < j -> q[i]? = some a -> q[j]? = some b -> BG b a = false
theorem VK (H : Hp) : Gives G 167 [.m (.nl 4),.m (.fn 115 [])] H (.tu []) H:=⟨40,by kernel_rfl⟩
theorem MT {r b n : Nat} {X A : Hp} {q : List Ce} (hn : q.length = n) (hb : b <= n) (k : Nat) : view (k + 2) (.cs 60 3 (AI q) b false :: X) (.sl 0 n 3 0 n false) = some (.sl (An q)):=by
 have e : elems (.cs 60 3 (AI q) b false :: X) (.sl 0 n 3 0 n false) = some (AI q):=by
  show gd (Nat.ble b n && Nat.beq 3 3) (some (((AI q).drop 0).take n)) = _
  rw [Bd,AeS hb,List.drop_zero,AeR (by simp; omega)]
  rfl
 show Option.bind (elems _ (.sl 0 n 3 0 n false)) _ = _
 rw [e]
 show Option.bind (Af _ (AI q)) _ = _
 have ho : ∀ (H : Hp) (m : List Ce),Af (fun e=>Af (view (k + 1) H) e) (AI m) = some (An m):=by
  intro H m
  induction m with
  | nil=>rfl
  | cons x t ih =>
   show Option.bind (some [I.i .i64 x.x,.i .i64 x.y,.i .i64 x.s]) _ = _
   simp only [AeE]
   show Option.bind (Af _ (AI t)) _ = _
   rw [ih]
   rfl
 rw [ho]
 rfl
theorem Qq {f : List Ce} {d' : Array Ce} (h : PermIn 0 f.length f.toArray d') : d'.toList.Perm f /\ d'.size = f.length:=by
 have hs : d'.size = f.length:=by rw [h.1]; simp
 refine ⟨?_,hs⟩
 have hp:=h.2.2
 have e1 : (d'.extract 0 f.length) = d':=by rw [<- hs]; simp
 have e2 : (f.toArray.extract 0 f.length) = f.toArray:=by
  have : f.length = f.toArray.size:=by simp
  rw [this]; simp
 rw [e1,e2] at hp
 simpa using hp
theorem Aen {d' : Array Ce} {n : Nat} (hs : d'.size = n) (h : SortedIn BG 0 n d') : Asc d'.toList:=fun i j a b hij ha hb=>by
 obtain ⟨h1,rfl⟩:=Aey.1 ha
 obtain ⟨h2,rfl⟩:=Aey.1 hb
 have h1' : i < d'.size:=by simpa using h1
 have h2' : j < d'.size:=by simpa using h2
 have:=h i j (AeK _) hij (by omega)
 rw [getElem!_pos d' j h2',getElem!_pos d' i h1'] at this
 simpa using this
theorem SQ (es : List (List V)) (ix : Nat) : CX 3 es ix 0 3 = (nth es ix).bind fun e=>CH 3 e:=rfl
set_option maxHeartbeats 2000000 in
theorem AdY {v : I} {p : List Ce} (hv : IsSl v (An p)) (hl : p.length <= 1000000) (H : Hp) :
  (∃ e,bad p = some e /\ Gives G 114 [.m v] H (.tu [.m (.nl 4),.m (.i .i64 e)]) H) \/ (bad p = none /\ ∃ q,q.Perm (liv p) /\ Asc q /\ Gives G 114 [.m v] H (AaW q) H):=by
 have hr:=hv.rules
 have key : ∃ x H',Gives G 114 [.m v] H x H' /\ (H' = H /\ ((∃ e,bad p = some e /\ x = .tu [.m (.nl 4),.m (.i .i64 e)]) \/ (bad p = none /\ ∃ q,q.Perm (liv p) /\ Asc q /\ x = AaW q))):=by
  refine BW ?_
  refine Hq rfl rfl rfl rfl rfl ?_
  simp (disch:=omega) [hr]
  refine (?key : ∀ (i : Nat) (o : V) (B : List (Nat × List V)) (H1 : Hp),i <= p.length -> Kt (liv (p.take i)) o H1 -> bad (p.take i) = none -> bad p = bad (p.drop i) -> Run G c114_B0 (S114_0 o (.m v) (.m (.i .i64 p.length)) (.m (.i .i64 (i : Int))) B H1) _) 0 (.m (.nl 4)) [] [] (AeK _) (.inl ⟨rfl,rfl,rfl⟩) rfl rfl
  refine BP (fun i : Nat=>p.length - i) fun i ih o B H1 hi ho hbt hb=>?_
  have hnf : Ay o = true:=by
   rcases ho with ⟨_,rfl,_⟩ | ⟨_,rfl,_⟩ <;> rfl
  have hfl : (liv (p.take i)).length <= i:=AfG (List.length_filter_le _ _) (by rw [AeQ]; omega)
  unfold c114_B0
  cases hx : p[i]? with
  | some c =>
   have hlt:=(Av hx).1
   have hlt' : (i : Int) < p.length:=by omega
   have hn:=AD hx
   have wi : wr .i64 ((i : Int) + 1) = (i : Int) + 1:=wr_i64 (by omega) (by omega)
   have g1:=fun H=>Abd c H
   have g2:=fun H=>JR c.x c.y H
   have e1 : bad (c :: p.drop (i + 1)) = match Ji c with | some e=>some e | none=>bad (p.drop (i + 1)):=rfl
   rw [(Av hx).2,e1] at hb
   have htk : p.take (i + 1) = p.take i ++ [c]:=AW hx
   by_cases hp : DC c.x c.y = true
   ·rw [hp] at g2
    by_cases hs0 : c.s < 0
    ·have hbc : Ji c = some 10:=by unfold Ji; rw [Aex (by rw [hp]; simp),AeB (.inl hs0)]
     rw [hbc] at hb
     simp (disch:=omega) [gd_and,hr,hlt',hn,cl (g1 _),cl (g2 _),hs0,hb]
    by_cases hs8 : 8 <= c.s
    ·have hbc : Ji c = some 10:=by unfold Ji; rw [Aex (by rw [hp]; simp),AeB (.inr hs8)]
     rw [hbc] at hb
     simp (disch:=omega) [gd_and,hr,hlt',hn,cl (g1 _),cl (g2 _),hs0,hs8,hb]
    have hbc : Ji c = none:=by unfold Ji; rw [Aex (by rw [hp]; simp),Aex (by omega)]
    rw [hbc] at hb
    replace hb : bad p = bad (p.drop (i + 1)):=hb
    have hbt2 : bad (p.take (i + 1)) = none:=by
     rw [htk]
     have : ∀ l : List Ce,bad l = none -> bad (l ++ [c]) = none:=fun l=>by
      induction l with
      | nil=>intro _; show (match Ji c with | some e=>some e | none=>none) = none; rw [hbc]
      | cons d r ih =>
       intro h
       have f1 : bad (d :: r) = match Ji d with | some e=>some e | none=>bad r:=rfl
       have f2 : bad (d :: (r ++ [c])) = match Ji d with | some e=>some e | none=>bad (r ++ [c]):=rfl
       rw [Afh,f2]
       rw [f1] at h
       cases hd : Ji d with
       | some e=>rw [hd] at h; cases h
       | none=>rw [hd] at h; exact ih h
     exact this _ hbt
    by_cases hs1 : 0 < c.s
    ·have hlv : liv (p.take (i + 1)) = liv (p.take i) ++ [c]:=by
      rw [htk]
      unfold liv
      rw [List.filter_append]
      simp [hs1]
     obtain ⟨o1,H2,ha,hn1,ho1⟩:=Cs ho (by omega) c
     rw [<- hlv] at ho1
     simp (disch:=omega) [gd_and,hr,hlt',hn,cl (g1 _),cl (g2 _),hs0,hs8,hs1,ha,Ag hn1,wi]
     exact ih (i + 1) (by omega) _ _ _ (by omega) ho1 hbt2 hb
    ·have hlv : liv (p.take (i + 1)) = liv (p.take i):=by
      rw [htk]
      unfold liv
      rw [List.filter_append]
      simp [hs1]
     rw [<- hlv] at ho
     simp (disch:=omega) [gd_and,hr,hlt',hn,cl (g1 _),cl (g2 _),hs0,hs8,hs1,wi]
     exact ih (i + 1) (by omega) _ _ _ (by omega) ho hbt2 hb
   ·rw [Bool.not_eq_true] at hp
    rw [hp] at g2
    have hbc : Ji c = some 5:=by unfold Ji; rw [AeB hp]
    rw [hbc] at hb
    simp (disch:=omega) [gd_and,hr,hlt',hn,cl (g1 _),cl (g2 _),hb]
  | none =>
   have : i = p.length:=by have:=AeM.1 hx; omega
   subst this
   have hb0 : bad p = none:=by rw [hb,AfO]; rfl
   rw [AfF] at ho
   rcases ho with ⟨hf,rfl,rfl⟩ | ⟨hf,rfl,rfl⟩
   ·have gs:=fun H=>VK H
    simp (disch:=omega) [cl (gs _),hb0]
    unfold c114_B1
    simp (disch:=omega) []
    exact ⟨[],by rw [hf],fun i j a b _ h=>by simp at h,rfl⟩
   ·generalize hfe : liv p = f at *
    clear ih hx
    have hfl2 : f.length <= 1000000:=by rw [<- hfe]; exact AfG (List.length_filter_le _ _) (by omega)
    simp (disch:=omega) []
    rw [Ak]
    have hrow : Row.cs 60 3 (AI f) 0 false = .cs 60 3 (Bb Ud f.toArray) 0 false:=by simp [Bb,AI]
    rw [hrow]
    refine Zp (A:=[]) (ceCmp []) VZ (n:=f.length) (by omega) [] Afv f.toArray 0 (by simp) (AeK _) _ fun d' b1 X hp hso hb1=>?_
    obtain ⟨hperm,hsz⟩:=Qq hp
    have hasc:=Aen hsz hso
    have hrow2 : Bb Ud d' = AI d'.toList:=rfl
    have hql : d'.toList.length = f.length:=by simpa using hsz
    rw [hrow2]
    generalize d'.toList = q at *
    have hres : AaW q = if tw q = true then .tu [.m (.nl 4),.m (.i .i64 8)] else if 5000 < q.length then .tu [.m (.nl 4),.m (.i .i64 6)] else .tu [.m (zP q),.m (.i .i64 0)]:=rfl
    have hq0 : q ≠ []:=fun e=>by subst e; simp at hql; exact hf (AeT hql.symm)
    obtain ⟨a0,r0,hqe⟩:=Afj hq0
    simp (disch:=omega) []
    refine (?key2 : ∀ (j : Nat) (B : List (Nat × List V)),1 <= j -> j <= q.length -> tw q = tw (q.drop (j - 1)) -> Run G c114_B1 (S114_1 (.sl 0 f.length 3 0 f.length false) (.m (.i .i64 (j : Int))) B (.cs 60 3 (AI q) b1 false :: X)) _) 1 _ (AeA _) (by have:=AfI.2 hq0; omega) rfl
    refine BP (fun j : Nat=>q.length - j) fun j ih B h1j hj htw=>?_
    unfold c114_B1
    have wj : wr .i64 ((j : Int) + 1) = (j : Int) + 1:=wr_i64 (by omega) (by omega)
    have wj1 : wr .i64 ((j : Int) - 1) = (j : Int) - 1:=wr_i64 (by omega) (by omega)
    cases hx : q[j]? with
    | some c =>
     have hlt:=(Av hx).1
     obtain ⟨a,ha⟩ : ∃ a,q[j - 1]? = some a:=⟨q[j - 1]'(by omega),AeC _⟩
     have hlt' : (j : Int) < f.length:=by omega
     have hltn : j < f.length:=by omega
     have hltm : (j : Int) - 1 < f.length:=by omega
     have h0m : (0 : Int) <= (j : Int) - 1:=by omega
     have htn : ((j : Int) - 1).toNat = j - 1:=by omega
     have hn:=DA hx
     have hna:=DA ha
     have e0 : q.drop (j - 1) = a :: c :: q.drop (j + 1):=by
      have:=(Av ha).2
      rw [this,show j - 1 + 1 = j by omega,(Av hx).2]
     have e1 : tw (a :: c :: q.drop (j + 1)) = (decide (a.x = c.x /\ a.y = c.y) || tw (c :: q.drop (j + 1))):=rfl
     rw [e0,e1] at htw
     have g1:=fun H=>Abd a H
     have g2:=fun H=>Abd c H
     by_cases heq : a.x = c.x /\ a.y = c.y
     ·rw [AeS heq,Bool.true_or] at htw
      rw [htw,AeB rfl] at hres
      have heq1 : (decide (a.x = c.x) && decide (a.y = c.y)) = true:=by simpa using heq
      simp (disch:=omega) [gd_and,hlt',htn,wj1,hb1,SQ,hn,hna,cl (g1 _),cl (g2 _),heq1,hb0]
      exact ⟨q,hperm,hasc,hres.symm⟩
     ·rw [Afn heq,Bool.false_or] at htw
      have heq2 : (decide (a.x = c.x) && decide (a.y = c.y)) = false:=by
       rw [Bool.eq_false_iff]
       simpa using heq
      simp (disch:=omega) [gd_and,hlt',htn,wj1,hb1,SQ,hn,hna,cl (g1 _),cl (g2 _),heq2,wj]
      exact ih (j + 1) (by omega) _ (by omega) (by omega) (by rw [htw,show j + 1 - 1 = j by omega,(Av hx).2])
    | none =>
     have : j = q.length:=by have:=AeM.1 hx; omega
     have hlt' : ¬ (j : Int) < f.length:=by omega
     have htw0 : tw q = false:=by
      rw [htw]
      have : (q.drop (j - 1)).length = 1:=by rw [Afd]; omega
      match hm : q.drop (j - 1),this with
      | [x],_=>rfl
     rw [htw0,Aex (by simp)] at hres
     by_cases h5 : 5000 < q.length
     ·have h5' : (5000 : Int) < f.length:=by omega
      rw [AeB h5] at hres
      simp (disch:=omega) [hlt',h5',hb0]
      exact ⟨q,hperm,hasc,hres.symm⟩
     ·have h5' : ¬ (5000 : Int) < f.length:=by omega
      rw [Aex h5] at hres
      have hv:=MT (r:=0) (X:=X) (A:=[]) hql hb1 18
      simp (disch:=omega) [hlt',h5',hb0,hv]
      refine ⟨q,hperm,hasc,?_⟩
      rw [hres]
      unfold zP
      rw [Aex hq0]
 obtain ⟨x,H',h1,rfl,h2⟩:=key
 rcases h2 with ⟨e,h3,rfl⟩ | ⟨h3,q,h4,h5,rfl⟩
 ·exact .inl ⟨e,h3,h1⟩
 ·exact .inr ⟨h3,q,h4,h5,h1⟩
end Go.Mx.Tryz
namespace Go.Mx.Tryz
open Go.Lib
theorem AcO {H : Hp} {r b : Nat} {q : List Ce} (h : nth H r = some (.cs 60 3 (AI q) b false)) (hb : b <= q.length) (k : Nat) : view (k + 2) H (.sl r q.length 3 0 q.length false) = some (.sl (An q)):=by
 have e : elems H (.sl r q.length 3 0 q.length false) = some (AI q):=by
  show Option.bind (nth H r) _ = _
  rw [h]
  show gd (Nat.ble b q.length && Nat.beq 3 3) (some (((AI q).drop 0).take q.length)) = _
  rw [Bd,AeS hb,List.drop_zero,AeR (by simp)]
  rfl
 show Option.bind (elems H (.sl r q.length 3 0 q.length false)) _ = _
 rw [e]
 show Option.bind (Af _ (AI q)) _ = _
 have ho : ∀ (H : Hp) (m : List Ce),Af (fun e=>Af (view (k + 1) H) e) (AI m) = some (An m):=by
  intro H m
  induction m with
  | nil=>rfl
  | cons x t ih =>
   show Option.bind (some [I.i .i64 x.x,.i .i64 x.y,.i .i64 x.s]) _ = _
   simp only [AeE]
   show Option.bind (Af _ (AI t)) _ = _
   rw [ih]
   rfl
 rw [ho]
 rfl
theorem Ia (q : List Ce) : ((AI q).all fun e=>e.all isM) = true:=by
 simp [AI,Ud,Ce.i,isM]
def apart (a b : Ce) : Prop:=¬ (a.x = b.x /\ a.y = b.y)
theorem Ps : ∀ (p : List Ce) (o : Option Ce),CD o p = true -> p.Pairwise (fun a b=>BG a b = true) /\ (∀ a,o = some a -> ∀ d,d ∈ p -> BG a d = true) /\ ∀ d,d ∈ p -> EL d = true
 | [],_,_=>⟨.nil,fun _ _ d hd=>by simp at hd,fun d hd=>by simp at hd⟩
 | c :: r,o,h=>by
  have h' : EL c = true /\ (∀ a,o = some a -> BG a c = true) /\ CD (some c) r = true:=by
   cases o with
   | none =>
    have : (EL c && CD (some c) r) = true:=h
    rw [Aez] at this
    exact ⟨this.1,fun _ h=>(by cases h),this.2⟩
   | some a =>
    have : (EL c && BG a c && CD (some c) r) = true:=h
    simp only [Aez] at this
    exact ⟨this.1.1,fun _ h=>(by cases h; exact this.1.2),this.2⟩
  obtain ⟨g1,g2,g3⟩:=h'
  obtain ⟨i1,i2,i3⟩:=Ps r (some c) g3
  refine ⟨AfD.2 ⟨fun d hd=>i2 c rfl d hd,i1⟩,fun a ha d hd=>?_,fun d hd=>?_⟩
  ·rcases AeX.1 hd with rfl | hd
   ·exact g2 a ha
   ·have h1:=g2 a ha
    have h2:=i2 c rfl d hd
    unfold BG at *
    grind
  ·rcases AeX.1 hd with rfl | hd
   ·exact g1
   ·exact i3 d hd
theorem Bh {p : List Ce} (h : right p = true) : p.Pairwise (fun a b=>BG a b = true) /\ (∀ d,d ∈ p -> EL d = true) /\ p.length <= 5000:=by
 unfold right at h
 simp only [Aez,AeW] at h
 have:=Ps p none h.2
 exact ⟨this.1,this.2.2,h.1⟩
theorem Pw : ∀ {p : List Ce},(∀ c,c ∈ p -> EL c = true) -> bad p = none
 | [],_=>rfl
 | c :: r,h=>by
  have hc:=h c (by simp)
  unfold EL at hc
  simp only [Aez,AeW] at hc
  have e : Ji c = none:=by
   unfold Ji
   rw [Aex (by rw [hc.1.1]; simp),Aex (by omega)]
  have e2 : bad (c :: r) = match Ji c with | some e=>some e | none=>bad r:=rfl
  rw [e2,e]
  exact Pw fun d hd=>h d (by simp [hd])
theorem AcP : ∀ {p : List Ce},p.Pairwise (fun a b=>BG a b = true) -> tw p = false
 | [],_=>rfl
 | [_],_=>rfl
 | a :: b :: r,h=>by
  have e : tw (a :: b :: r) = (decide (a.x = b.x /\ a.y = b.y) || tw (b :: r)):=rfl
  obtain ⟨h1,h2⟩:=AfD.1 h
  have:=h1 b (by simp)
  rw [e,AcP h2,Bool.or_false]
  unfold BG at this
  simp at this ⊢
  omega
theorem Aeo {p q : List Ce} (hw : p.Pairwise (fun a b=>BG a b = true)) (hq : Asc q) (hpm : q.Perm p) : q = p:=by
 have hqp : q.Pairwise (fun a b=>BG b a = false):=by
  rw [AfQ]
  intro i j hi hj hij
  exact hq i j _ _ hij (AeC hi) (AeC hj)
 have hpp : p.Pairwise (fun a b=>BG b a = false):=hw.imp fun {a b} h=>by
  unfold BG at *
  simp at h ⊢
  omega
 refine hpm.eq_of_pairwise (fun a b ha hb h1 h2=>?_) hqp hpp
 have ha' : a ∈ p:=hpm.mem_iff.1 ha
 obtain ⟨i,hi,rfl⟩:=List.mem_iff_getElem.1 ha'
 obtain ⟨j,hj,rfl⟩:=List.mem_iff_getElem.1 hb
 rcases Nat.lt_trichotomy i j with h | h | h
 ·have:=AfQ.1 hw i j hi hj h
  rw [this] at h2; cases h2
 ·subst h; rfl
 ·have:=AfQ.1 hw j i hj hi h
  rw [this] at h1; cases h1
theorem QB {p q : List Ce} (h : q.Perm p) (ha : p.Pairwise apart) : q.Pairwise apart:=by
 refine (h.pairwise_iff (fun {a b} hab=>?_)).2 ha
 exact fun ⟨h1,h2⟩=>hab ⟨h1.symm,h2.symm⟩
theorem Aem {q : List Ce} (ha : Asc q) (hp : q.Pairwise apart) : q.Pairwise (fun a b=>BG a b = true):=by
 rw [AfQ] at hp ⊢
 intro i j hi hj hij
 have h1:=ha i j _ _ hij (AeC hi) (AeC hj)
 have h2:=hp i j hi hj hij
 unfold BG at *
 unfold apart at h2
 simp at *
 omega
theorem Kg {c : Ce} (h : EL c = true) : DC c.x c.y = true /\ 1 <= c.s /\ c.s < 8:=by
 unfold EL at h
 simp only [Aez,AeW] at h
 exact ⟨h.1.1,h.1.2,h.2⟩
theorem VY {p : List Ce} (h : ∀ c,c ∈ p -> EL c = true) : liv p = p:=by
 unfold liv
 rw [List.filter_eq_self]
 intro c hc
 have:=Kg (h c hc)
 exact AeS (by omega)
theorem VN : ∀ {p : List Ce},p.Pairwise (fun a b=>BG a b = true) -> (∀ c,c ∈ p -> EL c = true) -> p.length <= 5000 -> right p = true:=fun {p} h1 h2 h3=>by
 have key : ∀ (p : List Ce) (o : Option Ce),p.Pairwise (fun a b=>BG a b = true) -> (∀ a,o = some a -> ∀ d,d ∈ p -> BG a d = true) -> (∀ c,c ∈ p -> EL c = true) -> CD o p = true:=by
  intro p
  induction p with
  | nil=>intro o _ _ _; cases o <;> rfl
  | cons c r ih =>
   intro o h1 h2 h3
   obtain ⟨h4,h5⟩:=AfD.1 h1
   have i:=ih (some c) h5 (fun a ha d hd=>by cases ha; exact h4 d hd) (fun d hd=>h3 d (AfB _ hd))
   cases o with
   | none =>
    show (EL c && CD (some c) r) = true
    rw [h3 c (Afa ..),i]
    rfl
   | some a =>
    show (EL c && BG a c && CD (some c) r) = true
    rw [h3 c (Afa ..),i,h2 a rfl c (Afa ..)]
    rfl
 unfold right
 rw [AeS h3,key p none h1 (fun a h=>by cases h) h2]
 rfl
end Go.Mx.Tryz
set_option maxHeartbeats 4000000
namespace Go.Mx.Tryz
open Go.Sort Go.Lib Go.Proofs
def Me (c : Ce) : List Ce -> List Ce
 | []=>[c]
 | d :: r=>if BG c d = true then c :: d :: r else d :: Me c r
theorem FL (c : Ce) : ∀ p,(Me c p).Perm (c :: p)
 | []=>List.Perm.refl _
 | d :: r=>by
  unfold Me
  split
  ·exact List.Perm.refl _
  ·exact ((FL c r).cons d).trans (List.Perm.swap c d r)
theorem Wf (c : Ce) (p : List Ce) : (Me c p).length = p.length + 1:=(FL c p).length_eq
theorem ZM {a b c : Ce} (h1 : BG a b = true) (h2 : BG b c = true) : BG a c = true:=by
 unfold BG at *
 simp at *
 omega
theorem Qu {a b : Ce} (h : apart a b) (h1 : BG a b = false) : BG b a = true:=by
 unfold BG at *
 unfold apart at h
 simp at *
 omega
theorem QA {a b : Ce} (h : apart a b) : apart b a:=fun ⟨h1,h2⟩=>h ⟨h1.symm,h2.symm⟩
theorem Tv (c : Ce) : ∀ p : List Ce,p.Pairwise (fun a b=>BG a b = true) -> (∀ d,d ∈ p -> apart c d) -> (Me c p).Pairwise (fun a b=>BG a b = true)
 | [],_,_=>by simp [Me]
 | d :: r,h,ha=>by
  obtain ⟨h1,h2⟩:=AfD.1 h
  unfold Me
  split
  ·rename_i hl
   refine AfD.2 ⟨fun e he=>?_,h⟩
   rcases AeX.1 he with rfl | he
   ·exact hl
   ·exact ZM hl (h1 e he)
  ·rename_i hl
   refine AfD.2 ⟨fun e he=>?_,Tv c r h2 fun e he=>ha e (AfB _ he)⟩
   rcases AeX.1 ((FL c r).mem_iff.1 he) with rfl | he
   ·exact Qu (ha d (Afa ..)) (by simpa using hl)
   ·exact h1 e he
def DV (p : List Ce) : List Ce:=p.foldl (fun a c=>Me c a) []
theorem IX (p : List Ce) (c : Ce) : DV (p ++ [c]) = Me c (DV p):=by simp [DV]
theorem Gj : ∀ n (p : List Ce),p.length = n -> (DV p).Perm p /\ (p.Pairwise apart -> (DV p).Pairwise (fun a b=>BG a b = true))
 | 0,p,h=>by
  have : p = []:=AeT h
  subst this
  exact ⟨List.Perm.refl _,fun _=>List.Pairwise.nil⟩
 | n + 1,p,h=>by
  obtain ⟨q,c,rfl⟩ : ∃ q c,p = q ++ [c]:=⟨p.dropLast,p.getLast (by intro e; rw [e] at h; simp at h),(List.dropLast_concat_getLast _).symm⟩
  have hq : q.length = n:=by simpa using h
  obtain ⟨h1,h2⟩:=Gj n q hq
  rw [IX]
  refine ⟨(FL c _).trans ((h1.cons c).trans (List.perm_append_singleton c q).symm),fun hp=>?_⟩
  rw [List.pairwise_append] at hp
  refine Tv c _ (h2 hp.1) fun d hd=>?_
  exact QA (hp.2.2 d (h1.mem_iff.1 hd) c (List.mem_singleton_self c))
theorem Gk (p : List Ce) : (DV p).Perm p:=(Gj _ p rfl).1
theorem JN {p : List Ce} (h : p.Pairwise apart) : (DV p).Pairwise (fun a b=>BG a b = true):=(Gj _ p rfl).2 h
theorem FF (p : List Ce) : (DV p).length = p.length:=(Gk p).length_eq
theorem SR {p q : List Ce} (hp : p.Pairwise (fun a b=>BG a b = true)) (hq : q.Pairwise (fun a b=>BG a b = true)) (h : q.Perm p) : q = p:=by
 refine Aeo hp (fun i j a b hij ha hb=>?_) h
 obtain ⟨h1,rfl⟩:=Aey.1 ha
 obtain ⟨h2,rfl⟩:=Aey.1 hb
 have:=AfQ.1 hq i j h1 h2 hij
 unfold BG at *
 simp at *
 omega
theorem BE {f : List Ce} {o : V} {H : Hp} (h : Kt f o H) : viewR H o = some (.m (zP f)) /\ Ay o = true:=by
 rcases h with ⟨rfl,rfl,rfl⟩ | ⟨hne,rfl,rfl⟩
 ·exact ⟨rfl,rfl⟩
 ·have:=MT (r:=0) (b:=0) (X:=[]) (A:=[]) (q:=f) (n:=f.length) rfl (AeK _) 18
  refine ⟨?_,rfl⟩
  show (view 20 _ _).bind _ = _
  rw [this]
  unfold zP
  rw [Aex hne]
  rfl
theorem We {v : I} {p : List Ce} (hv : IsSl v (An p)) (hl : p.length <= 900000) (c : Ce) (H : Hp) : Gives G 141 [.m v,.m (.ag [.i .i64 c.x,.i .i64 c.y,.i .i64 c.s])] H (.m (zP (Me c p))) H:=by
 have hr:=hv.rules
 simp only [show (An p).length = p.length from by simp [An]] at hr
 refine Ah rfl rfl rfl rfl rfl ?_
 simp (disch:=omega) []
 refine (?key : ∀ (i : Nat) (dn : Bool) (f : List Ce) (o : V) (B : List (Nat × List V)) (H1 : Hp),i <= p.length -> (if dn then Me c p = f ++ p.drop i else f = p.take i /\ Me c p = p.take i ++ Me c (p.drop i)) -> Kt f o H1 -> getB B 3 = some [.m (.i .i64 c.x),.m (.i .i64 c.y),.m (.i .i64 c.s)] -> Run G c141_B0 (S141_0 (.m v) (.fa 3 0) o (.m (.b dn)) (.m (.i .i64 (i : Int))) B H1) _) 0 false [] _ _ _ (AeK _) ⟨rfl,rfl⟩ (.inl ⟨rfl,rfl,rfl⟩) rfl
 refine BP (fun i : Nat=>p.length - i) fun i ih dn f o B H1 hi hd ho hB=>?_
 obtain ⟨hvw,hnf⟩:=BE ho
 unfold c141_B0
 cases hx : p[i]? with
 | some d =>
  have hlt:=(Av hx).1
  have hlt' : (i : Int) < p.length:=by omega
  have hn:=AD hx
  have wi : wr .i64 ((i : Int) + 1) = (i : Int) + 1:=wr_i64 (by omega) (by omega)
  have gb:=fun H=>Kk c d H
  have hdr:=(Av hx).2
  have htk : p.take (i + 1) = p.take i ++ [d]:=AW hx
  cases dn with
  | true =>
   simp only [if_true] at hd
   have hfl : f.length <= 900001:=by
    have:=congrArg List.length hd
    rw [Wf,AeD] at this
    omega
   obtain ⟨o1,H2,ha,hn1,ho1⟩:=Cs ho (by omega) d
   simp (disch:=omega) [hr,hlt',hn,wi,hB,Aa,ha,Ag hn1]
   exact ih (i + 1) (by omega) true _ _ _ _ (by omega) (by simp only [if_true]; rw [hd,hdr]; simp) ho1 hB
  | false =>
   simp only [AfT,if_false] at hd
   obtain ⟨rfl,hd2⟩:=hd
   have hfl : (p.take i).length <= 900000:=by rw [AeQ]; omega
   cases hb : BG c d with
   | true =>
    rw [hb] at gb
    obtain ⟨o1,H2,ha,hn1,ho1⟩:=Cs ho (by omega) c
    obtain ⟨o2,H3,ha2,hn2,ho2⟩:=Cs ho1 (by simp; omega) d
    simp (disch:=omega) [hr,hlt',hn,wi,hB,Aa,cl (gb _),ha,Ag hn1,ha2,Ag hn2]
    refine ih (i + 1) (by omega) true _ _ _ _ (by omega) ?_ ho2 hB
    simp only [if_true]
    rw [hd2,hdr]
    simp [Me,hb]
   | false =>
    rw [hb] at gb
    obtain ⟨o1,H2,ha,hn1,ho1⟩:=Cs ho (by omega) d
    simp (disch:=omega) [hr,hlt',hn,wi,hB,Aa,cl (gb _),ha,Ag hn1]
    refine ih (i + 1) (by omega) false _ _ _ _ (by omega) ?_ ho1 hB
    simp only [AfT,if_false]
    refine ⟨htk.symm,?_⟩
    rw [hd2,hdr,htk]
    simp [Me,hb]
 | none =>
  have : i = p.length:=by have:=AeM.1 hx; omega
  subst this
  clear ih
  cases dn with
  | true =>
   simp only [if_true,AfO,AeV] at hd
   simp (disch:=omega) [hr,hvw,hnf,Ag hnf,hd]
  | false =>
   simp only [AfT,if_false,AfO,AfF] at hd
   obtain ⟨rfl,hd2⟩:=hd
   obtain ⟨o1,H2,ha,hn1,ho1⟩:=Cs ho (by omega) c
   obtain ⟨hvw1,_⟩:=BE ho1
   have e : Me c f = f ++ [c]:=hd2
   simp (disch:=omega) [hr,hB,ha,Ag hn1,hvw1,hn1,e]
theorem LH {v : I} {p : List Ce} (hv : IsSl v (An p)) (hl : p.length <= 5000) (hg : ∀ c,c ∈ p -> EL c = true) (ha : p.Pairwise apart) (H : Hp) : Gives G 92 [.m v] H (.tu [.m (zP (DV p)),.m (.i .i64 0)]) H:=by
 have hr:=hv.rules
 simp only [show (An p).length = p.length from by simp [An]] at hr
 refine Ah rfl rfl rfl rfl rfl ?_
 simp (disch:=omega) []
 refine (?key : ∀ (i : Nat) (B : List (Nat × List V)),i <= p.length -> Run G c92_B0 (S92_0 (.m v) (.m (.nl 4)) (.m (.i .i64 (i : Int))) B []) _) 0 _ (AeK _)
 refine BP (fun i : Nat=>p.length - i) fun i ih B hi=>?_
 unfold c92_B0
 cases hx : p[i]? with
 | some c =>
  have hlt:=(Av hx).1
  have hlt' : (i : Int) < p.length:=by omega
  have hn:=AD hx
  have wi : wr .i64 ((i : Int) + 1) = (i : Int) + 1:=wr_i64 (by omega) (by omega)
  obtain ⟨h1,h2,h3⟩:=Kg (hg c (AeI hx))
  have gp:=fun H=>JS c.x c.y H
  rw [h1] at gp
  have h4 : ¬ c.s < 0:=by omega
  have h5 : ¬ 8 <= c.s:=by omega
  simp (disch:=omega) [hr,hlt',hn,wi,cl (gp _),h4,h5]
  exact ih (i + 1) (by omega) _ (by omega)
 | none =>
  have : i = p.length:=by have:=AeM.1 hx; omega
  subst this
  clear ih hx hi
  simp (disch:=omega) [hr]
  refine (?key2 : ∀ (i : Nat) (z : I) (B : List (Nat × List V)),i <= p.length -> z = zP (DV (p.take i)) -> Run G c92_B1 (S92_1 (.m v) (.m z) (.m (.i .i64 (i : Int))) B []) _) 0 (.nl 4) _ (AeK _) rfl
  refine BP (fun i : Nat=>p.length - i) fun i ih z B hi hz=>?_
  unfold c92_B1
  cases hx : p[i]? with
  | some c =>
   have hlt:=(Av hx).1
   have hlt' : (i : Int) < p.length:=by omega
   have hn:=AD hx
   have wi : wr .i64 ((i : Int) + 1) = (i : Int) + 1:=wr_i64 (by omega) (by omega)
   obtain ⟨h1,h2,h3⟩:=Kg (hg c (AeI hx))
   have h4 : ¬ c.s = 0:=by omega
   have htk : p.take (i + 1) = p.take i ++ [c]:=AW hx
   have gi:=fun H=>We (v:=z) (by rw [hz]; exact Ql _) (by rw [FF,AeQ]; omega) c H
   rw [<- IX,<- htk] at gi
   simp (disch:=omega) [hr,hlt',hn,wi,cl (gi _),h4]
   exact ih (i + 1) (by omega) _ _ (by omega) rfl
  | none =>
   have : i = p.length:=by have:=AeM.1 hx; omega
   subst this
   clear ih hx hi
   rw [AfF] at hz
   have hs : IsSl z (An (DV p)):=by rw [hz]; exact Ql _
   have hrs:=hs.rules
   have hpw:=JN ha
   have hsl:=FF p
   simp only [show (An (DV p)).length = p.length from by simp [An,hsl]] at hrs
   generalize hq : DV p = q at *
   rw [<- hz]
   simp (disch:=omega) [hr]
   refine (?key3 : ∀ (j : Nat) (B : List (Nat × List V)),1 <= j -> Run G c92_B2 (S92_2 (.m z) (.m (.i .i64 (j : Int))) B []) _) 1 _ (AeA _)
   refine BP (fun j : Nat=>q.length - j) fun j ih B h1j=>?_
   unfold c92_B2
   cases hx : q[j]? with
   | some c =>
    have hlt:=(Av hx).1
    have hlt2 : j < p.length:=by omega
    have hlt' : (j : Int) < p.length:=by omega
    have wj : wr .i64 ((j : Int) + 1) = (j : Int) + 1:=wr_i64 (by omega) (by omega)
    have wj1 : wr .i64 ((j : Int) - 1) = (j : Int) - 1:=wr_i64 (by omega) (by omega)
    obtain ⟨a,hax⟩ : ∃ a,q[j - 1]? = some a:=⟨q[j - 1]'(by omega),AeC _⟩
    have hn:=AD hx
    have hna:=AD hax
    have hltm : (j : Int) - 1 < p.length:=by omega
    have h0m : (0 : Int) <= (j : Int) - 1:=by omega
    have htn : ((j : Int) - 1).toNat = j - 1:=by omega
    have hls : BG a c = true:=by
     obtain ⟨h1,rfl⟩:=Aey.1 hax
     obtain ⟨h2,rfl⟩:=Aey.1 hx
     exact AfQ.1 hpw _ _ h1 h2 (by omega)
    have gb:=fun H=>Kk a c H
    rw [hls] at gb
    simp (disch:=omega) [hrs,hlt',htn,hn,hna,wj,wj1,cl (gb _)]
    exact ih (j + 1) (by omega) _ (by omega)
   | none =>
    have hj : q.length <= j:=AeM.1 hx
    have hlt' : ¬ (j : Int) < p.length:=by omega
    have h5 : ¬ (5000 : Int) < p.length:=by omega
    simp (disch:=omega) [hrs,hlt',h5]
def mvC (a b : Int) (c : Ce) : Ce:=⟨c.x - a,c.y - b,c.s⟩
def tnC (k : Nat) (c : Ce) : Ce:=⟨(Cn k c.x c.y).1,(Cn k c.x c.y).2,c.s⟩
def LS : List Ce -> Int
 | []=>0
 | c :: r=>mnF c.x ((c :: r).map Ce.x)
def Ks : List Ce -> Int
 | []=>0
 | c :: r=>mnF c.y ((c :: r).map Ce.y)
def Bu (p : List Ce) : List Ce:=p.map (mvC (LS p) (Ks p))
theorem IY (f : List Ce) (c : Ce) : AI f ++ [[.m (.i .i64 c.x),.m (.i .i64 c.y),.m (.i .i64 c.s)]] = AI (f ++ [c]):=by simp [AI,Ud,Ce.i]
theorem Ta (f : List Ce) (hl : f.length <= 1000000) (c : Ce) (B : List (Nat × List V)) : Gi ⟨B,[.cs 60 3 (AI f) 0 false]⟩ 60 3 24 (.sl 0 f.length 3 0 f.length false) [[.m (.i .i64 c.x),.m (.i .i64 c.y),.m (.i .i64 c.s)]] = some (.sl 0 (f ++ [c]).length 3 0 (f ++ [c]).length false,⟨B,[.cs 60 3 (AI (f ++ [c])) 0 false]⟩):=by
 have ha:=Fk (M:=⟨B,[.cs 60 3 (AI f) 0 false]⟩) (r:=0) (bytes:=24) (xs:=[[.m (.i .i64 c.x),.m (.i .i64 c.y),.m (.i .i64 c.s)]]) rfl (by simp) (by simp; omega) rfl
 simp only [Ei,AeZ,Afo,AfC,List.set_cons_zero,IY] at ha
 rw [ha]
 simp
theorem AZ {p : List Ce} (h : right p = true) {c : Ce} (hc : c ∈ p) : (-1048576 <= c.x /\ c.x <= 1048576) /\ (-1048576 <= c.y /\ c.y <= 1048576) /\ 1 <= c.s /\ c.s < 8:=by
 have:=(Bh h).2.1 c hc
 unfold EL DC at this
 simp only [Aez,AeW] at this
 omega
theorem JZ {p : List Ce} (h : right p = true) : -1048576 <= LS p /\ LS p <= 1048576:=by
 cases p with
 | nil=>simp [LS]
 | cons c r =>
  have hb:=AZ h (Afa ..)
  have h1 : mnF c.x ((c :: r).map Ce.x) <= c.x:=(FH _ _).1
  have h2 : -1048576 <= mnF c.x ((c :: r).map Ce.x):=Gx _ _ _ ⟨by omega,fun y hy=>by
   obtain ⟨d,hd,rfl⟩:=AeU.1 hy
   have:=AZ h hd
   omega⟩
  show -1048576 <= mnF c.x ((c :: r).map Ce.x) /\ mnF c.x ((c :: r).map Ce.x) <= 1048576
  omega
theorem VW {p : List Ce} (h : right p = true) : -1048576 <= Ks p /\ Ks p <= 1048576:=by
 cases p with
 | nil=>simp [Ks]
 | cons c r =>
  have hb:=AZ h (Afa ..)
  have h1 : mnF c.y ((c :: r).map Ce.y) <= c.y:=(FH _ _).1
  have h2 : -1048576 <= mnF c.y ((c :: r).map Ce.y):=Gx _ _ _ ⟨by omega,fun y hy=>by
   obtain ⟨d,hd,rfl⟩:=AeU.1 hy
   have:=AZ h hd
   omega⟩
  show -1048576 <= mnF c.y ((c :: r).map Ce.y) /\ mnF c.y ((c :: r).map Ce.y) <= 1048576
  omega
set_option maxHeartbeats 2000000 in
theorem AdW {v : I} {p : List Ce} (hv : IsSl v (An p)) (hp : right p = true) (H : Hp) : Gives G 71 [.m v] H (.m (if p = [] then v else .sl (An (Bu p)))) H:=by
 have hl : p.length <= 5000:=(Bh hp).2.2
 have hr:=hv.rules
 have gb:=fun H=>Aej hv (by omega) H
 have gr:=fun H=>MW hv (by omega) H
 rw [hp] at gr
 refine Ah rfl rfl rfl rfl rfl ?_
 cases hpe : p with
 | nil =>
  subst hpe
  simp (disch:=omega) [gd_and,Aa,cl (gb _),Nr,Ns]
 | cons c0 r0 =>
  have hne : p ≠ []:=by rw [hpe]; simp
  rw [<- hpe]
  obtain ⟨bw,bh,hbc⟩ : ∃ bw bh,Ns p = [LS p,Ks p,bw,bh]:=by
   obtain ⟨d,hd⟩ : ∃ d,(c0 :: r0)[(c0 :: r0).length - 1]? = some d:=⟨_,AeC (by simp)⟩
   have hy:=(JP (by rw [<- hpe]; exact hp) hd).1
   have hlow : Ks (c0 :: r0) = c0.y:=hy
   have hp' : right (c0 :: r0) = true:=by rw [<- hpe]; exact hp
   rw [hpe]
   simp only [Ns]
   rw [AeB hp',hlow]
   exact ⟨_,_,rfl⟩
  have hbv : Nr p = .tu [.m (.ag [.i .i64 (LS p),.i .i64 (Ks p),.i .i64 bw,.i .i64 bh]),.m (.b true)]:=by
   unfold Nr
   rw [hbc,hp]
   simp [hne]
  rw [hbv] at gb
  have hlx:=JZ hp
  have hly:=VW hp
  have hnc : Nat.beq 0 p.length = false:=by cases hq : p with | nil=>exact absurd hq hne | cons _ _=>rfl
  simp only [show (An p).length = p.length from by simp [An]] at hr
  have hcap : p.length * 24 <= 281474976710656:=by omega
  have hcap2 : p.length <= 9223372036854775807:=by omega
  have hdc : decide (0 = p.length) = false:=by rw [<- Fe]; exact hnc
  simp (disch:=omega) [gd_and,hr,Aa,cl (gb _),cl (gr _),hne,hcap,hcap2,hdc]
  refine (?key : ∀ (i : Nat) (f : List Ce) (B : List (Nat × List V)),i <= p.length -> f = (p.take i).map (mvC (LS p) (Ks p)) -> getB B 3 = some [.m (.i .i64 (LS p)),.m (.i .i64 (Ks p)),.m (.i .i64 bw),.m (.i .i64 bh)] -> Run G c71_B0 (S71_0 (.fa 3 0) (.sl 0 f.length 3 0 f.length false) (.m v) (.m (.i .i64 p.length)) (.m (.i .i64 (i : Int))) B [.cs 60 3 (AI f) 0 false]) _) 0 [] [(3,[.m (.i .i64 (LS p)),.m (.i .i64 (Ks p)),.m (.i .i64 bw),.m (.i .i64 bh)])] (AeK _) rfl rfl
  refine BP (fun i : Nat=>p.length - i) fun i ih f B hi hf0 hB=>?_
  unfold c71_B0
  cases hx : p[i]? with
  | some c =>
   have hlt:=(Av hx).1
   have hlt' : (i : Int) < p.length:=by omega
   have hn:=AD hx
   have wi : wr .i64 ((i : Int) + 1) = (i : Int) + 1:=wr_i64 (by omega) (by omega)
   have htk : p.take (i + 1) = p.take i ++ [c]:=AW hx
   have hb:=AZ hp (AeI hx)
   have w1 : wr .i64 (c.x - LS p) = c.x - LS p:=wr_i64 (by omega) (by omega)
   have w2 : wr .i64 (c.y - Ks p) = c.y - Ks p:=wr_i64 (by omega) (by omega)
   have hf : f.length <= 1000000:=by rw [hf0,AeP,AeQ]; omega
   have ha:=fun B=>Ta f hf (mvC (LS p) (Ks p) c) B
   have e : f ++ [mvC (LS p) (Ks p) c] = (p.take (i + 1)).map (mvC (LS p) (Ks p)):=by rw [htk,hf0]; simp
   have ih':=ih (i + 1) (by omega) (f ++ [mvC (LS p) (Ks p) c])
   clear ih hf0
   generalize f ++ [mvC (LS p) (Ks p) c] = f' at *
   simp only [mvC] at ha
   simp (disch:=omega) [gd_and,hr,hlt',hn,wi,hB,w1,w2,ha]
   exact ih' _ (by omega) e (by simpa using hB)
  | none =>
   have : i = p.length:=by have:=AeM.1 hx; omega
   subst this
   clear ih
   rw [AfF] at hf0
   have hvv:=MT (r:=0) (b:=0) (X:=[]) (A:=[]) (q:=Bu p) (n:=(Bu p).length) rfl (AeK _) 18
   have e : f = Bu p:=hf0
   rw [e]
   clear e hf0
   generalize Bu p = f at *
   have hvr : viewR [.cs 60 3 (AI f) 0 false] (.sl 0 f.length 3 0 f.length false) = some (.m (.sl (An f))):=by
    show (view 20 _ _).bind _ = _
    rw [hvv]
    rfl
   simp (disch:=omega) [hvr]
theorem Wv {k : Nat} {x y : Int} (hx : -1048576 <= x /\ x <= 1048576) (hy : -1048576 <= y /\ y <= 1048576) : (-1048576 <= (Cn k x y).1 /\ (Cn k x y).1 <= 1048576) /\ (-1048576 <= (Cn k x y).2 /\ (Cn k x y).2 <= 1048576):=by
 unfold Cn
 split <;> dsimp only <;> omega
theorem Wu {k : Nat} {x y z w : Int} (h1 : (Cn k x y).1 = (Cn k z w).1) (h2 : (Cn k x y).2 = (Cn k z w).2) : x = z /\ y = w:=by
 unfold Cn at h1 h2
 split at h1 <;> simp at h1 h2 <;> omega
theorem GS {p : List Ce} (h : p.Pairwise (fun a b=>BG a b = true)) : p.Pairwise apart:=h.imp fun {a b} h=>by
 unfold BG at h
 unfold apart
 simp at h
 omega
theorem IW (k : Nat) {p : List Ce} (h : p.Pairwise apart) : (p.map (tnC k)).Pairwise apart:=by
 rw [List.pairwise_map]
 refine h.imp fun {a b} h h2=>h ?_
 exact Wu (k:=k) h2.1 h2.2
def OutI (f : List Ce) (o : V) (H : Hp) : Prop:=(f = [] /\ o = .m (.nl 4) /\ H = []) \/ (f ≠ [] /\ o = .sl 1 f.length 3 0 f.length false /\ nth H 1 = some (.cs 60 3 (AI f) 0 false))
theorem ZB {f : List Ce} {o : V} {H : Hp} (h : OutI f o H) : Ay o = true:=by
 rcases h with ⟨_,rfl,_⟩ | ⟨_,rfl,_⟩ <;> rfl
theorem Tb {f : List Ce} {o : V} {H : Hp} (h : OutI f o H) (hl : f.length <= 1000000) (q : Row) (c : Ce) : ∃ o1 H1,(∀ B,Gi ⟨B,H ++ [q]⟩ 60 3 24 o [[.m (.i .i64 c.x),.m (.i .i64 c.y),.m (.i .i64 c.s)]] = some (o1,⟨B,H1⟩)) /\ Ay o1 = true /\ OutI (f ++ [c]) o1 H1:=by
 rcases h with ⟨rfl,rfl,rfl⟩ | ⟨hne,rfl,h1⟩
 ·exact ⟨_,_,fun B=>rfl,rfl,.inr ⟨by simp,rfl,rfl⟩⟩
 ·have h2 : nth (H ++ [q]) 1 = some (.cs 60 3 (AI f) 0 false):=by rw [BF _ _ _ (AJ h1)]; exact h1
  have ha:=fun B=>Fk (M:=⟨B,H ++ [q]⟩) (r:=1) (bytes:=24) (xs:=[[.m (.i .i64 c.x),.m (.i .i64 c.y),.m (.i .i64 c.s)]]) h2 (by simp) (by simp; omega) rfl
  simp only [Ei,AeZ,Afo,AfC,IY] at ha
  refine ⟨_,_,ha,rfl,.inr ⟨by simp,by simp,?_⟩⟩
  exact AO (AJ h2)
theorem SJ {α : Type} (l : List α) (x y : α) : AG (l ++ [x]) l.length y = some (l ++ [y]):=by
 rw [Am _ _ _ (by simp)]
 simp
def Ka (g : Ce -> Int) : List Ce -> Int
 | []=>0
 | c :: r=>mnF (g c) ((c :: r).map g)
theorem LU (g : Ce -> Int) (p : List Ce) (c : Ce) (i : Nat) (hi : p.length = i) : Ka g (p ++ [c]) = if i = 0 \/ g c < Ka g p then g c else Ka g p:=by
 cases p with
 | nil=>simp at hi; subst hi; simp [Ka,mnF]
 | cons d r =>
  have h0 : ¬ i = 0:=by simp at hi; omega
  have e : ((d :: r) ++ [c]).map g = (d :: r).map g ++ [g c]:=by simp
  show mnF (g d) (((d :: r) ++ [c]).map g) = _
  rw [e,JX]
  show min (Ka g (d :: r)) (g c) = _
  simp only [h0,false_or]
  rw [Int.min_def]
  split <;> split <;> omega
theorem w3_x {g : List Ce} {j : Nat} {c : Ce} (h : g[j]? = some c) (x : Int) : BD 3 (AI g) j 0 [.m (.i .i64 x)] = some (AI (g.set j ⟨x,c.y,c.s⟩)):=by
 show (nth (AI g) j).bind _ = _
 rw [DA h]
 show AG (AI g) j [.m (.i .i64 x),.m (.i .i64 c.y),.m (.i .i64 c.s)] = _
 rw [Am _ _ _ (by simpa using (Av h).1)]
 simp [AI,List.map_set,Ud,Ce.i]
theorem w3_y {g : List Ce} {j : Nat} {c : Ce} (h : g[j]? = some c) (y : Int) : BD 3 (AI g) j 1 [.m (.i .i64 y)] = some (AI (g.set j ⟨c.x,y,c.s⟩)):=by
 show (nth (AI g) j).bind _ = _
 rw [DA h]
 show AG (AI g) j [.m (.i .i64 c.x),.m (.i .i64 y),.m (.i .i64 c.s)] = _
 rw [Am _ _ _ (by simpa using (Av h).1)]
 simp [AI,List.map_set,Ud,Ce.i]
theorem r3_x {g : List Ce} {j : Nat} {c : Ce} (h : g[j]? = some c) : CX 3 (AI g) j 0 1 = some [.m (.i .i64 c.x)]:=by
 show (nth (AI g) j).bind _ = _
 rw [DA h]
 rfl
theorem r3_y {g : List Ce} {j : Nat} {c : Ce} (h : g[j]? = some c) : CX 3 (AI g) j 1 1 = some [.m (.i .i64 c.y)]:=by
 show (nth (AI g) j).bind _ = _
 rw [DA h]
 rfl
theorem Jc (f : List Ce) : Ka Ce.x f = LS f:=by cases f <;> rfl
theorem Jb (f : List Ce) : Ka Ce.y f = Ks f:=by cases f <;> rfl
theorem Tq (g : Ce -> Int) {f : List Ce} (h : ∀ c,c ∈ f -> -1048576 <= g c /\ g c <= 1048576) (hne : f ≠ []) : -1048576 <= Ka g f /\ Ka g f <= 1048576:=by
 obtain ⟨c,r,rfl⟩:=Afj hne
 have hb:=h c (Afa ..)
 have h1 : mnF (g c) ((c :: r).map g) <= g c:=(FH _ _).1
 have h2 : -1048576 <= mnF (g c) ((c :: r).map g):=Gx _ _ _ ⟨by omega,fun y hy=>by
  obtain ⟨d,hd,rfl⟩:=AeU.1 hy
  have:=h d hd
  omega⟩
 show -1048576 <= mnF (g c) ((c :: r).map g) /\ mnF (g c) ((c :: r).map g) <= 1048576
 omega
theorem Ja (a b : Int) {p : List Ce} (h : p.Pairwise apart) : (p.map (mvC a b)).Pairwise apart:=by
 rw [List.pairwise_map]
 refine h.imp fun {c d} h h2=>h ?_
 obtain ⟨h3,h4⟩:=h2
 simp only [mvC] at h3 h4
 omega
set_option maxHeartbeats 2000000 in
theorem ZW {v : I} {p : List Ce} (hv : IsSl v (An p)) (hp : right p = true) (k : Int) (hk : -9223372036854775808 <= k /\ k <= 9223372036854775807) (H : Hp)
  (hb : ∀ c,c ∈ Bu (p.map (tnC (DQ k))) -> EL c = true) : Gives G 81 [.m v,.m (.i .i64 k)] H (.m (zP (DV (Bu (p.map (tnC (DQ k))))))) H:=by
 have hl : p.length <= 5000:=(Bh hp).2.2
 have hr:=hv.rules
 simp only [show (An p).length = p.length from by simp [An]] at hr
 refine Ah rfl rfl rfl rfl rfl ?_
 simp (disch:=omega) []
 refine (?key : ∀ (i : Nat) (f : List Ce) (o : V) (x y : Int) (B : List (Nat × List V)) (H1 : Hp),i <= p.length -> f = (p.take i).map (tnC (DQ k)) -> x = Ka Ce.x f -> y = Ka Ce.y f -> OutI f o H1 -> Run G c81_B0 (S81_0 (.m v) (.m (.i .i64 k)) (.m (.i .i64 x)) (.m (.i .i64 y)) o (.m (.i .i64 (i : Int))) B H1) _) 0 [] _ 0 0 _ _ (AeK _) rfl rfl rfl (.inl ⟨rfl,rfl,rfl⟩)
 refine BP (fun i : Nat=>p.length - i) fun i ih f o x y B H1 hi hf hx0 hy0 ho=>?_
 unfold c81_B0
 have hfl : f.length = i:=by rw [hf,AeP,AeQ]; omega
 cases hx : p[i]? with
 | some c =>
  have hlt:=(Av hx).1
  have hlt' : (i : Int) < p.length:=by omega
  have hn:=AD hx
  have wi : wr .i64 ((i : Int) + 1) = (i : Int) + 1:=wr_i64 (by omega) (by omega)
  have htk : p.take (i + 1) = p.take i ++ [c]:=AW hx
  have hbd:=AZ hp (AeI hx)
  have ga:=fun H=>Aar k c.x c.y hk (by omega) (by omega) H
  have he : f ++ [tnC (DQ k) c] = (p.take (i + 1)).map (tnC (DQ k)):=by rw [htk,hf]; simp
  have hnf:=ZB ho
  have sx:=LU Ce.x f (tnC (DQ k) c) i hfl
  have sy:=LU Ce.y f (tnC (DQ k) c) i hfl
  obtain ⟨o1,H2,ha,hn1,ho1⟩:=Tb ho (by omega) (.cs 70 2 [[.m (.i .i64 (tnC (DQ k) c).x),.m (.i .i64 (tnC (DQ k) c).y)]] 1 false) (tnC (DQ k) c)
  have e1 : (tnC (DQ k) c).x = (Cn (DQ k) c.x c.y).1:=rfl
  have e2 : (tnC (DQ k) c).y = (Cn (DQ k) c.x c.y).2:=rfl
  have e3 : (tnC (DQ k) c).s = c.s:=rfl
  simp only [e1,e2,e3] at ha sx sy
  generalize hq : tnC (DQ k) c = q at *
  generalize (Cn (DQ k) c.x c.y).1 = tx at *
  generalize (Cn (DQ k) c.x c.y).2 = ty at *
  have hse:=fun y=>SJ H1 (Row.cs 70 2 [[.m (.i .i64 0),.m (.i .i64 0)]] 0 false) y
  have hne:=fun (y : Row)=>Dd H1 [y] 0
  simp only [Nat.add_zero] at hne
  have hn0 : ∀ y : Row,nth [y] 0 = some y:=fun _=>rfl
  have hw : BD 2 [[V.m (.i .i64 0),V.m (.i .i64 0)]] 0 0 [V.m (.i .i64 tx),V.m (.i .i64 ty)] = some [[V.m (.i .i64 tx),V.m (.i .i64 ty)]]:=rfl
  have hr0 : CX 2 [[V.m (.i .i64 tx),V.m (.i .i64 ty)]] 0 0 1 = some [V.m (.i .i64 tx)]:=rfl
  have hr1 : CX 2 [[V.m (.i .i64 tx),V.m (.i .i64 ty)]] 0 1 1 = some [V.m (.i .i64 ty)]:=rfl
  by_cases h0 : i = 0
  ·have sx' : tx = Ka Ce.x (f ++ [q]):=by rw [sx,AeB (.inl h0)]
   have sy' : ty = Ka Ce.y (f ++ [q]):=by rw [sy,AeB (.inl h0)]
   have ih1:=ih (i + 1) (by omega) (f ++ [q]) o1 tx ty B H2 (by omega) he sx' sy' ho1
   clear ih sx sy sx' sy' he hf ho ho1 hx0 hy0 hi hfl hnf hx htk
   subst h0
   simp (disch:=omega) [gd_and,wr_i64,hr,hlt,hn,cl (ga _),hse,hne,hn0,hw,hr0,hr1,ha,Ag hn1]
   exact ih1
  ·have h0' : ¬ (i : Int) = 0:=by omega
   by_cases hx1 : tx < x
   ·by_cases hy1 : ty < y
    ·
     simp (disch:=omega) [gd_and,hr,hlt',hn,wi,cl (ga _),hse,hne,hn0,hw,hr0,hr1,h0,hx1,hy1,ha,Ag hn1]
     exact ih (i + 1) (by omega) _ _ _ _ _ _ (by omega) he (by rw [sx,AeB (.inr (by rw [<- hx0]; exact hx1))]) (by rw [sy,AeB (.inr (by rw [<- hy0]; exact hy1))]) ho1
    ·
     simp (disch:=omega) [gd_and,hr,hlt',hn,wi,cl (ga _),hse,hne,hn0,hw,hr0,hr1,h0,hx1,hy1,ha,Ag hn1]
     exact ih (i + 1) (by omega) _ _ _ _ _ _ (by omega) he (by rw [sx,AeB (.inr (by rw [<- hx0]; exact hx1))]) (by rw [sy,Aex (not_or.2 ⟨h0,by rw [<- hy0]; exact hy1⟩)]; exact hy0) ho1
   ·by_cases hy1 : ty < y
    ·
     simp (disch:=omega) [gd_and,hr,hlt',hn,wi,cl (ga _),hse,hne,hn0,hw,hr0,hr1,h0,hx1,hy1,ha,Ag hn1]
     exact ih (i + 1) (by omega) _ _ _ _ _ _ (by omega) he (by rw [sx,Aex (not_or.2 ⟨h0,by rw [<- hx0]; exact hx1⟩)]; exact hx0) (by rw [sy,AeB (.inr (by rw [<- hy0]; exact hy1))]) ho1
    ·
     simp (disch:=omega) [gd_and,hr,hlt',hn,wi,cl (ga _),hse,hne,hn0,hw,hr0,hr1,h0,hx1,hy1,ha,Ag hn1]
     exact ih (i + 1) (by omega) _ _ _ _ _ _ (by omega) he (by rw [sx,Aex (not_or.2 ⟨h0,by rw [<- hx0]; exact hx1⟩)]; exact hx0) (by rw [sy,Aex (not_or.2 ⟨h0,by rw [<- hy0]; exact hy1⟩)]; exact hy0) ho1
 | none =>
  have : i = p.length:=by have:=AeM.1 hx; omega
  subst this
  clear ih hx hi
  rw [AfF] at hf
  rw [Jc] at hx0
  rw [Jb] at hy0
  simp (disch:=omega) [hr]
  have hbnd : ∀ c,c ∈ f -> (-1048576 <= c.x /\ c.x <= 1048576) /\ (-1048576 <= c.y /\ c.y <= 1048576):=fun c hc=>by
   rw [hf] at hc
   obtain ⟨d,hd,rfl⟩:=AeU.1 hc
   have hb:=AZ hp hd
   exact Wv hb.1 hb.2.1
  rcases ho with ⟨h1,rfl,rfl⟩ | ⟨hne,rfl,hn1⟩
  ·have : p = []:=by cases p with | nil=>rfl | cons a b=>simp [h1] at hf
   subst this
   unfold c81_B1
   have gf:=fun H=>LH (p:=[]) Da (by simp) (by simp) List.Pairwise.nil H
   simp (disch:=omega) [cl (gf _)]
   rfl
  ·have hxb : -1048576 <= x /\ x <= 1048576:=by
    rw [hx0]
    rw [<- Jc]
    exact Tq Ce.x (fun c hc=>(hbnd c hc).1) hne
   have hyb : -1048576 <= y /\ y <= 1048576:=by
    rw [hy0]
    rw [<- Jb]
    exact Tq Ce.y (fun c hc=>(hbnd c hc).2) hne
   refine (?key2 : ∀ (j b : Nat) (g : List Ce) (B : List (Nat × List V)) (H1 : Hp),j <= f.length -> b <= f.length -> g = (f.take j).map (mvC x y) ++ f.drop j -> nth H1 1 = some (.cs 60 3 (AI g) b false) -> Run G c81_B1 (S81_1 (.m (.i .i64 x)) (.m (.i .i64 y)) (.sl 1 f.length 3 0 f.length false) (.m (.i .i64 (j : Int))) B H1) _) 0 0 f _ _ (AeK _) (AeK _) (by simp) hn1
   clear hn1 H1 B
   refine BP (fun j : Nat=>f.length - j) fun j ih b g B H1 hj hbl hg hn1=>?_
   have hgl : g.length = f.length:=by rw [hg,AeD,AeP,AeQ,Afd]; omega
   unfold c81_B1
   cases hx : f[j]? with
   | some c =>
    have hlt:=(Av hx).1
    have hlt' : (j : Int) < f.length:=by omega
    have wj : wr .i64 ((j : Int) + 1) = (j : Int) + 1:=wr_i64 (by omega) (by omega)
    have hbc:=hbnd c (AeI hx)
    have w1 : wr .i64 (c.x - x) = c.x - x:=wr_i64 (by omega) (by omega)
    have w2 : wr .i64 (c.y - y) = c.y - y:=wr_i64 (by omega) (by omega)
    have htl : ((f.take j).map (mvC x y)).length = j:=by rw [AeP,AeQ]; omega
    have hgc : g[j]? = some c:=by
     rw [hg,Afi (by omega),htl,Nat.sub_self,(Av hx).2]
     rfl
    have hgc1 : (g.set j ⟨c.x - x,c.y,c.s⟩)[j]? = some ⟨c.x - x,c.y,c.s⟩:=by
     rw [List.getElem?_set_self (by omega)]
    have rx:=r3_x hgc
    have ry:=r3_y hgc1
    have wx:=w3_x hgc (c.x - x)
    have wy:=w3_y hgc1 (c.y - y)
    rw [List.set_set] at wy
    have hlH:=AJ hn1
    have hs1:=fun r=>Am H1 1 r hlH
    have hs2:=fun a r=>Am (H1.set 1 a) 1 r (by simpa using hlH)
    have hn2:=fun (a : Row)=>AO (x:=a) hlH
    have e : g.set j ⟨c.x - x,c.y - y,c.s⟩ = (f.take (j + 1)).map (mvC x y) ++ f.drop (j + 1):=by
     rw [hg,AfS _ _ (by omega),htl,Nat.sub_self,(Av hx).2,AW hx]
     simp [mvC]
    dsimp only at ry wy
    simp (disch:=omega) [gd_and,hlt',wj,w1,w2,hn1,hn2,rx,ry,wx,wy,hs1,hs2,hbl,hgl]
    refine ih (j + 1) (by omega) f.length _ _ _ (by omega) (AeA _) e ?_
    simp [hlH,AO]
   | none =>
    have : j = f.length:=by have:=AeM.1 hx; omega
    subst this
    clear ih
    have hgh : g = Bu f:=by
     rw [hg,AfF,AfO,AeV,hx0,hy0]
     rfl
    rw [<- hf] at hb ⊢
    have hgn : DV g ≠ []:=fun h=>by
     have:=FF g
     rw [h] at this
     rw [hgl] at this
     exact hne (AeT this.symm)
    have hfa : f.Pairwise apart:=by rw [hf]; exact IW _ (GS (Bh hp).1)
    have hga : g.Pairwise apart:=by
     rw [hgh]
     exact Ja _ _ hfa
    have hzg : Gd (.tu [.m (zP (DV g)),.m (.i .i64 0)]) = false:=by
     unfold zP
     rw [Aex hgn]
     rfl
    have gf:=LH (Cg (An g)) (by omega) (by rw [hgh]; exact hb) hga []
    have hvv:=AcO hn1 (by omega) 18
    have hvs : Af (view 20 H1) [V.sl 1 f.length 3 0 f.length false] = some [.sl (An g)]:=by
     rw [<- hgl]
     simp only [Af,hvv,AeE]
    have hfz : AS ([V.sl 1 f.length 3 0 f.length false].flatMap DR) H1 = some (H1.set 1 (.cs 60 3 (AI g) b true)):=by
     show Option.bind (nth H1 1) _ = _
     rw [hn1]
     show Option.bind (gd ((AI g).all fun e=>e.all isM) (some (Row.cs 60 3 (AI g) b true))) _ = _
     rw [Ia]
     show Option.bind (AG H1 1 _) _ = _
     rw [Am _ _ _ (AJ hn1)]
     rfl
    have gF:=CA (is:=[.sl (An g)]) rfl rfl gf hvs (by simp [DR,GM]) hzg rfl hfz
    rw [<- hgh]
    generalize zP (DV g) = zz at *
    simp (disch:=omega) [cl gF]
theorem Gm (g : Ce -> Int) {p : List Ce} (hne : p ≠ []) : (∀ c,c ∈ p -> Ka g p <= g c) /\ ∀ x,(∀ c,c ∈ p -> x <= g c) -> x <= Ka g p:=by
 obtain ⟨c,r,rfl⟩:=Afj hne
 refine ⟨fun d hd=>(FH ((c :: r).map g) (g c)).2 _ (List.mem_map_of_mem hd),fun x hx=>Gx _ _ _ ⟨hx c (Afa ..),fun y hy=>?_⟩⟩
 obtain ⟨d,hd,rfl⟩:=AeU.1 hy
 exact hx d hd
theorem ZN (a b : Int) (c d : Ce) : BG (mvC a b c) (mvC a b d) = BG c d:=by
 unfold BG mvC
 rw [Afm]
 simp only [AeW]
 omega
theorem Nn {p : List Ce} (h : p.Pairwise (fun a b=>BG a b = true)) : (Bu p).Pairwise (fun a b=>BG a b = true):=by
 unfold Bu
 rw [List.pairwise_map]
 exact h.imp fun {a b} h=>by rw [ZN]; exact h
def AdV (k : Nat) (p : List Ce) : List Ce:=DV (Bu (p.map (tnC k)))
def TY (p : List Ce) : Prop:=∀ c d,c ∈ p -> d ∈ p -> c.x - d.x <= 1048576 /\ c.y - d.y <= 1048576
theorem Zn (k : Nat) {p : List Ce} (h : TY p) : TY (p.map (tnC k)):=fun c d hc hd=>by
 obtain ⟨a,ha,rfl⟩:=AeU.1 hc
 obtain ⟨b,hb,rfl⟩:=AeU.1 hd
 have h1:=h a b ha hb
 have h2:=h b a hb ha
 unfold tnC Cn
 split <;> dsimp only <;> omega
theorem LC {p : List Ce} (h : TY p) (hs : ∀ c,c ∈ p -> 1 <= c.s /\ c.s < 8) : ∀ c,c ∈ Bu p -> EL c = true:=fun c hc=>by
 obtain ⟨d,hd,rfl⟩:=AeU.1 hc
 have hne : p ≠ []:=fun e=>by subst e; cases hd
 obtain ⟨x1,x2⟩:=Gm Ce.x hne
 obtain ⟨y1,y2⟩:=Gm Ce.y hne
 have a1:=x1 d hd
 have b1:=y1 d hd
 have a2:=x2 (d.x - 1048576) fun e he=>by have:=(h d e hd he).1; omega
 have b2:=y2 (d.y - 1048576) fun e he=>by have:=(h d e hd he).2; omega
 rw [Jc] at a1 a2
 rw [Jb] at b1 b2
 have:=hs d hd
 unfold EL DC mvC
 simp only [Aez,AeW]
 omega
theorem tn_s {k : Nat} {p : List Ce} (hp : right p = true) : ∀ c,c ∈ p.map (tnC k) -> 1 <= c.s /\ c.s < 8:=fun c hc=>by
 obtain ⟨d,hd,rfl⟩:=AeU.1 hc
 exact (AZ hp hd).2.2
theorem Pg {k : Nat} {p : List Ce} (hp : right p = true) (h : TY p) : ∀ c,c ∈ Bu (p.map (tnC k)) -> EL c = true:=LC (Zn k h) (tn_s hp)
theorem Ty {k : Nat} {p : List Ce} (hp : right p = true) (h : TY p) : right (AdV k p) = true:=by
 have ha : (Bu (p.map (tnC k))).Pairwise apart:=Ja _ _ (IW k (GS (Bh hp).1))
 refine VN (JN ha) (fun c hc=>Pg hp h c ((Gk _).mem_iff.1 hc)) ?_
 unfold AdV
 rw [FF]
 unfold Bu
 rw [AeP,AeP]
 exact (Bh hp).2.2
theorem AdU {v : I} {p : List Ce} (hv : IsSl v (An p)) (hp : right p = true) (hs : TY p) (k : Int) (hk : -9223372036854775808 <= k /\ k <= 9223372036854775807) (H : Hp) : Gives G 81 [.m v,.m (.i .i64 k)] H (.m (zP (AdV (DQ k) p))) H:=ZW hv hp k hk H (Pg hp hs)
def Cb (p : List Ce) : Bool:=match Ns p with
 | [_,_,w,h]=>decide (1048577 < w \/ 1048577 < h)
 | _=>false
theorem Xo (p : List Ce) : ∃ x y w h,Ns p = [x,y,w,h]:=by
 unfold Ns
 split
 ·exact ⟨_,_,_,_,rfl⟩
 ·split
  ·exact ⟨_,_,_,_,rfl⟩
  ·exact ⟨_,_,_,_,rfl⟩
theorem ZP {v : I} {p : List Ce} (hv : IsSl v (An p)) (hl : (p.length : Int) <= 9223372036854775807) (H : Hp) : Gives G 70 [.m v] H (.m (.b (Cb p))) H:=by
 have gb:=fun H=>Aej hv hl H
 obtain ⟨x,y,w,h,e⟩:=Xo p
 have e2 : Nr p = .tu [.m (.ag [.i .i64 x,.i .i64 y,.i .i64 w,.i .i64 h]),.m (.b (!p.isEmpty && right p))]:=by unfold Nr; rw [e]; rfl
 rw [e2] at gb
 have e3 : Cb p = decide (1048577 < max w h):=by
  unfold Cb
  rw [e]
  dsimp only
  congr 1
  rw [eq_iff_iff]
  omega
 rw [e3]
 refine Ah rfl rfl rfl rfl rfl ?_
 simp (disch:=omega) [gd_and,cl (gb _)]
theorem ZQ {v : I} {p : List Ce} (hv : IsSl v (An p)) (hl : (p.length : Int) <= 9223372036854775807) (H : Hp) : Gives G 79 [.m v] H (.m (.b (Cb p))) H:=by
 have gb:=fun H=>box_r hv hl H
 obtain ⟨x,y,w,h,e⟩:=Xo p
 have e2 : Nr p = .tu [.m (.ag [.i .i64 x,.i .i64 y,.i .i64 w,.i .i64 h]),.m (.b (!p.isEmpty && right p))]:=by unfold Nr; rw [e]; rfl
 rw [e2] at gb
 refine Ah rfl rfl rfl rfl rfl ?_
 have e3 : Cb p = decide (1048577 < w \/ 1048577 < h):=by
  unfold Cb
  rw [e]
 rw [e3]
 by_cases hw : 1048577 < w
 ·simp (disch:=omega) [gd_and,cl (gb _),hw]
 ·simp (disch:=omega) [gd_and,cl (gb _),hw]
theorem HX {p : List Ce} (hp : right p = true) (h : Cb p = false) : TY p:=by
 intro c d hc hd
 cases p with
 | nil=>cases hc
 | cons a r =>
  obtain ⟨l,hl⟩ : ∃ d,(a :: r)[(a :: r).length - 1]? = some d:=⟨_,AeC (by simp)⟩
  obtain ⟨y1,y2⟩:=JP hp hl
  have hla : ∀ h,(a :: r).getLast h = l:=fun h=>by
   rw [List.getLast_eq_getElem,<- Aev,<- hl,AeC]
  have mx:=fun (e : Ce) (he : e ∈ a :: r)=>(LQ ((a :: r).map Ce.x) a.x).2 _ (List.mem_map_of_mem he)
  have mn:=fun (e : Ce) (he : e ∈ a :: r)=>(FH ((a :: r).map Ce.x) a.x).2 _ (List.mem_map_of_mem he)
  have my:=fun (e : Ce) (he : e ∈ a :: r)=>(LQ ((a :: r).map Ce.y) a.y).2 _ (List.mem_map_of_mem he)
  have ny:=fun (e : Ce) (he : e ∈ a :: r)=>(FH ((a :: r).map Ce.y) a.y).2 _ (List.mem_map_of_mem he)
  have bx:=JZ hp
  have bX : mxF a.x ((a :: r).map Ce.x) <= 1048576:=LP _ _ _ ⟨(AZ hp (Afa ..)).1.2,fun y hy=>by
   obtain ⟨e,he,rfl⟩:=AeU.1 hy
   exact (AZ hp he).1.2⟩
  have hb1:=AZ hp (Afa (a:=a) (l:=r))
  have hb2:=AZ hp (AeI hl)
  have m1:=mx c hc
  have m2:=mn d hd
  have m3:=my c hc
  have m4:=ny d hd
  have m5:=mn a (Afa ..)
  have m6:=mx a (Afa ..)
  have bx' : -1048576 <= mnF a.x ((a :: r).map Ce.x):=bx.1
  unfold Cb Ns at h
  dsimp only at h
  rw [AeB hp,hla] at h
  rw [y1] at m4
  rw [y2] at m3
  generalize mnF a.x ((a :: r).map Ce.x) = n at *
  generalize mxF a.x ((a :: r).map Ce.x) = m at *
  dsimp only at h
  rw [wr_i64 (x:=m - n) (by omega) (by omega),wr_i64 (x:=m - n + 1) (by omega) (by omega),wr_i64 (x:=l.y - a.y) (by omega) (by omega),wr_i64 (x:=l.y - a.y + 1) (by omega) (by omega)] at h
  simp only [decide_eq_false_iff_not] at h
  omega
def cmpC (c d : Ce) : Int:=if c.y = d.y then if c.x = d.x then EW c.s d.s else EW c.x d.x else EW c.y d.y
def Po : List Ce -> List Ce -> Int
 | [],[]=>0
 | [],_ :: _=>-1
 | _ :: _,[]=>1
 | c :: r,d :: t=>if cmpC c d = 0 then Po r t else cmpC c d
theorem Ik {x y : Int} : EW x y = 0 ↔ x = y:=by
 unfold EW
 split
 ·constructor <;> intro h <;> omega
 ·split <;> constructor <;> intro h <;> omega
theorem Xm {c d : Ce} : cmpC c d = 0 ↔ c = d:=by
 obtain ⟨a1,a2,a3⟩:=c
 obtain ⟨b1,b2,b3⟩:=d
 unfold cmpC
 simp only [Ce.mk.injEq]
 split
 ·split
  ·rw [Ik]; constructor <;> intro h <;> simp_all
  ·rw [Ik]; constructor <;> intro h <;> simp_all
 ·rw [Ik]; constructor <;> intro h <;> simp_all
theorem Xl : ∀ {p q : List Ce},Po p q = 0 ↔ p = q
 | [],[]=>by simp [Po]
 | [],_ :: _=>by simp [Po]
 | _ :: _,[]=>by simp [Po]
 | c :: r,d :: t=>by
  unfold Po
  split
  ·rename_i h
   rw [Xl,Xm.1 h]
   simp
  ·rename_i h
   constructor
   ·intro h2; exact absurd h2 h
   ·intro h2
    have : c = d:=(List.cons.inj h2).1
    exact absurd (Xm.2 this) h
theorem Qo (x y : Int) (H : Hp) : Gives G 82 [.m (.i .i64 x),.m (.i .i64 y)] H (.m (.i .i64 (EW x y))) H:=by
 refine Ah rfl rfl rfl rfl rfl ?_
 by_cases h1 : x < y
 ·simp (disch:=omega) [h1,EW]
 ·by_cases h2 : y < x
  ·simp (disch:=omega) [h1,h2,EW]
  ·simp (disch:=omega) [h1,h2,EW]
theorem Pn {p q : List Ce} {i : Nat} (h : p.drop i = [] \/ q.drop i = []) : Po (p.drop i) (q.drop i) = EW ((p.drop i).length : Int) ((q.drop i).length : Int):=by
 rcases h with h | h <;> rw [h]
 ·cases hq : q.drop i with
  | nil=>rfl
  | cons a r=>show (-1 : Int) = _; unfold EW; rw [AeB (by simp <;> omega)]
 ·cases hq : p.drop i with
  | nil=>rfl
  | cons a r=>show (1 : Int) = _; unfold EW; rw [Aex (by simp <;> omega),AeB (by simp <;> omega)]
theorem Pp {a b i : Nat} (h1 : i <= a) (h2 : i <= b) : EW ((a - i : Nat) : Int) ((b - i : Nat) : Int) = EW a b:=by
 unfold EW
 have e1 : (((a - i : Nat) : Int) < ((b - i : Nat) : Int)) = ((a : Int) < b):=by rw [eq_iff_iff]; omega
 have e2 : (((b - i : Nat) : Int) < ((a - i : Nat) : Int)) = ((b : Int) < a):=by rw [eq_iff_iff]; omega
 simp only [e1,e2]
set_option maxHeartbeats 2000000 in
theorem TO {v w : I} {p q : List Ce} (hv : IsSl v (An p)) (hw : IsSl w (An q)) (hl : p.length <= 1000000) (hl2 : q.length <= 1000000) (H : Hp) : Gives G 37 [.m v,.m w] H (.m (.i .i64 (Po p q))) H:=by
 refine Ah rfl rfl rfl rfl rfl ?_
 have hr:=hv.rules
 have hr2:=hw.rules
 simp only [show (An p).length = p.length from by simp [An]] at hr
 simp only [show (An q).length = q.length from by simp [An]] at hr2
 have go:=fun x y H=>Qo x y H
 simp (disch:=omega) []
 refine (?key : ∀ (i : Nat) (B : List (Nat × List V)),i <= p.length -> i <= q.length -> Po p q = Po (p.drop i) (q.drop i) -> Run G c37_B0 (S37_0 (.m v) (.m w) (.m (.i .i64 (i : Int))) B []) _) 0 [] (AeK _) (AeK _) rfl
 refine BP (fun i : Nat=>p.length - i) fun i ih B hi hi2 hc=>?_
 unfold c37_B0
 cases hx : p[i]? with
 | none =>
  have hle:=AeM.1 hx
  have hlt' : ¬ (i : Int) < p.length:=by omega
  rw [Pn (.inl (List.drop_eq_nil_of_le hle)),Afd,Afd,Pp hi hi2] at hc
  simp (disch:=omega) [hr,hr2,hlt',cl (go _ _ _),hc]
 | some c =>
  have hlt:=(Av hx).1
  have hlt' : (i : Int) < p.length:=by omega
  have hn:=AD hx
  cases hy : q[i]? with
  | none =>
   have hle:=AeM.1 hy
   have hlt2' : ¬ (i : Int) < q.length:=by omega
   rw [Pn (.inr (List.drop_eq_nil_of_le hle)),Afd,Afd,Pp hi hi2] at hc
   simp (disch:=omega) [hr,hr2,hlt',hlt2',cl (go _ _ _),hc]
  | some d =>
   have hlt2:=(Av hy).1
   have hlt2' : (i : Int) < q.length:=by omega
   have hn2:=AD hy
   have wi : wr .i64 ((i : Int) + 1) = (i : Int) + 1:=wr_i64 (by omega) (by omega)
   have e1 : Po (c :: p.drop (i + 1)) (d :: q.drop (i + 1)) = if cmpC c d = 0 then Po (p.drop (i + 1)) (q.drop (i + 1)) else cmpC c d:=rfl
   rw [(Av hx).2,(Av hy).2,e1] at hc
   by_cases h1 : c.y = d.y
   ·by_cases h2 : c.x = d.x
    ·by_cases h3 : c.s = d.s
     ·have e : cmpC c d = 0:=by unfold cmpC; rw [AeB h1,AeB h2]; exact Ik.2 h3
      rw [AeB e] at hc
      simp (disch:=omega) [hr,hr2,hlt',hlt2',hn,hn2,wi,h1,h2,h3]
      exact ih (i + 1) (by omega) _ (by omega) (by omega) hc
     ·have e : cmpC c d = EW c.s d.s:=by unfold cmpC; rw [AeB h1,AeB h2]
      have h0 : ¬ EW c.s d.s = 0:=fun h=>h3 (Ik.1 h)
      rw [e,Aex h0] at hc
      simp (disch:=omega) [hr,hr2,hlt',hlt2',hn,hn2,h1,h2,h3,cl (go _ _ _),hc]
    ·have e : cmpC c d = EW c.x d.x:=by unfold cmpC; rw [AeB h1,Aex h2]
     have h0 : ¬ EW c.x d.x = 0:=fun h=>h2 (Ik.1 h)
     rw [e,Aex h0] at hc
     simp (disch:=omega) [hr,hr2,hlt',hlt2',hn,hn2,h1,h2,cl (go _ _ _),hc]
   ·have e : cmpC c d = EW c.y d.y:=by unfold cmpC; rw [Aex h1]
    have h0 : ¬ EW c.y d.y = 0:=fun h=>h1 (Ik.1 h)
    rw [e,Aex h0] at hc
    simp (disch:=omega) [hr,hr2,hlt',hlt2',hn,hn2,h1,cl (go _ _ _),hc]
theorem SO {v w : I} {p q : List Ce} (hv : IsSl v (An p)) (hw : IsSl w (An q)) (hl : p.length <= 1000000) (hl2 : q.length <= 1000000) (H : Hp) : Gives G 20 [.m v,.m w] H (.m (.b (decide (Po p q = 0)))) H:=by
 refine Ah rfl rfl rfl rfl rfl ?_
 simp (disch:=omega) [cl (TO hv hw hl hl2 _)]
end Go.Mx.Tryz
