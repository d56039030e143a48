/- slices.SortFunc over cells at the machine, whole. -/
import Derived.Test.YtiehnedoinlfeaaGreatDoorSrs
import Derived.Test.YtiehnedoinlfeaaGreatDoorSrw
set_option linter.unusedSimpArgs false
set_option linter.unusedVariables false
set_option linter.unusedSectionVars false
set_option maxRecDepth 100000
set_option maxHeartbeats 4000000
namespace Go.Mx.Tryz
open Go.Sort
section
variable {α:Type} [Inhabited α] {R:Rw α 3 true} {A C:Hp} {k:Nat} {lt:α->α->Bool} (W:Cmp R A k lt) (hC:W.ok C) {ty n:Nat} {lim:Bool}
include W hC in
theorem AgQ (d:Array α)(a b u:Nat)(hab:a<=b)(hb:b<=n)(J:d.size=n)(N:u<=n)(hn:n<=1000000000)(hnb:a<b)(Q:V->Hp->Prop) 
  (E:∀z,z<=n->Q (.tu []) (A ++ .cs ty 3 (Bl R (heapSort lt d a b)) z false::C)) :
  Ret G 146 [.sl A.length n 3 0 n lim,J0 a,J0 b,.m (.fn k [])] (A ++ .cs ty 3 (Bl R d) u false::C) Q:=by
 refine Bh mono rfl rfl rfl rfl rfl ?_
 have e1:((b:Int)-a-1).tdiv 2=(((b-a-1) / 2+1:Nat):Int)-1:=by
  rw[show (b:Int)-a-1=((b-a-1:Nat):Int) by omega]
  show (((b-a-1) / 2:Nat):Int)=_
  omega
 have e2:(b:Int)-a=((b-a:Nat):Int):=by omega
 simp (contextual:=true) (maxSteps:=2000000) (disch:=omega) [-Int.not_lt,-Int.not_le,-Nat.not_lt,-Nat.not_le,-List.map_take,Aa,e1]
 have Z:((b-a-1:Nat):Int) / 2=(((b-a-1) / 2+1:Nat):Int)-1:=by omega
 rw[Z,e2]
 clear Z
 refine(?key:∀(i:Nat) (d:Array α) (u:Nat),d.size=n->u<=n->i<=b-a->(∀z,z<=n->Q (.tu []) (A ++ .cs ty 3 (Bl R (heapPop lt a (b-a) (heapBuild lt (b-a) a i d))) z false::C))->Run G c146_B0 (S146_0 (.sl A.length n 3 0 n lim) (.m (.fn k [])) (J0 a) (J0 0) (J0 ((b-a:Nat):Int)) (J0 ((i:Int)-1)) [] (A ++ .cs ty 3 (Bl R d) u false::C)) _) ((b-a-1) / 2+1) d u J N (by omega) E
 clear E J N d u e1
 refine Bj (fun i:Nat=>i) fun i Y d u J N hi E=>?_
 unfold c146_B0
 cases i with
 | succ i =>
  have g:(0:Int)<=((i+1:Nat):Int)-1:=by omega
  have g2:((i+1:Nat):Int)-1=i:=by omega
  simp only[g2]at g ⊢
  simp (contextual:=true) (maxSteps:=2000000) (disch:=omega) [Ai,-Int.not_lt,-Int.not_le,-Nat.not_lt,-Nat.not_le,-List.map_take,Aa,g]
  rw[Ao]
  refine ZV W hC d i (b-a) a u (by omega) J N hn (by omega) _ fun z U=>?_
  have:=Y i (by omega) (siftDown lt (b-a) a i d) z (by rw[FT];exact J) U (by omega) E
  simp (contextual:=true) (maxSteps:=2000000) (disch:=omega) [-Int.not_lt,-Int.not_le,-Nat.not_lt,-Nat.not_le,-List.map_take,Aa]
  simpa using this
 | zero =>
  rw[heapBuild]at E
  have Z:((b-a:Nat):Int)-1=((b-a:Nat):Int)-1:=rfl
  simp (contextual:=true) (maxSteps:=2000000) (disch:=omega) [Ai,-Int.not_lt,-Int.not_le,-Nat.not_lt,-Nat.not_le,-List.map_take,Aa]
  refine(?key2:∀(i:Nat) (d:Array α) (u:Nat),d.size=n->u<=n->i<=b-a->(∀z,z<=n->Q (.tu []) (A ++ .cs ty 3 (Bl R (heapPop lt a i d)) z false::C))->Run G c146_B1 (S146_1 (.sl A.length n 3 0 n lim) (.m (.fn k [])) (J0 a) (J0 0) (J0 ((i:Int)-1)) [] (A ++ .cs ty 3 (Bl R d) u false::C)) _) (b-a) d u J N (Ahu _) E
  clear E J N d u Y Z
  refine Bj (fun i:Nat=>i) fun i Y d u J N hi E=>?_
  unfold c146_B1
  cases i with
  | zero =>
   rw[heapPop]at E
   simp (contextual:=true) (maxSteps:=2000000) (disch:=omega) [Ai,-Int.not_lt,-Int.not_le,-Nat.not_lt,-Nat.not_le,-List.map_take,Aa,E u N]
  | succ i =>
   have g:(0:Int)<=((i+1:Nat):Int)-1:=by omega
   have g2:((i+1:Nat):Int)-1=i:=by omega
   simp only[g2]at g ⊢
   have r1:=R.rd d (i:=a) (by omega)
   have r2:=R.rd d (i:=a+i) (by omega)
   have w1:=R.wr d (i:=a) d[a+i]! (by omega)
   have w2:=R.wr (d.setIfInBounds a d[a+i]!) (i:=a+i) d[a]! (by simp;omega)
   have s1:(d.setIfInBounds a d[a+i]!).size=n:=by simp[J]
   have x1:((a:Int)+i).toNat=a+i:=by omega
   have e4:swp d a (a+i)=(d.setIfInBounds a d[a+i]!).setIfInBounds (a+i) d[a]!:=rfl
   rw[heapPop,e4]at E
   have ih2:=Y i (by omega)
   clear Y
   generalize d[a]! = y0 at *
   generalize d[a+i]! = y1 at *
   simp (contextual:=true) (maxSteps:=2000000) (disch:=omega) [Ai,-Int.not_lt,-Int.not_le,-Nat.not_lt,-Nat.not_le,-List.map_take,Ac,Ab,AC,Av,R.ld,R.st,R.all1,R.len,-Be,-Bf,Aa,g,r1,r2,w1,w2,s1,J,x1]
   rw[Ao]
   refine ZV W hC ((d.setIfInBounds a y1).setIfInBounds (a+i) y0) 0 i a n (by omega) (by simp[J]) (Ahu _) hn (by omega) _ fun z U=>?_
   have:=ih2 (siftDown lt i a 0 ((d.setIfInBounds a y1).setIfInBounds (a+i) y0)) z (by rw[FT];simp[J]) U (by omega) E
   simp (contextual:=true) (maxSteps:=2000000) (disch:=omega) [-Int.not_lt,-Int.not_le,-Nat.not_lt,-Nat.not_le,-List.map_take,Aa]
   simpa using this
end
end Go.Mx.Tryz
set_option maxRecDepth 100000
namespace Go.Mx.Tryz
open Go.Sort Go.Lib
section
variable {α:Type} [Inhabited α] {R:Rw α 3 true} {A:Hp} {k:Nat} {lt:α->α->Bool} (W:Cmp R A k lt) {ty n:Nat} {lim:Bool}
def Qd:C->C
 | .seq _ b=>b
 | .blk _ c=>c
 | c=>c
def Sz:C->C
 | .seq a _=>a
 | c=>c
def pt0:C:=Qd c111_B0
def pt1:C:=Qd pt0
def pt2:C:=Qd pt1
def pt3:C:=Qd pt2
def pt4:C:=Qd pt3
def pt5:C:=Qd pt4
def pt6:C:=Qd pt5
def pt7:C:=Qd pt6
def pt8:C:=Qd pt7
def pf0:C:=Sz pt0
def pf1:C:=Sz pt1
def pf2:C:=Sz pt2
def pf3:C:=Sz pt3
def pf4:C:=Sz pt4
def pf5:C:=Sz pt5
def pf6:C:=Sz pt6
def pf7:C:=Sz pt7
theorem pB:c111_B0=.blk 1 pt0:=rfl
theorem Agp:pt0=.seq pf0 pt1:=rfl
theorem Ago:pt1=.seq pf1 pt2:=rfl
theorem Agn:pt2=.seq pf2 pt3:=rfl
theorem Agm:pt3=.seq pf3 pt4:=rfl
theorem Agl:pt4=.seq pf4 pt5:=rfl
theorem Agk:pt5=.seq pf5 pt6:=rfl
theorem Agj:pt6=.seq pf6 pt7:=rfl
theorem Agi:pt7=.seq pf7 pt8:=rfl
abbrev pdK (Q:V->Hp->Prop):K:=.seq c111_L0 (.blk 0 (.fin [] Q))
theorem IW (C:Hp)(d:Array α)(a b u z:Nat)(Q:V->Hp->Prop) 
  (h:Run G c111_B0 (S111_0 (.sl A.length n 3 0 n lim) (J0 a) (J0 b) (J0 u) (.m (.fn k [])) (.m (.b true)) (.m (.b true)) [] (A ++ .cs ty 3 (Bl R d) z false::C)) (pdK Q)) :
  Ret G 111 [.sl A.length n 3 0 n lim,J0 a,J0 b,J0 u,.m (.fn k [])] (A ++ .cs ty 3 (Bl R d) z false::C) Q:=by
 refine Bh mono rfl rfl rfl rfl rfl ?_
 simp (contextual:=true) (maxSteps:=2000000) (disch:=omega) [-Int.not_lt,-Int.not_le,-Nat.not_lt,-Nat.not_le,-List.map_take]
 exact h
include W in
theorem stA (h:SWO lt)(C:Hp)(hC:W.ok C)(d:Array α)(a b u Y:Nat)(wb:Bool)(wp:V)(N:a<=b)(hb:b<=n)(hd:d.size=n)(h0:Y<=n)(hn:n<=1000000000)(a0:u<=1000)(Q:V->Hp->Prop) 
  (hQ:∀(d':Array α) (z:Nat) (X:Hp),PermIn a b d d'->SortedIn lt a b d'->z<=n->Q (.tu []) (A ++ .cs ty 3 (Bl R d') z false::(C++X)))
  (hK:∀(d1:Array α) (U z:Nat) (X:Hp) (z1 z2 z3:V),PermIn a b d d1->U<=1000->z<=n->a+13<=b->Run G pt4 ⟨[(0,.sl A.length n 3 0 n lim),(1,J0 a),(2,J0 b),(3,J0 U),(4,.m (.fn k [])),(10,.m (.b wb)),(11,wp),(12,J0 ((b:Int)-a)),(25,z1),(32,z2),(39,z3)],[],⟨[],A ++ .cs ty 3 (Bl R d1) z false::(C++X)⟩⟩ (.blk 1 (pdK Q))) :
  Run G c111_B0 (S111_0 (.sl A.length n 3 0 n lim) (J0 a) (J0 b) (J0 u) (.m (.fn k [])) (.m (.b wb)) wp [] (A ++ .cs ty 3 (Bl R d) Y false::C)) (pdK Q):=by
 have s1:=insertionSort_holds (lt:=lt) h d a b N (by omega)
 have s2:=heapSort_holds (lt:=lt) h d a b N (by omega)
 rw[pB,Pe,Agp,Ago,Agn,Agm]
 unfold pf0 pf1 pf2 pf3 pt3 pt2 pt1 pt0 c111_B0
 simp only[Qd,Sz]
 have nil:∀z,Q (.tu []) (A ++ .cs ty 3 (Bl R (insertionSort lt d a b)) z false::C)=Q (.tu []) (A ++ .cs ty 3 (Bl R (insertionSort lt d a b)) z false::(C++[])):=fun z=>by rw[Ail]
 have Z:∀z,Q (.tu []) (A ++ .cs ty 3 (Bl R (heapSort lt d a b)) z false::C)=Q (.tu []) (A ++ .cs ty 3 (Bl R (heapSort lt d a b)) z false::(C++[])):=fun z=>by rw[Ail]
 by_cases J:(b:Int)-a<=12
 ·simp (contextual:=true) (maxSteps:=2000000) (disch:=omega) [Ai,-Int.not_lt,-Int.not_le,-Nat.not_lt,-Nat.not_le,-List.map_take,Aa,J]
  rw[Ao]
  refine ins_w W hC d a b Y N hb hd h0 (by omega) _ fun z E=>?_
  simp (contextual:=true) (maxSteps:=2000000) (disch:=omega) [-Int.not_lt,-Int.not_le,-Nat.not_lt,-Nat.not_le,-List.map_take]
  rw[nil]
  exact hQ _ z [] s1.1 s1.2 E
 ·by_cases hl:u=0
  ·subst hl
   simp (contextual:=true) (maxSteps:=2000000) (disch:=omega) [Ai,-Int.not_lt,-Int.not_le,-Nat.not_lt,-Nat.not_le,-List.map_take,Aa,J]
   rw[Ao]
   refine AgQ W hC d a b Y N hb hd h0 hn (by omega) _ fun z E=>?_
   simp (contextual:=true) (maxSteps:=2000000) (disch:=omega) [-Int.not_lt,-Int.not_le,-Nat.not_lt,-Nat.not_le,-List.map_take]
   rw[Z]
   exact hQ _ z [] s2.1 s2.2 E
  ·cases wb with
   | true =>
    simp (contextual:=true) (maxSteps:=2000000) (disch:=omega) [Ai,-Int.not_lt,-Int.not_le,-Nat.not_lt,-Nat.not_le,-List.map_take,Aa,J,hl]
    have e:=hK d u Y [] (.m (.b false)) (.m (.b false)) (.m (.b false)) (permIn_refl _ _ _) a0 h0 (by omega)
    rw[Ail]at e
    exact e
   | false =>
    have tl:(u:Int)-1=((u-1:Nat):Int):=by omega
    simp (contextual:=true) (maxSteps:=2000000) (disch:=omega) [Ai,-Int.not_lt,-Int.not_le,-Nat.not_lt,-Nat.not_le,-List.map_take,Aa,J,hl]
    rw[Ao]
    refine brk_w d a b Y (by omega) hb hd h0 hn _ fun d1 z X hp E=>?_
    simp (contextual:=true) (maxSteps:=2000000) (disch:=omega) [-Int.not_lt,-Int.not_le,-Nat.not_lt,-Nat.not_le,-List.map_take,Aa,tl]
    exact hK d1 (u-1) z X (.m (.b false)) (.m (.b false)) (.m (.b true)) hp (by omega) E (by omega)
include W in
theorem stB (C:Hp)(hC:W.ok C)(d:Array α)(a b u z:Nat)(wb wp:Bool)(z1 z2 z3:V)(hab:a+13<=b)(hb:b<=n)(hd:d.size=n)(Y:z<=n)(hn:n<=1000000000)(Q:V->Hp->Prop) 
  (hK:∀(d1:Array α) (Z:Nat) (J:Int) (N:Nat) (X:Hp) (z4:V),PermIn a b d d1->a<=Z->Z<b->N<=n->Run G pt6 ⟨[(0,.sl A.length n 3 0 n lim),(1,J0 a),(2,J0 b),(3,J0 u),(4,.m (.fn k [])),(10,.m (.b wb)),(11,.m (.b wp)),(12,J0 ((b:Int)-a)),(13,J0 Z),(14,J0 J),(25,z1),(32,z2),(39,z3),(56,z4)],[],⟨[],A ++ .cs ty 3 (Bl R d1) N false::(C++X)⟩⟩ (.blk 1 (pdK Q))) :
  Run G pt4 ⟨[(0,.sl A.length n 3 0 n lim),(1,J0 a),(2,J0 b),(3,J0 u),(4,.m (.fn k [])),(10,.m (.b wb)),(11,.m (.b wp)),(12,J0 ((b:Int)-a)),(25,z1),(32,z2),(39,z3)],[],⟨[],A ++ .cs ty 3 (Bl R d) z false::C⟩⟩ (.blk 1 (pdK Q)):=by
 rw[Agl,Agk]
 unfold pf4 pf5 pt5 pt4 pt3 pt2 pt1 pt0 c111_B0
 simp only[Qd,Sz]
 simp (contextual:=true) (maxSteps:=2000000) (disch:=omega) [-Int.not_lt,-Int.not_le,-Nat.not_lt,-Nat.not_le,-List.map_take]
 rw[Ao]
 refine piv_w W hC d a b z (by omega) hb hd Y hn _ fun x hx X h1 h2=>?_
 simp (contextual:=true) (maxSteps:=2000000) (disch:=omega) [Ai,-Int.not_lt,-Int.not_le,-Nat.not_lt,-Nat.not_le,-List.map_take]
 by_cases E:hx=2
 ·subst E
  simp (contextual:=true) (maxSteps:=2000000) (disch:=omega) [-Int.not_lt,-Int.not_le,-Nat.not_lt,-Nat.not_le,-List.map_take]
  rw[Ao]
  have s1:=reverseRange_holds d a b (by omega) (by omega)
  refine rev_w W (W.ext _ X hC) d a b z (by omega) hb hd Y hn _ fun N U=>?_
  have tp:(b:Int)-1-((x:Int)-a)=((b-1-(x-a):Nat):Int):=by omega
  simp (contextual:=true) (maxSteps:=2000000) (disch:=omega) [-Int.not_lt,-Int.not_le,-Nat.not_lt,-Nat.not_le,-List.map_take,Aa,tp]
  exact hK _ (b-1-(x-a)) 1 N X _ s1 (by omega) (by omega) U
 ·simp (contextual:=true) (maxSteps:=2000000) (disch:=omega) [-Int.not_lt,-Int.not_le,-Nat.not_lt,-Nat.not_le,-List.map_take,E]
  exact hK d x hx z X _ (permIn_refl _ _ _) h1 h2 Y
include W in
theorem stC (h:SWO lt)(C:Hp)(hC:W.ok C)(d:Array α)(a b J b0 pv:Nat)(u:Int)(wb wp:Bool)(z1 z2 z3 z4:V)(hab:a+13<=b)(hb:b<=n)(hd:d.size=n)(h0:b0<=n)(hn:n<=1000000000)(hB:Below lt a b d)(Q:V->Hp->Prop) 
  (hQ:∀(d':Array α) (E:Nat) (X:Hp),PermIn a b d d'->SortedIn lt a b d'->E<=n->Q (.tu []) (A ++ .cs ty 3 (Bl R d') E false::(C++X)))
  (hK:∀(d1:Array α) (E:Nat) (U:V) (Z:Env),(Z=[] \/ ∃z,Z=[(80,z)])->PermIn a b d d1->E<=n->Run G pt7 ⟨[(0,.sl A.length n 3 0 n lim),(1,J0 a),(2,J0 b),(3,J0 J),(4,.m (.fn k [])),(10,.m (.b wb)),(11,.m (.b wp)),(12,J0 ((b:Int)-a)),(13,J0 pv),(14,J0 u),(25,z1),(32,z2),(39,z3),(56,z4),(75,U)]++Z,[],⟨[],A ++ .cs ty 3 (Bl R d1) E false::C⟩⟩ (.blk 1 (pdK Q))) :
  Run G pt6 ⟨[(0,.sl A.length n 3 0 n lim),(1,J0 a),(2,J0 b),(3,J0 J),(4,.m (.fn k [])),(10,.m (.b wb)),(11,.m (.b wp)),(12,J0 ((b:Int)-a)),(13,J0 pv),(14,J0 u),(25,z1),(32,z2),(39,z3),(56,z4)],[],⟨[],A ++ .cs ty 3 (Bl R d) b0 false::C⟩⟩ (.blk 1 (pdK Q)):=by
 rw[Agj]
 unfold pf6 pt6 pt5 pt4 pt3 pt2 pt1 pt0 c111_B0
 simp only[Qd,Sz]
 have no:=fun U=>hK d b0 U [] (.inl rfl) (permIn_refl _ _ _) h0
 have Y:=fun d1 E U z=>hK d1 E U [(80,z)] (.inr ⟨_,rfl⟩)
 simp only[Aiq,List.nil_append]at no Y
 cases wb with
 | false =>
  simp (contextual:=true) (maxSteps:=2000000) (disch:=omega) [Ai,-Int.not_lt,-Int.not_le,-Nat.not_lt,-Nat.not_le,-List.map_take]
  exact no _
 | true =>
  cases wp with
  | false =>
   simp (contextual:=true) (maxSteps:=2000000) (disch:=omega) [Ai,-Int.not_lt,-Int.not_le,-Nat.not_lt,-Nat.not_le,-List.map_take]
   exact no _
  | true =>
   by_cases h1:u=1
   ·subst h1
    simp (contextual:=true) (maxSteps:=2000000) (disch:=omega) [Ai,-Int.not_lt,-Int.not_le,-Nat.not_lt,-Nat.not_le,-List.map_take]
    rw[Ao]
    have s1:=partialInsertionSort_holds (lt:=lt) h d a b (by omega) (by omega) hB
    refine pis_w W hC d a b b0 (by omega) hb hd h0 hn _ fun E N=>?_
    simp (contextual:=true) (maxSteps:=2000000) (disch:=omega) [Ai,-Int.not_lt,-Int.not_le,-Nat.not_lt,-Nat.not_le,-List.map_take]
    refine⟨fun e=>?_,fun e=>?_⟩
    ·have q:=hQ _ E [] s1.1 (s1.2 e) N
     rw[Ail]at q
     exact q
    ·exact Y _ E _ _ s1.1 N
   ·simp (contextual:=true) (maxSteps:=2000000) (disch:=omega) [Ai,-Int.not_lt,-Int.not_le,-Nat.not_lt,-Nat.not_le,-List.map_take,h1]
    exact no _
def AdK (W:Cmp R A k lt)(ty n:Nat)(lim:Bool)(N:Nat):Prop:=∀(C:Hp) (_:W.ok C) (d:Array α) (a b limit b0:Nat) (wb wp:Bool) (Q:V->Hp->Prop),b-a=N->a<=b->b<=n->d.size=n->b0<=n->limit<=1000->Below lt a b d ->
  (∀(d':Array α) (b1:Nat) (X:Hp),PermIn a b d d'->SortedIn lt a b d'->b1<=n->Q (.tu []) (A ++ .cs ty 3 (Bl R d') b1 false::(C++X))) ->
  Run G c111_B0 (S111_0 (.sl A.length n 3 0 n lim) (.m (.i .i64 a)) (.m (.i .i64 b)) (.m (.i .i64 limit)) (.m (.fn k [])) (.m (.b wb)) (.m (.b wp)) [] (A ++ .cs ty 3 (Bl R d) b0 false::C)) (pdK Q)
theorem stE (h:SWO lt)(C:Hp)(hC:W.ok C)(d:Array α)(a b u b0 pv:Nat)(hint:Int)(wb wp:Bool)(z1 z2 z3 z4 z5 z6:V)(Z:Env)(hZ:Z=[] \/ ∃z,Z=[(80,z)])(hp1:a<=pv)(hp2:pv<b)(hb:b<=n)(hd:d.size=n)(h0:b0<=n)(hn:n<=1000000000)(J:u<=1000)(hB:Below lt a b d)(Q:V->Hp->Prop) 
  (IH:∀N,N<b-a->AdK W ty n lim N)
  (hQ:∀(d':Array α) (b1:Nat) (X:Hp),PermIn a b d d'->SortedIn lt a b d'->b1<=n->Q (.tu []) (A ++ .cs ty 3 (Bl R d') b1 false::(C++X))) :
  Run G pt8 ⟨[(0,.sl A.length n 3 0 n lim),(1,J0 a),(2,J0 b),(3,J0 u),(4,.m (.fn k [])),(10,.m (.b wb)),(11,.m (.b wp)),(12,J0 ((b:Int)-a)),(13,J0 pv),(14,J0 hint),(25,z1),(32,z2),(39,z3),(56,z4),(75,z5)]++(Z++[(97,z6)]),[],⟨[],A ++ .cs ty 3 (Bl R d) b0 false::C⟩⟩ (.blk 1 (pdK Q)):=by
 unfold pt8 pt7 pt6 pt5 pt4 pt3 pt2 pt1 pt0 c111_B0
 simp only[Qd]
 have t8:((b:Int)-a).tdiv 8=(((b-a) / 8:Nat):Int):=by
  rw[show (b:Int)-a=((b-a:Nat):Int) by omega];rfl
 generalize (b-a) / 8=q at t8
 have pH:=fun mid ap d4 hx=>round_part (mid:=mid) (ap:=ap) (d4:=d4) h (partition_holds (lt:=lt)) hp1 hp2 (by omega) hB hx
 rcases hZ with rfl|⟨z,rfl⟩
 ·simp only[Aiq,List.nil_append]
  simp (contextual:=true) (maxSteps:=2000000) (disch:=omega) [-Int.not_lt,-Int.not_le,-Nat.not_lt,-Nat.not_le,-List.map_take]
  rw[Ao]
  refine ZZ W hC d a b pv b0 hp1 hp2 hb hd h0 hn _ fun mid ap d4 b1 hx hb1=>?_
  obtain⟨g1,g2,hs4,hBa,hBr,a6,a2⟩:=pH mid ap d4 hx
  by_cases hlt:(mid:Int)-a<(b:Int)-mid
  ·simp (contextual:=true) (maxSteps:=2000000) (disch:=omega) [Ai,-Int.not_lt,-Int.not_le,-Nat.not_lt,-Nat.not_le,-List.map_take,Aa,t8,hlt]
   rw[Ao]
   refine IW C d4 a mid u b1 _ (IH (mid-a) (by omega) C hC d4 a mid u b1 true true _ rfl g1 (by omega) (by omega) hb1 J hBa fun d5 b2 X a0 a3 a4=>?_)
   obtain⟨a5,E⟩:=a6 d5 a0 a3
   have hs5:=a0.1
   simp (contextual:=true) (maxSteps:=2000000) (disch:=omega) [-Int.not_lt,-Int.not_le,-Nat.not_lt,-Nat.not_le,-List.map_take,Aa]
   refine IH (b-(mid+1)) (by omega) (C++X) (W.ext _ _ hC) d5 (mid+1) b u b2 _ ap Q rfl (by omega) hb (by omega) a4 J a5 fun d6 b3 Y U a1 hb3=>?_
   rw[AiB]
   exact hQ d6 b3 _ (E d6 U a1).1 (E d6 U a1).2 hb3
  ·simp (contextual:=true) (maxSteps:=2000000) (disch:=omega) [Ai,-Int.not_lt,-Int.not_le,-Nat.not_lt,-Nat.not_le,-List.map_take,Aa,t8,hlt]
   rw[Ao]
   refine IW C d4 (mid+1) b u b1 _ (IH (b-(mid+1)) (by omega) C hC d4 (mid+1) b u b1 true true _ rfl (by omega) hb (by omega) hb1 J hBr fun d5 b2 X a0 a3 a4=>?_)
   obtain⟨a5,E⟩:=a2 d5 a0 a3
   have hs5:=a0.1
   simp (contextual:=true) (maxSteps:=2000000) (disch:=omega) [-Int.not_lt,-Int.not_le,-Nat.not_lt,-Nat.not_le,-List.map_take]
   refine IH (mid-a) (by omega) (C++X) (W.ext _ _ hC) d5 a mid u b2 _ ap Q rfl g1 (by omega) (by omega) a4 J a5 fun d6 b3 Y U a1 hb3=>?_
   rw[AiB]
   exact hQ d6 b3 _ (E d6 U a1).1 (E d6 U a1).2 hb3
 ·simp only[Aiq,List.nil_append]
  simp (contextual:=true) (maxSteps:=2000000) (disch:=omega) [-Int.not_lt,-Int.not_le,-Nat.not_lt,-Nat.not_le,-List.map_take]
  rw[Ao]
  refine ZZ W hC d a b pv b0 hp1 hp2 hb hd h0 hn _ fun mid ap d4 b1 hx hb1=>?_
  obtain⟨g1,g2,hs4,hBa,hBr,a6,a2⟩:=pH mid ap d4 hx
  by_cases hlt:(mid:Int)-a<(b:Int)-mid
  ·simp (contextual:=true) (maxSteps:=2000000) (disch:=omega) [Ai,-Int.not_lt,-Int.not_le,-Nat.not_lt,-Nat.not_le,-List.map_take,Aa,t8,hlt]
   rw[Ao]
   refine IW C d4 a mid u b1 _ (IH (mid-a) (by omega) C hC d4 a mid u b1 true true _ rfl g1 (by omega) (by omega) hb1 J hBa fun d5 b2 X a0 a3 a4=>?_)
   obtain⟨a5,E⟩:=a6 d5 a0 a3
   have hs5:=a0.1
   simp (contextual:=true) (maxSteps:=2000000) (disch:=omega) [-Int.not_lt,-Int.not_le,-Nat.not_lt,-Nat.not_le,-List.map_take,Aa]
   refine IH (b-(mid+1)) (by omega) (C++X) (W.ext _ _ hC) d5 (mid+1) b u b2 _ ap Q rfl (by omega) hb (by omega) a4 J a5 fun d6 b3 Y U a1 hb3=>?_
   rw[AiB]
   exact hQ d6 b3 _ (E d6 U a1).1 (E d6 U a1).2 hb3
  ·simp (contextual:=true) (maxSteps:=2000000) (disch:=omega) [Ai,-Int.not_lt,-Int.not_le,-Nat.not_lt,-Nat.not_le,-List.map_take,Aa,t8,hlt]
   rw[Ao]
   refine IW C d4 (mid+1) b u b1 _ (IH (b-(mid+1)) (by omega) C hC d4 (mid+1) b u b1 true true _ rfl (by omega) hb (by omega) hb1 J hBr fun d5 b2 X a0 a3 a4=>?_)
   obtain⟨a5,E⟩:=a2 d5 a0 a3
   have hs5:=a0.1
   simp (contextual:=true) (maxSteps:=2000000) (disch:=omega) [-Int.not_lt,-Int.not_le,-Nat.not_lt,-Nat.not_le,-List.map_take]
   refine IH (mid-a) (by omega) (C++X) (W.ext _ _ hC) d5 a mid u b2 _ ap Q rfl g1 (by omega) (by omega) a4 J a5 fun d6 b3 Y U a1 hb3=>?_
   rw[AiB]
   exact hQ d6 b3 _ (E d6 U a1).1 (E d6 U a1).2 hb3
include W in
theorem stD (h:SWO lt)(C:Hp)(hC:W.ok C)(d:Array α)(a b E b0 pv:Nat)(hint:Int)(wb wp:Bool)(z1 z2 z3 z4 z5:V)(Z:Env)(hZ:Z=[] \/ ∃z,Z=[(80,z)])(hp1:a<=pv)(hp2:pv<b)(hb:b<=n)(hd:d.size=n)(h0:b0<=n)(hn:n<=1000000000)(a1:E<=1000)(hB:Below lt a b d)(Q:V->Hp->Prop) 
  (IH:∀N,N<b-a->AdK W ty n lim N)
  (hQ:∀(d':Array α) (b1:Nat) (X:Hp),PermIn a b d d'->SortedIn lt a b d'->b1<=n->Q (.tu []) (A ++ .cs ty 3 (Bl R d') b1 false::(C++X))) :
  Run G pt7 ⟨[(0,.sl A.length n 3 0 n lim),(1,J0 a),(2,J0 b),(3,J0 E),(4,.m (.fn k [])),(10,.m (.b wb)),(11,.m (.b wp)),(12,J0 ((b:Int)-a)),(13,J0 pv),(14,J0 hint),(25,z1),(32,z2),(39,z3),(56,z4),(75,z5)]++Z,[],⟨[],A ++ .cs ty 3 (Bl R d) b0 false::C⟩⟩ (.blk 1 (pdK Q)):=by
 have fin:=fun z6=>stE W h C hC d a b E b0 pv hint wb wp z1 z2 z3 z4 z5 z6 Z hZ hp1 hp2 hb hd h0 hn a1 hB Q IH hQ
 rw[Agi]
 unfold pf7 pt7 pt6 pt5 pt4 pt3 pt2 pt1 pt0 c111_B0
 simp only[Qd,Sz]
 by_cases ha:a=0
 ·subst ha
  clear IH
  rcases hZ with rfl|⟨z,rfl⟩
  ·simp only[Aiq,List.nil_append]at fin ⊢
   simp (contextual:=true) (maxSteps:=2000000) (disch:=omega) [Ai,Ak,-Int.not_lt,-Int.not_le,-Nat.not_lt,-Nat.not_le,-List.map_take]
   exact fin _
  ·simp only[Aiq,List.nil_append]at fin ⊢
   simp (contextual:=true) (maxSteps:=2000000) (disch:=omega) [Ai,Ak,-Int.not_lt,-Int.not_le,-Nat.not_lt,-Nat.not_le,-List.map_take]
   exact fin _
 ·obtain⟨m,rfl⟩:∃m,a=m+1:=⟨a-1,by omega⟩
  have t1:(m:Int)+1-1=m:=by omega
  have tm:(0:Int)<(m:Int)+1:=by omega
  have r1:=R.rd d (i:=m) (by omega)
  have r2:=R.rd d (i:=pv) (by omega)
  have q:=fun row=>W.run d[m]! d[pv]! row C hC
  have e:=W.neg d[m]! d[pv]!
  have pq:=fun(hnl:lt d[m]! d[pv]! = false) mid d4 hx=>round_eq (mid:=mid) (d4:=d4) h (partitionEqual_holds (lt:=lt)) (by omega:0<m+1) hp1 hp2 (by omega) hB (by rw[Nat.add_sub_cancel];exact hnl) hx
  generalize d[m]! = u at *
  generalize d[pv]! = w at *
  rcases hZ with rfl|⟨z,rfl⟩
  ·simp only[Aiq,List.nil_append]at fin ⊢
   simp (contextual:=true) (maxSteps:=2000000) (disch:=omega) [Ai,Ak,-Int.not_lt,-Int.not_le,-Nat.not_lt,-Nat.not_le,-List.map_take,Ac,Ab,AC,R.ld,-Be,-Bf,Aa,t1,tm,r1,r2,cl (q _),e,hd]
   refine⟨fun l=>?_,fun l=>?_⟩
   ·rw[Ao]
    refine Qp W hC d (m+1) b pv b0 hp1 hp2 hb hd h0 hn _ fun mid d4 b1 hx hb1=>?_
    obtain⟨g1,g2,hs4,hB4,J⟩:=pq l mid d4 hx
    simp (contextual:=true) (maxSteps:=2000000) (disch:=omega) [-Int.not_lt,-Int.not_le,-Nat.not_lt,-Nat.not_le,-List.map_take]
    refine IH (b-mid) (by omega) C hC d4 mid b E b1 wb wp Q rfl g2 hb (by omega) hb1 a1 hB4 fun d6 b3 Y U a0 hb3=>?_
    exact hQ d6 b3 _ (J d6 U a0).1 (J d6 U a0).2 hb3
   ·exact fin _
  ·simp only[Aiq,List.nil_append]at fin ⊢
   simp (contextual:=true) (maxSteps:=2000000) (disch:=omega) [Ai,Ak,-Int.not_lt,-Int.not_le,-Nat.not_lt,-Nat.not_le,-List.map_take,Ac,Ab,AC,R.ld,-Be,-Bf,Aa,t1,tm,r1,r2,cl (q _),e,hd]
   refine⟨fun l=>?_,fun l=>?_⟩
   ·rw[Ao]
    refine Qp W hC d (m+1) b pv b0 hp1 hp2 hb hd h0 hn _ fun mid d4 b1 hx hb1=>?_
    obtain⟨g1,g2,hs4,hB4,J⟩:=pq l mid d4 hx
    simp (contextual:=true) (maxSteps:=2000000) (disch:=omega) [-Int.not_lt,-Int.not_le,-Nat.not_lt,-Nat.not_le,-List.map_take]
    refine IH (b-mid) (by omega) C hC d4 mid b E b1 wb wp Q rfl g2 hb (by omega) hb1 a1 hB4 fun d6 b3 Y U a0 hb3=>?_
    exact hQ d6 b3 _ (J d6 U a0).1 (J d6 U a0).2 hb3
   ·exact fin _
theorem Agr (h:SWO lt)(hn:n<=1000000000):∀N,AdK W ty n lim N:=by
 refine fun N=>Bj (fun N:Nat=>N) (fun N IH=>?_) N
 intro C hC d a b E b0 wb wp Q hN hab hb hd h0 a1 hB hQ
 refine stA W h C hC d a b E b0 wb (.m (.b wp)) hab hb hd h0 hn a1 Q hQ fun d1 u b1 X z1 z2 z3 U hl1 hb1 a0=>?_
 have e1:=U.1
 have B1:=hB.perm (by omega) U
 refine stB W (C++X) (W.ext _ _ hC) d1 a b u b1 wb wp z1 z2 z3 a0 hb (by omega) hb1 hn Q fun d2 pv z b2 X2 z4 Y hv1 hv2 hb2=>?_
 have e2:=Y.1
 have B2:=B1.perm (by omega) Y
 have P2:=permIn_trans _ _ _ a b U Y
 rw[AiB]
 refine stC W h (C++(X++X2)) (W.ext _ _ hC) d2 a b u b2 pv z wb wp z1 z2 z3 z4 a0 hb (by omega) hb2 hn B2 Q (fun d' b3 X3 p s l=>?_) fun d3 b3 z5 Z hZ J hb3=>?_
 ·rw[AiB]
  exact hQ d' b3 _ (permIn_trans _ _ _ a b P2 p) s l
 have e3:=J.1
 have B3:=B2.perm (by omega) J
 have P3:=permIn_trans _ _ _ a b P2 J
 refine stD W h (C++(X++X2)) (W.ext _ _ hC) d3 a b u b3 pv z wb wp z1 z2 z3 z4 z5 Z hZ hv1 hv2 hb (by omega) hb3 hn hl1 B3 Q (fun M hM=>IH M (by omega)) fun d' b4 X3 p s l=>?_
 rw[AiB]
 exact hQ d' b4 _ (permIn_trans _ _ _ a b P3 p) s l
theorem UE (h:SWO lt)(J:n<=1000000000)(C:Hp)(hC:W.ok C)(d:Array α)(E:Nat)(hd:d.size=n)(Z:E<=n)(Q:V->Hp->Prop) 
  (U:∀(u:Array α) (z:Nat) (X:Hp),PermIn 0 n d u->SortedIn lt 0 n u->z<=n->Q (.tu []) (A ++ .cs ty 3 (Bl R u) z false::(C++X))) :
  Ret G 73 [.sl A.length n 3 0 n lim,.m (.fn k [])] (A ++ .cs ty 3 (Bl R d) E false::C) Q:=by
 refine Bh mono rfl rfl rfl rfl rfl ?_
 have Y:=lenG n (by omega)
 have N:Lib.bitLen n<=30:=bitLen_le n 30 (by decide) (by omega)
 simp (contextual:=true) (maxSteps:=2000000) (disch:=omega) [-Int.not_lt,-Int.not_le,-Nat.not_lt,-Nat.not_le,-List.map_take,Dj,cl (Y _)]
 rw[Ao]
 refine IW C d 0 n (Lib.bitLen n) E _ (Agr W h J n C hC d 0 n (Lib.bitLen n) E true true _ rfl (by omega) (Ahu _) hd Z (by omega) (.inl rfl) fun u z X p s l=>?_)
 simp (contextual:=true) (maxSteps:=2000000) (disch:=omega) [-Int.not_lt,-Int.not_le,-Nat.not_lt,-Nat.not_le,-List.map_take]
 exact U u z X p s l
end
end Go.Mx.Tryz
