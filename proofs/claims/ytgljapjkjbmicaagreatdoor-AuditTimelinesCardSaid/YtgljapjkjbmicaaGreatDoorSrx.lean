/- slices.SortFunc over cells at the machine, whole. -/
import Derived.Test.YtgljapjkjbmicaaGreatDoorSrs
import Derived.Test.YtgljapjkjbmicaaGreatDoorSrw
set_option linter.unusedSimpArgs false
set_option linter.unusedVariables false
set_option linter.unusedSectionVars false
set_option maxRecDepth 100000
set_option maxHeartbeats 4000000
namespace Go.Mx.Tryz
open Go.Sort
section
variable {α : Type} [Inhabited α] {R : Rw α 3 true} {A C : Hp} {k : Nat} {lt : α -> α -> Bool} (W : Cmp R A k lt) (hC : W.ok C) {ty n : Nat} {lim : Bool}
include W hC in
theorem Aag (d : Array α) (a b b0 : Nat) (hab : a <= b) (hb : b <= n) (hd : d.size = n) (h0 : b0 <= n) (hn : n <= 1000000000) (hnb : a < b) (Q : V -> Hp -> Prop)
  (hQ : ∀ b1,b1 <= n -> Q (.tu []) (A ++ .cs ty 3 (AT R (heapSort lt d a b)) b1 false :: C)) :
  Ret G 138 [.sl A.length n 3 0 n lim,.m (.i .i64 a),.m (.i .i64 b),.m (.fn k [])] (A ++ .cs ty 3 (AT R d) b0 false :: C) Q:=by
 refine Cs mono rfl rfl rfl rfl rfl ?_
 have e1 : ((b : Int) - a - 1).tdiv 2 = (((b - a - 1) / 2 + 1 : Nat) : Int) - 1:=by
  rw [show (b : Int) - a - 1 = ((b - a - 1 : Nat) : Int) by omega]
  show (((b - a - 1) / 2 : Nat) : Int) = _
  omega
 have e2 : (b : Int) - a = ((b - a : Nat) : Int):=by omega
 simp (contextual:=true) (maxSteps:=2000000) (disch:=omega) [Ae,Af,Ac,Ag,-Int.not_lt,-Int.not_le,-Nat.not_lt,-Nat.not_le,-List.map_take,Ad,Ab,Aa,e1]
 have e3 : ((b - a - 1 : Nat) : Int) / 2 = (((b - a - 1) / 2 + 1 : Nat) : Int) - 1:=by omega
 rw [e3,e2]
 clear e3
 refine (?key : ∀ (i : Nat) (d : Array α) (b0 : Nat),d.size = n -> b0 <= n -> i <= b - a -> (∀ b1,b1 <= n -> Q (.tu []) (A ++ .cs ty 3 (AT R (heapPop lt a (b - a) (heapBuild lt (b - a) a i d))) b1 false :: C)) -> Run G c138_B0 (S138_0 (.sl A.length n 3 0 n lim) (.m (.fn k [])) (.m (.i .i64 a)) (.m (.i .i64 0)) (.m (.i .i64 ((b - a : Nat) : Int))) (.m (.i .i64 ((i : Int) - 1))) [] (A ++ .cs ty 3 (AT R d) b0 false :: C)) _) ((b - a - 1) / 2 + 1) d b0 hd h0 (by omega) hQ
 clear hQ hd h0 d b0 e1
 refine Bd (fun i : Nat=>i) fun i ih d b0 hd h0 hi hQ=>?_
 unfold c138_B0
 cases i with
 | succ i =>
  have g : (0 : Int) <= ((i + 1 : Nat) : Int) - 1:=by omega
  have g2 : ((i + 1 : Nat) : Int) - 1 = i:=by omega
  simp only [g2] at g ⊢
  simp (contextual:=true) (maxSteps:=2000000) (disch:=omega) [Ae,Af,Ac,Ag,-Int.not_lt,-Int.not_le,-Nat.not_lt,-Nat.not_le,-List.map_take,Ad,Ab,Aa,g]
  rw [As]
  refine UG W hC d i (b - a) a b0 (by omega) hd h0 hn (by omega) _ fun b1 hb1=>?_
  have:=ih i (by omega) (siftDown lt (b - a) a i d) b1 (by rw [ER]; exact hd) hb1 (by omega) hQ
  simp (contextual:=true) (maxSteps:=2000000) (disch:=omega) [Ae,Af,Ac,Ag,-Int.not_lt,-Int.not_le,-Nat.not_lt,-Nat.not_le,-List.map_take,Ad,Ab,Aa]
  simpa using this
 | zero =>
  rw [heapBuild] at hQ
  have e3 : ((b - a : Nat) : Int) - 1 = ((b - a : Nat) : Int) - 1:=rfl
  simp (contextual:=true) (maxSteps:=2000000) (disch:=omega) [Ae,Af,Ac,Ag,-Int.not_lt,-Int.not_le,-Nat.not_lt,-Nat.not_le,-List.map_take,Ad,Ab,Aa]
  refine (?key2 : ∀ (i : Nat) (d : Array α) (b0 : Nat),d.size = n -> b0 <= n -> i <= b - a -> (∀ b1,b1 <= n -> Q (.tu []) (A ++ .cs ty 3 (AT R (heapPop lt a i d)) b1 false :: C)) -> Run G c138_B1 (S138_1 (.sl A.length n 3 0 n lim) (.m (.fn k [])) (.m (.i .i64 a)) (.m (.i .i64 0)) (.m (.i .i64 ((i : Int) - 1))) [] (A ++ .cs ty 3 (AT R d) b0 false :: C)) _) (b - a) d b0 hd h0 (AaQ _) hQ
  clear hQ hd h0 d b0 ih e3
  refine Bd (fun i : Nat=>i) fun i ih d b0 hd h0 hi hQ=>?_
  unfold c138_B1
  cases i with
  | zero =>
   rw [heapPop] at hQ
   simp (contextual:=true) (maxSteps:=2000000) (disch:=omega) [Ae,Af,Ac,Ag,-Int.not_lt,-Int.not_le,-Nat.not_lt,-Nat.not_le,-List.map_take,Ad,Ab,Aa,hQ b0 h0]
  | succ i =>
   have g : (0 : Int) <= ((i + 1 : Nat) : Int) - 1:=by omega
   have g2 : ((i + 1 : Nat) : Int) - 1 = i:=by omega
   simp only [g2] at g ⊢
   have r1:=R.rd d (i:=a) (by omega)
   have r2:=R.rd d (i:=a + i) (by omega)
   have w1:=R.wr d (i:=a) d[a + i]! (by omega)
   have w2:=R.wr (d.setIfInBounds a d[a + i]!) (i:=a + i) d[a]! (by simp; omega)
   have s1 : (d.setIfInBounds a d[a + i]!).size = n:=by simp [hd]
   have x1 : ((a : Int) + i).toNat = a + i:=by omega
   have e4 : swp d a (a + i) = (d.setIfInBounds a d[a + i]!).setIfInBounds (a + i) d[a]!:=rfl
   rw [heapPop,e4] at hQ
   have ih2:=ih i (by omega)
   clear ih
   generalize d[a]! = y0 at *
   generalize d[a + i]! = y1 at *
   simp (contextual:=true) (maxSteps:=2000000) (disch:=omega) [Ae,Af,Ac,Ag,-Int.not_lt,-Int.not_le,-Nat.not_lt,-Nat.not_le,-List.map_take,Ad,Ab,AM,Aw,R.ld,R.st,R.all1,R.len,-AL,-AN,Aa,g,r1,r2,w1,w2,s1,hd,x1]
   rw [As]
   refine UG W hC ((d.setIfInBounds a y1).setIfInBounds (a + i) y0) 0 i a n (by omega) (by simp [hd]) (AaQ _) hn (by omega) _ fun b1 hb1=>?_
   have:=ih2 (siftDown lt i a 0 ((d.setIfInBounds a y1).setIfInBounds (a + i) y0)) b1 (by rw [ER]; simp [hd]) hb1 (by omega) hQ
   simp (contextual:=true) (maxSteps:=2000000) (disch:=omega) [Ae,Af,Ac,Ag,-Int.not_lt,-Int.not_le,-Nat.not_lt,-Nat.not_le,-List.map_take,Ad,Ab,Aa]
   simpa using this
end
end Go.Mx.Tryz
set_option maxRecDepth 100000
namespace Go.Mx.Tryz
open Go.Sort Go.Lib
section
variable {α : Type} [Inhabited α] {R : Rw α 3 true} {A : Hp} {k : Nat} {lt : α -> α -> Bool} (W : Cmp R A k lt) {ty n : Nat} {lim : Bool}
def MW : C -> C
 | .seq _ b=>b
 | .blk _ c=>c
 | c=>c
def OU : C -> C
 | .seq a _=>a
 | c=>c
def pt0 : C:=MW c129_B0
def pt1 : C:=MW pt0
def pt2 : C:=MW pt1
def pt3 : C:=MW pt2
def pt4 : C:=MW pt3
def pt5 : C:=MW pt4
def pt6 : C:=MW pt5
def pt7 : C:=MW pt6
def pt8 : C:=MW pt7
def pf0 : C:=OU pt0
def pf1 : C:=OU pt1
def pf2 : C:=OU pt2
def pf3 : C:=OU pt3
def pf4 : C:=OU pt4
def pf5 : C:=OU pt5
def pf6 : C:=OU pt6
def pf7 : C:=OU pt7
theorem pB : c129_B0 = .blk 1 pt0:=rfl
theorem ZP : pt0 = .seq pf0 pt1:=rfl
theorem ZO : pt1 = .seq pf1 pt2:=rfl
theorem ZN : pt2 = .seq pf2 pt3:=rfl
theorem ZM : pt3 = .seq pf3 pt4:=rfl
theorem ZL : pt4 = .seq pf4 pt5:=rfl
theorem ZK : pt5 = .seq pf5 pt6:=rfl
theorem ZJ : pt6 = .seq pf6 pt7:=rfl
theorem ZI : pt7 = .seq pf7 pt8:=rfl
abbrev pdK (Q : V -> Hp -> Prop) : K:=.seq c129_L0 (.blk 0 (.fin [] Q))
theorem Hn (C : Hp) (d : Array α) (a b limit b0 : Nat) (Q : V -> Hp -> Prop)
  (h : Run G c129_B0 (S129_0 (.sl A.length n 3 0 n lim) (.m (.i .i64 a)) (.m (.i .i64 b)) (.m (.i .i64 limit)) (.m (.fn k [])) (.m (.b true)) (.m (.b true)) [] (A ++ .cs ty 3 (AT R d) b0 false :: C)) (pdK Q)) :
  Ret G 129 [.sl A.length n 3 0 n lim,.m (.i .i64 a),.m (.i .i64 b),.m (.i .i64 limit),.m (.fn k [])] (A ++ .cs ty 3 (AT R d) b0 false :: C) Q:=by
 refine Cs mono rfl rfl rfl rfl rfl ?_
 simp (contextual:=true) (maxSteps:=2000000) (disch:=omega) [Ae,Af,Ac,Ag,-Int.not_lt,-Int.not_le,-Nat.not_lt,-Nat.not_le,-List.map_take,Ad,Ab]
 exact h
include W in
theorem stA (h : SWO lt) (C : Hp) (hC : W.ok C) (d : Array α) (a b limit b0 : Nat) (wb : Bool) (wp : V) (hab : a <= b) (hb : b <= n) (hd : d.size = n) (h0 : b0 <= n) (hn : n <= 1000000000) (hlim : limit <= 1000) (Q : V -> Hp -> Prop)
  (hQ : ∀ (d' : Array α) (b1 : Nat) (X : Hp),PermIn a b d d' -> SortedIn lt a b d' -> b1 <= n -> Q (.tu []) (A ++ .cs ty 3 (AT R d') b1 false :: (C ++ X)))
  (hK : ∀ (d1 : Array α) (lim1 b1 : Nat) (X : Hp) (z1 z2 z3 : V),PermIn a b d d1 -> lim1 <= 1000 -> b1 <= n -> a + 13 <= b -> Run G pt4 ⟨[(0,.sl A.length n 3 0 n lim),(1,.m (.i .i64 a)),(2,.m (.i .i64 b)),(3,.m (.i .i64 lim1)),(4,.m (.fn k [])),(10,.m (.b wb)),(11,wp),(12,.m (.i .i64 ((b : Int) - a))),(25,z1),(32,z2),(39,z3)],[],⟨[],A ++ .cs ty 3 (AT R d1) b1 false :: (C ++ X)⟩⟩ (.blk 1 (pdK Q))) :
  Run G c129_B0 (S129_0 (.sl A.length n 3 0 n lim) (.m (.i .i64 a)) (.m (.i .i64 b)) (.m (.i .i64 limit)) (.m (.fn k [])) (.m (.b wb)) wp [] (A ++ .cs ty 3 (AT R d) b0 false :: C)) (pdK Q):=by
 have s1:=insertionSort_holds (lt:=lt) h d a b hab (by omega)
 have s2:=heapSort_holds (lt:=lt) h d a b hab (by omega)
 rw [pB,LV,ZP,ZO,ZN,ZM]
 unfold pf0 pf1 pf2 pf3 pt3 pt2 pt1 pt0 c129_B0
 simp only [MW,OU]
 have nil : ∀ b1,Q (.tu []) (A ++ .cs ty 3 (AT R (insertionSort lt d a b)) b1 false :: C) = Q (.tu []) (A ++ .cs ty 3 (AT R (insertionSort lt d a b)) b1 false :: (C ++ [])):=fun b1=>by rw [AbI]
 have nil2 : ∀ b1,Q (.tu []) (A ++ .cs ty 3 (AT R (heapSort lt d a b)) b1 false :: C) = Q (.tu []) (A ++ .cs ty 3 (AT R (heapSort lt d a b)) b1 false :: (C ++ [])):=fun b1=>by rw [AbI]
 by_cases h12 : (b : Int) - a <= 12
 ·simp (contextual:=true) (maxSteps:=2000000) (disch:=omega) [Ae,Af,Ac,Ag,-Int.not_lt,-Int.not_le,-Nat.not_lt,-Nat.not_le,-List.map_take,Ad,Ab,Aa,h12]
  rw [As]
  refine ins_w W hC d a b b0 hab hb hd h0 (by omega) _ fun b1 hb1=>?_
  simp (contextual:=true) (maxSteps:=2000000) (disch:=omega) [Ae,Af,Ac,Ag,-Int.not_lt,-Int.not_le,-Nat.not_lt,-Nat.not_le,-List.map_take,Ad,Ab]
  rw [nil]
  exact hQ _ b1 [] s1.1 s1.2 hb1
 ·by_cases hl : limit = 0
  ·subst hl
   simp (contextual:=true) (maxSteps:=2000000) (disch:=omega) [Ae,Af,Ac,Ag,-Int.not_lt,-Int.not_le,-Nat.not_lt,-Nat.not_le,-List.map_take,Ad,Ab,Aa,h12]
   rw [As]
   refine Aag W hC d a b b0 hab hb hd h0 hn (by omega) _ fun b1 hb1=>?_
   simp (contextual:=true) (maxSteps:=2000000) (disch:=omega) [Ae,Af,Ac,Ag,-Int.not_lt,-Int.not_le,-Nat.not_lt,-Nat.not_le,-List.map_take,Ad,Ab]
   rw [nil2]
   exact hQ _ b1 [] s2.1 s2.2 hb1
  ·cases wb with
   | true =>
    simp (contextual:=true) (maxSteps:=2000000) (disch:=omega) [Ae,Af,Ac,Ag,-Int.not_lt,-Int.not_le,-Nat.not_lt,-Nat.not_le,-List.map_take,Ad,Ab,Aa,h12,hl]
    have e:=hK d limit b0 [] (.m (.b false)) (.m (.b false)) (.m (.b false)) (permIn_refl _ _ _) hlim h0 (by omega)
    rw [AbI] at e
    exact e
   | false =>
    have tl : (limit : Int) - 1 = ((limit - 1 : Nat) : Int):=by omega
    simp (contextual:=true) (maxSteps:=2000000) (disch:=omega) [Ae,Af,Ac,Ag,-Int.not_lt,-Int.not_le,-Nat.not_lt,-Nat.not_le,-List.map_take,Ad,Ab,Aa,h12,hl,tl]
    rw [As]
    refine brk_w d a b b0 (by omega) hb hd h0 hn _ fun d1 b1 X hp hb1=>?_
    simp (contextual:=true) (maxSteps:=2000000) (disch:=omega) [Ae,Af,Ac,Ag,-Int.not_lt,-Int.not_le,-Nat.not_lt,-Nat.not_le,-List.map_take,Ad,Ab,Aa,tl]
    exact hK d1 (limit - 1) b1 X (.m (.b false)) (.m (.b false)) (.m (.b true)) hp (by omega) hb1 (by omega)
include W in
theorem stB (C : Hp) (hC : W.ok C) (d : Array α) (a b lim1 b0 : Nat) (wb wp : Bool) (z1 z2 z3 : V) (hab : a + 13 <= b) (hb : b <= n) (hd : d.size = n) (h0 : b0 <= n) (hn : n <= 1000000000) (Q : V -> Hp -> Prop)
  (hK : ∀ (d1 : Array α) (pv : Nat) (hint : Int) (b1 : Nat) (X : Hp) (z4 : V),PermIn a b d d1 -> a <= pv -> pv < b -> b1 <= n -> Run G pt6 ⟨[(0,.sl A.length n 3 0 n lim),(1,.m (.i .i64 a)),(2,.m (.i .i64 b)),(3,.m (.i .i64 lim1)),(4,.m (.fn k [])),(10,.m (.b wb)),(11,.m (.b wp)),(12,.m (.i .i64 ((b : Int) - a))),(13,.m (.i .i64 pv)),(14,.m (.i .i64 hint)),(25,z1),(32,z2),(39,z3),(56,z4)],[],⟨[],A ++ .cs ty 3 (AT R d1) b1 false :: (C ++ X)⟩⟩ (.blk 1 (pdK Q))) :
  Run G pt4 ⟨[(0,.sl A.length n 3 0 n lim),(1,.m (.i .i64 a)),(2,.m (.i .i64 b)),(3,.m (.i .i64 lim1)),(4,.m (.fn k [])),(10,.m (.b wb)),(11,.m (.b wp)),(12,.m (.i .i64 ((b : Int) - a))),(25,z1),(32,z2),(39,z3)],[],⟨[],A ++ .cs ty 3 (AT R d) b0 false :: C⟩⟩ (.blk 1 (pdK Q)):=by
 rw [ZL,ZK]
 unfold pf4 pf5 pt5 pt4 pt3 pt2 pt1 pt0 c129_B0
 simp only [MW,OU]
 simp (contextual:=true) (maxSteps:=2000000) (disch:=omega) [Ae,Af,Ac,Ag,-Int.not_lt,-Int.not_le,-Nat.not_lt,-Nat.not_le,-List.map_take,Ad,Ab]
 rw [As]
 refine piv_w W hC d a b b0 (by omega) hb hd h0 hn _ fun x hx X h1 h2=>?_
 simp (contextual:=true) (maxSteps:=2000000) (disch:=omega) [Ae,Af,Ac,Ag,-Int.not_lt,-Int.not_le,-Nat.not_lt,-Nat.not_le,-List.map_take,Ad,Ab]
 by_cases h22 : hx = 2
 ·subst h22
  simp (contextual:=true) (maxSteps:=2000000) (disch:=omega) [Ae,Af,Ac,Ag,-Int.not_lt,-Int.not_le,-Nat.not_lt,-Nat.not_le,-List.map_take,Ad,Ab]
  rw [As]
  have s1:=reverseRange_holds d a b (by omega) (by omega)
  refine rev_w W (W.ext _ X hC) d a b b0 (by omega) hb hd h0 hn _ fun b1 hb1=>?_
  have tp : (b : Int) - 1 - ((x : Int) - a) = ((b - 1 - (x - a) : Nat) : Int):=by omega
  simp (contextual:=true) (maxSteps:=2000000) (disch:=omega) [Ae,Af,Ac,Ag,-Int.not_lt,-Int.not_le,-Nat.not_lt,-Nat.not_le,-List.map_take,Ad,Ab,Aa,tp]
  exact hK _ (b - 1 - (x - a)) 1 b1 X _ s1 (by omega) (by omega) hb1
 ·simp (contextual:=true) (maxSteps:=2000000) (disch:=omega) [Ae,Af,Ac,Ag,-Int.not_lt,-Int.not_le,-Nat.not_lt,-Nat.not_le,-List.map_take,Ad,Ab,h22]
  exact hK d x hx b0 X _ (permIn_refl _ _ _) h1 h2 h0
include W in
theorem stC (h : SWO lt) (C : Hp) (hC : W.ok C) (d : Array α) (a b lim1 b0 pv : Nat) (hint : Int) (wb wp : Bool) (z1 z2 z3 z4 : V) (hab : a + 13 <= b) (hb : b <= n) (hd : d.size = n) (h0 : b0 <= n) (hn : n <= 1000000000) (hB : Below lt a b d) (Q : V -> Hp -> Prop)
  (hQ : ∀ (d' : Array α) (b1 : Nat) (X : Hp),PermIn a b d d' -> SortedIn lt a b d' -> b1 <= n -> Q (.tu []) (A ++ .cs ty 3 (AT R d') b1 false :: (C ++ X)))
  (hK : ∀ (d1 : Array α) (b1 : Nat) (z5 : V) (Z : Env),(Z = [] \/ ∃ z,Z = [(80,z)]) -> PermIn a b d d1 -> b1 <= n -> Run G pt7 ⟨[(0,.sl A.length n 3 0 n lim),(1,.m (.i .i64 a)),(2,.m (.i .i64 b)),(3,.m (.i .i64 lim1)),(4,.m (.fn k [])),(10,.m (.b wb)),(11,.m (.b wp)),(12,.m (.i .i64 ((b : Int) - a))),(13,.m (.i .i64 pv)),(14,.m (.i .i64 hint)),(25,z1),(32,z2),(39,z3),(56,z4),(75,z5)] ++ Z,[],⟨[],A ++ .cs ty 3 (AT R d1) b1 false :: C⟩⟩ (.blk 1 (pdK Q))) :
  Run G pt6 ⟨[(0,.sl A.length n 3 0 n lim),(1,.m (.i .i64 a)),(2,.m (.i .i64 b)),(3,.m (.i .i64 lim1)),(4,.m (.fn k [])),(10,.m (.b wb)),(11,.m (.b wp)),(12,.m (.i .i64 ((b : Int) - a))),(13,.m (.i .i64 pv)),(14,.m (.i .i64 hint)),(25,z1),(32,z2),(39,z3),(56,z4)],[],⟨[],A ++ .cs ty 3 (AT R d) b0 false :: C⟩⟩ (.blk 1 (pdK Q)):=by
 rw [ZJ]
 unfold pf6 pt6 pt5 pt4 pt3 pt2 pt1 pt0 c129_B0
 simp only [MW,OU]
 have no:=fun z5=>hK d b0 z5 [] (.inl rfl) (permIn_refl _ _ _) h0
 have yes:=fun d1 b1 z5 z=>hK d1 b1 z5 [(80,z)] (.inr ⟨_,rfl⟩)
 simp only [AbQ,List.nil_append] at no yes
 cases wb with
 | false =>
  simp (contextual:=true) (maxSteps:=2000000) (disch:=omega) [Ae,Af,Ac,Ag,-Int.not_lt,-Int.not_le,-Nat.not_lt,-Nat.not_le,-List.map_take,Ad,Ab]
  exact no _
 | true =>
  cases wp with
  | false =>
   simp (contextual:=true) (maxSteps:=2000000) (disch:=omega) [Ae,Af,Ac,Ag,-Int.not_lt,-Int.not_le,-Nat.not_lt,-Nat.not_le,-List.map_take,Ad,Ab]
   exact no _
  | true =>
   by_cases h1 : hint = 1
   ·subst h1
    simp (contextual:=true) (maxSteps:=2000000) (disch:=omega) [Ae,Af,Ac,Ag,-Int.not_lt,-Int.not_le,-Nat.not_lt,-Nat.not_le,-List.map_take,Ad,Ab]
    rw [As]
    have s1:=partialInsertionSort_holds (lt:=lt) h d a b (by omega) (by omega) hB
    refine pis_w W hC d a b b0 (by omega) hb hd h0 hn _ fun b1 hb1=>?_
    simp (contextual:=true) (maxSteps:=2000000) (disch:=omega) [Ae,Af,Ac,Ag,-Int.not_lt,-Int.not_le,-Nat.not_lt,-Nat.not_le,-List.map_take,Ad,Ab]
    refine ⟨fun e=>?_,fun e=>?_⟩
    ·have q:=hQ _ b1 [] s1.1 (s1.2 e) hb1
     rw [AbI] at q
     exact q
    ·exact yes _ b1 _ _ s1.1 hb1
   ·simp (contextual:=true) (maxSteps:=2000000) (disch:=omega) [Ae,Af,Ac,Ag,-Int.not_lt,-Int.not_le,-Nat.not_lt,-Nat.not_le,-List.map_take,Ad,Ab,h1]
    exact no _
def Xp (W : Cmp R A k lt) (ty n : Nat) (lim : Bool) (N : Nat) : Prop:=∀ (C : Hp) (_ : W.ok C) (d : Array α) (a b limit b0 : Nat) (wb wp : Bool) (Q : V -> Hp -> Prop),b - a = N -> a <= b -> b <= n -> d.size = n -> b0 <= n -> limit <= 1000 -> Below lt a b d ->
  (∀ (d' : Array α) (b1 : Nat) (X : Hp),PermIn a b d d' -> SortedIn lt a b d' -> b1 <= n -> Q (.tu []) (A ++ .cs ty 3 (AT R d') b1 false :: (C ++ X))) ->
  Run G c129_B0 (S129_0 (.sl A.length n 3 0 n lim) (.m (.i .i64 a)) (.m (.i .i64 b)) (.m (.i .i64 limit)) (.m (.fn k [])) (.m (.b wb)) (.m (.b wp)) [] (A ++ .cs ty 3 (AT R d) b0 false :: C)) (pdK Q)
theorem stE (h : SWO lt) (C : Hp) (hC : W.ok C) (d : Array α) (a b lim1 b0 pv : Nat) (hint : Int) (wb wp : Bool) (z1 z2 z3 z4 z5 z6 : V) (Z : Env) (hZ : Z = [] \/ ∃ z,Z = [(80,z)]) (hp1 : a <= pv) (hp2 : pv < b) (hb : b <= n) (hd : d.size = n) (h0 : b0 <= n) (hn : n <= 1000000000) (hlim : lim1 <= 1000) (hB : Below lt a b d) (Q : V -> Hp -> Prop)
  (IH : ∀ N,N < b - a -> Xp W ty n lim N)
  (hQ : ∀ (d' : Array α) (b1 : Nat) (X : Hp),PermIn a b d d' -> SortedIn lt a b d' -> b1 <= n -> Q (.tu []) (A ++ .cs ty 3 (AT R d') b1 false :: (C ++ X))) :
  Run G pt8 ⟨[(0,.sl A.length n 3 0 n lim),(1,.m (.i .i64 a)),(2,.m (.i .i64 b)),(3,.m (.i .i64 lim1)),(4,.m (.fn k [])),(10,.m (.b wb)),(11,.m (.b wp)),(12,.m (.i .i64 ((b : Int) - a))),(13,.m (.i .i64 pv)),(14,.m (.i .i64 hint)),(25,z1),(32,z2),(39,z3),(56,z4),(75,z5)] ++ (Z ++ [(97,z6)]),[],⟨[],A ++ .cs ty 3 (AT R d) b0 false :: C⟩⟩ (.blk 1 (pdK Q)):=by
 unfold pt8 pt7 pt6 pt5 pt4 pt3 pt2 pt1 pt0 c129_B0
 simp only [MW]
 have t8 : ((b : Int) - a).tdiv 8 = (((b - a) / 8 : Nat) : Int):=by
  rw [show (b : Int) - a = ((b - a : Nat) : Int) by omega]; rfl
 generalize (b - a) / 8 = q at t8
 have pH:=fun mid ap d4 hx=>round_part (mid:=mid) (ap:=ap) (d4:=d4) h (partition_holds (lt:=lt)) hp1 hp2 (by omega) hB hx
 rcases hZ with rfl | ⟨z,rfl⟩
 ·simp only [AbQ,List.nil_append]
  simp (contextual:=true) (maxSteps:=2000000) (disch:=omega) [Ae,Af,Ac,Ag,-Int.not_lt,-Int.not_le,-Nat.not_lt,-Nat.not_le,-List.map_take,Ad,Ab]
  rw [As]
  refine UL W hC d a b pv b0 hp1 hp2 hb hd h0 hn _ fun mid ap d4 b1 hx hb1=>?_
  obtain ⟨g1,g2,hs4,hBa,hBr,hleft,hright⟩:=pH mid ap d4 hx
  by_cases hlt : (mid : Int) - a < (b : Int) - mid
  ·simp (contextual:=true) (maxSteps:=2000000) (disch:=omega) [Ae,Af,Ac,Ag,-Int.not_lt,-Int.not_le,-Nat.not_lt,-Nat.not_le,-List.map_take,Ad,Ab,Aa,t8,hlt]
   rw [As]
   refine Hn C d4 a mid lim1 b1 _ (IH (mid - a) (by omega) C hC d4 a mid lim1 b1 true true _ rfl g1 (by omega) (by omega) hb1 hlim hBa fun d5 b2 X hl1 hl2 hb2=>?_)
   obtain ⟨hBL,hfin⟩:=hleft d5 hl1 hl2
   have hs5:=hl1.1
   simp (contextual:=true) (maxSteps:=2000000) (disch:=omega) [Ae,Af,Ac,Ag,-Int.not_lt,-Int.not_le,-Nat.not_lt,-Nat.not_le,-List.map_take,Ad,Ab,Aa]
   refine IH (b - (mid + 1)) (by omega) (C ++ X) (W.ext _ _ hC) d5 (mid + 1) b lim1 b2 _ ap Q rfl (by omega) hb (by omega) hb2 hlim hBL fun d6 b3 Y hr1 hr2 hb3=>?_
   rw [AbG]
   exact hQ d6 b3 _ (hfin d6 hr1 hr2).1 (hfin d6 hr1 hr2).2 hb3
  ·simp (contextual:=true) (maxSteps:=2000000) (disch:=omega) [Ae,Af,Ac,Ag,-Int.not_lt,-Int.not_le,-Nat.not_lt,-Nat.not_le,-List.map_take,Ad,Ab,Aa,t8,hlt]
   rw [As]
   refine Hn C d4 (mid + 1) b lim1 b1 _ (IH (b - (mid + 1)) (by omega) C hC d4 (mid + 1) b lim1 b1 true true _ rfl (by omega) hb (by omega) hb1 hlim hBr fun d5 b2 X hl1 hl2 hb2=>?_)
   obtain ⟨hBL,hfin⟩:=hright d5 hl1 hl2
   have hs5:=hl1.1
   simp (contextual:=true) (maxSteps:=2000000) (disch:=omega) [Ae,Af,Ac,Ag,-Int.not_lt,-Int.not_le,-Nat.not_lt,-Nat.not_le,-List.map_take,Ad,Ab,Aa]
   refine IH (mid - a) (by omega) (C ++ X) (W.ext _ _ hC) d5 a mid lim1 b2 _ ap Q rfl g1 (by omega) (by omega) hb2 hlim hBL fun d6 b3 Y hr1 hr2 hb3=>?_
   rw [AbG]
   exact hQ d6 b3 _ (hfin d6 hr1 hr2).1 (hfin d6 hr1 hr2).2 hb3
 ·simp only [AbQ,List.nil_append]
  simp (contextual:=true) (maxSteps:=2000000) (disch:=omega) [Ae,Af,Ac,Ag,-Int.not_lt,-Int.not_le,-Nat.not_lt,-Nat.not_le,-List.map_take,Ad,Ab]
  rw [As]
  refine UL W hC d a b pv b0 hp1 hp2 hb hd h0 hn _ fun mid ap d4 b1 hx hb1=>?_
  obtain ⟨g1,g2,hs4,hBa,hBr,hleft,hright⟩:=pH mid ap d4 hx
  by_cases hlt : (mid : Int) - a < (b : Int) - mid
  ·simp (contextual:=true) (maxSteps:=2000000) (disch:=omega) [Ae,Af,Ac,Ag,-Int.not_lt,-Int.not_le,-Nat.not_lt,-Nat.not_le,-List.map_take,Ad,Ab,Aa,t8,hlt]
   rw [As]
   refine Hn C d4 a mid lim1 b1 _ (IH (mid - a) (by omega) C hC d4 a mid lim1 b1 true true _ rfl g1 (by omega) (by omega) hb1 hlim hBa fun d5 b2 X hl1 hl2 hb2=>?_)
   obtain ⟨hBL,hfin⟩:=hleft d5 hl1 hl2
   have hs5:=hl1.1
   simp (contextual:=true) (maxSteps:=2000000) (disch:=omega) [Ae,Af,Ac,Ag,-Int.not_lt,-Int.not_le,-Nat.not_lt,-Nat.not_le,-List.map_take,Ad,Ab,Aa]
   refine IH (b - (mid + 1)) (by omega) (C ++ X) (W.ext _ _ hC) d5 (mid + 1) b lim1 b2 _ ap Q rfl (by omega) hb (by omega) hb2 hlim hBL fun d6 b3 Y hr1 hr2 hb3=>?_
   rw [AbG]
   exact hQ d6 b3 _ (hfin d6 hr1 hr2).1 (hfin d6 hr1 hr2).2 hb3
  ·simp (contextual:=true) (maxSteps:=2000000) (disch:=omega) [Ae,Af,Ac,Ag,-Int.not_lt,-Int.not_le,-Nat.not_lt,-Nat.not_le,-List.map_take,Ad,Ab,Aa,t8,hlt]
   rw [As]
   refine Hn C d4 (mid + 1) b lim1 b1 _ (IH (b - (mid + 1)) (by omega) C hC d4 (mid + 1) b lim1 b1 true true _ rfl (by omega) hb (by omega) hb1 hlim hBr fun d5 b2 X hl1 hl2 hb2=>?_)
   obtain ⟨hBL,hfin⟩:=hright d5 hl1 hl2
   have hs5:=hl1.1
   simp (contextual:=true) (maxSteps:=2000000) (disch:=omega) [Ae,Af,Ac,Ag,-Int.not_lt,-Int.not_le,-Nat.not_lt,-Nat.not_le,-List.map_take,Ad,Ab,Aa]
   refine IH (mid - a) (by omega) (C ++ X) (W.ext _ _ hC) d5 a mid lim1 b2 _ ap Q rfl g1 (by omega) (by omega) hb2 hlim hBL fun d6 b3 Y hr1 hr2 hb3=>?_
   rw [AbG]
   exact hQ d6 b3 _ (hfin d6 hr1 hr2).1 (hfin d6 hr1 hr2).2 hb3
include W in
theorem stD (h : SWO lt) (C : Hp) (hC : W.ok C) (d : Array α) (a b lim1 b0 pv : Nat) (hint : Int) (wb wp : Bool) (z1 z2 z3 z4 z5 : V) (Z : Env) (hZ : Z = [] \/ ∃ z,Z = [(80,z)]) (hp1 : a <= pv) (hp2 : pv < b) (hb : b <= n) (hd : d.size = n) (h0 : b0 <= n) (hn : n <= 1000000000) (hlim : lim1 <= 1000) (hB : Below lt a b d) (Q : V -> Hp -> Prop)
  (IH : ∀ N,N < b - a -> Xp W ty n lim N)
  (hQ : ∀ (d' : Array α) (b1 : Nat) (X : Hp),PermIn a b d d' -> SortedIn lt a b d' -> b1 <= n -> Q (.tu []) (A ++ .cs ty 3 (AT R d') b1 false :: (C ++ X))) :
  Run G pt7 ⟨[(0,.sl A.length n 3 0 n lim),(1,.m (.i .i64 a)),(2,.m (.i .i64 b)),(3,.m (.i .i64 lim1)),(4,.m (.fn k [])),(10,.m (.b wb)),(11,.m (.b wp)),(12,.m (.i .i64 ((b : Int) - a))),(13,.m (.i .i64 pv)),(14,.m (.i .i64 hint)),(25,z1),(32,z2),(39,z3),(56,z4),(75,z5)] ++ Z,[],⟨[],A ++ .cs ty 3 (AT R d) b0 false :: C⟩⟩ (.blk 1 (pdK Q)):=by
 have fin:=fun z6=>stE W h C hC d a b lim1 b0 pv hint wb wp z1 z2 z3 z4 z5 z6 Z hZ hp1 hp2 hb hd h0 hn hlim hB Q IH hQ
 rw [ZI]
 unfold pf7 pt7 pt6 pt5 pt4 pt3 pt2 pt1 pt0 c129_B0
 simp only [MW,OU]
 by_cases ha : a = 0
 ·subst ha
  clear IH
  rcases hZ with rfl | ⟨z,rfl⟩
  ·simp only [AbQ,List.nil_append] at fin ⊢
   simp (contextual:=true) (maxSteps:=2000000) (disch:=omega) [Ae,Af,Ac,Ag,-Int.not_lt,-Int.not_le,-Nat.not_lt,-Nat.not_le,-List.map_take,Ad,Ab]
   exact fin _
  ·simp only [AbQ,List.nil_append] at fin ⊢
   simp (contextual:=true) (maxSteps:=2000000) (disch:=omega) [Ae,Af,Ac,Ag,-Int.not_lt,-Int.not_le,-Nat.not_lt,-Nat.not_le,-List.map_take,Ad,Ab]
   exact fin _
 ·obtain ⟨m,rfl⟩ : ∃ m,a = m + 1:=⟨a - 1,by omega⟩
  have t1 : (m : Int) + 1 - 1 = m:=by omega
  have tm : (0 : Int) < (m : Int) + 1:=by omega
  have r1:=R.rd d (i:=m) (by omega)
  have r2:=R.rd d (i:=pv) (by omega)
  have q:=fun row=>W.run d[m]! d[pv]! row C hC
  have e:=W.neg d[m]! d[pv]!
  have pq:=fun (hnl : lt d[m]! d[pv]! = false) mid d4 hx=>round_eq (mid:=mid) (d4:=d4) h (partitionEqual_holds (lt:=lt)) (by omega : 0 < m + 1) hp1 hp2 (by omega) hB (by rw [Nat.add_sub_cancel]; exact hnl) hx
  generalize d[m]! = u at *
  generalize d[pv]! = w at *
  rcases hZ with rfl | ⟨z,rfl⟩
  ·simp only [AbQ,List.nil_append] at fin ⊢
   simp (contextual:=true) (maxSteps:=2000000) (disch:=omega) [Ae,Af,Ac,Ag,-Int.not_lt,-Int.not_le,-Nat.not_lt,-Nat.not_le,-List.map_take,Ad,Ab,AM,Aw,R.ld,R.st,R.all1,R.len,-AL,-AN,Aa,t1,tm,r1,r2,cl (q _),e,hd]
   refine ⟨fun l=>?_,fun l=>?_⟩
   ·rw [As]
    refine Nf W hC d (m + 1) b pv b0 hp1 hp2 hb hd h0 hn _ fun mid d4 b1 hx hb1=>?_
    obtain ⟨g1,g2,hs4,hB4,hfin⟩:=pq l mid d4 hx
    simp (contextual:=true) (maxSteps:=2000000) (disch:=omega) [Ae,Af,Ac,Ag,-Int.not_lt,-Int.not_le,-Nat.not_lt,-Nat.not_le,-List.map_take,Ad,Ab]
    refine IH (b - mid) (by omega) C hC d4 mid b lim1 b1 wb wp Q rfl g2 hb (by omega) hb1 hlim hB4 fun d6 b3 Y hr1 hr2 hb3=>?_
    exact hQ d6 b3 _ (hfin d6 hr1 hr2).1 (hfin d6 hr1 hr2).2 hb3
   ·exact fin _
  ·simp only [AbQ,List.nil_append] at fin ⊢
   simp (contextual:=true) (maxSteps:=2000000) (disch:=omega) [Ae,Af,Ac,Ag,-Int.not_lt,-Int.not_le,-Nat.not_lt,-Nat.not_le,-List.map_take,Ad,Ab,AM,Aw,R.ld,R.st,R.all1,R.len,-AL,-AN,Aa,t1,tm,r1,r2,cl (q _),e,hd]
   refine ⟨fun l=>?_,fun l=>?_⟩
   ·rw [As]
    refine Nf W hC d (m + 1) b pv b0 hp1 hp2 hb hd h0 hn _ fun mid d4 b1 hx hb1=>?_
    obtain ⟨g1,g2,hs4,hB4,hfin⟩:=pq l mid d4 hx
    simp (contextual:=true) (maxSteps:=2000000) (disch:=omega) [Ae,Af,Ac,Ag,-Int.not_lt,-Int.not_le,-Nat.not_lt,-Nat.not_le,-List.map_take,Ad,Ab]
    refine IH (b - mid) (by omega) C hC d4 mid b lim1 b1 wb wp Q rfl g2 hb (by omega) hb1 hlim hB4 fun d6 b3 Y hr1 hr2 hb3=>?_
    exact hQ d6 b3 _ (hfin d6 hr1 hr2).1 (hfin d6 hr1 hr2).2 hb3
   ·exact fin _
theorem ZQ (h : SWO lt) (hn : n <= 1000000000) : ∀ N,Xp W ty n lim N:=by
 refine fun N=>Bd (fun N : Nat=>N) (fun N IH=>?_) N
 intro C hC d a b limit b0 wb wp Q hN hab hb hd h0 hlim hB hQ
 refine stA W h C hC d a b limit b0 wb (.m (.b wp)) hab hb hd h0 hn hlim Q hQ fun d1 lim1 b1 X z1 z2 z3 hp1 hl1 hb1 h13=>?_
 have e1:=hp1.1
 have B1:=hB.perm (by omega) hp1
 refine stB W (C ++ X) (W.ext _ _ hC) d1 a b lim1 b1 wb wp z1 z2 z3 h13 hb (by omega) hb1 hn Q fun d2 pv hint b2 X2 z4 hp2 hv1 hv2 hb2=>?_
 have e2:=hp2.1
 have B2:=B1.perm (by omega) hp2
 have P2:=permIn_trans _ _ _ a b hp1 hp2
 rw [AbG]
 refine stC W h (C ++ (X ++ X2)) (W.ext _ _ hC) d2 a b lim1 b2 pv hint wb wp z1 z2 z3 z4 h13 hb (by omega) hb2 hn B2 Q (fun d' b3 X3 p s l=>?_) fun d3 b3 z5 Z hZ hp3 hb3=>?_
 ·rw [AbG]
  exact hQ d' b3 _ (permIn_trans _ _ _ a b P2 p) s l
 have e3:=hp3.1
 have B3:=B2.perm (by omega) hp3
 have P3:=permIn_trans _ _ _ a b P2 hp3
 refine stD W h (C ++ (X ++ X2)) (W.ext _ _ hC) d3 a b lim1 b3 pv hint wb wp z1 z2 z3 z4 z5 Z hZ hv1 hv2 hb (by omega) hb3 hn hl1 B3 Q (fun M hM=>IH M (by omega)) fun d' b4 X3 p s l=>?_
 rw [AbG]
 exact hQ d' b4 _ (permIn_trans _ _ _ a b P3 p) s l
theorem WI (h : SWO lt) (hn : n <= 1000000000) (C : Hp) (hC : W.ok C) (d : Array α) (b0 : Nat) (hd : d.size = n) (h0 : b0 <= n) (Q : V -> Hp -> Prop)
  (hQ : ∀ (d' : Array α) (b1 : Nat) (X : Hp),PermIn 0 n d d' -> SortedIn lt 0 n d' -> b1 <= n -> Q (.tu []) (A ++ .cs ty 3 (AT R d') b1 false :: (C ++ X))) :
  Ret G 111 [.sl A.length n 3 0 n lim,.m (.fn k [])] (A ++ .cs ty 3 (AT R d) b0 false :: C) Q:=by
 refine Cs mono rfl rfl rfl rfl rfl ?_
 have hl:=lenG n (by omega)
 have h64 : Lib.bitLen n <= 30:=bitLen_le n 30 (by decide) (by omega)
 simp (contextual:=true) (maxSteps:=2000000) (disch:=omega) [Ae,Af,Ac,Ag,-Int.not_lt,-Int.not_le,-Nat.not_lt,-Nat.not_le,-List.map_take,Ad,Ab,HB,cl (hl _)]
 rw [As]
 refine Hn C d 0 n (Lib.bitLen n) b0 _ (ZQ W h hn n C hC d 0 n (Lib.bitLen n) b0 true true _ rfl (by omega) (AaQ _) hd h0 (by omega) (.inl rfl) fun d' b1 X p s l=>?_)
 simp (contextual:=true) (maxSteps:=2000000) (disch:=omega) [Ae,Af,Ac,Ag,-Int.not_lt,-Int.not_le,-Nat.not_lt,-Nat.not_le,-List.map_take,Ad,Ab]
 exact hQ d' b1 X p s l
end
end Go.Mx.Tryz
