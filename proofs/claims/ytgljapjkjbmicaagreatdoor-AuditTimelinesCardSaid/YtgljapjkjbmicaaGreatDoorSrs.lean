/- pdqsort over cells at the machine: order, insertion, choice of a pivot, parting, the pattern broken. -/
import Derived.Test.YtgljapjkjbmicaaGreatDoorSeav
import Derived.Test.YtgljapjkjbmicaaGreatDoorWa
import Derived.Test.YtgljapjkjbmicaaGreatDoorSw
set_option linter.unusedSimpArgs false
set_option linter.unusedVariables false
set_option linter.unusedSectionVars false
set_option maxRecDepth 100000
set_option maxHeartbeats 4000000
namespace Go.Mx.Tryz
open Go.Sort
structure Cmp {α : Type} (R : Rw α 3 true) (A : Hp) (k : Nat) (lt : α -> α -> Bool) where
 ok : Hp -> Prop
 ext : ∀ C X,ok C -> ok (C ++ X)
 cmp : α -> α -> Int
 neg : ∀ x y,(cmp x y < 0) = (lt x y = true)
 run : ∀ x y row C,ok C -> Gives G k [R.val x,R.val y] (A ++ row :: C) (.m (.i .i64 (cmp x y))) (A ++ row :: C)
section
variable {α : Type} [Inhabited α] {R : Rw α 3 true} {A C : Hp} {k : Nat} {lt : α -> α -> Bool} (W : Cmp R A k lt) (hC : W.ok C) {ty n : Nat} {lim : Bool}
include W hC in
theorem ins_w (d : Array α) (a b b0 : Nat) (hab : a <= b) (hb : b <= n) (hd : d.size = n) (h0 : b0 <= n) (hn : n <= 4611686018427387904) (Q : V -> Hp -> Prop)
  (hQ : ∀ b1,b1 <= n -> Q (.tu []) (A ++ .cs ty 3 (AT R (insertionSort lt d a b)) b1 false :: C)) :
  Ret G 137 [.sl A.length n 3 0 n lim,.m (.i .i64 a),.m (.i .i64 b),.m (.fn k [])] (A ++ .cs ty 3 (AT R d) b0 false :: C) Q:=by
 refine Cs mono rfl rfl rfl rfl rfl ?_
 simp (contextual:=true) (maxSteps:=2000000) (disch:=omega) [Ae,Af,Ac,Ag,-Int.not_lt,-Int.not_le,-Nat.not_lt,-Nat.not_le,-List.map_take,Ad,Ab,Aa]
 refine (?key : ∀ (i : Nat) (d : Array α) (b0 : Nat),d.size = n -> b0 <= n -> a + 1 <= i -> (∀ b1,b1 <= n -> Q (.tu []) (A ++ .cs ty 3 (AT R (insOuter lt a b i d)) b1 false :: C)) -> Run G c137_B1 (S137_1 (.sl A.length n 3 0 n lim) (.m (.i .i64 a)) (.m (.i .i64 b)) (.m (.fn k [])) (.m (.i .i64 i)) [] (A ++ .cs ty 3 (AT R d) b0 false :: C)) _) (a + 1) d b0 hd h0 (AaQ _) hQ
 clear hQ hd h0 d b0
 refine Bd (fun i : Nat=>b - i) fun i ih d b0 hd h0 hi hQ=>?_
 unfold c137_B1
 by_cases hib : i < b
 ·simp (contextual:=true) (maxSteps:=2000000) (disch:=omega) [Ae,Af,Ac,Ag,-Int.not_lt,-Int.not_le,-Nat.not_lt,-Nat.not_le,-List.map_take,Ad,Ab,hib]
  rw [insOuter,AaN hib] at hQ
  refine (?key2 : ∀ (j : Nat) (d : Array α) (b0 : Nat),d.size = n -> b0 <= n -> j <= i -> a <= j -> (∀ b1,b1 <= n -> Q (.tu []) (A ++ .cs ty 3 (AT R (insOuter lt a b (i + 1) (insInner lt a j d))) b1 false :: C)) -> Run G c137_B0 (S137_0 (.sl A.length n 3 0 n lim) (.m (.i .i64 a)) (.m (.i .i64 b)) (.m (.fn k [])) (.m (.i .i64 i)) (.m (.i .i64 j)) [] (A ++ .cs ty 3 (AT R d) b0 false :: C)) _) i d b0 hd h0 (AaQ _) (by omega) hQ
  clear hQ hd h0 d b0
  refine Bd (fun j : Nat=>j) fun j ih2 d b0 hd h0 hji haj hQ=>?_
  unfold c137_B0
  by_cases hja : j = a
  ·have e : insInner lt a j d = d:=by
    cases j with
    | zero=>rfl
    | succ j=>rw [insInner,AaL (by simp; omega)]
   rw [e] at hQ
   have ih3:=ih (i + 1) (by omega) d b0 hd h0 (by omega) hQ
   subst hja
   simp (contextual:=true) (maxSteps:=2000000) (disch:=omega) [Ae,Af,Ac,Ag,-Int.not_lt,-Int.not_le,-Nat.not_lt,-Nat.not_le,-List.map_take,Ad,Ab,Aa]
   simpa using ih3
  ·obtain ⟨m,rfl⟩ : ∃ m,j = m + 1:=⟨j - 1,by omega⟩
   have r1:=R.rd d (i:=m + 1) (by omega)
   have r2:=R.rd d (i:=m) (by omega)
   have w1:=R.wr d (i:=m + 1) d[m]! (by omega)
   have w2:=R.wr (d.setIfInBounds (m + 1) d[m]!) (i:=m) d[m + 1]! (by simp; omega)
   have q1:=fun row=>W.run d[m + 1]! d[m]! row C hC
   have q2:=W.neg d[m + 1]! d[m]!
   have hsz : (d.setIfInBounds (m + 1) d[m]!).size = n:=by simp [hd]
   have t1 : ((m : Int) + 1 - 1).toNat = m:=by omega
   have t2 : ((m : Int) + 1).toNat = m + 1:=by omega
   have e : insInner lt a (m + 1) d = if lt d[m + 1]! d[m]! = true then insInner lt a m (swp d (m + 1) m) else d:=by
    rw [insInner]
    have : m + 1 > a:=by omega
    simp [this]
   rw [e] at hQ
   have ham : (a : Int) < m + 1:=by omega
   have es : swp d (m + 1) m = (d.setIfInBounds (m + 1) d[m]!).setIfInBounds m d[m + 1]!:=rfl
   rw [es] at hQ
   generalize d[m + 1]! = x at *
   generalize d[m]! = y at *
   simp (contextual:=true) (maxSteps:=2000000) (disch:=omega) [Ae,Af,Ac,Ag,-Int.not_lt,-Int.not_le,-Nat.not_lt,-Nat.not_le,-List.map_take,Ad,Ab,AM,Aw,R.ld,R.st,R.all1,R.len,-AL,-AN,Aa,r1,r2,w1,w2,cl (q1 _),q2,hsz,hd,t1,t2,ham]
   refine ⟨fun h=>?_,fun h=>?_⟩
   ·rw [AaN h] at hQ
    exact ih2 m (by omega) _ n (by simp [hd]) (AaQ _) (by omega) (by omega) hQ
   ·rw [AaL (by simp [h])] at hQ
    have ih3:=ih (i + 1) (by omega) d b0 hd h0 (by omega) hQ
    simpa using ih3
 ·rw [insOuter,AaL hib] at hQ
  simp (contextual:=true) (maxSteps:=2000000) (disch:=omega) [Ae,Af,Ac,Ag,-Int.not_lt,-Int.not_le,-Nat.not_lt,-Nat.not_le,-List.map_take,Ad,Ab,hib,hQ b0 h0]
include W hC in
theorem UG (d : Array α) (lo hi first b0 : Nat) (hb : first + hi <= n) (hd : d.size = n) (h0 : b0 <= n) (hn : n <= 1000000000) (hlo : lo <= n) (Q : V -> Hp -> Prop)
  (hQ : ∀ b1,b1 <= n -> Q (.tu []) (A ++ .cs ty 3 (AT R (siftDown lt hi first lo d)) b1 false :: C)) :
  Ret G 153 [.sl A.length n 3 0 n lim,.m (.i .i64 lo),.m (.i .i64 hi),.m (.i .i64 first),.m (.fn k [])] (A ++ .cs ty 3 (AT R d) b0 false :: C) Q:=by
 refine Cs mono rfl rfl rfl rfl rfl ?_
 simp (contextual:=true) (maxSteps:=2000000) (disch:=omega) [Ae,Af,Ac,Ag,-Int.not_lt,-Int.not_le,-Nat.not_lt,-Nat.not_le,-List.map_take,Ad,Ab,Aa]
 refine (?key : ∀ (root : Nat) (d : Array α) (b0 : Nat),d.size = n -> b0 <= n -> root <= n -> (∀ b1,b1 <= n -> Q (.tu []) (A ++ .cs ty 3 (AT R (siftDown lt hi first root d)) b1 false :: C)) -> Run G c153_B0 (S153_0 (.sl A.length n 3 0 n lim) (.m (.i .i64 hi)) (.m (.i .i64 first)) (.m (.fn k [])) (.m (.i .i64 root)) [] (A ++ .cs ty 3 (AT R d) b0 false :: C)) _) lo d b0 hd h0 hlo hQ
 clear hQ hd h0 d b0 hlo
 refine Bd (fun root : Nat=>hi - root) fun root ih d b0 hd h0 hr hQ=>?_
 unfold c153_B0
 by_cases h1 : 2 * root + 1 >= hi
 ·rw [siftDown,dif_pos h1] at hQ
  have h1' : (hi : Int) <= 2 * root + 1:=by omega
  simp (contextual:=true) (maxSteps:=2000000) (disch:=omega) [Ae,Af,Ac,Ag,-Int.not_lt,-Int.not_le,-Nat.not_lt,-Nat.not_le,-List.map_take,Ad,Ab,Aa,h1',hQ b0 h0]
 ·have h1' : ¬ (hi : Int) <= 2 * root + 1:=by omega
  have r0:=R.rd d (i:=first + root) (by omega)
  have r1:=R.rd d (i:=first + (2 * root + 1)) (by omega)
  have q01:=fun row=>W.run d[first + root]! d[first + (2 * root + 1)]! row C hC
  have n01:=W.neg d[first + root]! d[first + (2 * root + 1)]!
  have w1:=R.wr d (i:=first + root) d[first + (2 * root + 1)]! (by omega)
  have w2:=R.wr (d.setIfInBounds (first + root) d[first + (2 * root + 1)]!) (i:=first + (2 * root + 1)) d[first + root]! (by simp; omega)
  have s1 : (d.setIfInBounds (first + root) d[first + (2 * root + 1)]!).size = n:=by simp [hd]
  have e1 : swp d (first + root) (first + (2 * root + 1)) = (d.setIfInBounds (first + root) d[first + (2 * root + 1)]!).setIfInBounds (first + (2 * root + 1)) d[first + root]!:=rfl
  by_cases h2 : 2 * root + 1 + 1 < hi
  ·have h2' : (2 : Int) * root + 1 + 1 < hi:=by omega
   have r2:=R.rd d (i:=first + (2 * root + 2)) (by omega)
   have q12:=fun row=>W.run d[first + (2 * root + 1)]! d[first + (2 * root + 2)]! row C hC
   have n12:=W.neg d[first + (2 * root + 1)]! d[first + (2 * root + 2)]!
   have q02:=fun row=>W.run d[first + root]! d[first + (2 * root + 2)]! row C hC
   have n02:=W.neg d[first + root]! d[first + (2 * root + 2)]!
   have v1:=R.wr d (i:=first + root) d[first + (2 * root + 2)]! (by omega)
   have v2:=R.wr (d.setIfInBounds (first + root) d[first + (2 * root + 2)]!) (i:=first + (2 * root + 2)) d[first + root]! (by simp; omega)
   have s2 : (d.setIfInBounds (first + root) d[first + (2 * root + 2)]!).size = n:=by simp [hd]
   have e2 : swp d (first + root) (first + (2 * root + 2)) = (d.setIfInBounds (first + root) d[first + (2 * root + 2)]!).setIfInBounds (first + (2 * root + 2)) d[first + root]!:=rfl
   have h22 : 2 * root + 2 < hi:=by omega
   rw [siftDown,dif_neg h1,show first + (2 * root + 1) + 1 = first + (2 * root + 2) by omega,e1,e2] at hQ
   have x0 : ((first : Int) + root).toNat = first + root:=by omega
   have x1 : ((first : Int) + (2 * root + 1)).toNat = first + (2 * root + 1):=by omega
   have x2 : ((first : Int) + (2 * root + 1) + 1).toNat = first + (2 * root + 2):=by omega
   have x3 : ((first : Int) + (2 * root + 1 + 1)).toNat = first + (2 * root + 2):=by omega
   simp only [h2,decide_true,Abl,dif_pos h22] at hQ
   have ihA:=ih (2 * root + 1) (by omega) ((d.setIfInBounds (first + root) d[first + (2 * root + 1)]!).setIfInBounds (first + (2 * root + 1)) d[first + root]!) n (by simp [hd]) (AaQ _) (by omega)
   have ihB:=ih (2 * root + 2) (by omega) ((d.setIfInBounds (first + root) d[first + (2 * root + 2)]!).setIfInBounds (first + (2 * root + 2)) d[first + root]!) n (by simp [hd]) (AaQ _) (by omega)
   generalize d[first + root]! = y0 at *
   generalize d[first + (2 * root + 1)]! = y1 at *
   generalize d[first + (2 * root + 2)]! = y2 at *
   clear ih
   simp (contextual:=true) (maxSteps:=2000000) (disch:=omega) [Ae,Af,Ac,Ag,-Int.not_lt,-Int.not_le,-Nat.not_lt,-Nat.not_le,-List.map_take,Ad,Ab,AM,Aw,R.ld,R.st,R.all1,R.len,-AL,-AN,Aa,h1',h2',r0,r1,r2,cl (q01 _),cl (q12 _),cl (q02 _),n01,n12,n02,w1,w2,v1,v2,s1,s2,hd,x0,x1,x2,x3]
   refine ⟨fun l1=>⟨fun l2=>?_,fun l2=>?_⟩,fun l1=>⟨fun l2=>?_,fun l2=>?_⟩⟩
   ·simp [l1,l2] at hQ
    exact hQ b0 h0
   ·simp [l1,l2] at hQ
    have e5 : (2 : Int) * root + 1 + 1 = ((2 * root + 2 : Nat) : Int):=by omega
    rw [e5]
    exact ihB hQ
   ·simp [l1,l2] at hQ
    exact hQ b0 h0
   ·simp [l1,l2] at hQ
    exact ihA hQ
  ·have h2' : ¬ (2 : Int) * root + 1 + 1 < hi:=by omega
   rw [siftDown,dif_neg h1,e1] at hQ
   have x0 : ((first : Int) + root).toNat = first + root:=by omega
   have x1 : ((first : Int) + (2 * root + 1)).toNat = first + (2 * root + 1):=by omega
   simp only [h2,decide_false,Abo,AaL Bool.false_ne_true] at hQ
   have ihA:=ih (2 * root + 1) (by omega) ((d.setIfInBounds (first + root) d[first + (2 * root + 1)]!).setIfInBounds (first + (2 * root + 1)) d[first + root]!) n (by simp [hd]) (AaQ _) (by omega)
   generalize d[first + root]! = y0 at *
   generalize d[first + (2 * root + 1)]! = y1 at *
   clear ih
   simp (contextual:=true) (maxSteps:=2000000) (disch:=omega) [Ae,Af,Ac,Ag,-Int.not_lt,-Int.not_le,-Nat.not_lt,-Nat.not_le,-List.map_take,Ad,Ab,AM,Aw,R.ld,R.st,R.all1,R.len,-AL,-AN,Aa,h1',h2',r0,r1,cl (q01 _),n01,w1,w2,s1,hd,x0,x1]
   refine ⟨fun l2=>?_,fun l2=>?_⟩
   ·simp [l2] at hQ
    exact hQ b0 h0
   ·simp [l2] at hQ
    exact ihA hQ
end
end Go.Mx.Tryz
set_option maxRecDepth 100000
namespace Go.Mx.Tryz
open Go.Sort
section
variable {α : Type} [Inhabited α] {R : Rw α 3 true} {A C : Hp} {k : Nat} {lt : α -> α -> Bool} (W : Cmp R A k lt) (hC : W.ok C) {ty n : Nat} {lim : Bool}
include W hC in
theorem WN (d : Array α) (a j b0 : Nat) (ha : a < n) (hj : j < n) (hd : d.size = n) (h0 : b0 <= n) (hn : n <= 1000000000) (K : K) (i : Nat)
  (hK : At' G (.ex 0) ⟨[(0,.sl A.length n 3 0 n lim),(1,.m (.i .i64 a)),(4,.m (.fn k [])),(12,.m (.i .i64 (scanUp (fun x=>lt x d[a]!) d j i))),(13,.m (.i .i64 j)),(47,.m (.b false))],[],⟨[],A ++ .cs ty 3 (AT R d) b0 false :: C⟩⟩ K) :
  Run G c144_B0 (S144_0 (.sl A.length n 3 0 n lim) (.m (.i .i64 a)) (.m (.fn k [])) (.m (.i .i64 i)) (.m (.i .i64 j)) [] (A ++ .cs ty 3 (AT R d) b0 false :: C)) (.seq c144_L0 K):=by
 revert hK
 revert i
 refine Bd (fun i : Nat=>j + 1 - i) fun i ih hK=>?_
 unfold c144_B0
 rw [scanUp] at hK
 by_cases hij : i <= j
 ·have hij' : (i : Int) <= j:=by omega
  have r1:=R.rd d (i:=i) (by omega)
  have r2:=R.rd d (i:=a) (by omega)
  have q:=fun row=>W.run d[i]! d[a]! row C hC
  have m:=W.neg d[i]! d[a]!
  have ih:=ih (i + 1) (by omega)
  generalize hu : d[i]! = u at r1 q m hK
  generalize hw : d[a]! = w at r2 q m hK ih
  simp (contextual:=true) (maxSteps:=2000000) (disch:=omega) [Ae,Af,Ac,Ag,-Int.not_lt,-Int.not_le,-Nat.not_lt,-Nat.not_le,-List.map_take,Ad,Ab,AM,Aw,R.ld,R.st,R.all1,R.len,-AL,-AN,Aa,hij',r1,r2,cl (q _),m,hd]
  refine ⟨fun l=>?_,fun l=>?_⟩
  ·have e : lt u w = true:=by simpa using l
   rw [AaN (by simp [hij,e])] at hK
   simpa using ih hK
  ·have e : lt u w = false:=by simpa using l
   rw [AaL (by simp [e])] at hK
   exact hK
 ·have hij' : ¬ (i : Int) <= j:=by omega
  rw [AaL (by simp [hij])] at hK
  simp (contextual:=true) (maxSteps:=2000000) (disch:=omega) [Ae,Af,Ac,Ag,-Int.not_lt,-Int.not_le,-Nat.not_lt,-Nat.not_le,-List.map_take,Ad,Ab,hij']
  exact hK
include W hC in
theorem WM (d : Array α) (a i b0 : Nat) (ha : a < n) (hi : 1 <= i) (hd : d.size = n) (h0 : b0 <= n) (hn : n <= 1000000000) (K : K) (j : Nat) (hj : j < n)
  (hK : At' G (.ex 2) ⟨[(0,.sl A.length n 3 0 n lim),(1,.m (.i .i64 a)),(4,.m (.fn k [])),(12,.m (.i .i64 i)),(13,.m (.i .i64 (scanDown (fun x=>!lt x d[a]!) d i j))),(66,.m (.b false))],[],⟨[],A ++ .cs ty 3 (AT R d) b0 false :: C⟩⟩ K) :
  Run G c144_B1 (S144_1 (.sl A.length n 3 0 n lim) (.m (.i .i64 a)) (.m (.fn k [])) (.m (.i .i64 i)) (.m (.i .i64 j)) [] (A ++ .cs ty 3 (AT R d) b0 false :: C)) (.seq c144_L1 K):=by
 revert hK
 revert hj
 revert j
 refine Bd (fun j : Nat=>j) fun j ih hj hK=>?_
 unfold c144_B1
 cases j with
 | zero =>
  have hij' : ¬ (i : Int) <= 0:=by omega
  have hi0 : ¬ i = 0:=by omega
  rw [scanDown] at hK
  simp (contextual:=true) (maxSteps:=2000000) (disch:=omega) [Ae,Af,Ac,Ag,-Int.not_lt,-Int.not_le,-Nat.not_lt,-Nat.not_le,-List.map_take,Ad,Ab,hij',hi0]
  simpa using hK
 | succ j =>
  rw [scanDown] at hK
  by_cases hij : i <= j + 1
  ·have hij' : (i : Int) <= j + 1:=by omega
   have r1:=R.rd d (i:=j + 1) (by omega)
   have r2:=R.rd d (i:=a) (by omega)
   have q:=fun row=>W.run d[j + 1]! d[a]! row C hC
   have m:=W.neg d[j + 1]! d[a]!
   have t1 : ((j : Int) + 1).toNat = j + 1:=by omega
   have ih:=ih j (by omega) (by omega)
   generalize hu : d[j + 1]! = u at r1 q m hK
   generalize hw : d[a]! = w at r2 q m hK ih
   simp (contextual:=true) (maxSteps:=2000000) (disch:=omega) [Ae,Af,Ac,Ag,-Int.not_lt,-Int.not_le,-Nat.not_lt,-Nat.not_le,-List.map_take,Ad,Ab,AM,Aw,R.ld,R.st,R.all1,R.len,-AL,-AN,Aa,hij',r1,r2,cl (q _),m,hd,t1]
   refine ⟨fun l=>?_,fun l=>?_⟩
   ·have e : lt u w = false:=by simpa using l
    rw [AaN (by simp [hij,e])] at hK
    simpa using ih hK
   ·have e : lt u w = true:=by simpa using l
    rw [AaL (by simp [e])] at hK
    simpa using hK
  ·have hij' : ¬ (i : Int) <= j + 1:=by omega
   rw [AaL (by simp [hij])] at hK
   simp (contextual:=true) (maxSteps:=2000000) (disch:=omega) [Ae,Af,Ac,Ag,-Int.not_lt,-Int.not_le,-Nat.not_lt,-Nat.not_le,-List.map_take,Ad,Ab,hij']
   simpa using hK
include W hC in
theorem WL (d : Array α) (a j b0 : Nat) (ha : a < n) (hj : j < n) (hd : d.size = n) (h0 : b0 <= n) (hn : n <= 1000000000) (K : K) (i : Nat)
  (hK : At' G (.ex 6) ⟨[(0,.sl A.length n 3 0 n lim),(1,.m (.i .i64 a)),(4,.m (.fn k [])),(12,.m (.i .i64 (scanUp (fun x=>lt x d[a]!) d j i))),(13,.m (.i .i64 j)),(120,.m (.b false))],[],⟨[],A ++ .cs ty 3 (AT R d) b0 false :: C⟩⟩ K) :
  Run G c144_B2 (S144_2 (.sl A.length n 3 0 n lim) (.m (.i .i64 a)) (.m (.fn k [])) (.m (.i .i64 i)) (.m (.i .i64 j)) [] (A ++ .cs ty 3 (AT R d) b0 false :: C)) (.seq c144_L2 K):=by
 revert hK
 revert i
 refine Bd (fun i : Nat=>j + 1 - i) fun i ih hK=>?_
 unfold c144_B2
 rw [scanUp] at hK
 by_cases hij : i <= j
 ·have hij' : (i : Int) <= j:=by omega
  have r1:=R.rd d (i:=i) (by omega)
  have r2:=R.rd d (i:=a) (by omega)
  have q:=fun row=>W.run d[i]! d[a]! row C hC
  have m:=W.neg d[i]! d[a]!
  have ih:=ih (i + 1) (by omega)
  generalize hu : d[i]! = u at r1 q m hK
  generalize hw : d[a]! = w at r2 q m hK ih
  simp (contextual:=true) (maxSteps:=2000000) (disch:=omega) [Ae,Af,Ac,Ag,-Int.not_lt,-Int.not_le,-Nat.not_lt,-Nat.not_le,-List.map_take,Ad,Ab,AM,Aw,R.ld,R.st,R.all1,R.len,-AL,-AN,Aa,hij',r1,r2,cl (q _),m,hd]
  refine ⟨fun l=>?_,fun l=>?_⟩
  ·have e : lt u w = true:=by simpa using l
   rw [AaN (by simp [hij,e])] at hK
   simpa using ih hK
  ·have e : lt u w = false:=by simpa using l
   rw [AaL (by simp [e])] at hK
   exact hK
 ·have hij' : ¬ (i : Int) <= j:=by omega
  rw [AaL (by simp [hij])] at hK
  simp (contextual:=true) (maxSteps:=2000000) (disch:=omega) [Ae,Af,Ac,Ag,-Int.not_lt,-Int.not_le,-Nat.not_lt,-Nat.not_le,-List.map_take,Ad,Ab,hij']
  exact hK
include W hC in
theorem WK (d : Array α) (a i b0 : Nat) (ha : a < n) (hi : 1 <= i) (hd : d.size = n) (h0 : b0 <= n) (hn : n <= 1000000000) (K : K) (j : Nat) (hj : j < n)
  (hK : At' G (.ex 8) ⟨[(0,.sl A.length n 3 0 n lim),(1,.m (.i .i64 a)),(4,.m (.fn k [])),(12,.m (.i .i64 i)),(13,.m (.i .i64 (scanDown (fun x=>!lt x d[a]!) d i j))),(139,.m (.b false))],[],⟨[],A ++ .cs ty 3 (AT R d) b0 false :: C⟩⟩ K) :
  Run G c144_B3 (S144_3 (.sl A.length n 3 0 n lim) (.m (.i .i64 a)) (.m (.fn k [])) (.m (.i .i64 i)) (.m (.i .i64 j)) [] (A ++ .cs ty 3 (AT R d) b0 false :: C)) (.seq c144_L3 K):=by
 revert hK
 revert hj
 revert j
 refine Bd (fun j : Nat=>j) fun j ih hj hK=>?_
 unfold c144_B3
 cases j with
 | zero =>
  have hij' : ¬ (i : Int) <= 0:=by omega
  have hi0 : ¬ i = 0:=by omega
  rw [scanDown] at hK
  simp (contextual:=true) (maxSteps:=2000000) (disch:=omega) [Ae,Af,Ac,Ag,-Int.not_lt,-Int.not_le,-Nat.not_lt,-Nat.not_le,-List.map_take,Ad,Ab,hij',hi0]
  simpa using hK
 | succ j =>
  rw [scanDown] at hK
  by_cases hij : i <= j + 1
  ·have hij' : (i : Int) <= j + 1:=by omega
   have r1:=R.rd d (i:=j + 1) (by omega)
   have r2:=R.rd d (i:=a) (by omega)
   have q:=fun row=>W.run d[j + 1]! d[a]! row C hC
   have m:=W.neg d[j + 1]! d[a]!
   have t1 : ((j : Int) + 1).toNat = j + 1:=by omega
   have ih:=ih j (by omega) (by omega)
   generalize hu : d[j + 1]! = u at r1 q m hK
   generalize hw : d[a]! = w at r2 q m hK ih
   simp (contextual:=true) (maxSteps:=2000000) (disch:=omega) [Ae,Af,Ac,Ag,-Int.not_lt,-Int.not_le,-Nat.not_lt,-Nat.not_le,-List.map_take,Ad,Ab,AM,Aw,R.ld,R.st,R.all1,R.len,-AL,-AN,Aa,hij',r1,r2,cl (q _),m,hd,t1]
   refine ⟨fun l=>?_,fun l=>?_⟩
   ·have e : lt u w = false:=by simpa using l
    rw [AaN (by simp [hij,e])] at hK
    simpa using ih hK
   ·have e : lt u w = true:=by simpa using l
    rw [AaL (by simp [e])] at hK
    simpa using hK
  ·have hij' : ¬ (i : Int) <= j + 1:=by omega
   rw [AaL (by simp [hij])] at hK
   simp (contextual:=true) (maxSteps:=2000000) (disch:=omega) [Ae,Af,Ac,Ag,-Int.not_lt,-Int.not_le,-Nat.not_lt,-Nat.not_le,-List.map_take,Ad,Ab,hij']
   simpa using hK
include W hC in
theorem WP (d : Array α) (a j b0 : Nat) (ha : a < n) (hj : j < n) (hd : d.size = n) (h0 : b0 <= n) (hn : n <= 1000000000) (K : K) (i : Nat)
  (hK : At' G (.ex 2) ⟨[(0,.sl A.length n 3 0 n lim),(1,.m (.i .i64 a)),(4,.m (.fn k [])),(11,.m (.i .i64 (scanUp (fun x=>!lt d[a]! x) d j i))),(12,.m (.i .i64 j)),(47,.m (.b false))],[],⟨[],A ++ .cs ty 3 (AT R d) b0 false :: C⟩⟩ K) :
  Run G c143_B0 (S143_0 (.sl A.length n 3 0 n lim) (.m (.i .i64 a)) (.m (.fn k [])) (.m (.i .i64 i)) (.m (.i .i64 j)) [] (A ++ .cs ty 3 (AT R d) b0 false :: C)) (.seq c143_L0 K):=by
 revert hK
 revert i
 refine Bd (fun i : Nat=>j + 1 - i) fun i ih hK=>?_
 unfold c143_B0
 rw [scanUp] at hK
 by_cases hij : i <= j
 ·have hij' : (i : Int) <= j:=by omega
  have r1:=R.rd d (i:=i) (by omega)
  have r2:=R.rd d (i:=a) (by omega)
  have q:=fun row=>W.run d[a]! d[i]! row C hC
  have m:=W.neg d[a]! d[i]!
  have ih:=ih (i + 1) (by omega)
  generalize hu : d[i]! = u at r1 q m hK
  generalize hw : d[a]! = w at r2 q m hK ih
  simp (contextual:=true) (maxSteps:=2000000) (disch:=omega) [Ae,Af,Ac,Ag,-Int.not_lt,-Int.not_le,-Nat.not_lt,-Nat.not_le,-List.map_take,Ad,Ab,AM,Aw,R.ld,R.st,R.all1,R.len,-AL,-AN,Aa,hij',r1,r2,cl (q _),m,hd]
  refine ⟨fun l=>?_,fun l=>?_⟩
  ·have e : lt w u = false:=by simpa using l
   rw [AaN (by simp [hij,e])] at hK
   simpa using ih hK
  ·have e : lt w u = true:=by simpa using l
   rw [AaL (by simp [e])] at hK
   exact hK
 ·have hij' : ¬ (i : Int) <= j:=by omega
  rw [AaL (by simp [hij])] at hK
  simp (contextual:=true) (maxSteps:=2000000) (disch:=omega) [Ae,Af,Ac,Ag,-Int.not_lt,-Int.not_le,-Nat.not_lt,-Nat.not_le,-List.map_take,Ad,Ab,hij']
  exact hK
include W hC in
theorem WO (d : Array α) (a i b0 : Nat) (ha : a < n) (hi : 1 <= i) (hd : d.size = n) (h0 : b0 <= n) (hn : n <= 1000000000) (K : K) (j : Nat) (hj : j < n)
  (hK : At' G (.ex 4) ⟨[(0,.sl A.length n 3 0 n lim),(1,.m (.i .i64 a)),(4,.m (.fn k [])),(11,.m (.i .i64 i)),(12,.m (.i .i64 (scanDown (fun x=>lt d[a]! x) d i j))),(65,.m (.b false))],[],⟨[],A ++ .cs ty 3 (AT R d) b0 false :: C⟩⟩ K) :
  Run G c143_B1 (S143_1 (.sl A.length n 3 0 n lim) (.m (.i .i64 a)) (.m (.fn k [])) (.m (.i .i64 i)) (.m (.i .i64 j)) [] (A ++ .cs ty 3 (AT R d) b0 false :: C)) (.seq c143_L1 K):=by
 revert hK
 revert hj
 revert j
 refine Bd (fun j : Nat=>j) fun j ih hj hK=>?_
 unfold c143_B1
 cases j with
 | zero =>
  have hij' : ¬ (i : Int) <= 0:=by omega
  have hi0 : ¬ i = 0:=by omega
  rw [scanDown] at hK
  simp (contextual:=true) (maxSteps:=2000000) (disch:=omega) [Ae,Af,Ac,Ag,-Int.not_lt,-Int.not_le,-Nat.not_lt,-Nat.not_le,-List.map_take,Ad,Ab,hij',hi0]
  simpa using hK
 | succ j =>
  rw [scanDown] at hK
  by_cases hij : i <= j + 1
  ·have hij' : (i : Int) <= j + 1:=by omega
   have r1:=R.rd d (i:=j + 1) (by omega)
   have r2:=R.rd d (i:=a) (by omega)
   have q:=fun row=>W.run d[a]! d[j + 1]! row C hC
   have m:=W.neg d[a]! d[j + 1]!
   have t1 : ((j : Int) + 1).toNat = j + 1:=by omega
   have ih:=ih j (by omega) (by omega)
   generalize hu : d[j + 1]! = u at r1 q m hK
   generalize hw : d[a]! = w at r2 q m hK ih
   simp (contextual:=true) (maxSteps:=2000000) (disch:=omega) [Ae,Af,Ac,Ag,-Int.not_lt,-Int.not_le,-Nat.not_lt,-Nat.not_le,-List.map_take,Ad,Ab,AM,Aw,R.ld,R.st,R.all1,R.len,-AL,-AN,Aa,hij',r1,r2,cl (q _),m,hd,t1]
   refine ⟨fun l=>?_,fun l=>?_⟩
   ·have e : lt w u = true:=by simpa using l
    rw [AaN (by simp [hij,e])] at hK
    simpa using ih hK
   ·have e : lt w u = false:=by simpa using l
    rw [AaL (by simp [e])] at hK
    simpa using hK
  ·have hij' : ¬ (i : Int) <= j + 1:=by omega
   rw [AaL (by simp [hij])] at hK
   simp (contextual:=true) (maxSteps:=2000000) (disch:=omega) [Ae,Af,Ac,Ag,-Int.not_lt,-Int.not_le,-Nat.not_lt,-Nat.not_le,-List.map_take,Ad,Ab,hij']
   simpa using hK
end
end Go.Mx.Tryz
set_option maxRecDepth 100000
namespace Go.Mx.Tryz
open Go.Sort
section
variable {α : Type} [Inhabited α] {R : Rw α 3 true} {A C : Hp} {k : Nat} {lt : α -> α -> Bool} (W : Cmp R A k lt) (hC : W.ok C) {ty n : Nat} {lim : Bool}
include W hC in
theorem Rh (a : Nat) (hn : n <= 1000000000) (K : K) : ∀ (m i j : Nat) (d : Array α) (b0 : Nat),j + 1 - i = m -> a < i -> i <= j + 1 -> j < n -> d.size = n -> b0 <= n ->
  (∀ (i2 j2 : Nat) (d2 : Array α) (b1 : Nat),d2.size = n -> b1 <= n -> a <= j2 -> j2 < n -> i2 <= n -> (partLoop lt a i j d = (j2,d2)) -> At' G (.ex 4) ⟨[(0,.sl A.length n 3 0 n lim),(1,.m (.i .i64 a)),(4,.m (.fn k [])),(12,.m (.i .i64 i2)),(13,.m (.i .i64 j2)),(139,.m (.b false)),(144,.m (.b true))],[],⟨[],A ++ .cs ty 3 (AT R d2) b1 false :: C⟩⟩ K) ->
  Run G c144_B4 (S144_4 (.sl A.length n 3 0 n lim) (.m (.i .i64 a)) (.m (.fn k [])) (.m (.i .i64 i)) (.m (.i .i64 j)) [] (A ++ .cs ty 3 (AT R d) b0 false :: C)) (.seq c144_L4 K):=by
 refine Bd (fun m : Nat=>m) fun m ih i j d b0 hm hai hij hjn hd h0 hK=>?_
 have u1:=scanUp_spec (fun x=>lt x d[a]!) d j _ i rfl
 have u2:=scanDown_spec (fun x=>!lt x d[a]!) d (scanUp (fun x=>lt x d[a]!) d j i) j
 have e:=partLoop_eq lt a i j d
 unfold c144_B4
 simp (contextual:=true) (maxSteps:=2000000) (disch:=omega) [Ae,Af,Ac,Ag,-Int.not_lt,-Int.not_le,-Nat.not_lt,-Nat.not_le,-List.map_take,Ad,Ab]
 refine WL W hC d a j b0 (by omega) hjn hd h0 hn _ i ?_
 generalize hi2 : scanUp (fun x=>lt x d[a]!) d j i = i2 at u1 u2 e ⊢
 simp (contextual:=true) (maxSteps:=2000000) (disch:=omega) [Ae,Af,Ac,Ag,-Int.not_lt,-Int.not_le,-Nat.not_lt,-Nat.not_le,-List.map_take,Ad,Ab]
 refine WK W hC d a i2 b0 (by omega) (by omega) hd h0 hn _ j hjn ?_
 generalize hj2 : scanDown (fun x=>!lt x d[a]!) d i2 j = j2 at u2 e ⊢
 obtain ⟨u11,u12,_,u14⟩:=u1
 obtain ⟨u21,u22,_,u24⟩:=u2
 have u12:=u12 hij
 have u22:=u22 u12
 by_cases hg : i2 > j2
 ·have hg' : (j2 : Int) < i2:=by omega
  rw [AaN hg] at e
  simp (contextual:=true) (maxSteps:=2000000) (disch:=omega) [Ae,Af,Ac,Ag,-Int.not_lt,-Int.not_le,-Nat.not_lt,-Nat.not_le,-List.map_take,Ad,Ab,hg']
  exact hK i2 j2 d b0 hd h0 (by omega) (by omega) (by omega) (by simp [e])
 ·have hg' : ¬ (j2 : Int) < i2:=by omega
  rw [AaL hg] at e
  have f1:=u14 (by omega)
  have f2:=u24 (by omega) (by omega)
  have hne : i2 ≠ j2:=fun h=>by
   subst h
   simp [f1] at f2
  have r1:=R.rd d (i:=i2) (by omega)
  have r2:=R.rd d (i:=j2) (by omega)
  have w1:=R.wr d (i:=i2) d[j2]! (by omega)
  have w2:=R.wr (d.setIfInBounds i2 d[j2]!) (i:=j2) d[i2]! (by simp; omega)
  have s1 : (d.setIfInBounds i2 d[j2]!).size = n:=by simp [hd]
  have es : swp d i2 j2 = (d.setIfInBounds i2 d[j2]!).setIfInBounds j2 d[i2]!:=rfl
  rw [es] at e
  have ih2:=ih (j2 - 1 + 1 - (i2 + 1)) (by omega) (i2 + 1) (j2 - 1) ((d.setIfInBounds i2 d[j2]!).setIfInBounds j2 d[i2]!) n rfl (by omega) (by omega) (by omega) (by simp [hd]) (AaQ _)
  rw [e] at hK
  have hj1 : ((j2 - 1 : Nat) : Int) = (j2 : Int) - 1:=by omega
  rw [hj1] at ih2
  clear ih u11 u14 u24 f1 f2 e es
  generalize d[i2]! = y1 at *
  generalize d[j2]! = y2 at *
  simp (contextual:=true) (maxSteps:=2000000) (disch:=omega) [Ae,Af,Ac,Ag,-Int.not_lt,-Int.not_le,-Nat.not_lt,-Nat.not_le,-List.map_take,Ad,Ab,AM,Aw,R.ld,R.st,R.all1,R.len,-AL,-AN,Aa,hg',r1,r2,w1,w2,s1,hd]
  exact ih2 hK
include W hC in
theorem Lx (a : Nat) (hn : n <= 1000000000) (K : K) : ∀ (m i j : Nat) (d : Array α) (b0 : Nat),j + 1 - i = m -> a < i -> i <= j + 1 -> j < n -> d.size = n -> b0 <= n ->
  (∀ (i2 j2 : Nat) (d2 : Array α) (b1 : Nat),d2.size = n -> b1 <= n -> a <= j2 -> j2 < n -> i2 <= n -> (partEqLoop lt a i j d = (i2,d2)) -> At' G (.ex 0) ⟨[(0,.sl A.length n 3 0 n lim),(1,.m (.i .i64 a)),(4,.m (.fn k [])),(11,.m (.i .i64 i2)),(12,.m (.i .i64 j2)),(65,.m (.b false)),(70,.m (.b true))],[],⟨[],A ++ .cs ty 3 (AT R d2) b1 false :: C⟩⟩ K) ->
  Run G c143_B2 (S143_2 (.sl A.length n 3 0 n lim) (.m (.i .i64 a)) (.m (.fn k [])) (.m (.i .i64 i)) (.m (.i .i64 j)) [] (A ++ .cs ty 3 (AT R d) b0 false :: C)) (.seq c143_L2 K):=by
 refine Bd (fun m : Nat=>m) fun m ih i j d b0 hm hai hij hjn hd h0 hK=>?_
 have u1:=scanUp_spec (fun x=>!lt d[a]! x) d j _ i rfl
 have u2:=scanDown_spec (fun x=>lt d[a]! x) d (scanUp (fun x=>!lt d[a]! x) d j i) j
 have e:=partEqLoop_eq lt a i j d
 unfold c143_B2
 simp (contextual:=true) (maxSteps:=2000000) (disch:=omega) [Ae,Af,Ac,Ag,-Int.not_lt,-Int.not_le,-Nat.not_lt,-Nat.not_le,-List.map_take,Ad,Ab]
 refine WP W hC d a j b0 (by omega) hjn hd h0 hn _ i ?_
 generalize hi2 : scanUp (fun x=>!lt d[a]! x) d j i = i2 at u1 u2 e ⊢
 simp (contextual:=true) (maxSteps:=2000000) (disch:=omega) [Ae,Af,Ac,Ag,-Int.not_lt,-Int.not_le,-Nat.not_lt,-Nat.not_le,-List.map_take,Ad,Ab]
 refine WO W hC d a i2 b0 (by omega) (by omega) hd h0 hn _ j hjn ?_
 generalize hj2 : scanDown (fun x=>lt d[a]! x) d i2 j = j2 at u2 e ⊢
 obtain ⟨u11,u12,_,u14⟩:=u1
 obtain ⟨u21,u22,_,u24⟩:=u2
 have u12:=u12 hij
 have u22:=u22 u12
 by_cases hg : i2 > j2
 ·have hg' : (j2 : Int) < i2:=by omega
  rw [AaN hg] at e
  simp (contextual:=true) (maxSteps:=2000000) (disch:=omega) [Ae,Af,Ac,Ag,-Int.not_lt,-Int.not_le,-Nat.not_lt,-Nat.not_le,-List.map_take,Ad,Ab,hg']
  exact hK i2 j2 d b0 hd h0 (by omega) (by omega) (by omega) (by simp [e])
 ·have hg' : ¬ (j2 : Int) < i2:=by omega
  rw [AaL hg] at e
  have f1:=u14 (by omega)
  have f2:=u24 (by omega) (by omega)
  have hne : i2 ≠ j2:=fun h=>by
   subst h
   simp [f2] at f1
  have r1:=R.rd d (i:=i2) (by omega)
  have r2:=R.rd d (i:=j2) (by omega)
  have w1:=R.wr d (i:=i2) d[j2]! (by omega)
  have w2:=R.wr (d.setIfInBounds i2 d[j2]!) (i:=j2) d[i2]! (by simp; omega)
  have s1 : (d.setIfInBounds i2 d[j2]!).size = n:=by simp [hd]
  have es : swp d i2 j2 = (d.setIfInBounds i2 d[j2]!).setIfInBounds j2 d[i2]!:=rfl
  rw [es] at e
  have ih2:=ih (j2 - 1 + 1 - (i2 + 1)) (by omega) (i2 + 1) (j2 - 1) ((d.setIfInBounds i2 d[j2]!).setIfInBounds j2 d[i2]!) n rfl (by omega) (by omega) (by omega) (by simp [hd]) (AaQ _)
  rw [e] at hK
  have hj1 : ((j2 - 1 : Nat) : Int) = (j2 : Int) - 1:=by omega
  rw [hj1] at ih2
  clear ih u11 u14 u24 f1 f2 e es
  generalize d[i2]! = y1 at *
  generalize d[j2]! = y2 at *
  simp (contextual:=true) (maxSteps:=2000000) (disch:=omega) [Ae,Af,Ac,Ag,-Int.not_lt,-Int.not_le,-Nat.not_lt,-Nat.not_le,-List.map_take,Ad,Ab,AM,Aw,R.ld,R.st,R.all1,R.len,-AL,-AN,Aa,hg',r1,r2,w1,w2,s1,hd]
  exact ih2 hK
end
end Go.Mx.Tryz
set_option maxRecDepth 100000
namespace Go.Mx.Tryz
open Go.Sort
section
variable {α : Type} [Inhabited α] {R : Rw α 3 true} {A C : Hp} {k : Nat} {lt : α -> α -> Bool} (W : Cmp R A k lt) (hC : W.ok C) {ty n : Nat} {lim : Bool}
include W hC in
theorem UL (d : Array α) (a b pivot b0 : Nat) (hp1 : a <= pivot) (hp2 : pivot < b) (hb : b <= n) (hd : d.size = n) (h0 : b0 <= n) (hn : n <= 1000000000) (Q : V -> Hp -> Prop)
  (hQ : ∀ (j : Nat) (ap : Bool) (d2 : Array α) (b1 : Nat),partition lt d a b pivot = (j,ap,d2) -> b1 <= n -> Q (.tu [.m (.i .i64 j),.m (.b ap)]) (A ++ .cs ty 3 (AT R d2) b1 false :: C)) :
  Ret G 144 [.sl A.length n 3 0 n lim,.m (.i .i64 a),.m (.i .i64 b),.m (.i .i64 pivot),.m (.fn k [])] (A ++ .cs ty 3 (AT R d) b0 false :: C) Q:=by
 refine Cs mono rfl rfl rfl rfl rfl ?_
 have r1:=R.rd d (i:=a) (by omega)
 have r2:=R.rd d (i:=pivot) (by omega)
 have w1:=R.wr d (i:=a) d[pivot]! (by omega)
 have w2:=R.wr (d.setIfInBounds a d[pivot]!) (i:=pivot) d[a]! (by simp; omega)
 have s1 : (d.setIfInBounds a d[pivot]!).size = n:=by simp [hd]
 have e1 : swp d a pivot = (d.setIfInBounds a d[pivot]!).setIfInBounds pivot d[a]!:=rfl
 have hb1 : ((b - 1 : Nat) : Int) = (b : Int) - 1:=by omega
 simp only [partition,e1] at hQ
 generalize d[a]! = y0 at *
 generalize d[pivot]! = y1 at *
 simp (contextual:=true) (maxSteps:=2000000) (disch:=omega) [Ae,Af,Ac,Ag,-Int.not_lt,-Int.not_le,-Nat.not_lt,-Nat.not_le,-List.map_take,Ad,Ab,AM,Aw,R.ld,R.st,R.all1,R.len,-AL,-AN,Aa,r1,r2,w1,w2,s1,hd]
 clear r1 r2 w1 w2 s1 e1
 generalize hd1 : (d.setIfInBounds a y1).setIfInBounds pivot y0 = d1 at *
 have hsz : d1.size = n:=by rw [<- hd1]; simp [hd]
 have u1:=scanUp_spec (fun x=>lt x d1[a]!) d1 (b - 1) _ (a + 1) rfl
 have u2:=scanDown_spec (fun x=>!lt x d1[a]!) d1 (scanUp (fun x=>lt x d1[a]!) d1 (b - 1) (a + 1)) (b - 1)
 rw [<- hb1]
 refine WN W hC d1 a (b - 1) n (by omega) (by omega) hsz (AaQ _) hn _ (a + 1) ?_
 generalize hi2 : scanUp (fun x=>lt x d1[a]!) d1 (b - 1) (a + 1) = i2 at u1 u2 hQ ⊢
 simp (contextual:=true) (maxSteps:=2000000) (disch:=omega) [Ae,Af,Ac,Ag,-Int.not_lt,-Int.not_le,-Nat.not_lt,-Nat.not_le,-List.map_take,Ad,Ab]
 refine WM W hC d1 a i2 n (by omega) (by omega) hsz (AaQ _) hn _ (b - 1) (by omega) ?_
 generalize hj2 : scanDown (fun x=>!lt x d1[a]!) d1 i2 (b - 1) = j2 at u2 hQ ⊢
 obtain ⟨u11,u12,_,u14⟩:=u1
 obtain ⟨u21,u22,_,u24⟩:=u2
 have u12:=u12 (by omega)
 have u22:=u22 u12
 by_cases hg : i2 > j2
 ·have hg' : (j2 : Int) < i2:=by omega
  simp only [AaN hg] at hQ
  have r1:=R.rd d1 (i:=j2) (by omega)
  have r2:=R.rd d1 (i:=a) (by omega)
  have w1:=R.wr d1 (i:=j2) d1[a]! (by omega)
  have w2:=R.wr (d1.setIfInBounds j2 d1[a]!) (i:=a) d1[j2]! (by simp; omega)
  have s1 : (d1.setIfInBounds j2 d1[a]!).size = n:=by simp [hsz]
  have e2 : swp d1 j2 a = (d1.setIfInBounds j2 d1[a]!).setIfInBounds a d1[j2]!:=rfl
  rw [e2] at hQ
  clear u14 u24 hi2 hj2
  generalize d1[a]! = z0 at *
  generalize d1[j2]! = z1 at *
  simp (contextual:=true) (maxSteps:=2000000) (disch:=omega) [Ae,Af,Ac,Ag,-Int.not_lt,-Int.not_le,-Nat.not_lt,-Nat.not_le,-List.map_take,Ad,Ab,AM,Aw,R.ld,R.st,R.all1,R.len,-AL,-AN,Aa,hg',r1,r2,w1,w2,s1,hsz]
  exact hQ j2 true _ n rfl (AaQ _)
 ·have hg' : ¬ (j2 : Int) < i2:=by omega
  simp only [AaL hg] at hQ
  have f1:=u14 (by omega)
  have f2:=u24 (by omega) (by omega)
  have hne : i2 ≠ j2:=fun h=>by
   subst h
   simp [f1] at f2
  have r1:=R.rd d1 (i:=i2) (by omega)
  have r2:=R.rd d1 (i:=j2) (by omega)
  have w1:=R.wr d1 (i:=i2) d1[j2]! (by omega)
  have w2:=R.wr (d1.setIfInBounds i2 d1[j2]!) (i:=j2) d1[i2]! (by simp; omega)
  have s1 : (d1.setIfInBounds i2 d1[j2]!).size = n:=by simp [hsz]
  have e2 : swp d1 i2 j2 = (d1.setIfInBounds i2 d1[j2]!).setIfInBounds j2 d1[i2]!:=rfl
  have hj1 : ((j2 - 1 : Nat) : Int) = (j2 : Int) - 1:=by omega
  rw [e2] at hQ
  clear u14 u24 hi2 hj2 f1 f2
  generalize d1[i2]! = z0 at *
  generalize d1[j2]! = z1 at *
  simp (contextual:=true) (maxSteps:=2000000) (disch:=omega) [Ae,Af,Ac,Ag,-Int.not_lt,-Int.not_le,-Nat.not_lt,-Nat.not_le,-List.map_take,Ad,Ab,AM,Aw,R.ld,R.st,R.all1,R.len,-AL,-AN,Aa,hg',r1,r2,w1,w2,s1,hsz]
  rw [<- hj1]
  refine Rh W hC a hn _ _ (i2 + 1) (j2 - 1) _ n rfl (by omega) (by omega) (by omega) (by simp [hsz]) (AaQ _) fun i3 j3 d3 b3 hd3 hb3 haj hjn hin hr=>?_
  rw [hr] at hQ
  have r1:=R.rd d3 (i:=j3) (by omega)
  have r2:=R.rd d3 (i:=a) (by omega)
  have w1:=R.wr d3 (i:=j3) d3[a]! (by omega)
  have w2:=R.wr (d3.setIfInBounds j3 d3[a]!) (i:=a) d3[j3]! (by simp; omega)
  have s1 : (d3.setIfInBounds j3 d3[a]!).size = n:=by simp [hd3]
  have e2 : swp d3 j3 a = (d3.setIfInBounds j3 d3[a]!).setIfInBounds a d3[j3]!:=rfl
  simp only [e2] at hQ
  generalize d3[a]! = z0 at *
  generalize d3[j3]! = z1 at *
  simp (contextual:=true) (maxSteps:=2000000) (disch:=omega) [Ae,Af,Ac,Ag,-Int.not_lt,-Int.not_le,-Nat.not_lt,-Nat.not_le,-List.map_take,Ad,Ab,AM,Aw,R.ld,R.st,R.all1,R.len,-AL,-AN,Aa,r1,r2,w1,w2,s1,hd3]
  exact hQ j3 false _ n rfl (AaQ _)
include W hC in
theorem Nf (d : Array α) (a b pivot b0 : Nat) (hp1 : a <= pivot) (hp2 : pivot < b) (hb : b <= n) (hd : d.size = n) (h0 : b0 <= n) (hn : n <= 1000000000) (Q : V -> Hp -> Prop)
  (hQ : ∀ (i : Nat) (d2 : Array α) (b1 : Nat),partitionEqual lt d a b pivot = (i,d2) -> b1 <= n -> Q (.m (.i .i64 i)) (A ++ .cs ty 3 (AT R d2) b1 false :: C)) :
  Ret G 143 [.sl A.length n 3 0 n lim,.m (.i .i64 a),.m (.i .i64 b),.m (.i .i64 pivot),.m (.fn k [])] (A ++ .cs ty 3 (AT R d) b0 false :: C) Q:=by
 refine Cs mono rfl rfl rfl rfl rfl ?_
 have r1:=R.rd d (i:=a) (by omega)
 have r2:=R.rd d (i:=pivot) (by omega)
 have w1:=R.wr d (i:=a) d[pivot]! (by omega)
 have w2:=R.wr (d.setIfInBounds a d[pivot]!) (i:=pivot) d[a]! (by simp; omega)
 have s1 : (d.setIfInBounds a d[pivot]!).size = n:=by simp [hd]
 have e1 : swp d a pivot = (d.setIfInBounds a d[pivot]!).setIfInBounds pivot d[a]!:=rfl
 have hb1 : ((b - 1 : Nat) : Int) = (b : Int) - 1:=by omega
 simp only [partitionEqual,e1] at hQ
 generalize d[a]! = y0 at *
 generalize d[pivot]! = y1 at *
 simp (contextual:=true) (maxSteps:=2000000) (disch:=omega) [Ae,Af,Ac,Ag,-Int.not_lt,-Int.not_le,-Nat.not_lt,-Nat.not_le,-List.map_take,Ad,Ab,AM,Aw,R.ld,R.st,R.all1,R.len,-AL,-AN,Aa,r1,r2,w1,w2,s1,hd]
 rw [<- hb1]
 refine Lx W hC a hn _ _ (a + 1) (b - 1) _ n rfl (by omega) (by omega) (by omega) (by simp [hd]) (AaQ _) fun i3 j3 d3 b3 hd3 hb3 haj hjn hin hr=>?_
 simp (contextual:=true) (maxSteps:=2000000) (disch:=omega) [Ae,Af,Ac,Ag,-Int.not_lt,-Int.not_le,-Nat.not_lt,-Nat.not_le,-List.map_take,Ad,Ab]
 exact hQ i3 d3 b3 hr hb3
include W hC in
theorem rev_w (d : Array α) (a b b0 : Nat) (hab : a < b) (hb : b <= n) (hd : d.size = n) (h0 : b0 <= n) (hn : n <= 1000000000) (Q : V -> Hp -> Prop)
  (hQ : ∀ b1,b1 <= n -> Q (.tu []) (A ++ .cs ty 3 (AT R (reverseRange d a b)) b1 false :: C)) :
  Ret G 141 [.sl A.length n 3 0 n lim,.m (.i .i64 a),.m (.i .i64 b),.m (.fn k [])] (A ++ .cs ty 3 (AT R d) b0 false :: C) Q:=by
 refine Cs mono rfl rfl rfl rfl rfl ?_
 have hb1 : ((b - 1 : Nat) : Int) = (b : Int) - 1:=by omega
 unfold reverseRange at hQ
 simp (contextual:=true) (maxSteps:=2000000) (disch:=omega) [Ae,Af,Ac,Ag,-Int.not_lt,-Int.not_le,-Nat.not_lt,-Nat.not_le,-List.map_take,Ad,Ab,Aa]
 rw [<- hb1]
 refine (?key : ∀ (m i j : Nat) (d : Array α) (b0 : Nat),j - i = m -> j < n -> d.size = n -> b0 <= n -> (∀ b1,b1 <= n -> Q (.tu []) (A ++ .cs ty 3 (AT R (reverseLoop i j d)) b1 false :: C)) -> Run G c141_B0 (S141_0 (.sl A.length n 3 0 n lim) (.m (.i .i64 i)) (.m (.i .i64 j)) [] (A ++ .cs ty 3 (AT R d) b0 false :: C)) _) _ a (b - 1) d b0 rfl (by omega) hd h0 hQ
 clear hQ hd h0 d b0 hb1
 refine Bd (fun m : Nat=>m) fun m ih i j d b0 hm hjn hd h0 hQ=>?_
 unfold c141_B0
 rw [reverseLoop] at hQ
 by_cases hij : i < j
 ·rw [AaN hij] at hQ
  have hij' : (i : Int) < j:=by omega
  have r1:=R.rd d (i:=i) (by omega)
  have r2:=R.rd d (i:=j) (by omega)
  have w1:=R.wr d (i:=i) d[j]! (by omega)
  have w2:=R.wr (d.setIfInBounds i d[j]!) (i:=j) d[i]! (by simp; omega)
  have s1 : (d.setIfInBounds i d[j]!).size = n:=by simp [hd]
  have e2 : swp d i j = (d.setIfInBounds i d[j]!).setIfInBounds j d[i]!:=rfl
  have hj1 : ((j - 1 : Nat) : Int) = (j : Int) - 1:=by omega
  rw [e2] at hQ
  have ih2:=ih (j - 1 - (i + 1)) (by omega) (i + 1) (j - 1) ((d.setIfInBounds i d[j]!).setIfInBounds j d[i]!) n rfl (by omega) (by simp [hd]) (AaQ _)
  rw [hj1] at ih2
  clear ih e2
  generalize d[i]! = z0 at *
  generalize d[j]! = z1 at *
  simp (contextual:=true) (maxSteps:=2000000) (disch:=omega) [Ae,Af,Ac,Ag,-Int.not_lt,-Int.not_le,-Nat.not_lt,-Nat.not_le,-List.map_take,Ad,Ab,AM,Aw,R.ld,R.st,R.all1,R.len,-AL,-AN,Aa,hij',r1,r2,w1,w2,s1,hd]
  exact ih2 hQ
 ·rw [AaL hij] at hQ
  have hij' : ¬ (i : Int) < j:=by omega
  simp (contextual:=true) (maxSteps:=2000000) (disch:=omega) [Ae,Af,Ac,Ag,-Int.not_lt,-Int.not_le,-Nat.not_lt,-Nat.not_le,-List.map_take,Ad,Ab,hij',hQ b0 h0]
end
end Go.Mx.Tryz
