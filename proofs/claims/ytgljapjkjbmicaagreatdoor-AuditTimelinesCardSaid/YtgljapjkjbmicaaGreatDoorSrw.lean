/- pdqsort over cells at the machine: heaps, parting, rounds. -/
import Derived.Test.YtgljapjkjbmicaaGreatDoorSrs
import Derived.Test.YtgljapjkjbmicaaGreatDoorIto
set_option linter.unusedSimpArgs false
set_option linter.unusedVariables false
set_option linter.unusedSectionVars false
set_option maxRecDepth 100000
namespace Go.Mx.Tryz
open Go.Sort
section
variable {α : Type} [Inhabited α] {R : Rw α 3 true} {A C : Hp} {k : Nat} {lt : α -> α -> Bool} (W : Cmp R A k lt) (hC : W.ok C) {ty n : Nat} {lim : Bool}
theorem IM {α : Type} [Inhabited α] (lt : α -> α -> Bool) (d : Array α) (b : Nat) (i : Nat) : i <= scanSorted lt d b i /\ (i <= b -> scanSorted lt d b i <= b):=by
 fun_induction scanSorted lt d b i <;> simp_all <;> omega
include W hC in
theorem TE (d : Array α) (a b b0 : Nat) (x10 : V) (hb : b <= n) (hd : d.size = n) (h0 : b0 <= n) (hn : n <= 1000000000) (K : K) (i : Nat) (hi : 1 <= i)
  (hK : At' G (.ex 2) ⟨[(0,.sl A.length n 3 0 n lim),(1,.m (.i .i64 a)),(2,.m (.i .i64 b)),(3,.m (.fn k [])),(9,.m (.i .i64 (scanSorted lt d b i))),(10,x10),(36,.m (.b false))],[],⟨[],A ++ .cs ty 3 (AT R d) b0 false :: C⟩⟩ K) :
  Run G c142_B0 (S142_0 (.sl A.length n 3 0 n lim) (.m (.i .i64 a)) (.m (.i .i64 b)) (.m (.fn k [])) (.m (.i .i64 i)) x10 [] (A ++ .cs ty 3 (AT R d) b0 false :: C)) (.seq c142_L0 K):=by
 revert hK
 revert hi
 revert i
 refine Bd (fun i : Nat=>b - i) fun i ih hi hK=>?_
 unfold c142_B0
 rw [scanSorted] at hK
 by_cases hij : i < b
 ·obtain ⟨m,rfl⟩ : ∃ m,i = m + 1:=⟨i - 1,by omega⟩
  have hij' : (m : Int) + 1 < b:=by omega
  have r1:=R.rd d (i:=m + 1) (by omega)
  have r2:=R.rd d (i:=m) (by omega)
  have q:=fun row=>W.run d[m + 1]! d[m]! row C hC
  have e:=W.neg d[m + 1]! d[m]!
  have ih:=ih (m + 1 + 1) (by omega) (by omega)
  have t1 : ((m : Int) + 1).toNat = m + 1:=by omega
  have t2 : ((m : Int) + 1 - 1).toNat = m:=by omega
  rw [show m + 1 - 1 = m from rfl] at hK
  generalize d[m + 1]! = u at r1 q e hK
  generalize d[m]! = w at r2 q e hK
  simp (contextual:=true) (maxSteps:=2000000) (disch:=omega) [Ae,Af,Ac,Ag,-Int.not_lt,-Int.not_le,-Nat.not_lt,-Nat.not_le,-List.map_take,Ad,Ab,AM,Aw,R.ld,R.st,R.all1,R.len,-AL,-AN,Aa,hij',r1,r2,cl (q _),e,hd,t1,t2]
  refine ⟨fun l=>?_,fun l=>?_⟩
  ·rw [AaN (by simp [hij,l])] at hK
   simpa using ih hK
  ·rw [AaL (by simp [l])] at hK
   simpa using hK
 ·have hij' : ¬ (i : Int) < b:=by omega
  rw [AaL (by simp [hij])] at hK
  simp (contextual:=true) (maxSteps:=2000000) (disch:=omega) [Ae,Af,Ac,Ag,-Int.not_lt,-Int.not_le,-Nat.not_lt,-Nat.not_le,-List.map_take,Ad,Ab,hij']
  exact hK
include W hC in
theorem TF (a b : Nat) (x9 x10 : V) (hb : b <= n) (hn : n <= 1000000000) (K : K) : ∀ (j : Nat) (d : Array α) (b0 : Nat),j < n -> d.size = n -> b0 <= n ->
  (∀ (j2 : Nat) (b1 : Nat),b1 <= n -> At' G (.ex 4) ⟨[(0,.sl A.length n 3 0 n lim),(1,.m (.i .i64 a)),(2,.m (.i .i64 b)),(3,.m (.fn k [])),(9,x9),(10,x10),(11,.m (.i .i64 j2)),(69,.m (.b false))],[],⟨[],A ++ .cs ty 3 (AT R (shiftDown lt j d)) b1 false :: C⟩⟩ K) ->
  (∀ (j2 : Nat) (b1 : Nat),b1 <= n -> At' G (.ex 4) ⟨[(0,.sl A.length n 3 0 n lim),(1,.m (.i .i64 a)),(2,.m (.i .i64 b)),(3,.m (.fn k [])),(9,x9),(10,x10),(11,.m (.i .i64 j2)),(69,.m (.b true)),(84,.m (.b true))],[],⟨[],A ++ .cs ty 3 (AT R (shiftDown lt j d)) b1 false :: C⟩⟩ K) ->
  Run G c142_B1 (S142_1 (.sl A.length n 3 0 n lim) (.m (.i .i64 a)) (.m (.i .i64 b)) (.m (.fn k [])) x9 x10 (.m (.i .i64 j)) [] (A ++ .cs ty 3 (AT R d) b0 false :: C)) (.seq c142_L1 K):=by
 refine Bd (fun j : Nat=>j) fun j ih d b0 hj hd h0 hK1 hK2=>?_
 unfold c142_B1
 cases j with
 | zero =>
  rw [shiftDown] at hK1
  simp (contextual:=true) (maxSteps:=2000000) (disch:=omega) [Ae,Af,Ac,Ag,-Int.not_lt,-Int.not_le,-Nat.not_lt,-Nat.not_le,-List.map_take,Ad,Ab]
  exact hK1 0 b0 h0
 | succ m =>
  rw [shiftDown] at hK1 hK2
  have hm1 : (1 : Int) <= m + 1:=by omega
  have r1:=R.rd d (i:=m + 1) (by omega)
  have r2:=R.rd d (i:=m) (by omega)
  have q:=fun row=>W.run d[m + 1]! d[m]! row C hC
  have e:=W.neg d[m + 1]! d[m]!
  have w1:=R.wr d (i:=m + 1) d[m]! (by omega)
  have w2:=R.wr (d.setIfInBounds (m + 1) d[m]!) (i:=m) d[m + 1]! (by simp; omega)
  have s1 : (d.setIfInBounds (m + 1) d[m]!).size = n:=by simp [hd]
  have e2 : swp d (m + 1) m = (d.setIfInBounds (m + 1) d[m]!).setIfInBounds m d[m + 1]!:=rfl
  have t1 : ((m : Int) + 1).toNat = m + 1:=by omega
  have t2 : ((m : Int) + 1 - 1).toNat = m:=by omega
  have ih2:=ih m (by omega) ((d.setIfInBounds (m + 1) d[m]!).setIfInBounds m d[m + 1]!) n (by omega) (by simp [hd]) (AaQ _)
  rw [e2] at hK1 hK2
  clear ih e2
  generalize d[m + 1]! = u at *
  generalize d[m]! = w at *
  simp (contextual:=true) (maxSteps:=2000000) (disch:=omega) [Ae,Af,Ac,Ag,-Int.not_lt,-Int.not_le,-Nat.not_lt,-Nat.not_le,-List.map_take,Ad,Ab,AM,Aw,R.ld,R.st,R.all1,R.len,-AL,-AN,Aa,hm1,r1,r2,cl (q _),e,w1,w2,s1,hd,t1,t2]
  refine ⟨fun l=>?_,fun l=>?_⟩
  ·rw [AaN (by simp [l])] at hK2
   simpa using hK2 (m + 1) b0 h0
  ·rw [AaL (by simp [l])] at hK1 hK2
   simpa using ih2 hK1 hK2
include W hC in
theorem Rb (a b : Nat) (x9 x10 : V) (hb : b <= n) (hn : n <= 1000000000) (K : K) : ∀ (m j : Nat) (d : Array α) (b0 : Nat),b - j = m -> 1 <= j -> d.size = n -> b0 <= n ->
  (∀ (j2 : Nat) (b1 : Nat),b1 <= n -> At' G (.ex 6) ⟨[(0,.sl A.length n 3 0 n lim),(1,.m (.i .i64 a)),(2,.m (.i .i64 b)),(3,.m (.fn k [])),(9,x9),(10,x10),(12,.m (.i .i64 j2)),(109,.m (.b false))],[],⟨[],A ++ .cs ty 3 (AT R (shiftUp lt b j d)) b1 false :: C⟩⟩ K) ->
  (∀ (j2 : Nat) (b1 : Nat),b1 <= n -> At' G (.ex 6) ⟨[(0,.sl A.length n 3 0 n lim),(1,.m (.i .i64 a)),(2,.m (.i .i64 b)),(3,.m (.fn k [])),(9,x9),(10,x10),(12,.m (.i .i64 j2)),(109,.m (.b true)),(124,.m (.b true))],[],⟨[],A ++ .cs ty 3 (AT R (shiftUp lt b j d)) b1 false :: C⟩⟩ K) ->
  Run G c142_B2 (S142_2 (.sl A.length n 3 0 n lim) (.m (.i .i64 a)) (.m (.i .i64 b)) (.m (.fn k [])) x9 x10 (.m (.i .i64 j)) [] (A ++ .cs ty 3 (AT R d) b0 false :: C)) (.seq c142_L2 K):=by
 refine Bd (fun m : Nat=>m) fun m ih j d b0 hm hj hd h0 hK1 hK2=>?_
 unfold c142_B2
 rw [shiftUp] at hK1 hK2
 by_cases hjb : j < b
 ·rw [AaN hjb] at hK1 hK2
  obtain ⟨m,rfl⟩ : ∃ m,j = m + 1:=⟨j - 1,by omega⟩
  rw [show m + 1 - 1 = m from rfl] at hK1 hK2
  have hjb' : (m : Int) + 1 < b:=by omega
  have r1:=R.rd d (i:=m + 1) (by omega)
  have r2:=R.rd d (i:=m) (by omega)
  have q:=fun row=>W.run d[m + 1]! d[m]! row C hC
  have e:=W.neg d[m + 1]! d[m]!
  have w1:=R.wr d (i:=m + 1) d[m]! (by omega)
  have w2:=R.wr (d.setIfInBounds (m + 1) d[m]!) (i:=m) d[m + 1]! (by simp; omega)
  have s1 : (d.setIfInBounds (m + 1) d[m]!).size = n:=by simp [hd]
  have e2 : swp d (m + 1) m = (d.setIfInBounds (m + 1) d[m]!).setIfInBounds m d[m + 1]!:=rfl
  have t1 : ((m : Int) + 1).toNat = m + 1:=by omega
  have t2 : ((m : Int) + 1 - 1).toNat = m:=by omega
  have ih2:=ih (b - (m + 1 + 1)) (by omega) (m + 1 + 1) ((d.setIfInBounds (m + 1) d[m]!).setIfInBounds m d[m + 1]!) n rfl (by omega) (by simp [hd]) (AaQ _)
  rw [e2] at hK1 hK2
  clear ih e2
  generalize d[m + 1]! = u at *
  generalize d[m]! = w at *
  simp (contextual:=true) (maxSteps:=2000000) (disch:=omega) [Ae,Af,Ac,Ag,-Int.not_lt,-Int.not_le,-Nat.not_lt,-Nat.not_le,-List.map_take,Ad,Ab,AM,Aw,R.ld,R.st,R.all1,R.len,-AL,-AN,Aa,hjb',r1,r2,cl (q _),e,w1,w2,s1,hd,t1,t2]
  refine ⟨fun l=>?_,fun l=>?_⟩
  ·rw [AaN (by simp [l])] at hK2
   simpa using hK2 (m + 1) b0 h0
  ·rw [AaL (by simp [l])] at hK1 hK2
   simpa using ih2 hK1 hK2
 ·rw [AaL hjb] at hK1
  have hjb' : ¬ (j : Int) < b:=by omega
  simp (contextual:=true) (maxSteps:=2000000) (disch:=omega) [Ae,Af,Ac,Ag,-Int.not_lt,-Int.not_le,-Nat.not_lt,-Nat.not_le,-List.map_take,Ad,Ab,hjb']
  exact hK1 j b0 h0
theorem Ey (lt : α -> α -> Bool) : ∀ (j : Nat) (d : Array α),(shiftDown lt j d).size = d.size
 | 0,_=>rfl
 | j + 1,d=>by
  rw [shiftDown]
  split
  ·rfl
  ·rw [Ey lt j,Si]
theorem BN (lt : α -> α -> Bool) (b j : Nat) (d : Array α) : (shiftUp lt b j d).size = d.size:=by
 fun_induction shiftUp lt b j d <;> simp_all [swp]
set_option maxHeartbeats 2000000 in
include W hC in
theorem pis_w (d : Array α) (a b b0 : Nat) (hab : a < b) (hb : b <= n) (hd : d.size = n) (h0 : b0 <= n) (hn : n <= 1000000000) (Q : V -> Hp -> Prop)
  (hQ : ∀ b1,b1 <= n -> Q (.m (.b (partialInsertionSort lt d a b).2)) (A ++ .cs ty 3 (AT R (partialInsertionSort lt d a b).1) b1 false :: C)) :
  Ret G 142 [.sl A.length n 3 0 n lim,.m (.i .i64 a),.m (.i .i64 b),.m (.fn k [])] (A ++ .cs ty 3 (AT R d) b0 false :: C) Q:=by
 refine Cs mono rfl rfl rfl rfl rfl ?_
 unfold partialInsertionSort at hQ
 simp (contextual:=true) (maxSteps:=2000000) (disch:=omega) [Ae,Af,Ac,Ag,-Int.not_lt,-Int.not_le,-Nat.not_lt,-Nat.not_le,-List.map_take,Ad,Ab,Aa]
 refine (?key : ∀ (s i : Nat) (d : Array α) (b0 : Nat),s <= 5 -> a + 1 <= i -> i <= b -> d.size = n -> b0 <= n -> (∀ b1,b1 <= n -> Q (.m (.b (partialIns lt a b s i d).2)) (A ++ .cs ty 3 (AT R (partialIns lt a b s i d).1) b1 false :: C)) -> Run G c142_B3 (S142_3 (.sl A.length n 3 0 n lim) (.m (.i .i64 a)) (.m (.i .i64 b)) (.m (.fn k [])) (.m (.i .i64 i)) (.m (.i .i64 ((5 - s : Nat) : Int))) [] (A ++ .cs ty 3 (AT R d) b0 false :: C)) _) 5 (a + 1) d b0 (AaQ _) (AaQ _) hab hd h0 hQ
 clear hQ hd h0 d b0
 intro s
 induction s with
 | zero =>
  intro i d b0 hs hi hib hd h0 hQ
  unfold c142_B3
  rw [partialIns] at hQ
  simp (contextual:=true) (maxSteps:=2000000) (disch:=omega) [Ae,Af,Ac,Ag,-Int.not_lt,-Int.not_le,-Nat.not_lt,-Nat.not_le,-List.map_take,Ad,Ab]
  exact hQ b0 h0
 | succ s ih =>
  intro i d b0 hs hi hib hd h0 hQ
  rw [partialIns_succ] at hQ
  have hs5 : ((5 - (s + 1) : Nat) : Int) < 5:=by omega
  have hs6 : ((5 - (s + 1) : Nat) : Int) + 1 = ((5 - s : Nat) : Int):=by omega
  generalize ((5 - (s + 1) : Nat) : Int) = x10 at hs5 hs6 ⊢
  have hx10 : -1 <= x10:=by omega
  have u:=IM lt d b i
  unfold c142_B3
  simp (contextual:=true) (maxSteps:=2000000) (disch:=omega) [Ae,Af,Ac,Ag,-Int.not_lt,-Int.not_le,-Nat.not_lt,-Nat.not_le,-List.map_take,Ad,Ab,hs5]
  refine TE W hC d a b b0 _ hb hd h0 hn _ i (by omega) ?_
  generalize hi2 : scanSorted lt d b i = i2 at u hQ ⊢
  have u2:=u.2 hib
  by_cases hib2 : i2 = b
  ·have hib3 : (i2 : Int) = b:=by omega
   simp only [AaN hib2] at hQ
   simp (contextual:=true) (maxSteps:=2000000) (disch:=omega) [Ae,Af,Ac,Ag,-Int.not_lt,-Int.not_le,-Nat.not_lt,-Nat.not_le,-List.map_take,Ad,Ab,hib3]
   exact hQ b0 h0
  ·have hib3 : ¬ (i2 : Int) = b:=by omega
   have hib4 : ¬ i2 = b:=hib2
   simp only [AaL hib2] at hQ
   by_cases h50 : b - a < 50
   ·have h50' : (b : Int) - a < 50:=by omega
    simp only [AaN h50] at hQ
    simp (contextual:=true) (maxSteps:=2000000) (disch:=omega) [Ae,Af,Ac,Ag,-Int.not_lt,-Int.not_le,-Nat.not_lt,-Nat.not_le,-List.map_take,Ad,Ab,Aa,hib3,hib4,h50']
    exact hQ b0 h0
   have h50' : ¬ (b : Int) - a < 50:=by omega
   simp only [AaL h50] at hQ
   obtain ⟨m,rfl⟩ : ∃ m,i2 = m + 1:=⟨i2 - 1,by omega⟩
   have r1:=R.rd d (i:=m + 1) (by omega)
   have r2:=R.rd d (i:=m) (by omega)
   have w1:=R.wr d (i:=m + 1) d[m]! (by omega)
   have w2:=R.wr (d.setIfInBounds (m + 1) d[m]!) (i:=m) d[m + 1]! (by simp; omega)
   have s1 : (d.setIfInBounds (m + 1) d[m]!).size = n:=by simp [hd]
   have e2 : swp d (m + 1) m = (d.setIfInBounds (m + 1) d[m]!).setIfInBounds m d[m + 1]!:=rfl
   have t1 : ((m : Int) + 1).toNat = m + 1:=by omega
   have t2 : ((m : Int) + 1 - 1).toNat = m:=by omega
   simp only [Nat.add_sub_cancel,e2] at hQ
   have hsz : ((d.setIfInBounds (m + 1) d[m]!).setIfInBounds m d[m + 1]!).size = n:=by simp [hd]
   have ih2:=fun dd bb=>ih (m + 1) dd bb (by omega) (by omega) (by omega)
   clear e2 ih hi2
   generalize d[m + 1]! = u at *
   generalize d[m]! = w at *
   have hib5 : ¬ (m : Int) + 1 = b:=by omega
   by_cases h2 : m + 1 - a >= 2
   ·have h2' : (2 : Int) <= (m : Int) + 1 - a:=by omega
    have fd : fixDown lt a (m + 1) ((d.setIfInBounds (m + 1) w).setIfInBounds m u) = shiftDown lt m ((d.setIfInBounds (m + 1) w).setIfInBounds m u):=by unfold fixDown; rw [AaN h2]; rfl
    rw [fd] at hQ
    have hD : (shiftDown lt m ((d.setIfInBounds (m + 1) w).setIfInBounds m u)).size = n:=by rw [Ey]; exact hsz
    simp (contextual:=true) (maxSteps:=2000000) (disch:=omega) [Ae,Af,Ac,Ag,-Int.not_lt,-Int.not_le,-Nat.not_lt,-Nat.not_le,-List.map_take,Ad,Ab,AM,Aw,R.ld,R.st,R.all1,R.len,-AL,-AN,Aa,hib5,h50',h2',r1,r2,w1,w2,s1,hd,t1,t2]
    refine TF W hC a b _ _ hb hn _ m ((d.setIfInBounds (m + 1) w).setIfInBounds m u) n (by omega) hsz (AaQ _) (fun j2 b2 hb2=>?_) (fun j2 b2 hb2=>?_)
    ·clear r1 r2 w1 w2 s1
     by_cases h3 : b - (m + 1) >= 2
     ·have h3' : (2 : Int) <= (b : Int) - ((m : Int) + 1):=by omega
      have fu : fixUp lt b (m + 1) (shiftDown lt m ((d.setIfInBounds (m + 1) w).setIfInBounds m u)) = shiftUp lt b (m + 1 + 1) (shiftDown lt m ((d.setIfInBounds (m + 1) w).setIfInBounds m u)):=by unfold fixUp; rw [AaN h3]
      rw [fu] at hQ
      simp (contextual:=true) (maxSteps:=2000000) (disch:=omega) [Ae,Af,Ac,Ag,-Int.not_lt,-Int.not_le,-Nat.not_lt,-Nat.not_le,-List.map_take,Ad,Ab,Aa,h3']
      refine Rb W hC a b _ _ hb hn _ _ (m + 1 + 1) (shiftDown lt m ((d.setIfInBounds (m + 1) w).setIfInBounds m u)) b2 rfl (by omega) hD hb2 (fun j2 b2 hb2=>?_) (fun j2 b2 hb2=>?_)
      ·have:=ih2 (shiftUp lt b (m + 1 + 1) (shiftDown lt m ((d.setIfInBounds (m + 1) w).setIfInBounds m u))) b2 (by rw [BN]; exact hD) hb2 hQ
       simp (contextual:=true) (maxSteps:=2000000) (disch:=omega) [Ae,Af,Ac,Ag,-Int.not_lt,-Int.not_le,-Nat.not_lt,-Nat.not_le,-List.map_take,Ad,Ab,Aa,hs6]
       exact this
      ·have:=ih2 (shiftUp lt b (m + 1 + 1) (shiftDown lt m ((d.setIfInBounds (m + 1) w).setIfInBounds m u))) b2 (by rw [BN]; exact hD) hb2 hQ
       simp (contextual:=true) (maxSteps:=2000000) (disch:=omega) [Ae,Af,Ac,Ag,-Int.not_lt,-Int.not_le,-Nat.not_lt,-Nat.not_le,-List.map_take,Ad,Ab,Aa,hs6]
       exact this
     ·have h3' : ¬ (2 : Int) <= (b : Int) - ((m : Int) + 1):=by omega
      have fu : fixUp lt b (m + 1) (shiftDown lt m ((d.setIfInBounds (m + 1) w).setIfInBounds m u)) = shiftDown lt m ((d.setIfInBounds (m + 1) w).setIfInBounds m u):=by unfold fixUp; rw [AaL h3]
      rw [fu] at hQ
      have:=ih2 (shiftDown lt m ((d.setIfInBounds (m + 1) w).setIfInBounds m u)) b2 hD hb2 hQ
      simp (contextual:=true) (maxSteps:=2000000) (disch:=omega) [Ae,Af,Ac,Ag,-Int.not_lt,-Int.not_le,-Nat.not_lt,-Nat.not_le,-List.map_take,Ad,Ab,Aa,h3',hs6]
      exact this
    ·clear r1 r2 w1 w2 s1
     by_cases h3 : b - (m + 1) >= 2
     ·have h3' : (2 : Int) <= (b : Int) - ((m : Int) + 1):=by omega
      have fu : fixUp lt b (m + 1) (shiftDown lt m ((d.setIfInBounds (m + 1) w).setIfInBounds m u)) = shiftUp lt b (m + 1 + 1) (shiftDown lt m ((d.setIfInBounds (m + 1) w).setIfInBounds m u)):=by unfold fixUp; rw [AaN h3]
      rw [fu] at hQ
      simp (contextual:=true) (maxSteps:=2000000) (disch:=omega) [Ae,Af,Ac,Ag,-Int.not_lt,-Int.not_le,-Nat.not_lt,-Nat.not_le,-List.map_take,Ad,Ab,Aa,h3']
      refine Rb W hC a b _ _ hb hn _ _ (m + 1 + 1) (shiftDown lt m ((d.setIfInBounds (m + 1) w).setIfInBounds m u)) b2 rfl (by omega) hD hb2 (fun j2 b2 hb2=>?_) (fun j2 b2 hb2=>?_)
      ·have:=ih2 (shiftUp lt b (m + 1 + 1) (shiftDown lt m ((d.setIfInBounds (m + 1) w).setIfInBounds m u))) b2 (by rw [BN]; exact hD) hb2 hQ
       simp (contextual:=true) (maxSteps:=2000000) (disch:=omega) [Ae,Af,Ac,Ag,-Int.not_lt,-Int.not_le,-Nat.not_lt,-Nat.not_le,-List.map_take,Ad,Ab,Aa,hs6]
       exact this
      ·have:=ih2 (shiftUp lt b (m + 1 + 1) (shiftDown lt m ((d.setIfInBounds (m + 1) w).setIfInBounds m u))) b2 (by rw [BN]; exact hD) hb2 hQ
       simp (contextual:=true) (maxSteps:=2000000) (disch:=omega) [Ae,Af,Ac,Ag,-Int.not_lt,-Int.not_le,-Nat.not_lt,-Nat.not_le,-List.map_take,Ad,Ab,Aa,hs6]
       exact this
     ·have h3' : ¬ (2 : Int) <= (b : Int) - ((m : Int) + 1):=by omega
      have fu : fixUp lt b (m + 1) (shiftDown lt m ((d.setIfInBounds (m + 1) w).setIfInBounds m u)) = shiftDown lt m ((d.setIfInBounds (m + 1) w).setIfInBounds m u):=by unfold fixUp; rw [AaL h3]
      rw [fu] at hQ
      have:=ih2 (shiftDown lt m ((d.setIfInBounds (m + 1) w).setIfInBounds m u)) b2 hD hb2 hQ
      simp (contextual:=true) (maxSteps:=2000000) (disch:=omega) [Ae,Af,Ac,Ag,-Int.not_lt,-Int.not_le,-Nat.not_lt,-Nat.not_le,-List.map_take,Ad,Ab,Aa,h3',hs6]
      exact this
   ·have h2' : ¬ (2 : Int) <= (m : Int) + 1 - a:=by omega
    have fd : fixDown lt a (m + 1) ((d.setIfInBounds (m + 1) w).setIfInBounds m u) = ((d.setIfInBounds (m + 1) w).setIfInBounds m u):=by unfold fixDown; rw [AaL h2]
    rw [fd] at hQ
    by_cases h3 : b - (m + 1) >= 2
    ·have h3' : (2 : Int) <= (b : Int) - ((m : Int) + 1):=by omega
     have fu : fixUp lt b (m + 1) (((d.setIfInBounds (m + 1) w).setIfInBounds m u)) = shiftUp lt b (m + 1 + 1) (((d.setIfInBounds (m + 1) w).setIfInBounds m u)):=by unfold fixUp; rw [AaN h3]
     rw [fu] at hQ
     simp (contextual:=true) (maxSteps:=2000000) (disch:=omega) [Ae,Af,Ac,Ag,-Int.not_lt,-Int.not_le,-Nat.not_lt,-Nat.not_le,-List.map_take,Ad,Ab,Aa,h3',AM,Aw,R.ld,R.st,R.all1,R.len,-AL,-AN,hib5,h50',h2',r1,r2,w1,w2,s1,hd,t1,t2]
     refine Rb W hC a b _ _ hb hn _ _ (m + 1 + 1) (((d.setIfInBounds (m + 1) w).setIfInBounds m u)) n rfl (by omega) hsz (AaQ _) (fun j2 b2 hb2=>?_) (fun j2 b2 hb2=>?_)
     ·have:=ih2 (shiftUp lt b (m + 1 + 1) (((d.setIfInBounds (m + 1) w).setIfInBounds m u))) b2 (by rw [BN]; exact hsz) hb2 hQ
      simp (contextual:=true) (maxSteps:=2000000) (disch:=omega) [Ae,Af,Ac,Ag,-Int.not_lt,-Int.not_le,-Nat.not_lt,-Nat.not_le,-List.map_take,Ad,Ab,Aa,hs6]
      exact this
     ·have:=ih2 (shiftUp lt b (m + 1 + 1) (((d.setIfInBounds (m + 1) w).setIfInBounds m u))) b2 (by rw [BN]; exact hsz) hb2 hQ
      simp (contextual:=true) (maxSteps:=2000000) (disch:=omega) [Ae,Af,Ac,Ag,-Int.not_lt,-Int.not_le,-Nat.not_lt,-Nat.not_le,-List.map_take,Ad,Ab,Aa,hs6]
      exact this
    ·have h3' : ¬ (2 : Int) <= (b : Int) - ((m : Int) + 1):=by omega
     have fu : fixUp lt b (m + 1) (((d.setIfInBounds (m + 1) w).setIfInBounds m u)) = ((d.setIfInBounds (m + 1) w).setIfInBounds m u):=by unfold fixUp; rw [AaL h3]
     rw [fu] at hQ
     have:=ih2 (((d.setIfInBounds (m + 1) w).setIfInBounds m u)) n hsz (AaQ _) hQ
     simp (contextual:=true) (maxSteps:=2000000) (disch:=omega) [Ae,Af,Ac,Ag,-Int.not_lt,-Int.not_le,-Nat.not_lt,-Nat.not_le,-List.map_take,Ad,Ab,Aa,h3',hs6,AM,Aw,R.ld,R.st,R.all1,R.len,-AL,-AN,hib5,h50',h2',r1,r2,w1,w2,s1,hd,t1,t2]
     first
      | exact this
      | omega
end
end Go.Mx.Tryz
set_option maxRecDepth 100000
namespace Go.Mx.Tryz
open Go.Sort
section
variable {α : Type} [Inhabited α] {R : Rw α 3 true} {A C : Hp} {k : Nat} {lt : α -> α -> Bool} (W : Cmp R A k lt) (hC : W.ok C) {ty n : Nat} {lim : Bool}
abbrev swR (s : Int) (b : Nat) : Row:=.cs 3 1 [[.m (.i .i64 s)]] b false
theorem Hr (A : Hp) (r : Row) (C : Hp) (x : Row) : nth (A ++ r :: (C ++ [x])) (A.length + (C.length + 1)) = some x:=by
 rw [Bb,AbK (by omega)]
 simp [AbK]
theorem Hi (A : Hp) (r : Row) (C : Hp) (x y : Row) : Bw (A ++ r :: (C ++ [x])) (A.length + (C.length + 1)) y = some (A ++ r :: (C ++ [y])):=by
 rw [BX _ _ _ (by simp)]
 congr 1
 rw [List.set_append_right _ _ (by omega)]
 have e : A.length + (C.length + 1) - A.length = C.length + 1:=by omega
 rw [e]
 simp [List.set_append_right]
include W hC in
theorem Rq (d : Array α) (a b b0 sb : Nat) (s : Int) (ha : a < n) (hb : b < n) (hd : d.size = n) (h0 : b0 <= n) (hn : n <= 1000000000) (hsb : sb <= 1) (Q : V -> Hp -> Prop)
  (hQ : ∀ (x y : Nat) (s' : Int) (sb' : Nat),(x = a /\ y = b \/ x = b /\ y = a) -> sb' <= 1 -> Q (.tu [.m (.i .i64 x),.m (.i .i64 y)]) (A ++ .cs ty 3 (AT R d) b0 false :: (C ++ [swR s' sb']))) :
  Ret G 162 [.sl A.length n 3 0 n lim,.m (.i .i64 a),.m (.i .i64 b),.pt (A.length + (C.length + 1)) 1 0 0,.m (.fn k [])] (A ++ .cs ty 3 (AT R d) b0 false :: (C ++ [swR s sb])) Q:=by
 refine Cs mono rfl rfl rfl rfl rfl ?_
 have r1:=R.rd d (i:=a) (by omega)
 have r2:=R.rd d (i:=b) (by omega)
 have q:=fun row=>W.run d[b]! d[a]! row (C ++ [swR s sb]) (W.ext _ _ hC)
 have e:=W.neg d[b]! d[a]!
 generalize d[a]! = u at *
 generalize d[b]! = w at *
 simp (contextual:=true) (maxSteps:=2000000) (disch:=omega) [Ae,Af,Ac,Ag,-Int.not_lt,-Int.not_le,-Nat.not_lt,-Nat.not_le,-List.map_take,Ad,Ab,AM,Aw,R.ld,R.st,R.all1,R.len,-AL,-AN,r1,r2,cl (q _),e,hd,Hr,Hi,hsb]
 refine ⟨fun l=>?_,fun l=>?_⟩
 ·exact hQ b a _ 1 (.inr ⟨rfl,rfl⟩) (AaQ _)
 ·exact hQ a b s sb (.inl ⟨rfl,rfl⟩) hsb
include W hC in
theorem WW (d : Array α) (a b c b0 sb : Nat) (s : Int) (ha : a < n) (hb : b < n) (hc : c < n) (hd : d.size = n) (h0 : b0 <= n) (hn : n <= 1000000000) (hsb : sb <= 1) (Q : V -> Hp -> Prop)
  (hQ : ∀ (x : Nat) (s' : Int) (sb' : Nat),(x = a \/ x = b \/ x = c) -> sb' <= 1 -> Q (.m (.i .i64 x)) (A ++ .cs ty 3 (AT R d) b0 false :: (C ++ [swR s' sb']))) :
  Ret G 157 [.sl A.length n 3 0 n lim,.m (.i .i64 a),.m (.i .i64 b),.m (.i .i64 c),.pt (A.length + (C.length + 1)) 1 0 0,.m (.fn k [])] (A ++ .cs ty 3 (AT R d) b0 false :: (C ++ [swR s sb])) Q:=by
 refine Cs mono rfl rfl rfl rfl rfl ?_
 simp (contextual:=true) (maxSteps:=2000000) (disch:=omega) [Ae,Af,Ac,Ag,-Int.not_lt,-Int.not_le,-Nat.not_lt,-Nat.not_le,-List.map_take,Ad,Ab]
 rw [As]
 refine Rq W hC d a b b0 sb s ha hb hd h0 hn hsb _ fun x1 y1 s1 sb1 h1 hs1=>?_
 simp (contextual:=true) (maxSteps:=2000000) (disch:=omega) [Ae,Af,Ac,Ag,-Int.not_lt,-Int.not_le,-Nat.not_lt,-Nat.not_le,-List.map_take,Ad,Ab]
 rw [As]
 refine Rq W hC d y1 c b0 sb1 s1 (by omega) hc hd h0 hn hs1 _ fun y2 z2 s2 sb2 h2 hs2=>?_
 simp (contextual:=true) (maxSteps:=2000000) (disch:=omega) [Ae,Af,Ac,Ag,-Int.not_lt,-Int.not_le,-Nat.not_lt,-Nat.not_le,-List.map_take,Ad,Ab]
 rw [As]
 refine Rq W hC d x1 y2 b0 sb2 s2 (by omega) (by omega) hd h0 hn hs2 _ fun x3 y3 s3 sb3 h3 hs3=>?_
 simp (contextual:=true) (maxSteps:=2000000) (disch:=omega) [Ae,Af,Ac,Ag,-Int.not_lt,-Int.not_le,-Nat.not_lt,-Nat.not_le,-List.map_take,Ad,Ab]
 exact hQ y3 s3 sb3 (by omega) hs3
include W hC in
theorem Xo (d : Array α) (a b0 sb : Nat) (s : Int) (ha1 : 1 <= a) (ha : a + 1 < n) (hd : d.size = n) (h0 : b0 <= n) (hn : n <= 1000000000) (hsb : sb <= 1) (Q : V -> Hp -> Prop)
  (hQ : ∀ (x : Nat) (s' : Int) (sb' : Nat),(a - 1 <= x /\ x <= a + 1) -> sb' <= 1 -> Q (.m (.i .i64 x)) (A ++ .cs ty 3 (AT R d) b0 false :: (C ++ [swR s' sb']))) :
  Ret G 156 [.sl A.length n 3 0 n lim,.m (.i .i64 a),.pt (A.length + (C.length + 1)) 1 0 0,.m (.fn k [])] (A ++ .cs ty 3 (AT R d) b0 false :: (C ++ [swR s sb])) Q:=by
 refine Cs mono rfl rfl rfl rfl rfl ?_
 obtain ⟨m,rfl⟩ : ∃ m,a = m + 1:=⟨a - 1,by omega⟩
 have t1 : (m : Int) + 1 - 1 = m:=by omega
 simp (contextual:=true) (maxSteps:=2000000) (disch:=omega) [Ae,Af,Ac,Ag,-Int.not_lt,-Int.not_le,-Nat.not_lt,-Nat.not_le,-List.map_take,Ad,Ab,Aa,t1]
 rw [As]
 refine WW W hC d m (m + 1) (m + 1 + 1) b0 sb s (by omega) (by omega) (by omega) hd h0 hn hsb _ fun x s1 sb1 h1 hs1=>?_
 simp (contextual:=true) (maxSteps:=2000000) (disch:=omega) [Ae,Af,Ac,Ag,-Int.not_lt,-Int.not_le,-Nat.not_lt,-Nat.not_le,-List.map_take,Ad,Ab]
 exact hQ x s1 sb1 (by omega) hs1
include W hC in
theorem piv_w (d : Array α) (a b b0 : Nat) (hab : a + 8 <= b) (hb : b <= n) (hd : d.size = n) (h0 : b0 <= n) (hn : n <= 1000000000) (Q : V -> Hp -> Prop)
  (hQ : ∀ (x : Nat) (h : Int) (X : Hp),a <= x -> x < b -> Q (.tu [.m (.i .i64 x),.m (.i .i64 h)]) (A ++ .cs ty 3 (AT R d) b0 false :: (C ++ X))) :
  Ret G 140 [.sl A.length n 3 0 n lim,.m (.i .i64 a),.m (.i .i64 b),.m (.fn k [])] (A ++ .cs ty 3 (AT R d) b0 false :: C) Q:=by
 refine Cs mono rfl rfl rfl rfl rfl ?_
 have e1 : ((b : Int) - a).tdiv 4 = (((b - a) / 4 : Nat) : Int):=by
  rw [show (b : Int) - a = ((b - a : Nat) : Int) by omega]; rfl
 generalize hl : (b - a) / 4 = l at e1
 have h8 : (8 : Int) <= (b : Int) - a:=by omega
 have c1 : (a : Int) + l = ((a + l : Nat) : Int):=by omega
 have c2 : (a : Int) + (l : Int) * 2 = ((a + l * 2 : Nat) : Int):=by omega
 have c3 : (a : Int) + (l : Int) * 3 = ((a + l * 3 : Nat) : Int):=by omega
 by_cases h50 : (50 : Int) <= (b : Int) - a
 ·simp (contextual:=true) (maxSteps:=2000000) (disch:=omega) [Ae,Af,Ac,Ag,-Int.not_lt,-Int.not_le,-Nat.not_lt,-Nat.not_le,-List.map_take,Ad,Ab,Aa,e1,h8,h50]
  rw [As,c1]
  refine Xo W hC d (a + l) b0 0 0 (by omega) (by omega) hd h0 hn (by omega) _ fun x1 s1 sb1 h1 hs1=>?_
  simp (contextual:=true) (maxSteps:=2000000) (disch:=omega) [Ae,Af,Ac,Ag,-Int.not_lt,-Int.not_le,-Nat.not_lt,-Nat.not_le,-List.map_take,Ad,Ab]
  rw [As,c2]
  refine Xo W hC d (a + l * 2) b0 sb1 s1 (by omega) (by omega) hd h0 hn hs1 _ fun x2 s2 sb2 h2 hs2=>?_
  simp (contextual:=true) (maxSteps:=2000000) (disch:=omega) [Ae,Af,Ac,Ag,-Int.not_lt,-Int.not_le,-Nat.not_lt,-Nat.not_le,-List.map_take,Ad,Ab]
  rw [As,c3]
  refine Xo W hC d (a + l * 3) b0 sb2 s2 (by omega) (by omega) hd h0 hn hs2 _ fun x3 s3 sb3 h3 hs3=>?_
  simp (contextual:=true) (maxSteps:=2000000) (disch:=omega) [Ae,Af,Ac,Ag,-Int.not_lt,-Int.not_le,-Nat.not_lt,-Nat.not_le,-List.map_take,Ad,Ab]
  rw [As]
  refine WW W hC d x1 x2 x3 b0 sb3 s3 (by omega) (by omega) (by omega) hd h0 hn hs3 _ fun x s' sb' hx hs=>?_
  simp (contextual:=true) (maxSteps:=2000000) (disch:=omega) [Ae,Af,Ac,Ag,-Int.not_lt,-Int.not_le,-Nat.not_lt,-Nat.not_le,-List.map_take,Ad,Ab,Hr]
  exact ⟨fun _=>hQ x _ [_] (by omega) (by omega),fun _=>⟨fun _=>hQ x _ [_] (by omega) (by omega),fun _=>hQ x _ [_] (by omega) (by omega)⟩⟩
 ·simp (contextual:=true) (maxSteps:=2000000) (disch:=omega) [Ae,Af,Ac,Ag,-Int.not_lt,-Int.not_le,-Nat.not_lt,-Nat.not_le,-List.map_take,Ad,Ab,Aa,e1,h8,h50]
  rw [As,c1,c2,c3]
  refine WW W hC d (a + l) (a + l * 2) (a + l * 3) b0 0 0 (by omega) (by omega) (by omega) hd h0 hn (by omega) _ fun x s' sb' hx hs=>?_
  simp (contextual:=true) (maxSteps:=2000000) (disch:=omega) [Ae,Af,Ac,Ag,-Int.not_lt,-Int.not_le,-Nat.not_lt,-Nat.not_le,-List.map_take,Ad,Ab,Hr]
  exact ⟨fun _=>hQ x _ [_] (by omega) (by omega),fun _=>⟨fun _=>hQ x _ [_] (by omega) (by omega),fun _=>hQ x _ [_] (by omega) (by omega)⟩⟩
end
end Go.Mx.Tryz
set_option maxRecDepth 100000
namespace Go.Mx.Tryz
open Go.Sort Go.Lib
def x64 (x y : Int) : Int:=wr .u64 (Int.ofNat (Nat.xor (Fu .u64 x) (Fu .u64 y)))
theorem Uc (x y : Int) : DH .xor (.m (.i .u64 x)) (.m (.i .u64 y)) = some (.m (.i .u64 (x64 x y))):=by simp [DH,arX,vi,x64]
theorem Wu (x y : Int) : ∃ n : Nat,n < 18446744073709551616 /\ x64 x y = n:=by
 refine ⟨(Nat.xor (Fu .u64 x) (Fu .u64 y)) % 18446744073709551616,Nat.mod_lt _ (by decide),?_⟩
 unfold x64
 generalize Nat.xor (Fu .u64 x) (Fu .u64 y) = z
 rw [Ga]
 simp [IntKind.wrap,IntKind.signed,IntKind.bits]
theorem Aaw (y k : Nat) (hy : y < 18446744073709551616) (hk : k <= 32) : DH .and (.m (.i .u64 y)) (.m (.i .u64 ((2 ^ k - 1 : Nat) : Int))) = some (.m (.i .u64 ((y % 2 ^ k : Nat) : Int))):=by
 have hp : 2 ^ k <= 4294967296:=Nat.pow_le_pow_right (n:=2) (by decide) hk
 have h0 : 0 < 2 ^ k:=Nat.pow_pos (by decide)
 have h1 : Fu .u64 (y : Int) = y:=Nat.mod_eq_of_lt hy
 have h2 : Fu .u64 ((2 ^ k - 1 : Nat) : Int) = 2 ^ k - 1:=Nat.mod_eq_of_lt (by show 2 ^ k - 1 < 18446744073709551616; omega)
 rw [Uz,h1,h2]
 have h3 : Nat.land y (2 ^ k - 1) = y % 2 ^ k:=Nat.and_two_pow_sub_one_eq_mod y k
 have h4 : y % 2 ^ k < 2 ^ k:=Nat.mod_lt _ h0
 rw [h3,show Int.ofNat (y % 2 ^ k) = ((y % 2 ^ k : Nat) : Int) from rfl,HB (by omega) (by omega)]
theorem lenG (u : Nat) (h : u < 18446744073709551616) (H : Hp) : Gives G 130 [.m (.i .u64 u)] H (.m (.i .i64 (Lib.bitLen u))) H:=by
 refine Ak rfl rfl rfl rfl rfl ?_
 simp (contextual:=true) (maxSteps:=2000000) (disch:=omega) [Ae,Af,Ac,Ag,-Int.not_lt,-Int.not_le,-Nat.not_lt,-Nat.not_le,-List.map_take,cl (len64 u h [])]
theorem Nc (u : Nat) (h1 : 1 <= u) (h : u <= 1000000000) : Lib.bitLen u <= 30 /\ 2 ^ Lib.bitLen u <= 2 * u:=by
 have hk : Lib.bitLen u <= 30:=bitLen_le u 30 (by decide) (by omega)
 obtain ⟨b1,b2,b3⟩:=bitLenAux_bounds 64 u (by omega) (by omega)
 refine ⟨hk,?_⟩
 have e : bitLenAux 64 u = Lib.bitLen u:=rfl
 rw [e] at b1 b2
 obtain ⟨j,hj⟩ : ∃ j,Lib.bitLen u = j + 1:=⟨Lib.bitLen u - 1,by omega⟩
 rw [hj,Nat.pow_succ]
 rw [hj,Nat.add_sub_cancel] at b2
 omega
theorem npow (u : Nat) (h1 : 1 <= u) (h : u <= 1000000000) (H : Hp) : Gives G 154 [.m (.i .i64 u)] H (.m (.i .u64 ((2 ^ Lib.bitLen u : Nat) : Int))) H:=by
 refine Ak rfl rfl rfl rfl rfl ?_
 obtain ⟨p1,p2⟩:=Nc u h1 h
 have t : min (Lib.bitLen u) 64 = Lib.bitLen u:=by omega
 have h0 : 0 < 2 ^ Lib.bitLen u:=Nat.pow_pos (by decide)
 have hp : ((2 ^ Lib.bitLen u : Nat) : Int) <= 2 * u:=by omega
 have hp0 : (0 : Int) <= ((2 ^ Lib.bitLen u : Nat) : Int):=by omega
 generalize he : (2 ^ Lib.bitLen u : Nat) = m at hp hp0 ⊢
 simp (contextual:=true) (maxSteps:=2000000) (disch:=omega) [Ae,Af,Ac,Ag,-Int.not_lt,-Int.not_le,-Nat.not_lt,-Nat.not_le,-List.map_take,cl (lenG u (by omega) []),HB,t,he]
section
variable {α : Type} [Inhabited α] {R : Rw α 3 true} {A C : Hp} {k : Nat} {lt : α -> α -> Bool} (W : Cmp R A k lt) (hC : W.ok C) {ty n : Nat} {lim : Bool}
abbrev rnR (x : Int) (b : Nat) : Row:=.cs 200 1 [[.m (.i .u64 x)]] b false
theorem ZX (r0 : Row) (x : Int) (b : Nat) (hb : b <= 1) (Q : V -> Hp -> Prop)
  (hQ : ∀ (y : Nat) (b1 : Nat),y < 18446744073709551616 -> b1 <= 1 -> Q (.m (.i .u64 y)) (A ++ r0 :: (C ++ [rnR y b1]))) :
  Ret G 155 [.pt (A.length + (C.length + 1)) 1 0 0] (A ++ r0 :: (C ++ [rnR x b])) Q:=by
 refine Cs mono rfl rfl rfl rfl rfl ?_
 simp (contextual:=true) (maxSteps:=2000000) (disch:=omega) [Ae,Af,Ac,Ag,-Int.not_lt,-Int.not_le,-Nat.not_lt,-Nat.not_le,-List.map_take,Ad,Ab,Uc,Hr,Hi]
 have h:=Wu (x64 (x64 x (wr IntKind.u64 (x * 8192))) (x64 x (wr IntKind.u64 (x * 8192)) / 128)) (wr IntKind.u64 (x64 (x64 x (wr IntKind.u64 (x * 8192))) (x64 x (wr IntKind.u64 (x * 8192)) / 128) * 131072))
 obtain ⟨y,hy,e⟩:=h
 rw [e]
 exact hQ y 1 hy (AaQ _)
theorem brk_w (d : Array α) (a b b0 : Nat) (hab : a + 8 <= b) (hb : b <= n) (hd : d.size = n) (h0 : b0 <= n) (hn : n <= 1000000000) (Q : V -> Hp -> Prop)
  (hQ : ∀ (d' : Array α) (b1 : Nat) (X : Hp),PermIn a b d d' -> b1 <= n -> Q (.tu []) (A ++ .cs ty 3 (AT R d') b1 false :: (C ++ X))) :
  Ret G 139 [.sl A.length n 3 0 n lim,.m (.i .i64 a),.m (.i .i64 b),.m (.fn k [])] (A ++ .cs ty 3 (AT R d) b0 false :: C) Q:=by
 refine Cs mono rfl rfl rfl rfl rfl ?_
 obtain ⟨L,rfl⟩ : ∃ L,b = a + L:=⟨b - a,by omega⟩
 have tL : (a : Int) + L - a = L:=by omega
 have h8 : (8 : Int) <= L:=by omega
 obtain ⟨p1,p2⟩:=Nc L (by omega) (by omega)
 have hp0 : 0 < 2 ^ Lib.bitLen L:=Nat.pow_pos (by decide)
 have hlow:=fun y hy=>Aaw y (Lib.bitLen L) hy (by omega)
 have hmod:=fun y=>Nat.mod_lt y hp0
 have hnp:=npow L (by omega) (by omega)
 have hm1 : ((2 ^ Lib.bitLen L - 1 : Nat) : Int) = ((2 ^ Lib.bitLen L : Nat) : Int) - 1:=by omega
 rw [hm1] at hlow
 generalize (2 ^ Lib.bitLen L : Nat) = m at hp0 p2 hlow hmod hnp hm1
 clear hm1 p1
 have d4 : (L : Int).tdiv 4 = ((L / 4 : Nat) : Int):=rfl
 generalize hl : L / 4 = l at d4
 have i0 : (a : Int) + (l : Int) * 2 - 1 = ((a + l * 2 - 1 : Nat) : Int):=by omega
 simp (contextual:=true) (maxSteps:=2000000) (disch:=omega) [Ae,Af,Ac,Ag,-Int.not_lt,-Int.not_le,-Nat.not_lt,-Nat.not_le,-List.map_take,Ad,Ab,Aa,HB,tL,h8,cl (hnp _),d4,Hr,Hi,i0]
 refine (?key : ∀ (q i : Nat) (d' : Array α) (b1 x2 : Nat) (sb : Nat),a + l * 2 + 2 - i = q -> a <= i -> i < a + L -> d'.size = n -> b1 <= n -> sb <= 1 -> PermIn a (a + L) d d' -> Run G c139_B0 (S139_0 (.sl A.length n 3 0 n lim) (.m (.i .i64 a)) (.m (.i .i64 L)) (.pt (A.length + (C.length + 1)) 1 0 0) (.m (.i .u64 m)) (.m (.i .i64 i)) [] (A ++ .cs ty 3 (AT R d') b1 false :: (C ++ [rnR x2 sb]))) _) _ (a + l * 2 - 1) d b0 L 1 rfl (by omega) (by omega) hd h0 (AaQ _) (permIn_refl _ _ _)
 clear i0 hnp h0 b0
 refine Bd (fun q : Nat=>q) fun q ih i d' b1 x2 sb hq hai hil hd' hb1 hsb hp=>?_
 unfold c139_B0
 by_cases hi : i <= a + l * 2 + 1
 ·have hi' : (i : Int) <= (a : Int) + (l : Int) * 2 + 1:=by omega
  simp (contextual:=true) (maxSteps:=2000000) (disch:=omega) [Ae,Af,Ac,Ag,-Int.not_lt,-Int.not_le,-Nat.not_lt,-Nat.not_le,-List.map_take,Ad,Ab,Aa,d4,hi']
  rw [As]
  refine ZX _ _ sb hsb _ fun y b2 hy hb2=>?_
  have hlo:=hlow y hy
  have hmo:=hmod y
  generalize y % m = o at hlo hmo
  by_cases ho : L <= o
  ·have ho' : (L : Int) <= o:=by omega
   obtain ⟨j,rfl⟩ : ∃ j,o = L + j:=⟨o - L,by omega⟩
   have tj : ((L + j : Nat) : Int) - L = j:=by omega
   have tj' : (L : Int) + j - L = j:=by omega
   have r1:=R.rd d' (i:=i) (by omega)
   have r2:=R.rd d' (i:=a + j) (by omega)
   have w1:=R.wr d' (i:=i) d'[a + j]! (by omega)
   have w2:=R.wr (d'.setIfInBounds i d'[a + j]!) (i:=a + j) d'[i]! (by simp; omega)
   have s1 : (d'.setIfInBounds i d'[a + j]!).size = n:=by simp [hd']
   have hp2 : PermIn a (a + L) d (swp d' i (a + j)):=permIn_trans _ _ _ _ _ hp (swp_permIn _ _ _ _ _ hai hil (by omega) (by omega) (by omega))
   have es : swp d' i (a + j) = (d'.setIfInBounds i d'[a + j]!).setIfInBounds (a + j) d'[i]!:=rfl
   have xj : ((a : Int) + j).toNat = a + j:=by omega
   rw [es] at hp2
   have ih2:=ih (a + l * 2 + 2 - (i + 1)) (by omega) (i + 1) ((d'.setIfInBounds i d'[a + j]!).setIfInBounds (a + j) d'[i]!) n y b2 rfl (by omega) (by omega) (by simp [hd']) (AaQ _) hb2 hp2
   clear ih es
   generalize d'[i]! = z0 at *
   generalize d'[a + j]! = z1 at *
   simp (contextual:=true) (maxSteps:=2000000) (disch:=omega) [Ae,Af,Ac,Ag,-Int.not_lt,-Int.not_le,-Nat.not_lt,-Nat.not_le,-List.map_take,Ad,Ab,AM,Aw,R.ld,R.st,R.all1,R.len,-AL,-AN,Aa,HB,hlo,ho',tj,tj',r1,r2,w1,w2,s1,hd',xj]
   exact ⟨fun _=>ih2,by omega⟩
  ·have ho' : ¬ (L : Int) <= o:=by omega
   have r1:=R.rd d' (i:=i) (by omega)
   have r2:=R.rd d' (i:=a + o) (by omega)
   have w1:=R.wr d' (i:=i) d'[a + o]! (by omega)
   have w2:=R.wr (d'.setIfInBounds i d'[a + o]!) (i:=a + o) d'[i]! (by simp; omega)
   have s1 : (d'.setIfInBounds i d'[a + o]!).size = n:=by simp [hd']
   have hp2 : PermIn a (a + L) d (swp d' i (a + o)):=permIn_trans _ _ _ _ _ hp (swp_permIn _ _ _ _ _ hai hil (by omega) (by omega) (by omega))
   have es : swp d' i (a + o) = (d'.setIfInBounds i d'[a + o]!).setIfInBounds (a + o) d'[i]!:=rfl
   have xo : ((a : Int) + o).toNat = a + o:=by omega
   rw [es] at hp2
   have ih2:=ih (a + l * 2 + 2 - (i + 1)) (by omega) (i + 1) ((d'.setIfInBounds i d'[a + o]!).setIfInBounds (a + o) d'[i]!) n y b2 rfl (by omega) (by omega) (by simp [hd']) (AaQ _) hb2 hp2
   clear ih es
   generalize d'[i]! = z0 at *
   generalize d'[a + o]! = z1 at *
   simp (contextual:=true) (maxSteps:=2000000) (disch:=omega) [Ae,Af,Ac,Ag,-Int.not_lt,-Int.not_le,-Nat.not_lt,-Nat.not_le,-List.map_take,Ad,Ab,AM,Aw,R.ld,R.st,R.all1,R.len,-AL,-AN,Aa,HB,hlo,ho',r1,r2,w1,w2,s1,hd',xo]
   exact ih2
 ·have hi' : ¬ (i : Int) <= (a : Int) + (l : Int) * 2 + 1:=by omega
  simp (contextual:=true) (maxSteps:=2000000) (disch:=omega) [Ae,Af,Ac,Ag,-Int.not_lt,-Int.not_le,-Nat.not_lt,-Nat.not_le,-List.map_take,Ad,Ab,Aa,d4,hi']
  exact hQ d' b1 _ hp hb1
end
end Go.Mx.Tryz
