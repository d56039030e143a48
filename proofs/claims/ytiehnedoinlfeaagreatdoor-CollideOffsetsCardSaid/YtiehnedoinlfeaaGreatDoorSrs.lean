/- pdqsort over cells at the machine: order, insertion, choice of a pivot, parting, the pattern broken. -/
import Derived.Test.YtiehnedoinlfeaaGreatDoorSeav
import Derived.Test.YtiehnedoinlfeaaGreatDoorWa
import Derived.Test.YtiehnedoinlfeaaGreatDoorSw
set_option linter.unusedSimpArgs false
set_option linter.unusedVariables false
set_option linter.unusedSectionVars false
set_option maxRecDepth 100000
set_option maxHeartbeats 4000000
namespace Go.Mx.Tryz
open Go.Sort
structure Cmp {α:Type}(R:Rw α 3 true)(A:Hp)(k:Nat)(lt:α->α->Bool) where
 ok:Hp->Prop
 ext:∀C X,ok C->ok (C++X)
 cmp:α->α->Int
 neg:∀x y,(cmp x y<0)=(lt x y=true)
 run:∀x y row C,ok C->Gives G k [R.val x,R.val y] (A++row::C) (.m (.i .i64 (cmp x y))) (A++row::C)
section
variable {α:Type} [Inhabited α] {R:Rw α 3 true} {A C:Hp} {k:Nat} {lt:α->α->Bool} (W:Cmp R A k lt) (hC:W.ok C) {ty n:Nat} {lim:Bool}
include W hC in
theorem ins_w (d:Array α)(a b u:Nat)(hab:a<=b)(hb:b<=n)(E:d.size=n)(N:u<=n)(hn:n<=4611686018427387904)(Q:V->Hp->Prop) 
  (z:∀U,U<=n->Q (.tu []) (A ++ .cs ty 3 (Bl R (insertionSort lt d a b)) U false::C)) :
  Ret G 145 [.sl A.length n 3 0 n lim,J0 a,J0 b,.m (.fn k [])] (A ++ .cs ty 3 (Bl R d) u false::C) Q:=by
 refine Bh mono rfl rfl rfl rfl rfl ?_
 simp (contextual:=true) (maxSteps:=2000000) (disch:=omega) [-Int.not_lt,-Int.not_le,-Nat.not_lt,-Nat.not_le,-List.map_take,Aa]
 refine(?key:∀(i:Nat) (d:Array α) (u:Nat),d.size=n->u<=n->a+1<=i->(∀U,U<=n->Q (.tu []) (A ++ .cs ty 3 (Bl R (insOuter lt a b i d)) U false::C))->Run G c145_B1 (S145_1 (.sl A.length n 3 0 n lim) (J0 a) (J0 b) (.m (.fn k [])) (J0 i) [] (A ++ .cs ty 3 (Bl R d) u false::C)) _) (a+1) d u E N (Ahu _) z
 clear z E N d u
 refine Bj (fun i:Nat=>b-i) fun i ih d u E N hi z=>?_
 unfold c145_B1
 by_cases J:i<b
 ·simp (contextual:=true) (maxSteps:=2000000) (disch:=omega) [Ai,-Int.not_lt,-Int.not_le,-Nat.not_lt,-Nat.not_le,-List.map_take,J]
  rw[insOuter,Ahv J]at z
  refine(?key2:∀(j:Nat) (d:Array α) (u:Nat),d.size=n->u<=n->j<=i->a<=j->(∀U,U<=n->Q (.tu []) (A ++ .cs ty 3 (Bl R (insOuter lt a b (i+1) (insInner lt a j d))) U false::C))->Run G c145_B0 (S145_0 (.sl A.length n 3 0 n lim) (J0 a) (J0 b) (.m (.fn k [])) (J0 i) (J0 j) [] (A ++ .cs ty 3 (Bl R d) u false::C)) _) i d u E N (Ahu _) (by omega) z
  clear z E N d u
  refine Bj (fun j:Nat=>j) fun j a0 d u E N hji haj z=>?_
  unfold c145_B0
  by_cases a1:j=a
  ·have e:insInner lt a j d=d:=by
    cases j with
    | zero=>rfl
    | succ j=>rw[insInner,Aht (by simp;omega)]
   rw[e]at z
   have Y:=ih (i+1) (by omega) d u E N (by omega) z
   subst a1
   simp (contextual:=true) (maxSteps:=2000000) (disch:=omega) [Ai,Ak,-Int.not_lt,-Int.not_le,-Nat.not_lt,-Nat.not_le,-List.map_take,Aa]
   simpa using Y
  ·obtain⟨m,rfl⟩:∃m,j=m+1:=⟨j-1,by omega⟩
   have r1:=R.rd d (i:=m+1) (by omega)
   have r2:=R.rd d (i:=m) (by omega)
   have w1:=R.wr d (i:=m+1) d[m]! (by omega)
   have w2:=R.wr (d.setIfInBounds (m+1) d[m]!) (i:=m) d[m+1]! (by simp;omega)
   have q1:=fun row=>W.run d[m+1]! d[m]! row C hC
   have q2:=W.neg d[m+1]! d[m]!
   have Z:(d.setIfInBounds (m+1) d[m]!).size=n:=by simp[E]
   have t1:((m:Int)+1-1).toNat=m:=by omega
   have t2:((m:Int)+1).toNat=m+1:=by omega
   have e:insInner lt a (m+1) d=if lt d[m+1]! d[m]! = true then insInner lt a m (swp d (m+1) m) else d:=by
    rw[insInner]
    have:m+1 > a:=by omega
    simp[this]
   rw[e]at z
   have a2:(a:Int)<m+1:=by omega
   have es:swp d (m+1) m=(d.setIfInBounds (m+1) d[m]!).setIfInBounds m d[m+1]!:=rfl
   rw[es]at z
   generalize d[m+1]! = x at *
   generalize d[m]! = y at *
   simp (contextual:=true) (maxSteps:=2000000) (disch:=omega) [Ai,Ak,-Int.not_lt,-Int.not_le,-Nat.not_lt,-Nat.not_le,-List.map_take,Ac,Ab,AC,Av,R.ld,R.st,R.all1,R.len,-Be,-Bf,Aa,r1,r2,w1,w2,cl (q1 _),q2,Z,E,t2,a2]
   refine⟨fun h=>?_,fun h=>?_⟩
   ·rw[Ahv h]at z
    exact a0 m (by omega) _ n (by simp[E]) (Ahu _) (by omega) (by omega) z
   ·rw[Aht (by simp[h])]at z
    have Y:=ih (i+1) (by omega) d u E N (by omega) z
    simpa using Y
 ·rw[insOuter,Aht J]at z
  simp (contextual:=true) (maxSteps:=2000000) (disch:=omega) [Ai,-Int.not_lt,-Int.not_le,-Nat.not_lt,-Nat.not_le,-List.map_take,J,z u N]
include W hC in
theorem ZV (d:Array α)(lo hi first E:Nat)(hb:first+hi<=n)(N:d.size=n)(Z:E<=n)(hn:n<=1000000000)(hlo:lo<=n)(Q:V->Hp->Prop) 
  (z:∀b1,b1<=n->Q (.tu []) (A ++ .cs ty 3 (Bl R (siftDown lt hi first lo d)) b1 false::C)) :
  Ret G 177 [.sl A.length n 3 0 n lim,J0 lo,J0 hi,J0 first,.m (.fn k [])] (A ++ .cs ty 3 (Bl R d) E false::C) Q:=by
 refine Bh mono rfl rfl rfl rfl rfl ?_
 simp (contextual:=true) (maxSteps:=2000000) (disch:=omega) [-Int.not_lt,-Int.not_le,-Nat.not_lt,-Nat.not_le,-List.map_take]
 refine(?key:∀(u:Nat) (d:Array α) (E:Nat),d.size=n->E<=n->u<=n->(∀b1,b1<=n->Q (.tu []) (A ++ .cs ty 3 (Bl R (siftDown lt hi first u d)) b1 false::C))->Run G c177_B0 (S177_0 (.sl A.length n 3 0 n lim) (J0 hi) (J0 first) (.m (.fn k [])) (J0 u) [] (A ++ .cs ty 3 (Bl R d) E false::C)) _) lo d E N Z hlo z
 clear z N Z d E hlo
 refine Bj (fun u:Nat=>hi-u) fun u ih d E N Z hr z=>?_
 unfold c177_B0
 by_cases h1:2*u+1>=hi
 ·rw[siftDown,dif_pos h1]at z
  have U:(hi:Int)<=2*u+1:=by omega
  simp (contextual:=true) (maxSteps:=2000000) (disch:=omega) [Ai,-Int.not_lt,-Int.not_le,-Nat.not_lt,-Nat.not_le,-List.map_take,Aa,U,z E Z]
 ·have U:¬(hi:Int)<=2*u+1:=by omega
  have r0:=R.rd d (i:=first+u) (by omega)
  have r1:=R.rd d (i:=first+(2*u+1)) (by omega)
  have q01:=fun row=>W.run d[first+u]! d[first+(2*u+1)]! row C hC
  have n01:=W.neg d[first+u]! d[first+(2*u+1)]!
  have w1:=R.wr d (i:=first+u) d[first+(2*u+1)]! (by omega)
  have w2:=R.wr (d.setIfInBounds (first+u) d[first+(2*u+1)]!) (i:=first+(2*u+1)) d[first+u]! (by simp;omega)
  have s1:(d.setIfInBounds (first+u) d[first+(2*u+1)]!).size=n:=by simp[N]
  have e1:swp d (first+u) (first+(2*u+1))=(d.setIfInBounds (first+u) d[first+(2*u+1)]!).setIfInBounds (first+(2*u+1)) d[first+u]!:=rfl
  by_cases h2:2*u+1+1<hi
  ·have a0:(2:Int)*u+1+1<hi:=by omega
   have r2:=R.rd d (i:=first+(2*u+2)) (by omega)
   have q12:=fun row=>W.run d[first+(2*u+1)]! d[first+(2*u+2)]! row C hC
   have n12:=W.neg d[first+(2*u+1)]! d[first+(2*u+2)]!
   have q02:=fun row=>W.run d[first+u]! d[first+(2*u+2)]! row C hC
   have n02:=W.neg d[first+u]! d[first+(2*u+2)]!
   have v1:=R.wr d (i:=first+u) d[first+(2*u+2)]! (by omega)
   have v2:=R.wr (d.setIfInBounds (first+u) d[first+(2*u+2)]!) (i:=first+(2*u+2)) d[first+u]! (by simp;omega)
   have s2:(d.setIfInBounds (first+u) d[first+(2*u+2)]!).size=n:=by simp[N]
   have e2:swp d (first+u) (first+(2*u+2))=(d.setIfInBounds (first+u) d[first+(2*u+2)]!).setIfInBounds (first+(2*u+2)) d[first+u]!:=rfl
   have h22:2*u+2<hi:=by omega
   rw[siftDown,dif_neg h1,show first+(2*u+1)+1=first+(2*u+2) by omega,e1,e2]at z
   have x0:((first:Int)+u).toNat=first+u:=by omega
   have x1:((first:Int)+(2*u+1)).toNat=first+(2*u+1):=by omega
   have x2:((first:Int)+(2*u+1)+1).toNat=first+(2*u+2):=by omega
   have x3:((first:Int)+(2*u+1+1)).toNat=first+(2*u+2):=by omega
   simp only[h2,decide_true,AiJ]at z
   have Y:=ih (2*u+1) (by omega) ((d.setIfInBounds (first+u) d[first+(2*u+1)]!).setIfInBounds (first+(2*u+1)) d[first+u]!) n (by simp[N]) (Ahu _) (by omega)
   have ihB:=ih (2*u+2) (by omega) ((d.setIfInBounds (first+u) d[first+(2*u+2)]!).setIfInBounds (first+(2*u+2)) d[first+u]!) n (by simp[N]) (Ahu _) (by omega)
   generalize d[first+u]! = y0 at *
   generalize d[first+(2*u+1)]! = y1 at *
   generalize d[first+(2*u+2)]! = y2 at *
   clear ih
   simp (contextual:=true) (maxSteps:=2000000) (disch:=omega) [Ai,Ak,-Int.not_lt,-Int.not_le,-Nat.not_lt,-Nat.not_le,-List.map_take,Ac,Ab,AC,Av,R.ld,R.st,R.all1,R.len,-Be,-Bf,Aa,U,a0,r0,r1,r2,cl (q01 _),cl (q12 _),cl (q02 _),n01,n12,n02,w1,w2,v1,v2,s1,s2,N,x0,x1,x2,x3]
   refine⟨fun l1=>⟨fun J=>?_,fun J=>?_⟩,fun l1=>⟨fun J=>?_,fun J=>?_⟩⟩
   ·simp[l1,J]at z
    exact z E Z
   ·simp[l1,J]at z
    have e5:(2:Int)*u+1+1=((2*u+2:Nat):Int):=by omega
    rw[e5]
    exact ihB z
   ·simp[l1,J]at z
    exact z E Z
   ·simp[l1,J]at z
    exact Y z
  ·have a0:¬(2:Int)*u+1+1<hi:=by omega
   rw[siftDown,dif_neg h1,e1]at z
   have x0:((first:Int)+u).toNat=first+u:=by omega
   have x1:((first:Int)+(2*u+1)).toNat=first+(2*u+1):=by omega
   simp only[h2,decide_false,Bool.false_and,Aht Bool.false_ne_true]at z
   have Y:=ih (2*u+1) (by omega) ((d.setIfInBounds (first+u) d[first+(2*u+1)]!).setIfInBounds (first+(2*u+1)) d[first+u]!) n (by simp[N]) (Ahu _) (by omega)
   generalize d[first+u]! = y0 at *
   generalize d[first+(2*u+1)]! = y1 at *
   clear ih
   simp (contextual:=true) (maxSteps:=2000000) (disch:=omega) [Ai,Ak,-Int.not_lt,-Int.not_le,-Nat.not_lt,-Nat.not_le,-List.map_take,Ac,Ab,AC,Av,R.ld,R.st,R.all1,R.len,-Be,-Bf,Aa,U,a0,r0,r1,cl (q01 _),n01,w1,w2,s1,N,x0,x1]
   refine⟨fun J=>?_,fun J=>?_⟩
   ·simp[J]at z
    exact z E Z
   ·simp[J]at z
    exact Y z
end
end Go.Mx.Tryz
set_option maxRecDepth 100000
namespace Go.Mx.Tryz
open Go.Sort
section
variable {α:Type} [Inhabited α] {R:Rw α 3 true} {A C:Hp} {k:Nat} {lt:α->α->Bool} (W:Cmp R A k lt) (hC:W.ok C) {ty n:Nat} {lim:Bool}
include W hC in
theorem AcM (d:Array α)(a j Q:Nat)(ha:a<n)(hj:j<n)(Z:d.size=n)(h0:Q<=n)(hn:n<=1000000000)(K:K)(i:Nat) 
  (E:At' G (.ex 0) ⟨[(0,.sl A.length n 3 0 n lim),(1,J0 a),(4,.m (.fn k [])),(12,J0 (scanUp (fun x=>lt x d[a]!) d j i)),(13,J0 j),(47,.m (.b false))],[],⟨[],A ++ .cs ty 3 (Bl R d) Q false::C⟩⟩ K) :
  Run G c152_B0 (S152_0 (.sl A.length n 3 0 n lim) (J0 a) (.m (.fn k [])) (J0 i) (J0 j) [] (A ++ .cs ty 3 (Bl R d) Q false::C)) (.seq c152_L0 K):=by
 revert E
 revert i
 refine Bj (fun i:Nat=>j+1-i) fun i N E=>?_
 unfold c152_B0
 rw[scanUp]at E
 by_cases J:i<=j
 ·have z:(i:Int)<=j:=by omega
  have Y:=R.rd d (i:=i) (by omega)
  have U:=R.rd d (i:=a) (by omega)
  have q:=fun row=>W.run d[i]! d[a]! row C hC
  have m:=W.neg d[i]! d[a]!
  have N:=N (i+1) (by omega)
  generalize hu:d[i]! = u at Y q m E
  generalize hw:d[a]! = w at U q m E N
  simp (contextual:=true) (maxSteps:=2000000) (disch:=omega) [Ai,Ak,-Int.not_lt,-Int.not_le,-Nat.not_lt,-Nat.not_le,-List.map_take,Ac,Ab,AC,R.ld,-Be,-Bf,Aa,z,Y,U,cl (q _),m,Z]
  refine⟨fun l=>?_,fun l=>?_⟩
  ·have e:lt u w=true:=by simpa using l
   rw[Ahv (by simp[J,e])]at E
   simpa using N E
  ·have e:lt u w=false:=by simpa using l
   rw[Aht (by simp[e])]at E
   exact E
 ·have z:¬(i:Int)<=j:=by omega
  rw[Aht (by simp[J])]at E
  simp (contextual:=true) (maxSteps:=2000000) (disch:=omega) [Ai,Ak,-Int.not_lt,-Int.not_le,-Nat.not_lt,-Nat.not_le,-List.map_take,z]
  exact E
include W hC in
theorem AcL (d:Array α)(a i Q:Nat)(ha:a<n)(hi:1<=i)(hd:d.size=n)(h0:Q<=n)(hn:n<=1000000000)(K:K)(j:Nat)(Y:j<n) 
  (E:At' G (.ex 2) ⟨[(0,.sl A.length n 3 0 n lim),(1,J0 a),(4,.m (.fn k [])),(12,J0 i),(13,J0 (scanDown (fun x=>!lt x d[a]!) d i j)),(66,.m (.b false))],[],⟨[],A ++ .cs ty 3 (Bl R d) Q false::C⟩⟩ K) :
  Run G c152_B1 (S152_1 (.sl A.length n 3 0 n lim) (J0 a) (.m (.fn k [])) (J0 i) (J0 j) [] (A ++ .cs ty 3 (Bl R d) Q false::C)) (.seq c152_L1 K):=by
 revert E
 revert Y
 revert j
 refine Bj (fun j:Nat=>j) fun j N Y E=>?_
 unfold c152_B1
 cases j with
 | zero =>
  have z:¬(i:Int)<=0:=by omega
  have U:¬i=0:=by omega
  rw[scanDown]at E
  simp (contextual:=true) (maxSteps:=2000000) (disch:=omega) [Ai,Ak,-Int.not_lt,-Int.not_le,-Nat.not_lt,-Nat.not_le,-List.map_take,U]
  simpa using E
 | succ j =>
  rw[scanDown]at E
  by_cases J:i<=j+1
  ·have z:(i:Int)<=j+1:=by omega
   have r1:=R.rd d (i:=j+1) (by omega)
   have Z:=R.rd d (i:=a) (by omega)
   have q:=fun row=>W.run d[j+1]! d[a]! row C hC
   have m:=W.neg d[j+1]! d[a]!
   have t1:((j:Int)+1).toNat=j+1:=by omega
   have N:=N j (by omega) (by omega)
   generalize hu:d[j+1]! = u at r1 q m E
   generalize hw:d[a]! = w at Z q m E N
   simp (contextual:=true) (maxSteps:=2000000) (disch:=omega) [Ai,Ak,-Int.not_lt,-Int.not_le,-Nat.not_lt,-Nat.not_le,-List.map_take,Ac,Ab,AC,R.ld,-Be,-Bf,Aa,z,r1,Z,cl (q _),m,hd,t1]
   refine⟨fun l=>?_,fun l=>?_⟩
   ·have e:lt u w=false:=by simpa using l
    rw[Ahv (by simp[J,e])]at E
    simpa using N E
   ·have e:lt u w=true:=by simpa using l
    rw[Aht (by simp[e])]at E
    simpa using E
  ·have z:¬(i:Int)<=j+1:=by omega
   rw[Aht (by simp[J])]at E
   simp (contextual:=true) (maxSteps:=2000000) (disch:=omega) [Ai,Ak,-Int.not_lt,-Int.not_le,-Nat.not_lt,-Nat.not_le,-List.map_take,z]
   simpa using E
include W hC in
theorem AcK (d:Array α)(a j Q:Nat)(ha:a<n)(hj:j<n)(Z:d.size=n)(h0:Q<=n)(hn:n<=1000000000)(K:K)(i:Nat) 
  (E:At' G (.ex 6) ⟨[(0,.sl A.length n 3 0 n lim),(1,J0 a),(4,.m (.fn k [])),(12,J0 (scanUp (fun x=>lt x d[a]!) d j i)),(13,J0 j),(120,.m (.b false))],[],⟨[],A ++ .cs ty 3 (Bl R d) Q false::C⟩⟩ K) :
  Run G c152_B2 (S152_2 (.sl A.length n 3 0 n lim) (J0 a) (.m (.fn k [])) (J0 i) (J0 j) [] (A ++ .cs ty 3 (Bl R d) Q false::C)) (.seq c152_L2 K):=by
 revert E
 revert i
 refine Bj (fun i:Nat=>j+1-i) fun i N E=>?_
 unfold c152_B2
 rw[scanUp]at E
 by_cases J:i<=j
 ·have z:(i:Int)<=j:=by omega
  have Y:=R.rd d (i:=i) (by omega)
  have U:=R.rd d (i:=a) (by omega)
  have q:=fun row=>W.run d[i]! d[a]! row C hC
  have m:=W.neg d[i]! d[a]!
  have N:=N (i+1) (by omega)
  generalize hu:d[i]! = u at Y q m E
  generalize hw:d[a]! = w at U q m E N
  simp (contextual:=true) (maxSteps:=2000000) (disch:=omega) [Ai,Ak,-Int.not_lt,-Int.not_le,-Nat.not_lt,-Nat.not_le,-List.map_take,Ac,Ab,AC,R.ld,-Be,-Bf,Aa,z,Y,U,cl (q _),m,Z]
  refine⟨fun l=>?_,fun l=>?_⟩
  ·have e:lt u w=true:=by simpa using l
   rw[Ahv (by simp[J,e])]at E
   simpa using N E
  ·have e:lt u w=false:=by simpa using l
   rw[Aht (by simp[e])]at E
   exact E
 ·have z:¬(i:Int)<=j:=by omega
  rw[Aht (by simp[J])]at E
  simp (contextual:=true) (maxSteps:=2000000) (disch:=omega) [Ai,Ak,-Int.not_lt,-Int.not_le,-Nat.not_lt,-Nat.not_le,-List.map_take,z]
  exact E
include W hC in
theorem AcJ (d:Array α)(a i Q:Nat)(ha:a<n)(hi:1<=i)(hd:d.size=n)(h0:Q<=n)(hn:n<=1000000000)(K:K)(j:Nat)(Y:j<n) 
  (E:At' G (.ex 8) ⟨[(0,.sl A.length n 3 0 n lim),(1,J0 a),(4,.m (.fn k [])),(12,J0 i),(13,J0 (scanDown (fun x=>!lt x d[a]!) d i j)),(139,.m (.b false))],[],⟨[],A ++ .cs ty 3 (Bl R d) Q false::C⟩⟩ K) :
  Run G c152_B3 (S152_3 (.sl A.length n 3 0 n lim) (J0 a) (.m (.fn k [])) (J0 i) (J0 j) [] (A ++ .cs ty 3 (Bl R d) Q false::C)) (.seq c152_L3 K):=by
 revert E
 revert Y
 revert j
 refine Bj (fun j:Nat=>j) fun j N Y E=>?_
 unfold c152_B3
 cases j with
 | zero =>
  have z:¬(i:Int)<=0:=by omega
  have U:¬i=0:=by omega
  rw[scanDown]at E
  simp (contextual:=true) (maxSteps:=2000000) (disch:=omega) [Ai,Ak,-Int.not_lt,-Int.not_le,-Nat.not_lt,-Nat.not_le,-List.map_take,U]
  simpa using E
 | succ j =>
  rw[scanDown]at E
  by_cases J:i<=j+1
  ·have z:(i:Int)<=j+1:=by omega
   have r1:=R.rd d (i:=j+1) (by omega)
   have Z:=R.rd d (i:=a) (by omega)
   have q:=fun row=>W.run d[j+1]! d[a]! row C hC
   have m:=W.neg d[j+1]! d[a]!
   have t1:((j:Int)+1).toNat=j+1:=by omega
   have N:=N j (by omega) (by omega)
   generalize hu:d[j+1]! = u at r1 q m E
   generalize hw:d[a]! = w at Z q m E N
   simp (contextual:=true) (maxSteps:=2000000) (disch:=omega) [Ai,Ak,-Int.not_lt,-Int.not_le,-Nat.not_lt,-Nat.not_le,-List.map_take,Ac,Ab,AC,R.ld,-Be,-Bf,Aa,z,r1,Z,cl (q _),m,hd,t1]
   refine⟨fun l=>?_,fun l=>?_⟩
   ·have e:lt u w=false:=by simpa using l
    rw[Ahv (by simp[J,e])]at E
    simpa using N E
   ·have e:lt u w=true:=by simpa using l
    rw[Aht (by simp[e])]at E
    simpa using E
  ·have z:¬(i:Int)<=j+1:=by omega
   rw[Aht (by simp[J])]at E
   simp (contextual:=true) (maxSteps:=2000000) (disch:=omega) [Ai,Ak,-Int.not_lt,-Int.not_le,-Nat.not_lt,-Nat.not_le,-List.map_take,z]
   simpa using E
include W hC in
theorem AcO (d:Array α)(a j Q:Nat)(ha:a<n)(hj:j<n)(Z:d.size=n)(h0:Q<=n)(hn:n<=1000000000)(K:K)(i:Nat) 
  (E:At' G (.ex 2) ⟨[(0,.sl A.length n 3 0 n lim),(1,J0 a),(4,.m (.fn k [])),(11,J0 (scanUp (fun x=>!lt d[a]! x) d j i)),(12,J0 j),(47,.m (.b false))],[],⟨[],A ++ .cs ty 3 (Bl R d) Q false::C⟩⟩ K) :
  Run G c151_B0 (S151_0 (.sl A.length n 3 0 n lim) (J0 a) (.m (.fn k [])) (J0 i) (J0 j) [] (A ++ .cs ty 3 (Bl R d) Q false::C)) (.seq c151_L0 K):=by
 revert E
 revert i
 refine Bj (fun i:Nat=>j+1-i) fun i N E=>?_
 unfold c151_B0
 rw[scanUp]at E
 by_cases J:i<=j
 ·have z:(i:Int)<=j:=by omega
  have Y:=R.rd d (i:=i) (by omega)
  have U:=R.rd d (i:=a) (by omega)
  have q:=fun row=>W.run d[a]! d[i]! row C hC
  have m:=W.neg d[a]! d[i]!
  have N:=N (i+1) (by omega)
  generalize hu:d[i]! = u at Y q m E
  generalize hw:d[a]! = w at U q m E N
  simp (contextual:=true) (maxSteps:=2000000) (disch:=omega) [Ai,Ak,-Int.not_lt,-Int.not_le,-Nat.not_lt,-Nat.not_le,-List.map_take,Ac,Ab,AC,R.ld,-Be,-Bf,Aa,z,Y,U,cl (q _),m,Z]
  refine⟨fun l=>?_,fun l=>?_⟩
  ·have e:lt w u=false:=by simpa using l
   rw[Ahv (by simp[J,e])]at E
   simpa using N E
  ·have e:lt w u=true:=by simpa using l
   rw[Aht (by simp[e])]at E
   exact E
 ·have z:¬(i:Int)<=j:=by omega
  rw[Aht (by simp[J])]at E
  simp (contextual:=true) (maxSteps:=2000000) (disch:=omega) [Ai,Ak,-Int.not_lt,-Int.not_le,-Nat.not_lt,-Nat.not_le,-List.map_take,z]
  exact E
include W hC in
theorem AcN (d:Array α)(a i Q:Nat)(ha:a<n)(hi:1<=i)(hd:d.size=n)(h0:Q<=n)(hn:n<=1000000000)(K:K)(j:Nat)(Y:j<n) 
  (E:At' G (.ex 4) ⟨[(0,.sl A.length n 3 0 n lim),(1,J0 a),(4,.m (.fn k [])),(11,J0 i),(12,J0 (scanDown (fun x=>lt d[a]! x) d i j)),(65,.m (.b false))],[],⟨[],A ++ .cs ty 3 (Bl R d) Q false::C⟩⟩ K) :
  Run G c151_B1 (S151_1 (.sl A.length n 3 0 n lim) (J0 a) (.m (.fn k [])) (J0 i) (J0 j) [] (A ++ .cs ty 3 (Bl R d) Q false::C)) (.seq c151_L1 K):=by
 revert E
 revert Y
 revert j
 refine Bj (fun j:Nat=>j) fun j N Y E=>?_
 unfold c151_B1
 cases j with
 | zero =>
  have z:¬(i:Int)<=0:=by omega
  have U:¬i=0:=by omega
  rw[scanDown]at E
  simp (contextual:=true) (maxSteps:=2000000) (disch:=omega) [Ai,Ak,-Int.not_lt,-Int.not_le,-Nat.not_lt,-Nat.not_le,-List.map_take,U]
  simpa using E
 | succ j =>
  rw[scanDown]at E
  by_cases J:i<=j+1
  ·have z:(i:Int)<=j+1:=by omega
   have r1:=R.rd d (i:=j+1) (by omega)
   have Z:=R.rd d (i:=a) (by omega)
   have q:=fun row=>W.run d[a]! d[j+1]! row C hC
   have m:=W.neg d[a]! d[j+1]!
   have t1:((j:Int)+1).toNat=j+1:=by omega
   have N:=N j (by omega) (by omega)
   generalize hu:d[j+1]! = u at r1 q m E
   generalize hw:d[a]! = w at Z q m E N
   simp (contextual:=true) (maxSteps:=2000000) (disch:=omega) [Ai,Ak,-Int.not_lt,-Int.not_le,-Nat.not_lt,-Nat.not_le,-List.map_take,Ac,Ab,AC,R.ld,-Be,-Bf,Aa,z,r1,Z,cl (q _),m,hd,t1]
   refine⟨fun l=>?_,fun l=>?_⟩
   ·have e:lt w u=true:=by simpa using l
    rw[Ahv (by simp[J,e])]at E
    simpa using N E
   ·have e:lt w u=false:=by simpa using l
    rw[Aht (by simp[e])]at E
    simpa using E
  ·have z:¬(i:Int)<=j+1:=by omega
   rw[Aht (by simp[J])]at E
   simp (contextual:=true) (maxSteps:=2000000) (disch:=omega) [Ai,Ak,-Int.not_lt,-Int.not_le,-Nat.not_lt,-Nat.not_le,-List.map_take,z]
   simpa using E
end
end Go.Mx.Tryz
set_option maxRecDepth 100000
namespace Go.Mx.Tryz
open Go.Sort
section
variable {α:Type} [Inhabited α] {R:Rw α 3 true} {A C:Hp} {k:Nat} {lt:α->α->Bool} (W:Cmp R A k lt) (hC:W.ok C) {ty n:Nat} {lim:Bool}
include W hC in
theorem UV (a:Nat)(hn:n<=1000000000)(K:K):∀(m i j:Nat) (d:Array α) (Q:Nat),j+1-i=m->a<i->i<=j+1->j<n->d.size=n->Q<=n ->
  (∀(z u:Nat) (d2:Array α) (b1:Nat),d2.size=n->b1<=n->a<=u->u<n->z<=n->(partLoop lt a i j d=(u,d2))->At' G (.ex 4) ⟨[(0,.sl A.length n 3 0 n lim),(1,J0 a),(4,.m (.fn k [])),(12,J0 z),(13,J0 u),(139,.m (.b false)),(144,.m (.b true))],[],⟨[],A ++ .cs ty 3 (Bl R d2) b1 false::C⟩⟩ K) ->
  Run G c152_B4 (S152_4 (.sl A.length n 3 0 n lim) (J0 a) (.m (.fn k [])) (J0 i) (J0 j) [] (A ++ .cs ty 3 (Bl R d) Q false::C)) (.seq c152_L4 K):=by
 refine Bj (fun m:Nat=>m) fun m ih i j d Q hm hai hij U N h0 hK=>?_
 have u1:=scanUp_spec (fun x=>lt x d[a]!) d j _ i rfl
 have u2:=scanDown_spec (fun x=>!lt x d[a]!) d (scanUp (fun x=>lt x d[a]!) d j i) j
 have e:=partLoop_eq lt a i j d
 unfold c152_B4
 simp (contextual:=true) (maxSteps:=2000000) (disch:=omega) [-Int.not_lt,-Int.not_le,-Nat.not_lt,-Nat.not_le,-List.map_take]
 refine AcK W hC d a j Q (by omega) U N h0 hn _ i ?_
 generalize hi2:scanUp (fun x=>lt x d[a]!) d j i=z at u1 u2 e ⊢
 simp (contextual:=true) (maxSteps:=2000000) (disch:=omega) [-Int.not_lt,-Int.not_le,-Nat.not_lt,-Nat.not_le,-List.map_take]
 refine AcJ W hC d a z Q (by omega) (by omega) N h0 hn _ j U ?_
 generalize hj2:scanDown (fun x=>!lt x d[a]!) d z j=u at u2 e ⊢
 obtain⟨a2,E,_,Z⟩:=u1
 obtain⟨u21,Y,_,a1⟩:=u2
 have E:=E hij
 have Y:=Y E
 by_cases hg:z > u
 ·have J:(u:Int)<z:=by omega
  rw[Ahv hg]at e
  simp (contextual:=true) (maxSteps:=2000000) (disch:=omega) [Ai,-Int.not_lt,-Int.not_le,-Nat.not_lt,-Nat.not_le,-List.map_take,J]
  exact hK z u d Q N h0 (by omega) (by omega) (by omega) (by simp[e])
 ·have J:¬(u:Int)<z:=by omega
  rw[Aht hg]at e
  have f1:=Z (by omega)
  have f2:=a1 (by omega) (by omega)
  have hne:z≠u:=fun h=>by
   subst h
   simp[f1]at f2
  have r1:=R.rd d (i:=z) (by omega)
  have r2:=R.rd d (i:=u) (by omega)
  have w1:=R.wr d (i:=z) d[u]! (by omega)
  have w2:=R.wr (d.setIfInBounds z d[u]!) (i:=u) d[z]! (by simp;omega)
  have s1:(d.setIfInBounds z d[u]!).size=n:=by simp[N]
  have es:swp d z u=(d.setIfInBounds z d[u]!).setIfInBounds u d[z]!:=rfl
  rw[es]at e
  have a0:=ih (u-1+1-(z+1)) (by omega) (z+1) (u-1) ((d.setIfInBounds z d[u]!).setIfInBounds u d[z]!) n rfl (by omega) (by omega) (by omega) (by simp[N]) (Ahu _)
  rw[e]at hK
  have hj1:((u-1:Nat):Int)=(u:Int)-1:=by omega
  rw[hj1]at a0
  clear ih a2 Z a1 f1 f2 e es
  generalize d[z]! = y1 at *
  generalize d[u]! = y2 at *
  simp (contextual:=true) (maxSteps:=2000000) (disch:=omega) [Ai,-Int.not_lt,-Int.not_le,-Nat.not_lt,-Nat.not_le,-List.map_take,Ac,Ab,AC,Av,R.ld,R.st,R.all1,R.len,-Be,-Bf,Aa,J,r1,r2,w1,w2,s1,N]
  exact a0 hK
include W hC in
theorem Ow (a:Nat)(hn:n<=1000000000)(K:K):∀(m i j:Nat) (d:Array α) (Q:Nat),j+1-i=m->a<i->i<=j+1->j<n->d.size=n->Q<=n ->
  (∀(z u:Nat) (d2:Array α) (b1:Nat),d2.size=n->b1<=n->a<=u->u<n->z<=n->(partEqLoop lt a i j d=(z,d2))->At' G (.ex 0) ⟨[(0,.sl A.length n 3 0 n lim),(1,J0 a),(4,.m (.fn k [])),(11,J0 z),(12,J0 u),(65,.m (.b false)),(70,.m (.b true))],[],⟨[],A ++ .cs ty 3 (Bl R d2) b1 false::C⟩⟩ K) ->
  Run G c151_B2 (S151_2 (.sl A.length n 3 0 n lim) (J0 a) (.m (.fn k [])) (J0 i) (J0 j) [] (A ++ .cs ty 3 (Bl R d) Q false::C)) (.seq c151_L2 K):=by
 refine Bj (fun m:Nat=>m) fun m ih i j d Q hm hai hij U N h0 hK=>?_
 have u1:=scanUp_spec (fun x=>!lt d[a]! x) d j _ i rfl
 have u2:=scanDown_spec (fun x=>lt d[a]! x) d (scanUp (fun x=>!lt d[a]! x) d j i) j
 have e:=partEqLoop_eq lt a i j d
 unfold c151_B2
 simp (contextual:=true) (maxSteps:=2000000) (disch:=omega) [-Int.not_lt,-Int.not_le,-Nat.not_lt,-Nat.not_le,-List.map_take]
 refine AcO W hC d a j Q (by omega) U N h0 hn _ i ?_
 generalize hi2:scanUp (fun x=>!lt d[a]! x) d j i=z at u1 u2 e ⊢
 simp (contextual:=true) (maxSteps:=2000000) (disch:=omega) [-Int.not_lt,-Int.not_le,-Nat.not_lt,-Nat.not_le,-List.map_take]
 refine AcN W hC d a z Q (by omega) (by omega) N h0 hn _ j U ?_
 generalize hj2:scanDown (fun x=>lt d[a]! x) d z j=u at u2 e ⊢
 obtain⟨a2,E,_,Z⟩:=u1
 obtain⟨u21,Y,_,a1⟩:=u2
 have E:=E hij
 have Y:=Y E
 by_cases hg:z > u
 ·have J:(u:Int)<z:=by omega
  rw[Ahv hg]at e
  simp (contextual:=true) (maxSteps:=2000000) (disch:=omega) [Ai,-Int.not_lt,-Int.not_le,-Nat.not_lt,-Nat.not_le,-List.map_take,J]
  exact hK z u d Q N h0 (by omega) (by omega) (by omega) (by simp[e])
 ·have J:¬(u:Int)<z:=by omega
  rw[Aht hg]at e
  have f1:=Z (by omega)
  have f2:=a1 (by omega) (by omega)
  have hne:z≠u:=fun h=>by
   subst h
   simp[f2]at f1
  have r1:=R.rd d (i:=z) (by omega)
  have r2:=R.rd d (i:=u) (by omega)
  have w1:=R.wr d (i:=z) d[u]! (by omega)
  have w2:=R.wr (d.setIfInBounds z d[u]!) (i:=u) d[z]! (by simp;omega)
  have s1:(d.setIfInBounds z d[u]!).size=n:=by simp[N]
  have es:swp d z u=(d.setIfInBounds z d[u]!).setIfInBounds u d[z]!:=rfl
  rw[es]at e
  have a0:=ih (u-1+1-(z+1)) (by omega) (z+1) (u-1) ((d.setIfInBounds z d[u]!).setIfInBounds u d[z]!) n rfl (by omega) (by omega) (by omega) (by simp[N]) (Ahu _)
  rw[e]at hK
  have hj1:((u-1:Nat):Int)=(u:Int)-1:=by omega
  rw[hj1]at a0
  clear ih a2 Z a1 f1 f2 e es
  generalize d[z]! = y1 at *
  generalize d[u]! = y2 at *
  simp (contextual:=true) (maxSteps:=2000000) (disch:=omega) [Ai,-Int.not_lt,-Int.not_le,-Nat.not_lt,-Nat.not_le,-List.map_take,Ac,Ab,AC,Av,R.ld,R.st,R.all1,R.len,-Be,-Bf,Aa,J,r1,r2,w1,w2,s1,N]
  exact a0 hK
end
end Go.Mx.Tryz
set_option maxRecDepth 100000
namespace Go.Mx.Tryz
open Go.Sort
section
variable {α:Type} [Inhabited α] {R:Rw α 3 true} {A C:Hp} {k:Nat} {lt:α->α->Bool} (W:Cmp R A k lt) (hC:W.ok C) {ty n:Nat} {lim:Bool}
include W hC in
theorem ZZ (d:Array α)(a b u b0:Nat)(hp1:a<=u)(hp2:u<b)(hb:b<=n)(hd:d.size=n)(h0:b0<=n)(hn:n<=1000000000)(Q:V->Hp->Prop) 
  (N:∀(j:Nat) (ap:Bool) (d2:Array α) (b1:Nat),partition lt d a b u=(j,ap,d2)->b1<=n->Q (.tu [J0 j,.m (.b ap)]) (A ++ .cs ty 3 (Bl R d2) b1 false::C)) :
  Ret G 152 [.sl A.length n 3 0 n lim,J0 a,J0 b,J0 u,.m (.fn k [])] (A ++ .cs ty 3 (Bl R d) b0 false::C) Q:=by
 refine Bh mono rfl rfl rfl rfl rfl ?_
 have r1:=R.rd d (i:=a) (by omega)
 have Z:=R.rd d (i:=u) (by omega)
 have w1:=R.wr d (i:=a) d[u]! (by omega)
 have w2:=R.wr (d.setIfInBounds a d[u]!) (i:=u) d[a]! (by simp;omega)
 have Y:(d.setIfInBounds a d[u]!).size=n:=by simp[hd]
 have e1:swp d a u=(d.setIfInBounds a d[u]!).setIfInBounds u d[a]!:=rfl
 have hb1:((b-1:Nat):Int)=(b:Int)-1:=by omega
 simp only[partition,e1]at N
 generalize d[a]! = y0 at *
 generalize d[u]! = y1 at *
 simp (contextual:=true) (maxSteps:=2000000) (disch:=omega) [-Int.not_lt,-Int.not_le,-Nat.not_lt,-Nat.not_le,-List.map_take,Ac,Ab,AC,Av,R.ld,R.st,R.all1,R.len,-Be,-Bf,Aa,r1,Z,w1,w2,Y,hd]
 clear r1 Z w1 w2 Y e1
 generalize hd1:(d.setIfInBounds a y1).setIfInBounds u y0=d1 at *
 have E:d1.size=n:=by rw[<-hd1];simp[hd]
 have u1:=scanUp_spec (fun x=>lt x d1[a]!) d1 (b-1) _ (a+1) rfl
 have u2:=scanDown_spec (fun x=>!lt x d1[a]!) d1 (scanUp (fun x=>lt x d1[a]!) d1 (b-1) (a+1)) (b-1)
 rw[<-hb1]
 refine AcM W hC d1 a (b-1) n (by omega) (by omega) E (Ahu _) hn _ (a+1) ?_
 generalize hi2:scanUp (fun x=>lt x d1[a]!) d1 (b-1) (a+1)=i2 at u1 u2 N ⊢
 simp (contextual:=true) (maxSteps:=2000000) (disch:=omega) [-Int.not_lt,-Int.not_le,-Nat.not_lt,-Nat.not_le,-List.map_take]
 refine AcL W hC d1 a i2 n (by omega) (by omega) E (Ahu _) hn _ (b-1) (by omega) ?_
 generalize hj2:scanDown (fun x=>!lt x d1[a]!) d1 i2 (b-1)=z at u2 N ⊢
 obtain⟨u11,u12,_,u14⟩:=u1
 obtain⟨u21,u22,_,u24⟩:=u2
 have u12:=u12 (by omega)
 have u22:=u22 u12
 by_cases hg:i2 > z
 ·have hg':(z:Int)<i2:=by omega
  simp only[Ahv hg]at N
  have r1:=R.rd d1 (i:=z) (by omega)
  have Z:=R.rd d1 (i:=a) (by omega)
  have w1:=R.wr d1 (i:=z) d1[a]! (by omega)
  have w2:=R.wr (d1.setIfInBounds z d1[a]!) (i:=a) d1[z]! (by simp;omega)
  have Y:(d1.setIfInBounds z d1[a]!).size=n:=by simp[E]
  have e2:swp d1 z a=(d1.setIfInBounds z d1[a]!).setIfInBounds a d1[z]!:=rfl
  rw[e2]at N
  clear u14 u24 hi2 hj2
  generalize d1[a]! = z0 at *
  generalize d1[z]! = z1 at *
  simp (contextual:=true) (maxSteps:=2000000) (disch:=omega) [Ai,-Int.not_lt,-Int.not_le,-Nat.not_lt,-Nat.not_le,-List.map_take,Ab,AC,Av,R.ld,R.st,R.all1,R.len,-Be,-Bf,hg',r1,Z,w1,w2,Y,E]
  exact N z true _ n rfl (Ahu _)
 ·have hg':¬(z:Int)<i2:=by omega
  simp only[Aht hg]at N
  have f1:=u14 (by omega)
  have f2:=u24 (by omega) (by omega)
  have hne:i2≠z:=fun h=>by
   subst h
   simp[f1]at f2
  have r1:=R.rd d1 (i:=i2) (by omega)
  have Z:=R.rd d1 (i:=z) (by omega)
  have w1:=R.wr d1 (i:=i2) d1[z]! (by omega)
  have w2:=R.wr (d1.setIfInBounds i2 d1[z]!) (i:=z) d1[i2]! (by simp;omega)
  have Y:(d1.setIfInBounds i2 d1[z]!).size=n:=by simp[E]
  have e2:swp d1 i2 z=(d1.setIfInBounds i2 d1[z]!).setIfInBounds z d1[i2]!:=rfl
  have hj1:((z-1:Nat):Int)=(z:Int)-1:=by omega
  rw[e2]at N
  clear u14 u24 hi2 hj2 f1 f2
  generalize d1[i2]! = z0 at *
  generalize d1[z]! = z1 at *
  simp (contextual:=true) (maxSteps:=2000000) (disch:=omega) [Ai,-Int.not_lt,-Int.not_le,-Nat.not_lt,-Nat.not_le,-List.map_take,Ab,AC,Av,R.ld,R.st,R.all1,R.len,-Be,-Bf,Aa,hg',r1,Z,w1,w2,Y,E]
  rw[<-hj1]
  refine UV W hC a hn _ _ (i2+1) (z-1) _ n rfl (by omega) (by omega) (by omega) (by simp[E]) (Ahu _) fun i3 U J b3 hd3 hb3 haj hjn hin hr=>?_
  rw[hr]at N
  have r1:=R.rd J (i:=U) (by omega)
  have Z:=R.rd J (i:=a) (by omega)
  have w1:=R.wr J (i:=U) J[a]! (by omega)
  have w2:=R.wr (J.setIfInBounds U J[a]!) (i:=a) J[U]! (by simp;omega)
  have Y:(J.setIfInBounds U J[a]!).size=n:=by simp[hd3]
  have e2:swp J U a=(J.setIfInBounds U J[a]!).setIfInBounds a J[U]!:=rfl
  simp only[e2]at N
  generalize J[a]! = z0 at *
  generalize J[U]! = z1 at *
  simp (contextual:=true) (maxSteps:=2000000) (disch:=omega) [-Int.not_lt,-Int.not_le,-Nat.not_lt,-Nat.not_le,-List.map_take,Ac,Ab,AC,Av,R.ld,R.st,R.all1,R.len,-Be,-Bf,r1,Z,w1,w2,Y,hd3]
  exact N U false _ n rfl (Ahu _)
include W hC in
theorem Qp (d:Array α)(a b u U:Nat)(hp1:a<=u)(hp2:u<b)(hb:b<=n)(E:d.size=n)(h0:U<=n)(hn:n<=1000000000)(Q:V->Hp->Prop) 
  (Y:∀(i:Nat) (Z:Array α) (N:Nat),partitionEqual lt d a b u=(i,Z)->N<=n->Q (J0 i) (A ++ .cs ty 3 (Bl R Z) N false::C)) :
  Ret G 151 [.sl A.length n 3 0 n lim,J0 a,J0 b,J0 u,.m (.fn k [])] (A ++ .cs ty 3 (Bl R d) U false::C) Q:=by
 refine Bh mono rfl rfl rfl rfl rfl ?_
 have r1:=R.rd d (i:=a) (by omega)
 have r2:=R.rd d (i:=u) (by omega)
 have w1:=R.wr d (i:=a) d[u]! (by omega)
 have w2:=R.wr (d.setIfInBounds a d[u]!) (i:=u) d[a]! (by simp;omega)
 have s1:(d.setIfInBounds a d[u]!).size=n:=by simp[E]
 have e1:swp d a u=(d.setIfInBounds a d[u]!).setIfInBounds u d[a]!:=rfl
 have z:((b-1:Nat):Int)=(b:Int)-1:=by omega
 simp only[partitionEqual,e1]at Y
 generalize d[a]! = y0 at *
 generalize d[u]! = y1 at *
 simp (contextual:=true) (maxSteps:=2000000) (disch:=omega) [-Int.not_lt,-Int.not_le,-Nat.not_lt,-Nat.not_le,-List.map_take,Ac,Ab,AC,Av,R.ld,R.st,R.all1,R.len,-Be,-Bf,Aa,r1,r2,w1,w2,s1,E]
 rw[<-z]
 refine Ow W hC a hn _ _ (a+1) (b-1) _ n rfl (by omega) (by omega) (by omega) (by simp[E]) (Ahu _) fun i3 j3 d3 b3 hd3 J haj hjn hin hr=>?_
 simp (contextual:=true) (maxSteps:=2000000) (disch:=omega) [-Int.not_lt,-Int.not_le,-Nat.not_lt,-Nat.not_le,-List.map_take]
 exact Y i3 d3 b3 hr J
include W hC in
theorem rev_w (d:Array α)(a b E:Nat)(hab:a<b)(hb:b<=n)(J:d.size=n)(h0:E<=n)(hn:n<=1000000000)(Q:V->Hp->Prop) 
  (z:∀U,U<=n->Q (.tu []) (A ++ .cs ty 3 (Bl R (reverseRange d a b)) U false::C)) :
  Ret G 149 [.sl A.length n 3 0 n lim,J0 a,J0 b,.m (.fn k [])] (A ++ .cs ty 3 (Bl R d) E false::C) Q:=by
 refine Bh mono rfl rfl rfl rfl rfl ?_
 have N:((b-1:Nat):Int)=(b:Int)-1:=by omega
 unfold reverseRange at z
 simp (contextual:=true) (maxSteps:=2000000) (disch:=omega) [-Int.not_lt,-Int.not_le,-Nat.not_lt,-Nat.not_le,-List.map_take,Aa]
 rw[<-N]
 refine(?key:∀(m i j:Nat) (d:Array α) (E:Nat),j-i=m->j<n->d.size=n->E<=n->(∀U,U<=n->Q (.tu []) (A ++ .cs ty 3 (Bl R (reverseLoop i j d)) U false::C))->Run G c149_B0 (S149_0 (.sl A.length n 3 0 n lim) (J0 i) (J0 j) [] (A ++ .cs ty 3 (Bl R d) E false::C)) _) _ a (b-1) d E rfl (by omega) J h0 z
 clear z J h0 d E N
 refine Bj (fun m:Nat=>m) fun m ih i j d E hm hjn J h0 z=>?_
 unfold c149_B0
 rw[reverseLoop]at z
 by_cases Z:i<j
 ·rw[Ahv Z]at z
  have u:(i:Int)<j:=by omega
  have r1:=R.rd d (i:=i) (by omega)
  have r2:=R.rd d (i:=j) (by omega)
  have w1:=R.wr d (i:=i) d[j]! (by omega)
  have w2:=R.wr (d.setIfInBounds i d[j]!) (i:=j) d[i]! (by simp;omega)
  have s1:(d.setIfInBounds i d[j]!).size=n:=by simp[J]
  have e2:swp d i j=(d.setIfInBounds i d[j]!).setIfInBounds j d[i]!:=rfl
  have hj1:((j-1:Nat):Int)=(j:Int)-1:=by omega
  rw[e2]at z
  have Y:=ih (j-1-(i+1)) (by omega) (i+1) (j-1) ((d.setIfInBounds i d[j]!).setIfInBounds j d[i]!) n rfl (by omega) (by simp[J]) (Ahu _)
  rw[hj1]at Y
  clear ih e2
  generalize d[i]! = z0 at *
  generalize d[j]! = z1 at *
  simp (contextual:=true) (maxSteps:=2000000) (disch:=omega) [Ai,-Int.not_lt,-Int.not_le,-Nat.not_lt,-Nat.not_le,-List.map_take,Ac,Ab,AC,Av,R.ld,R.st,R.all1,R.len,-Be,-Bf,Aa,u,r1,r2,w1,w2,s1,J]
  exact Y z
 ·rw[Aht Z]at z
  have u:¬(i:Int)<j:=by omega
  simp (contextual:=true) (maxSteps:=2000000) (disch:=omega) [Ai,-Int.not_lt,-Int.not_le,-Nat.not_lt,-Nat.not_le,-List.map_take,u,z E h0]
end
end Go.Mx.Tryz
