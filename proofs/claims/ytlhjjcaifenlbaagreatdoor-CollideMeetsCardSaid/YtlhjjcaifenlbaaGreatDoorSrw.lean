/- pdqsort over cells at the machine: heaps, parting, rounds. -/
import Derived.Test.YtlhjjcaifenlbaaGreatDoorSrs
import Derived.Test.YtlhjjcaifenlbaaGreatDoorIto
set_option linter.unusedSimpArgs false
set_option linter.unusedVariables false
set_option linter.unusedSectionVars false
set_option maxRecDepth 100000
namespace Go.Mx.Tryz
open Go.Sort
section
variable {α:Type} [Inhabited α] {R:Rw α 3 true} {A C:Hp} {k:Nat} {lt:α->α->Bool} (W:Cmp R A k lt) (hC:W.ok C) {ty n:Nat} {lim:Bool}
theorem KO {α:Type}[Inhabited α](lt:α->α->Bool)(d:Array α)(b:Nat)(i:Nat):i<=scanSorted lt d b i/\(i<=b->scanSorted lt d b i<=b):=by
 fun_induction scanSorted lt d b i <;> simp_all <;> omega
include W hC in
theorem Yv (d:Array α)(a b U:Nat)(J:V)(hb:b<=n)(hd:d.size=n)(h0:U<=n)(hn:n<=1000000000)(K:K)(i:Nat)(hi:1<=i) 
  (z:At' G (.ex 2) ⟨[(0,.sl A.length n 3 0 n lim),(1,J0 a),(2,J0 b),(3,.m (.fn k [])),(9,J0 (scanSorted lt d b i)),(10,J),(36,.m (.b false))],[],⟨[],A ++ .cs ty 3 (Bk R d) U false::C⟩⟩ K) :
  Run G c143_B0 (S143_0 (.sl A.length n 3 0 n lim) (J0 a) (J0 b) (.m (.fn k [])) (J0 i) J [] (A ++ .cs ty 3 (Bk R d) U false::C)) (.seq c143_L0 K):=by
 revert z
 revert hi
 revert i
 refine Bl (fun i:Nat=>b-i) fun i Q hi z=>?_
 unfold c143_B0
 rw[scanSorted]at z
 by_cases N:i<b
 ·obtain⟨m,rfl⟩:∃m,i=m+1:=⟨i-1,by omega⟩
  have E:(m:Int)+1<b:=by omega
  have Y:=R.rd d (i:=m+1) (by omega)
  have Z:=R.rd d (i:=m) (by omega)
  have q:=fun row=>W.run d[m+1]! d[m]! row C hC
  have e:=W.neg d[m+1]! d[m]!
  have Q:=Q (m+1+1) (by omega) (by omega)
  have t1:((m:Int)+1).toNat=m+1:=by omega
  have t2:((m:Int)+1-1).toNat=m:=by omega
  rw[show m+1-1=m from rfl]at z
  generalize d[m+1]! = u at Y q e z
  generalize d[m]! = w at Z q e z
  simp (contextual:=true) (disch:=omega) [Ai,Ak,Ac,Ab,AC,R.ld,-Bb,-Bc,Aa,E,Y,Z,cl (q _),e,hd,t1]
  refine⟨fun l=>?_,fun l=>?_⟩
  ·rw[Ahl (by simp[N,l])]at z
   simpa using Q z
  ·rw[Ahj (by simp[l])]at z
   simpa using z
 ·have E:¬(i:Int)<b:=by omega
  rw[Ahj (by simp[N])]at z
  simp (contextual:=true) (disch:=omega) [Ai,Ak,E]
  exact z
include W hC in
theorem Yw (a b:Nat)(x9 J:V)(hb:b<=n)(hn:n<=1000000000)(K:K):∀(j:Nat) (d:Array α) (Q:Nat),j<n->d.size=n->Q<=n ->
  (∀(Y:Nat) (N:Nat),N<=n->At' G (.ex 4) ⟨[(0,.sl A.length n 3 0 n lim),(1,J0 a),(2,J0 b),(3,.m (.fn k [])),(9,x9),(10,J),(11,J0 Y),(69,.m (.b false))],[],⟨[],A ++ .cs ty 3 (Bk R (shiftDown lt j d)) N false::C⟩⟩ K) ->
  (∀(Y:Nat) (N:Nat),N<=n->At' G (.ex 4) ⟨[(0,.sl A.length n 3 0 n lim),(1,J0 a),(2,J0 b),(3,.m (.fn k [])),(9,x9),(10,J),(11,J0 Y),(69,.m (.b true)),(84,.m (.b true))],[],⟨[],A ++ .cs ty 3 (Bk R (shiftDown lt j d)) N false::C⟩⟩ K) ->
  Run G c143_B1 (S143_1 (.sl A.length n 3 0 n lim) (J0 a) (J0 b) (.m (.fn k [])) x9 J (J0 j) [] (A ++ .cs ty 3 (Bk R d) Q false::C)) (.seq c143_L1 K):=by
 refine Bl (fun j:Nat=>j) fun j ih d Q hj hd h0 z E=>?_
 unfold c143_B1
 cases j with
 | zero =>
  rw[shiftDown]at z
  simp (contextual:=true) (disch:=omega) [Ai]
  exact z 0 Q h0
 | succ m =>
  rw[shiftDown]at z E
  have Z:(1:Int)<=m+1:=by omega
  have r1:=R.rd d (i:=m+1) (by omega)
  have r2:=R.rd d (i:=m) (by omega)
  have q:=fun row=>W.run d[m+1]! d[m]! row C hC
  have e:=W.neg d[m+1]! d[m]!
  have w1:=R.wr d (i:=m+1) d[m]! (by omega)
  have w2:=R.wr (d.setIfInBounds (m+1) d[m]!) (i:=m) d[m+1]! (by simp;omega)
  have s1:(d.setIfInBounds (m+1) d[m]!).size=n:=by simp[hd]
  have e2:swp d (m+1) m=(d.setIfInBounds (m+1) d[m]!).setIfInBounds m d[m+1]!:=rfl
  have t1:((m:Int)+1).toNat=m+1:=by omega
  have t2:((m:Int)+1-1).toNat=m:=by omega
  have U:=ih m (by omega) ((d.setIfInBounds (m+1) d[m]!).setIfInBounds m d[m+1]!) n (by omega) (by simp[hd]) (Ahk _)
  rw[e2]at z E
  clear ih e2
  generalize d[m+1]! = u at *
  generalize d[m]! = w at *
  simp (contextual:=true) (disch:=omega) [Ai,Ac,Ab,AC,Au,R.ld,R.st,R.all1,R.len,-Bb,-Bc,Aa,Z,r1,r2,cl (q _),e,w1,w2,s1,hd,t1]
  refine⟨fun l=>?_,fun l=>?_⟩
  ·rw[Ahl (by simp[l])]at E
   simpa using E (m+1) Q h0
  ·rw[Ahj (by simp[l])]at z E
   simpa using U z E
include W hC in
theorem UU (a b:Nat)(x9 N:V)(hb:b<=n)(hn:n<=1000000000)(K:K):∀(m j:Nat) (d:Array α) (Y:Nat),b-j=m->1<=j->d.size=n->Y<=n ->
  (∀(Z:Nat) (U:Nat),U<=n->At' G (.ex 6) ⟨[(0,.sl A.length n 3 0 n lim),(1,J0 a),(2,J0 b),(3,.m (.fn k [])),(9,x9),(10,N),(12,J0 Z),(109,.m (.b false))],[],⟨[],A ++ .cs ty 3 (Bk R (shiftUp lt b j d)) U false::C⟩⟩ K) ->
  (∀(Z:Nat) (U:Nat),U<=n->At' G (.ex 6) ⟨[(0,.sl A.length n 3 0 n lim),(1,J0 a),(2,J0 b),(3,.m (.fn k [])),(9,x9),(10,N),(12,J0 Z),(109,.m (.b true)),(124,.m (.b true))],[],⟨[],A ++ .cs ty 3 (Bk R (shiftUp lt b j d)) U false::C⟩⟩ K) ->
  Run G c143_B2 (S143_2 (.sl A.length n 3 0 n lim) (J0 a) (J0 b) (.m (.fn k [])) x9 N (J0 j) [] (A ++ .cs ty 3 (Bk R d) Y false::C)) (.seq c143_L2 K):=by
 refine Bl (fun m:Nat=>m) fun m ih j d Y hm hj hd h0 z E=>?_
 unfold c143_B2
 rw[shiftUp]at z E
 by_cases Q:j<b
 ·rw[Ahl Q]at z E
  obtain⟨m,rfl⟩:∃m,j=m+1:=⟨j-1,by omega⟩
  rw[show m+1-1=m from rfl]at z E
  have J:(m:Int)+1<b:=by omega
  have r1:=R.rd d (i:=m+1) (by omega)
  have r2:=R.rd d (i:=m) (by omega)
  have q:=fun row=>W.run d[m+1]! d[m]! row C hC
  have e:=W.neg d[m+1]! d[m]!
  have w1:=R.wr d (i:=m+1) d[m]! (by omega)
  have w2:=R.wr (d.setIfInBounds (m+1) d[m]!) (i:=m) d[m+1]! (by simp;omega)
  have s1:(d.setIfInBounds (m+1) d[m]!).size=n:=by simp[hd]
  have e2:swp d (m+1) m=(d.setIfInBounds (m+1) d[m]!).setIfInBounds m d[m+1]!:=rfl
  have t1:((m:Int)+1).toNat=m+1:=by omega
  have t2:((m:Int)+1-1).toNat=m:=by omega
  have ih2:=ih (b-(m+1+1)) (by omega) (m+1+1) ((d.setIfInBounds (m+1) d[m]!).setIfInBounds m d[m+1]!) n rfl (by omega) (by simp[hd]) (Ahk _)
  rw[e2]at z E
  clear ih e2
  generalize d[m+1]! = u at *
  generalize d[m]! = w at *
  simp (contextual:=true) (disch:=omega) [Ai,Ac,Ab,AC,Au,R.ld,R.st,R.all1,R.len,-Bb,-Bc,Aa,J,r1,r2,cl (q _),e,w1,w2,s1,hd,t1]
  refine⟨fun l=>?_,fun l=>?_⟩
  ·rw[Ahl (by simp[l])]at E
   simpa using E (m+1) Y h0
  ·rw[Ahj (by simp[l])]at z E
   simpa using ih2 z E
 ·rw[Ahj Q]at z
  have J:¬(j:Int)<b:=by omega
  simp (contextual:=true) (disch:=omega) [Ai,J]
  exact z j Y h0
theorem Fv (lt:α->α->Bool):∀(j:Nat) (d:Array α),(shiftDown lt j d).size=d.size
 | 0,_=>rfl
 | j+1,d=>by
  rw[shiftDown]
  split
  ·rfl
  ·rw[Fv lt j,WF]
theorem Ck (lt:α->α->Bool)(b j:Nat)(d:Array α):(shiftUp lt b j d).size=d.size:=by
 fun_induction shiftUp lt b j d <;> simp_all [swp]
set_option maxHeartbeats 2000000 in
include W hC in
theorem pis_w (d:Array α)(a b b0:Nat)(hab:a<b)(hb:b<=n)(hd:d.size=n)(h0:b0<=n)(hn:n<=1000000000)(Q:V->Hp->Prop) 
  (E:∀b1,b1<=n->Q (.m (.b (partialInsertionSort lt d a b).2)) (A ++ .cs ty 3 (Bk R (partialInsertionSort lt d a b).1) b1 false::C)) :
  Ret G 143 [.sl A.length n 3 0 n lim,J0 a,J0 b,.m (.fn k [])] (A ++ .cs ty 3 (Bk R d) b0 false::C) Q:=by
 refine Bg mono rfl rfl rfl rfl rfl ?_
 unfold partialInsertionSort at E
 simp (contextual:=true) (disch:=omega) [Aa]
 refine(?key:∀(s i:Nat) (d:Array α) (b0:Nat),s<=5->a+1<=i->i<=b->d.size=n->b0<=n->(∀b1,b1<=n->Q (.m (.b (partialIns lt a b s i d).2)) (A ++ .cs ty 3 (Bk R (partialIns lt a b s i d).1) b1 false::C))->Run G c143_B3 (S143_3 (.sl A.length n 3 0 n lim) (J0 a) (J0 b) (.m (.fn k [])) (J0 i) (J0 ((5-s:Nat):Int)) [] (A ++ .cs ty 3 (Bk R d) b0 false::C)) _) 5 (a+1) d b0 (Ahk _) (Ahk _) hab hd h0 E
 clear E hd h0 d b0
 intro s
 induction s with
 | zero =>
  intro i d b0 hs hi hib hd h0 E
  unfold c143_B3
  rw[partialIns]at E
  simp (contextual:=true) (disch:=omega) [Ai]
  exact E b0 h0
 | succ s ih =>
  intro i d b0 hs hi hib hd h0 E
  rw[partialIns_succ]at E
  have hs5:((5-(s+1):Nat):Int)<5:=by omega
  have U:((5-(s+1):Nat):Int)+1=((5-s:Nat):Int):=by omega
  generalize ((5-(s+1):Nat):Int)=x10 at hs5 U ⊢
  have hx10:-1<=x10:=by omega
  have u:=KO lt d b i
  unfold c143_B3
  simp (contextual:=true) (disch:=omega) [Ai,hs5]
  refine Yv W hC d a b b0 _ hb hd h0 hn _ i (by omega) ?_
  generalize hi2:scanSorted lt d b i=i2 at u E ⊢
  have u2:=u.2 hib
  by_cases hib2:i2=b
  ·have hib3:(i2:Int)=b:=by omega
   simp only[Ahl hib2]at E
   simp (contextual:=true) (disch:=omega) [Ai,hib3]
   exact E b0 h0
  ·have hib3:¬(i2:Int)=b:=by omega
   have hib4:¬i2=b:=hib2
   simp only[Ahj hib2]at E
   by_cases h50:b-a<50
   ·have Z:(b:Int)-a<50:=by omega
    simp only[Ahl h50]at E
    simp (contextual:=true) (disch:=omega) [Ai,Aa,hib3,Z]
    exact E b0 h0
   have Z:¬(b:Int)-a<50:=by omega
   simp only[Ahj h50]at E
   obtain⟨m,rfl⟩:∃m,i2=m+1:=⟨i2-1,by omega⟩
   have r1:=R.rd d (i:=m+1) (by omega)
   have r2:=R.rd d (i:=m) (by omega)
   have w1:=R.wr d (i:=m+1) d[m]! (by omega)
   have w2:=R.wr (d.setIfInBounds (m+1) d[m]!) (i:=m) d[m+1]! (by simp;omega)
   have s1:(d.setIfInBounds (m+1) d[m]!).size=n:=by simp[hd]
   have e2:swp d (m+1) m=(d.setIfInBounds (m+1) d[m]!).setIfInBounds m d[m+1]!:=rfl
   have t1:((m:Int)+1).toNat=m+1:=by omega
   have t2:((m:Int)+1-1).toNat=m:=by omega
   simp only[Nat.add_sub_cancel,e2]at E
   have a0:((d.setIfInBounds (m+1) d[m]!).setIfInBounds m d[m+1]!).size=n:=by simp[hd]
   have N:=fun dd bb=>ih (m+1) dd bb (by omega) (by omega) (by omega)
   clear e2 ih hi2
   generalize d[m+1]! = u at *
   generalize d[m]! = w at *
   have hib5:¬(m:Int)+1=b:=by omega
   by_cases h2:m+1-a>=2
   ·have h2':(2:Int)<=(m:Int)+1-a:=by omega
    have fd:fixDown lt a (m+1) ((d.setIfInBounds (m+1) w).setIfInBounds m u)=shiftDown lt m ((d.setIfInBounds (m+1) w).setIfInBounds m u):=by unfold fixDown;rw[Ahl h2];rfl
    rw[fd]at E
    have hD:(shiftDown lt m ((d.setIfInBounds (m+1) w).setIfInBounds m u)).size=n:=by rw[Fv];exact a0
    simp (contextual:=true) (disch:=omega) [Ai,Ac,Ab,AC,Au,R.ld,R.st,R.all1,R.len,-Bb,-Bc,Aa,hib5,Z,h2',r1,r2,w1,w2,s1,hd,t1]
    refine Yw W hC a b _ _ hb hn _ m ((d.setIfInBounds (m+1) w).setIfInBounds m u) n (by omega) a0 (Ahk _) (fun j2 Y z=>?_) (fun j2 Y z=>?_)
    ·clear r1 r2 w1 w2 s1
     by_cases h3:b-(m+1)>=2
     ·have J:(2:Int)<=(b:Int)-((m:Int)+1):=by omega
      have fu:fixUp lt b (m+1) (shiftDown lt m ((d.setIfInBounds (m+1) w).setIfInBounds m u))=shiftUp lt b (m+1+1) (shiftDown lt m ((d.setIfInBounds (m+1) w).setIfInBounds m u)):=by unfold fixUp;rw[Ahl h3]
      rw[fu]at E
      simp (contextual:=true) (disch:=omega) [Ai,Aa,J]
      refine UU W hC a b _ _ hb hn _ _ (m+1+1) (shiftDown lt m ((d.setIfInBounds (m+1) w).setIfInBounds m u)) Y rfl (by omega) hD z (fun j2 Y z=>?_) (fun j2 Y z=>?_)
      ·have:=N (shiftUp lt b (m+1+1) (shiftDown lt m ((d.setIfInBounds (m+1) w).setIfInBounds m u))) Y (by rw[Ck];exact hD) z E
       simp (contextual:=true) (disch:=omega) [Aa,U]
       exact this
      ·have:=N (shiftUp lt b (m+1+1) (shiftDown lt m ((d.setIfInBounds (m+1) w).setIfInBounds m u))) Y (by rw[Ck];exact hD) z E
       simp (contextual:=true) (disch:=omega) [Aa,U]
       exact this
     ·have J:¬(2:Int)<=(b:Int)-((m:Int)+1):=by omega
      have fu:fixUp lt b (m+1) (shiftDown lt m ((d.setIfInBounds (m+1) w).setIfInBounds m u))=shiftDown lt m ((d.setIfInBounds (m+1) w).setIfInBounds m u):=by unfold fixUp;rw[Ahj h3]
      rw[fu]at E
      have:=N (shiftDown lt m ((d.setIfInBounds (m+1) w).setIfInBounds m u)) Y hD z E
      simp (contextual:=true) (disch:=omega) [Ai,Aa,J,U]
      exact this
    ·clear r1 r2 w1 w2 s1
     by_cases h3:b-(m+1)>=2
     ·have J:(2:Int)<=(b:Int)-((m:Int)+1):=by omega
      have fu:fixUp lt b (m+1) (shiftDown lt m ((d.setIfInBounds (m+1) w).setIfInBounds m u))=shiftUp lt b (m+1+1) (shiftDown lt m ((d.setIfInBounds (m+1) w).setIfInBounds m u)):=by unfold fixUp;rw[Ahl h3]
      rw[fu]at E
      simp (contextual:=true) (disch:=omega) [Ai,Aa,J]
      refine UU W hC a b _ _ hb hn _ _ (m+1+1) (shiftDown lt m ((d.setIfInBounds (m+1) w).setIfInBounds m u)) Y rfl (by omega) hD z (fun j2 Y z=>?_) (fun j2 Y z=>?_)
      ·have:=N (shiftUp lt b (m+1+1) (shiftDown lt m ((d.setIfInBounds (m+1) w).setIfInBounds m u))) Y (by rw[Ck];exact hD) z E
       simp (contextual:=true) (disch:=omega) [Aa,U]
       exact this
      ·have:=N (shiftUp lt b (m+1+1) (shiftDown lt m ((d.setIfInBounds (m+1) w).setIfInBounds m u))) Y (by rw[Ck];exact hD) z E
       simp (contextual:=true) (disch:=omega) [Aa,U]
       exact this
     ·have J:¬(2:Int)<=(b:Int)-((m:Int)+1):=by omega
      have fu:fixUp lt b (m+1) (shiftDown lt m ((d.setIfInBounds (m+1) w).setIfInBounds m u))=shiftDown lt m ((d.setIfInBounds (m+1) w).setIfInBounds m u):=by unfold fixUp;rw[Ahj h3]
      rw[fu]at E
      have:=N (shiftDown lt m ((d.setIfInBounds (m+1) w).setIfInBounds m u)) Y hD z E
      simp (contextual:=true) (disch:=omega) [Ai,Aa,J,U]
      exact this
   ·have h2':¬(2:Int)<=(m:Int)+1-a:=by omega
    have fd:fixDown lt a (m+1) ((d.setIfInBounds (m+1) w).setIfInBounds m u)=((d.setIfInBounds (m+1) w).setIfInBounds m u):=by unfold fixDown;rw[Ahj h2]
    rw[fd]at E
    by_cases h3:b-(m+1)>=2
    ·have J:(2:Int)<=(b:Int)-((m:Int)+1):=by omega
     have fu:fixUp lt b (m+1) (((d.setIfInBounds (m+1) w).setIfInBounds m u))=shiftUp lt b (m+1+1) (((d.setIfInBounds (m+1) w).setIfInBounds m u)):=by unfold fixUp;rw[Ahl h3]
     rw[fu]at E
     simp (contextual:=true) (disch:=omega) [Ai,Ac,Ab,Aa,J,AC,Au,R.ld,R.st,R.all1,R.len,-Bb,-Bc,hib5,Z,h2',r1,r2,w1,w2,s1,hd,t1]
     refine UU W hC a b _ _ hb hn _ _ (m+1+1) (((d.setIfInBounds (m+1) w).setIfInBounds m u)) n rfl (by omega) a0 (Ahk _) (fun j2 Y z=>?_) (fun j2 Y z=>?_)
     ·have:=N (shiftUp lt b (m+1+1) (((d.setIfInBounds (m+1) w).setIfInBounds m u))) Y (by rw[Ck];exact a0) z E
      simp (contextual:=true) (disch:=omega) [Aa,U]
      exact this
     ·have:=N (shiftUp lt b (m+1+1) (((d.setIfInBounds (m+1) w).setIfInBounds m u))) Y (by rw[Ck];exact a0) z E
      simp (contextual:=true) (disch:=omega) [Aa,U]
      exact this
    ·have J:¬(2:Int)<=(b:Int)-((m:Int)+1):=by omega
     have fu:fixUp lt b (m+1) (((d.setIfInBounds (m+1) w).setIfInBounds m u))=((d.setIfInBounds (m+1) w).setIfInBounds m u):=by unfold fixUp;rw[Ahj h3]
     rw[fu]at E
     have:=N (((d.setIfInBounds (m+1) w).setIfInBounds m u)) n a0 (Ahk _) E
     simp (contextual:=true) (disch:=omega) [Ai,Aa,AC,-Bb,-Bc,hib5,Z]
     first
      | exact this
      | omega
end
end Go.Mx.Tryz
set_option maxRecDepth 100000
namespace Go.Mx.Tryz
open Go.Sort
section
variable {α:Type} [Inhabited α] {R:Rw α 3 true} {A C:Hp} {k:Nat} {lt:α->α->Bool} (W:Cmp R A k lt) (hC:W.ok C) {ty n:Nat} {lim:Bool}
abbrev swR (s:Int)(b:Nat):Row:=.cs 3 1 [[.m (.i .i64 s)]] b false
theorem IZ (A:Hp)(r:Row)(C:Hp)(x:Row):nth (A++r::(C++[x])) (A.length+(C.length+1))=some x:=by
 rw[AL,AhP (by omega)]
 simp[]
theorem IN (A:Hp)(r:Row)(C:Hp)(x y:Row):AO (A++r::(C++[x])) (A.length+(C.length+1)) y=some (A++r::(C++[y])):=by
 rw[AA _ _ _ (by simp)]
 congr 1
 rw[AiF _ _ (by omega)]
 have e:A.length+(C.length+1)-A.length=C.length+1:=by omega
 rw[e]
 simp[AiF]
include W hC in
theorem Vh (d:Array α)(a b N J:Nat)(s:Int)(ha:a<n)(hb:b<n)(hd:d.size=n)(h0:N<=n)(hn:n<=1000000000)(z:J<=1)(Q:V->Hp->Prop) 
  (U:∀(x y:Nat) (Y:Int) (E:Nat),(x=a/\y=b\/x=b/\y=a)->E<=1->Q (.tu [J0 x,J0 y]) (A ++ .cs ty 3 (Bk R d) N false::(C++[swR Y E]))) :
  Ret G 208 [.sl A.length n 3 0 n lim,J0 a,J0 b,.pt (A.length+(C.length+1)) 1 0 0,.m (.fn k [])] (A ++ .cs ty 3 (Bk R d) N false::(C++[swR s J])) Q:=by
 refine Bg mono rfl rfl rfl rfl rfl ?_
 have Z:=R.rd d (i:=a) (by omega)
 have r2:=R.rd d (i:=b) (by omega)
 have q:=fun row=>W.run d[b]! d[a]! row (C++[swR s J]) (W.ext _ _ hC)
 have e:=W.neg d[b]! d[a]!
 generalize d[a]! = u at *
 generalize d[b]! = w at *
 simp (contextual:=true) (disch:=omega) [Ai,Ac,Ab,AC,R.ld,-Bb,-Bc,Z,r2,cl (q _),e,hd,IZ,IN,z]
 refine⟨fun l=>?_,fun l=>?_⟩
 ·exact U b a _ 1 (.inr ⟨rfl,rfl⟩) (Ahk _)
 ·exact U a b s J (.inl ⟨rfl,rfl⟩) z
include W hC in
theorem Adl (d:Array α)(a b c u Z:Nat)(s:Int)(ha:a<n)(hb:b<n)(hc:c<n)(hd:d.size=n)(E:u<=n)(Y:n<=1000000000)(U:Z<=1)(Q:V->Hp->Prop) 
  (hQ:∀(x:Nat) (s':Int) (z:Nat),(x=a\/x=b\/x=c)->z<=1->Q (J0 x) (A ++ .cs ty 3 (Bk R d) u false::(C++[swR s' z]))) :
  Ret G 176 [.sl A.length n 3 0 n lim,J0 a,J0 b,J0 c,.pt (A.length+(C.length+1)) 1 0 0,.m (.fn k [])] (A ++ .cs ty 3 (Bk R d) u false::(C++[swR s Z])) Q:=by
 refine Bg mono rfl rfl rfl rfl rfl ?_
 simp (contextual:=true) (disch:=omega) [-List.map_take]
 rw[Ao]
 refine Vh W hC d a b u Z s ha hb hd E Y U _ fun x1 y1 s1 a3 h1 a2=>?_
 simp (contextual:=true) (disch:=omega) [-List.map_take]
 rw[Ao]
 refine Vh W hC d y1 c u a3 s1 (by omega) hc hd E Y a2 _ fun y2 z2 s2 N h2 a1=>?_
 simp (contextual:=true) (disch:=omega) [-List.map_take]
 rw[Ao]
 refine Vh W hC d x1 y2 u N s2 (by omega) (by omega) hd E Y a1 _ fun x3 y3 s3 J h3 a0=>?_
 simp (contextual:=true) (disch:=omega) [-List.map_take]
 exact hQ y3 s3 J (by omega) a0
include W hC in
theorem AdC (d:Array α)(a z J:Nat)(s:Int)(ha1:1<=a)(ha:a+1<n)(hd:d.size=n)(Z:z<=n)(hn:n<=1000000000)(E:J<=1)(Q:V->Hp->Prop) 
  (hQ:∀(x:Nat) (Y:Int) (u:Nat),(a-1<=x/\x<=a+1)->u<=1->Q (J0 x) (A ++ .cs ty 3 (Bk R d) z false::(C++[swR Y u]))) :
  Ret G 175 [.sl A.length n 3 0 n lim,J0 a,.pt (A.length+(C.length+1)) 1 0 0,.m (.fn k [])] (A ++ .cs ty 3 (Bk R d) z false::(C++[swR s J])) Q:=by
 refine Bg mono rfl rfl rfl rfl rfl ?_
 obtain⟨m,rfl⟩:∃m,a=m+1:=⟨a-1,by omega⟩
 have t1:(m:Int)+1-1=m:=by omega
 simp (contextual:=true) (disch:=omega) [Aa,t1]
 rw[Ao]
 refine Adl W hC d m (m+1) (m+1+1) z J s (by omega) (by omega) (by omega) hd Z hn E _ fun x s1 U h1 N=>?_
 simp (contextual:=true) (disch:=omega) [-List.map_take]
 exact hQ x s1 U (by omega) N
include W hC in
theorem piv_w (d:Array α)(a b u:Nat)(hab:a+8<=b)(hb:b<=n)(U:d.size=n)(E:u<=n)(N:n<=1000000000)(Q:V->Hp->Prop) 
  (z:∀(x:Nat) (h:Int) (X:Hp),a<=x->x<b->Q (.tu [J0 x,J0 h]) (A ++ .cs ty 3 (Bk R d) u false::(C++X))) :
  Ret G 141 [.sl A.length n 3 0 n lim,J0 a,J0 b,.m (.fn k [])] (A ++ .cs ty 3 (Bk R d) u false::C) Q:=by
 refine Bg mono rfl rfl rfl rfl rfl ?_
 have Y:((b:Int)-a).tdiv 4=(((b-a) / 4:Nat):Int):=by
  rw[show (b:Int)-a=((b-a:Nat):Int) by omega];rfl
 generalize hl:(b-a) / 4=l at Y
 have h8:(8:Int)<=(b:Int)-a:=by omega
 have c1:(a:Int)+l=((a+l:Nat):Int):=by omega
 have c2:(a:Int)+(l:Int)*2=((a+l*2:Nat):Int):=by omega
 have c3:(a:Int)+(l:Int)*3=((a+l*3:Nat):Int):=by omega
 by_cases J:(50:Int)<=(b:Int)-a
 ·simp (contextual:=true) (disch:=omega) [Ai,Ab,Aa,Y,h8,J]
  rw[Ao,c1]
  refine AdC W hC d (a+l) u 0 0 (by omega) (by omega) U E N (by omega) _ fun x1 s1 a5 h1 a4=>?_
  simp (contextual:=true) (disch:=omega) [-List.map_take]
  rw[Ao,c2]
  refine AdC W hC d (a+l*2) u a5 s1 (by omega) (by omega) U E N a4 _ fun x2 s2 Z h2 a0=>?_
  simp (contextual:=true) (disch:=omega) [-List.map_take]
  rw[Ao,c3]
  refine AdC W hC d (a+l*3) u Z s2 (by omega) (by omega) U E N a0 _ fun x3 s3 a2 h3 a3=>?_
  simp (contextual:=true) (disch:=omega) [-List.map_take]
  rw[Ao]
  refine Adl W hC d x1 x2 x3 u a2 s3 (by omega) (by omega) (by omega) U E N a3 _ fun x s' a1 hx hs=>?_
  simp (contextual:=true) (disch:=omega) [Ai,Ac,Ab,IZ]
  exact⟨fun _=>z x _ [_] (by omega) (by omega),fun _=>⟨fun _=>z x _ [_] (by omega) (by omega),fun _=>z x _ [_] (by omega) (by omega)⟩⟩
 ·simp (contextual:=true) (disch:=omega) [Ai,Ab,Aa,Y,h8,J]
  rw[Ao,c1,c2,c3]
  refine Adl W hC d (a+l) (a+l*2) (a+l*3) u 0 0 (by omega) (by omega) (by omega) U E N (by omega) _ fun x s' a1 hx hs=>?_
  simp (contextual:=true) (disch:=omega) [Ai,Ac,Ab,IZ]
  exact⟨fun _=>z x _ [_] (by omega) (by omega),fun _=>⟨fun _=>z x _ [_] (by omega) (by omega),fun _=>z x _ [_] (by omega) (by omega)⟩⟩
end
end Go.Mx.Tryz
set_option maxRecDepth 100000
namespace Go.Mx.Tryz
open Go.Sort Go.Lib
def x64 (x y:Int):Int:=wr .u64 (Int.ofNat (Nat.xor (Gp .u64 x) (Gp .u64 y)))
theorem Zj (x y:Int):Ev .xor (.m (.i .u64 x)) (.m (.i .u64 y))=some (.m (.i .u64 (x64 x y))):=by simp[Ev,arX,vi,x64]
theorem Acc (x y:Int):∃n:Nat,n<18446744073709551616/\x64 x y=n:=by
 refine⟨(Nat.xor (Gp .u64 x) (Gp .u64 y))%18446744073709551616,Nat.mod_lt _ (by decide),?_⟩
 unfold x64
 generalize Nat.xor (Gp .u64 x) (Gp .u64 y)=z
 rw[Gs]
 simp[IntKind.wrap,IntKind.signed,IntKind.bits]
theorem AgS (y k:Nat)(u:y<18446744073709551616)(E:k<=32):Ev .and (.m (.i .u64 y)) (.m (.i .u64 ((2 ^ k-1:Nat):Int)))=some (.m (.i .u64 ((y%2 ^ k:Nat):Int))):=by
 have Y:2 ^ k<=4294967296:=Nat.pow_le_pow_right (n:=2) (by decide) E
 have z:0<2 ^ k:=Nat.pow_pos (by decide)
 have J:Gp .u64 (y:Int)=y:=Nat.mod_eq_of_lt u
 have N:Gp .u64 ((2 ^ k-1:Nat):Int)=2 ^ k-1:=Nat.mod_eq_of_lt (by show 2 ^ k-1<18446744073709551616;omega)
 rw[ZK,J,N]
 have Q:Nat.land y (2 ^ k-1)=y%2 ^ k:=Nat.and_two_pow_sub_one_eq_mod y k
 have U:y%2 ^ k<2 ^ k:=Nat.mod_lt _ z
 rw[Q,show Int.ofNat (y%2 ^ k)=((y%2 ^ k:Nat):Int) from rfl,Dg (by omega) (by omega)]
theorem lenG (u:Nat)(h:u<18446744073709551616)(H:Hp):Gives G 109 [.m (.i .u64 u)] H (J0 (Lib.bitLen u)) H:=by
 refine Ae rfl rfl rfl rfl rfl ?_
 simp (contextual:=true) (disch:=omega) [Ai,cl (Agz u h [])]
theorem Ql (u:Nat)(U:1<=u)(h:u<=1000000000):Lib.bitLen u<=30/\2 ^ Lib.bitLen u<=2*u:=by
 have N:Lib.bitLen u<=30:=bitLen_le u 30 (by decide) (by omega)
 obtain⟨J,E,Q⟩:=bitLenAux_bounds 64 u (by omega) (by omega)
 refine⟨N,?_⟩
 have e:bitLenAux 64 u=Lib.bitLen u:=rfl
 rw[e]at J E
 obtain⟨j,z⟩:∃j,Lib.bitLen u=j+1:=⟨Lib.bitLen u-1,by omega⟩
 rw[z,Nat.pow_succ]
 rw[z,Nat.add_sub_cancel]at E
 omega
theorem npow (u:Nat)(N:1<=u)(h:u<=1000000000)(H:Hp):Gives G 173 [J0 u] H (.m (.i .u64 ((2 ^ Lib.bitLen u:Nat):Int))) H:=by
 refine Ae rfl rfl rfl rfl rfl ?_
 obtain⟨Q,Y⟩:=Ql u N h
 have t:min (Lib.bitLen u) 64=Lib.bitLen u:=by omega
 have U:0<2 ^ Lib.bitLen u:=Nat.pow_pos (by decide)
 have J:((2 ^ Lib.bitLen u:Nat):Int)<=2*u:=by omega
 have z:(0:Int)<=((2 ^ Lib.bitLen u:Nat):Int):=by omega
 generalize E:(2 ^ Lib.bitLen u:Nat)=m at J z ⊢
 simp (contextual:=true) (disch:=omega) [cl (lenG u (by omega) []),Dg,t,E]
section
variable {α:Type} [Inhabited α] {R:Rw α 3 true} {A C:Hp} {k:Nat} {lt:α->α->Bool} (W:Cmp R A k lt) (hC:W.ok C) {ty n:Nat} {lim:Bool}
abbrev rnR (x:Int)(b:Nat):Row:=.cs 202 1 [[.m (.i .u64 x)]] b false
theorem Ago (z:Row)(x:Int)(b:Nat)(N:b<=1)(Q:V->Hp->Prop) 
  (J:∀(y:Nat) (u:Nat),y<18446744073709551616->u<=1->Q (.m (.i .u64 y)) (A++z::(C++[rnR y u]))) :
  Ret G 174 [.pt (A.length+(C.length+1)) 1 0 0] (A++z::(C++[rnR x b])) Q:=by
 refine Bg mono rfl rfl rfl rfl rfl ?_
 simp (contextual:=true) (disch:=omega) [Ac,Ab,Zj,IZ,IN]
 have h:=Acc (x64 (x64 x (wr IntKind.u64 (x*8192))) (x64 x (wr IntKind.u64 (x*8192)) / 128)) (wr IntKind.u64 (x64 (x64 x (wr IntKind.u64 (x*8192))) (x64 x (wr IntKind.u64 (x*8192)) / 128)*131072))
 obtain⟨y,E,e⟩:=h
 rw[e]
 exact J y 1 E (Ahk _)
theorem brk_w (d:Array α)(a b b0:Nat)(hab:a+8<=b)(hb:b<=n)(hd:d.size=n)(h0:b0<=n)(hn:n<=1000000000)(Q:V->Hp->Prop) 
  (hQ:∀(u:Array α) (b1:Nat) (X:Hp),PermIn a b d u->b1<=n->Q (.tu []) (A ++ .cs ty 3 (Bk R u) b1 false::(C++X))) :
  Ret G 140 [.sl A.length n 3 0 n lim,J0 a,J0 b,.m (.fn k [])] (A ++ .cs ty 3 (Bk R d) b0 false::C) Q:=by
 refine Bg mono rfl rfl rfl rfl rfl ?_
 obtain⟨L,rfl⟩:∃L,b=a+L:=⟨b-a,by omega⟩
 have tL:(a:Int)+L-a=L:=by omega
 have h8:(8:Int)<=L:=by omega
 obtain⟨p1,p2⟩:=Ql L (by omega) (by omega)
 have hp0:0<2 ^ Lib.bitLen L:=Nat.pow_pos (by decide)
 have J:=fun y hy=>AgS y (Lib.bitLen L) hy (by omega)
 have N:=fun y=>Nat.mod_lt y hp0
 have a0:=npow L (by omega) (by omega)
 have Y:((2 ^ Lib.bitLen L-1:Nat):Int)=((2 ^ Lib.bitLen L:Nat):Int)-1:=by omega
 rw[Y]at J
 generalize (2 ^ Lib.bitLen L:Nat)=m at hp0 p2 J N a0 Y
 clear Y p1
 have d4:(L:Int).tdiv 4=((L / 4:Nat):Int):=rfl
 generalize hl:L / 4=l at d4
 have i0:(a:Int)+(l:Int)*2-1=((a+l*2-1:Nat):Int):=by omega
 simp (contextual:=true) (disch:=omega) [Ai,Ab,Aa,Dg,tL,h8,cl (a0 _),d4,IZ,IN,i0]
 refine(?key:∀(q i:Nat) (u:Array α) (b1 x2:Nat) (sb:Nat),a+l*2+2-i=q->a<=i->i<a+L->u.size=n->b1<=n->sb<=1->PermIn a (a+L) d u->Run G c140_B0 (S140_0 (.sl A.length n 3 0 n lim) (J0 a) (J0 L) (.pt (A.length+(C.length+1)) 1 0 0) (.m (.i .u64 m)) (J0 i) [] (A ++ .cs ty 3 (Bk R u) b1 false::(C++[rnR x2 sb]))) _) _ (a+l*2-1) d b0 L 1 rfl (by omega) (by omega) hd h0 (Ahk _) (permIn_refl _ _ _)
 clear i0 a0 h0 b0
 refine Bl (fun q:Nat=>q) fun q ih i u b1 x2 sb hq hai hil z hb1 hsb hp=>?_
 unfold c140_B0
 by_cases hi:i<=a+l*2+1
 ·have Z:(i:Int)<=(a:Int)+(l:Int)*2+1:=by omega
  simp (contextual:=true) (disch:=omega) [Ai,Aa,d4,Z]
  rw[Ao]
  refine Ago _ _ sb hsb _ fun y b2 hy hb2=>?_
  have a1:=J y hy
  have hmo:=N y
  generalize y%m=o at a1 hmo
  by_cases ho:L<=o
  ·have ho':(L:Int)<=o:=by omega
   obtain⟨j,rfl⟩:∃j,o=L+j:=⟨o-L,by omega⟩
   have tj:((L+j:Nat):Int)-L=j:=by omega
   have tj':(L:Int)+j-L=j:=by omega
   have r1:=R.rd u (i:=i) (by omega)
   have r2:=R.rd u (i:=a+j) (by omega)
   have w1:=R.wr u (i:=i) u[a+j]! (by omega)
   have w2:=R.wr (u.setIfInBounds i u[a+j]!) (i:=a+j) u[i]! (by simp;omega)
   have s1:(u.setIfInBounds i u[a+j]!).size=n:=by simp[z]
   have E:PermIn a (a+L) d (swp u i (a+j)):=permIn_trans _ _ _ _ _ hp (swp_permIn _ _ _ _ _ hai hil (by omega) (by omega) (by omega))
   have es:swp u i (a+j)=(u.setIfInBounds i u[a+j]!).setIfInBounds (a+j) u[i]!:=rfl
   have xj:((a:Int)+j).toNat=a+j:=by omega
   rw[es]at E
   have U:=ih (a+l*2+2-(i+1)) (by omega) (i+1) ((u.setIfInBounds i u[a+j]!).setIfInBounds (a+j) u[i]!) n y b2 rfl (by omega) (by omega) (by simp[z]) (Ahk _) hb2 E
   clear ih es
   generalize u[i]! = z0 at *
   generalize u[a+j]! = z1 at *
   simp (contextual:=true) (disch:=omega) [Ai,Ac,Ab,AC,Au,R.ld,R.st,R.all1,R.len,-Bb,-Bc,Aa,Dg,a1,tj',r1,r2,w1,w2,s1,z,xj]
   exact⟨fun _=>U,by omega⟩
  ·have ho':¬(L:Int)<=o:=by omega
   have r1:=R.rd u (i:=i) (by omega)
   have r2:=R.rd u (i:=a+o) (by omega)
   have w1:=R.wr u (i:=i) u[a+o]! (by omega)
   have w2:=R.wr (u.setIfInBounds i u[a+o]!) (i:=a+o) u[i]! (by simp;omega)
   have s1:(u.setIfInBounds i u[a+o]!).size=n:=by simp[z]
   have E:PermIn a (a+L) d (swp u i (a+o)):=permIn_trans _ _ _ _ _ hp (swp_permIn _ _ _ _ _ hai hil (by omega) (by omega) (by omega))
   have es:swp u i (a+o)=(u.setIfInBounds i u[a+o]!).setIfInBounds (a+o) u[i]!:=rfl
   have xo:((a:Int)+o).toNat=a+o:=by omega
   rw[es]at E
   have U:=ih (a+l*2+2-(i+1)) (by omega) (i+1) ((u.setIfInBounds i u[a+o]!).setIfInBounds (a+o) u[i]!) n y b2 rfl (by omega) (by omega) (by simp[z]) (Ahk _) hb2 E
   clear ih es
   generalize u[i]! = z0 at *
   generalize u[a+o]! = z1 at *
   simp (contextual:=true) (disch:=omega) [Ai,Ac,Ab,AC,Au,R.ld,R.st,R.all1,R.len,-Bb,-Bc,Aa,Dg,a1,ho',r1,r2,w1,w2,s1,z,xo]
   exact U
 ·have Z:¬(i:Int)<=(a:Int)+(l:Int)*2+1:=by omega
  simp (contextual:=true) (disch:=omega) [Ai,Aa,d4,Z]
  exact hQ u b1 _ hp hb1
end
end Go.Mx.Tryz
