/- pdqsort over cells at the machine: heaps, parting, rounds. -/
import Derived.Test.YtiehnedoinlfeaaGreatDoorSrs
import Derived.Test.YtiehnedoinlfeaaGreatDoorIto
set_option linter.unusedSimpArgs false
set_option linter.unusedVariables false
set_option linter.unusedSectionVars false
set_option maxRecDepth 100000
namespace Go.Mx.Tryz
open Go.Sort
section
variable {α:Type} [Inhabited α] {R:Rw α 3 true} {A C:Hp} {k:Nat} {lt:α->α->Bool} (W:Cmp R A k lt) (hC:W.ok C) {ty n:Nat} {lim:Bool}
theorem KK {α:Type}[Inhabited α](lt:α->α->Bool)(d:Array α)(b:Nat)(i:Nat):i<=scanSorted lt d b i/\(i<=b->scanSorted lt d b i<=b):=by
 fun_induction scanSorted lt d b i <;> simp_all <;> omega
include W hC in
theorem Yp (d:Array α)(a b Q:Nat)(J:V)(hb:b<=n)(hd:d.size=n)(h0:Q<=n)(hn:n<=1000000000)(K:K)(i:Nat)(hi:1<=i) 
  (z:At' G (.ex 2) ⟨[(0,.sl A.length n 3 0 n lim),(1,J0 a),(2,J0 b),(3,.m (.fn k [])),(9,J0 (scanSorted lt d b i)),(10,J),(36,.m (.b false))],[],⟨[],A ++ .cs ty 3 (Bl R d) Q false::C⟩⟩ K) :
  Run G c150_B0 (S150_0 (.sl A.length n 3 0 n lim) (J0 a) (J0 b) (.m (.fn k [])) (J0 i) J [] (A ++ .cs ty 3 (Bl R d) Q false::C)) (.seq c150_L0 K):=by
 revert z
 revert hi
 revert i
 refine Bj (fun i:Nat=>b-i) fun i U hi z=>?_
 unfold c150_B0
 rw[scanSorted]at z
 by_cases N:i<b
 ·obtain⟨m,rfl⟩:∃m,i=m+1:=⟨i-1,by omega⟩
  have E:(m:Int)+1<b:=by omega
  have Z:=R.rd d (i:=m+1) (by omega)
  have Y:=R.rd d (i:=m) (by omega)
  have q:=fun row=>W.run d[m+1]! d[m]! row C hC
  have e:=W.neg d[m+1]! d[m]!
  have U:=U (m+1+1) (by omega) (by omega)
  have t1:((m:Int)+1).toNat=m+1:=by omega
  have t2:((m:Int)+1-1).toNat=m:=by omega
  rw[show m+1-1=m from rfl]at z
  generalize d[m+1]! = u at Z q e z
  generalize d[m]! = w at Y q e z
  simp (contextual:=true) (maxSteps:=2000000) (disch:=omega) [Ai,Ak,-Int.not_lt,-Int.not_le,-Nat.not_lt,-Nat.not_le,-List.map_take,Ac,Ab,AC,R.ld,-Be,-Bf,Aa,E,Z,Y,cl (q _),e,hd,t1]
  refine⟨fun l=>?_,fun l=>?_⟩
  ·rw[Ahv (by simp[N,l])]at z
   simpa using U z
  ·rw[Aht (by simp[l])]at z
   simpa using z
 ·have E:¬(i:Int)<b:=by omega
  rw[Aht (by simp[N])]at z
  simp (contextual:=true) (maxSteps:=2000000) (disch:=omega) [Ai,Ak,-Int.not_lt,-Int.not_le,-Nat.not_lt,-Nat.not_le,-List.map_take,E]
  exact z
include W hC in
theorem Yq (a b:Nat)(Y J:V)(hb:b<=n)(hn:n<=1000000000)(K:K):∀(j:Nat) (d:Array α) (Q:Nat),j<n->d.size=n->Q<=n ->
  (∀(j2:Nat) (N:Nat),N<=n->At' G (.ex 4) ⟨[(0,.sl A.length n 3 0 n lim),(1,J0 a),(2,J0 b),(3,.m (.fn k [])),(9,Y),(10,J),(11,J0 j2),(69,.m (.b false))],[],⟨[],A ++ .cs ty 3 (Bl R (shiftDown lt j d)) N false::C⟩⟩ K) ->
  (∀(j2:Nat) (N:Nat),N<=n->At' G (.ex 4) ⟨[(0,.sl A.length n 3 0 n lim),(1,J0 a),(2,J0 b),(3,.m (.fn k [])),(9,Y),(10,J),(11,J0 j2),(69,.m (.b true)),(84,.m (.b true))],[],⟨[],A ++ .cs ty 3 (Bl R (shiftDown lt j d)) N false::C⟩⟩ K) ->
  Run G c150_B1 (S150_1 (.sl A.length n 3 0 n lim) (J0 a) (J0 b) (.m (.fn k [])) Y J (J0 j) [] (A ++ .cs ty 3 (Bl R d) Q false::C)) (.seq c150_L1 K):=by
 refine Bj (fun j:Nat=>j) fun j ih d Q hj hd h0 E z=>?_
 unfold c150_B1
 cases j with
 | zero =>
  rw[shiftDown]at E
  simp (contextual:=true) (maxSteps:=2000000) (disch:=omega) [Ai,-Int.not_lt,-Int.not_le,-Nat.not_lt,-Nat.not_le,-List.map_take]
  exact E 0 Q h0
 | succ m =>
  rw[shiftDown]at E z
  have Z:(1:Int)<=m+1:=by omega
  have r1:=R.rd d (i:=m+1) (by omega)
  have r2:=R.rd d (i:=m) (by omega)
  have q:=fun row=>W.run d[m+1]! d[m]! row C hC
  have e:=W.neg d[m+1]! d[m]!
  have w1:=R.wr d (i:=m+1) d[m]! (by omega)
  have w2:=R.wr (d.setIfInBounds (m+1) d[m]!) (i:=m) d[m+1]! (by simp;omega)
  have s1:(d.setIfInBounds (m+1) d[m]!).size=n:=by simp[hd]
  have e2:swp d (m+1) m=(d.setIfInBounds (m+1) d[m]!).setIfInBounds m d[m+1]!:=rfl
  have t1:((m:Int)+1).toNat=m+1:=by omega
  have t2:((m:Int)+1-1).toNat=m:=by omega
  have U:=ih m (by omega) ((d.setIfInBounds (m+1) d[m]!).setIfInBounds m d[m+1]!) n (by omega) (by simp[hd]) (Ahu _)
  rw[e2]at E z
  clear ih e2
  generalize d[m+1]! = u at *
  generalize d[m]! = w at *
  simp (contextual:=true) (maxSteps:=2000000) (disch:=omega) [Ai,-Int.not_lt,-Int.not_le,-Nat.not_lt,-Nat.not_le,-List.map_take,Ac,Ab,AC,Av,R.ld,R.st,R.all1,R.len,-Be,-Bf,Aa,Z,r1,r2,cl (q _),e,w1,w2,s1,hd,t1]
  refine⟨fun l=>?_,fun l=>?_⟩
  ·rw[Ahv (by simp[l])]at z
   simpa using z (m+1) Q h0
  ·rw[Aht (by simp[l])]at E z
   simpa using U E z
include W hC in
theorem UT (a b:Nat)(x9 N:V)(hb:b<=n)(hn:n<=1000000000)(K:K):∀(m j:Nat) (d:Array α) (U:Nat),b-j=m->1<=j->d.size=n->U<=n ->
  (∀(j2:Nat) (Q:Nat),Q<=n->At' G (.ex 6) ⟨[(0,.sl A.length n 3 0 n lim),(1,J0 a),(2,J0 b),(3,.m (.fn k [])),(9,x9),(10,N),(12,J0 j2),(109,.m (.b false))],[],⟨[],A ++ .cs ty 3 (Bl R (shiftUp lt b j d)) Q false::C⟩⟩ K) ->
  (∀(j2:Nat) (Q:Nat),Q<=n->At' G (.ex 6) ⟨[(0,.sl A.length n 3 0 n lim),(1,J0 a),(2,J0 b),(3,.m (.fn k [])),(9,x9),(10,N),(12,J0 j2),(109,.m (.b true)),(124,.m (.b true))],[],⟨[],A ++ .cs ty 3 (Bl R (shiftUp lt b j d)) Q false::C⟩⟩ K) ->
  Run G c150_B2 (S150_2 (.sl A.length n 3 0 n lim) (J0 a) (J0 b) (.m (.fn k [])) x9 N (J0 j) [] (A ++ .cs ty 3 (Bl R d) U false::C)) (.seq c150_L2 K):=by
 refine Bj (fun m:Nat=>m) fun m ih j d U hm hj hd h0 z E=>?_
 unfold c150_B2
 rw[shiftUp]at z E
 by_cases Y:j<b
 ·rw[Ahv Y]at z E
  obtain⟨m,rfl⟩:∃m,j=m+1:=⟨j-1,by omega⟩
  rw[show m+1-1=m from rfl]at z E
  have J:(m:Int)+1<b:=by omega
  have r1:=R.rd d (i:=m+1) (by omega)
  have r2:=R.rd d (i:=m) (by omega)
  have q:=fun row=>W.run d[m+1]! d[m]! row C hC
  have e:=W.neg d[m+1]! d[m]!
  have w1:=R.wr d (i:=m+1) d[m]! (by omega)
  have w2:=R.wr (d.setIfInBounds (m+1) d[m]!) (i:=m) d[m+1]! (by simp;omega)
  have s1:(d.setIfInBounds (m+1) d[m]!).size=n:=by simp[hd]
  have e2:swp d (m+1) m=(d.setIfInBounds (m+1) d[m]!).setIfInBounds m d[m+1]!:=rfl
  have t1:((m:Int)+1).toNat=m+1:=by omega
  have t2:((m:Int)+1-1).toNat=m:=by omega
  have Z:=ih (b-(m+1+1)) (by omega) (m+1+1) ((d.setIfInBounds (m+1) d[m]!).setIfInBounds m d[m+1]!) n rfl (by omega) (by simp[hd]) (Ahu _)
  rw[e2]at z E
  clear ih e2
  generalize d[m+1]! = u at *
  generalize d[m]! = w at *
  simp (contextual:=true) (maxSteps:=2000000) (disch:=omega) [Ai,-Int.not_lt,-Int.not_le,-Nat.not_lt,-Nat.not_le,-List.map_take,Ac,Ab,AC,Av,R.ld,R.st,R.all1,R.len,-Be,-Bf,Aa,J,r1,r2,cl (q _),e,w1,w2,s1,hd,t1]
  refine⟨fun l=>?_,fun l=>?_⟩
  ·rw[Ahv (by simp[l])]at E
   simpa using E (m+1) U h0
  ·rw[Aht (by simp[l])]at z E
   simpa using Z z E
 ·rw[Aht Y]at z
  have J:¬(j:Int)<b:=by omega
  simp (contextual:=true) (maxSteps:=2000000) (disch:=omega) [Ai,-Int.not_lt,-Int.not_le,-Nat.not_lt,-Nat.not_le,-List.map_take,J]
  exact z j U h0
theorem Fy (lt:α->α->Bool):∀(j:Nat) (d:Array α),(shiftDown lt j d).size=d.size
 | 0,_=>rfl
 | j+1,d=>by
  rw[shiftDown]
  split
  ·rfl
  ·rw[Fy lt j,WB]
theorem Cm (lt:α->α->Bool)(b j:Nat)(d:Array α):(shiftUp lt b j d).size=d.size:=by
 fun_induction shiftUp lt b j d <;> simp_all [swp]
set_option maxHeartbeats 2000000 in
include W hC in
theorem pis_w (d:Array α)(a b b0:Nat)(hab:a<b)(hb:b<=n)(hd:d.size=n)(h0:b0<=n)(hn:n<=1000000000)(Q:V->Hp->Prop) 
  (E:∀b1,b1<=n->Q (.m (.b (partialInsertionSort lt d a b).2)) (A ++ .cs ty 3 (Bl R (partialInsertionSort lt d a b).1) b1 false::C)) :
  Ret G 150 [.sl A.length n 3 0 n lim,J0 a,J0 b,.m (.fn k [])] (A ++ .cs ty 3 (Bl R d) b0 false::C) Q:=by
 refine Bh mono rfl rfl rfl rfl rfl ?_
 unfold partialInsertionSort at E
 simp (contextual:=true) (maxSteps:=2000000) (disch:=omega) [-Int.not_lt,-Int.not_le,-Nat.not_lt,-Nat.not_le,-List.map_take,Aa]
 refine(?key:∀(s i:Nat) (d:Array α) (b0:Nat),s<=5->a+1<=i->i<=b->d.size=n->b0<=n->(∀b1,b1<=n->Q (.m (.b (partialIns lt a b s i d).2)) (A ++ .cs ty 3 (Bl R (partialIns lt a b s i d).1) b1 false::C))->Run G c150_B3 (S150_3 (.sl A.length n 3 0 n lim) (J0 a) (J0 b) (.m (.fn k [])) (J0 i) (J0 ((5-s:Nat):Int)) [] (A ++ .cs ty 3 (Bl R d) b0 false::C)) _) 5 (a+1) d b0 (Ahu _) (Ahu _) hab hd h0 E
 clear E hd h0 d b0
 intro s
 induction s with
 | zero =>
  intro i d b0 hs hi hib hd h0 E
  unfold c150_B3
  rw[partialIns]at E
  simp (contextual:=true) (maxSteps:=2000000) (disch:=omega) [Ai,-Int.not_lt,-Int.not_le,-Nat.not_lt,-Nat.not_le,-List.map_take]
  exact E b0 h0
 | succ s ih =>
  intro i d b0 hs hi hib hd h0 E
  rw[partialIns_succ]at E
  have hs5:((5-(s+1):Nat):Int)<5:=by omega
  have U:((5-(s+1):Nat):Int)+1=((5-s:Nat):Int):=by omega
  generalize ((5-(s+1):Nat):Int)=x10 at hs5 U ⊢
  have hx10:-1<=x10:=by omega
  have u:=KK lt d b i
  unfold c150_B3
  simp (contextual:=true) (maxSteps:=2000000) (disch:=omega) [Ai,-Int.not_lt,-Int.not_le,-Nat.not_lt,-Nat.not_le,-List.map_take,hs5]
  refine Yp W hC d a b b0 _ hb hd h0 hn _ i (by omega) ?_
  generalize hi2:scanSorted lt d b i=i2 at u E ⊢
  have u2:=u.2 hib
  by_cases hib2:i2=b
  ·have hib3:(i2:Int)=b:=by omega
   simp only[Ahv hib2]at E
   simp (contextual:=true) (maxSteps:=2000000) (disch:=omega) [Ai,-Int.not_lt,-Int.not_le,-Nat.not_lt,-Nat.not_le,-List.map_take,hib3]
   exact E b0 h0
  ·have hib3:¬(i2:Int)=b:=by omega
   have hib4:¬i2=b:=hib2
   simp only[Aht hib2]at E
   by_cases h50:b-a<50
   ·have Z:(b:Int)-a<50:=by omega
    simp only[Ahv h50]at E
    simp (contextual:=true) (maxSteps:=2000000) (disch:=omega) [Ai,-Int.not_lt,-Int.not_le,-Nat.not_lt,-Nat.not_le,-List.map_take,Aa,hib3,Z]
    exact E b0 h0
   have Z:¬(b:Int)-a<50:=by omega
   simp only[Aht h50]at E
   obtain⟨m,rfl⟩:∃m,i2=m+1:=⟨i2-1,by omega⟩
   have r1:=R.rd d (i:=m+1) (by omega)
   have r2:=R.rd d (i:=m) (by omega)
   have w1:=R.wr d (i:=m+1) d[m]! (by omega)
   have w2:=R.wr (d.setIfInBounds (m+1) d[m]!) (i:=m) d[m+1]! (by simp;omega)
   have s1:(d.setIfInBounds (m+1) d[m]!).size=n:=by simp[hd]
   have e2:swp d (m+1) m=(d.setIfInBounds (m+1) d[m]!).setIfInBounds m d[m+1]!:=rfl
   have t1:((m:Int)+1).toNat=m+1:=by omega
   have t2:((m:Int)+1-1).toNat=m:=by omega
   simp only[Nat.add_sub_cancel,e2]at E
   have a0:((d.setIfInBounds (m+1) d[m]!).setIfInBounds m d[m+1]!).size=n:=by simp[hd]
   have N:=fun dd bb=>ih (m+1) dd bb (by omega) (by omega) (by omega)
   clear e2 ih hi2
   generalize d[m+1]! = u at *
   generalize d[m]! = w at *
   have hib5:¬(m:Int)+1=b:=by omega
   by_cases h2:m+1-a>=2
   ·have h2':(2:Int)<=(m:Int)+1-a:=by omega
    have fd:fixDown lt a (m+1) ((d.setIfInBounds (m+1) w).setIfInBounds m u)=shiftDown lt m ((d.setIfInBounds (m+1) w).setIfInBounds m u):=by unfold fixDown;rw[Ahv h2];rfl
    rw[fd]at E
    have hD:(shiftDown lt m ((d.setIfInBounds (m+1) w).setIfInBounds m u)).size=n:=by rw[Fy];exact a0
    simp (contextual:=true) (maxSteps:=2000000) (disch:=omega) [Ai,-Int.not_lt,-Int.not_le,-Nat.not_lt,-Nat.not_le,-List.map_take,Ac,Ab,AC,Av,R.ld,R.st,R.all1,R.len,-Be,-Bf,Aa,hib5,Z,h2',r1,r2,w1,w2,s1,hd,t1]
    refine Yq W hC a b _ _ hb hn _ m ((d.setIfInBounds (m+1) w).setIfInBounds m u) n (by omega) a0 (Ahu _) (fun j2 Y z=>?_) (fun j2 Y z=>?_)
    ·clear r1 r2 w1 w2 s1
     by_cases h3:b-(m+1)>=2
     ·have J:(2:Int)<=(b:Int)-((m:Int)+1):=by omega
      have fu:fixUp lt b (m+1) (shiftDown lt m ((d.setIfInBounds (m+1) w).setIfInBounds m u))=shiftUp lt b (m+1+1) (shiftDown lt m ((d.setIfInBounds (m+1) w).setIfInBounds m u)):=by unfold fixUp;rw[Ahv h3]
      rw[fu]at E
      simp (contextual:=true) (maxSteps:=2000000) (disch:=omega) [Ai,-Int.not_lt,-Int.not_le,-Nat.not_lt,-Nat.not_le,-List.map_take,Aa,J]
      refine UT W hC a b _ _ hb hn _ _ (m+1+1) (shiftDown lt m ((d.setIfInBounds (m+1) w).setIfInBounds m u)) Y rfl (by omega) hD z (fun j2 Y z=>?_) (fun j2 Y z=>?_)
      ·have:=N (shiftUp lt b (m+1+1) (shiftDown lt m ((d.setIfInBounds (m+1) w).setIfInBounds m u))) Y (by rw[Cm];exact hD) z E
       simp (contextual:=true) (maxSteps:=2000000) (disch:=omega) [-Int.not_lt,-Int.not_le,-Nat.not_lt,-Nat.not_le,-List.map_take,Aa,U]
       exact this
      ·have:=N (shiftUp lt b (m+1+1) (shiftDown lt m ((d.setIfInBounds (m+1) w).setIfInBounds m u))) Y (by rw[Cm];exact hD) z E
       simp (contextual:=true) (maxSteps:=2000000) (disch:=omega) [-Int.not_lt,-Int.not_le,-Nat.not_lt,-Nat.not_le,-List.map_take,Aa,U]
       exact this
     ·have J:¬(2:Int)<=(b:Int)-((m:Int)+1):=by omega
      have fu:fixUp lt b (m+1) (shiftDown lt m ((d.setIfInBounds (m+1) w).setIfInBounds m u))=shiftDown lt m ((d.setIfInBounds (m+1) w).setIfInBounds m u):=by unfold fixUp;rw[Aht h3]
      rw[fu]at E
      have:=N (shiftDown lt m ((d.setIfInBounds (m+1) w).setIfInBounds m u)) Y hD z E
      simp (contextual:=true) (maxSteps:=2000000) (disch:=omega) [Ai,-Int.not_lt,-Int.not_le,-Nat.not_lt,-Nat.not_le,-List.map_take,Aa,J,U]
      exact this
    ·clear r1 r2 w1 w2 s1
     by_cases h3:b-(m+1)>=2
     ·have J:(2:Int)<=(b:Int)-((m:Int)+1):=by omega
      have fu:fixUp lt b (m+1) (shiftDown lt m ((d.setIfInBounds (m+1) w).setIfInBounds m u))=shiftUp lt b (m+1+1) (shiftDown lt m ((d.setIfInBounds (m+1) w).setIfInBounds m u)):=by unfold fixUp;rw[Ahv h3]
      rw[fu]at E
      simp (contextual:=true) (maxSteps:=2000000) (disch:=omega) [Ai,-Int.not_lt,-Int.not_le,-Nat.not_lt,-Nat.not_le,-List.map_take,Aa,J]
      refine UT W hC a b _ _ hb hn _ _ (m+1+1) (shiftDown lt m ((d.setIfInBounds (m+1) w).setIfInBounds m u)) Y rfl (by omega) hD z (fun j2 Y z=>?_) (fun j2 Y z=>?_)
      ·have:=N (shiftUp lt b (m+1+1) (shiftDown lt m ((d.setIfInBounds (m+1) w).setIfInBounds m u))) Y (by rw[Cm];exact hD) z E
       simp (contextual:=true) (maxSteps:=2000000) (disch:=omega) [-Int.not_lt,-Int.not_le,-Nat.not_lt,-Nat.not_le,-List.map_take,Aa,U]
       exact this
      ·have:=N (shiftUp lt b (m+1+1) (shiftDown lt m ((d.setIfInBounds (m+1) w).setIfInBounds m u))) Y (by rw[Cm];exact hD) z E
       simp (contextual:=true) (maxSteps:=2000000) (disch:=omega) [-Int.not_lt,-Int.not_le,-Nat.not_lt,-Nat.not_le,-List.map_take,Aa,U]
       exact this
     ·have J:¬(2:Int)<=(b:Int)-((m:Int)+1):=by omega
      have fu:fixUp lt b (m+1) (shiftDown lt m ((d.setIfInBounds (m+1) w).setIfInBounds m u))=shiftDown lt m ((d.setIfInBounds (m+1) w).setIfInBounds m u):=by unfold fixUp;rw[Aht h3]
      rw[fu]at E
      have:=N (shiftDown lt m ((d.setIfInBounds (m+1) w).setIfInBounds m u)) Y hD z E
      simp (contextual:=true) (maxSteps:=2000000) (disch:=omega) [Ai,-Int.not_lt,-Int.not_le,-Nat.not_lt,-Nat.not_le,-List.map_take,Aa,J,U]
      exact this
   ·have h2':¬(2:Int)<=(m:Int)+1-a:=by omega
    have fd:fixDown lt a (m+1) ((d.setIfInBounds (m+1) w).setIfInBounds m u)=((d.setIfInBounds (m+1) w).setIfInBounds m u):=by unfold fixDown;rw[Aht h2]
    rw[fd]at E
    by_cases h3:b-(m+1)>=2
    ·have J:(2:Int)<=(b:Int)-((m:Int)+1):=by omega
     have fu:fixUp lt b (m+1) (((d.setIfInBounds (m+1) w).setIfInBounds m u))=shiftUp lt b (m+1+1) (((d.setIfInBounds (m+1) w).setIfInBounds m u)):=by unfold fixUp;rw[Ahv h3]
     rw[fu]at E
     simp (contextual:=true) (maxSteps:=2000000) (disch:=omega) [Ai,-Int.not_lt,-Int.not_le,-Nat.not_lt,-Nat.not_le,-List.map_take,Ac,Ab,Aa,J,AC,Av,R.ld,R.st,R.all1,R.len,-Be,-Bf,hib5,Z,h2',r1,r2,w1,w2,s1,hd,t1]
     refine UT W hC a b _ _ hb hn _ _ (m+1+1) (((d.setIfInBounds (m+1) w).setIfInBounds m u)) n rfl (by omega) a0 (Ahu _) (fun j2 Y z=>?_) (fun j2 Y z=>?_)
     ·have:=N (shiftUp lt b (m+1+1) (((d.setIfInBounds (m+1) w).setIfInBounds m u))) Y (by rw[Cm];exact a0) z E
      simp (contextual:=true) (maxSteps:=2000000) (disch:=omega) [-Int.not_lt,-Int.not_le,-Nat.not_lt,-Nat.not_le,-List.map_take,Aa,U]
      exact this
     ·have:=N (shiftUp lt b (m+1+1) (((d.setIfInBounds (m+1) w).setIfInBounds m u))) Y (by rw[Cm];exact a0) z E
      simp (contextual:=true) (maxSteps:=2000000) (disch:=omega) [-Int.not_lt,-Int.not_le,-Nat.not_lt,-Nat.not_le,-List.map_take,Aa,U]
      exact this
    ·have J:¬(2:Int)<=(b:Int)-((m:Int)+1):=by omega
     have fu:fixUp lt b (m+1) (((d.setIfInBounds (m+1) w).setIfInBounds m u))=((d.setIfInBounds (m+1) w).setIfInBounds m u):=by unfold fixUp;rw[Aht h3]
     rw[fu]at E
     have:=N (((d.setIfInBounds (m+1) w).setIfInBounds m u)) n a0 (Ahu _) E
     simp (contextual:=true) (maxSteps:=2000000) (disch:=omega) [Ai,-Int.not_lt,-Int.not_le,-Nat.not_lt,-Nat.not_le,-List.map_take,Aa,AC,-Be,-Bf,hib5,Z]
     first
      | exact this
      | omega
end
end Go.Mx.Tryz
set_option maxRecDepth 100000
namespace Go.Mx.Tryz
open Go.Sort
section
variable {α:Type} [Inhabited α] {R:Rw α 3 true} {A C:Hp} {k:Nat} {lt:α->α->Bool} (W:Cmp R A k lt) (hC:W.ok C) {ty n:Nat} {lim:Bool}
abbrev swR (s:Int)(b:Nat):Row:=.cs 3 1 [[.m (.i .i64 s)]] b false
theorem IZ (A:Hp)(r:Row)(C:Hp)(x:Row):nth (A++r::(C++[x])) (A.length+(C.length+1))=some x:=by
 rw[AL,AhZ (by omega)]
 simp[]
theorem IP (A:Hp)(r:Row)(C:Hp)(x y:Row):AN (A++r::(C++[x])) (A.length+(C.length+1)) y=some (A++r::(C++[y])):=by
 rw[AB _ _ _ (by simp)]
 congr 1
 rw[AiP _ _ (by omega)]
 have e:A.length+(C.length+1)-A.length=C.length+1:=by omega
 rw[e]
 simp[AiP]
include W hC in
theorem Vg (d:Array α)(a b N J:Nat)(s:Int)(ha:a<n)(hb:b<n)(hd:d.size=n)(h0:N<=n)(hn:n<=1000000000)(z:J<=1)(Q:V->Hp->Prop) 
  (U:∀(x y:Nat) (Z:Int) (E:Nat),(x=a/\y=b\/x=b/\y=a)->E<=1->Q (.tu [J0 x,J0 y]) (A ++ .cs ty 3 (Bl R d) N false::(C++[swR Z E]))) :
  Ret G 209 [.sl A.length n 3 0 n lim,J0 a,J0 b,.pt (A.length+(C.length+1)) 1 0 0,.m (.fn k [])] (A ++ .cs ty 3 (Bl R d) N false::(C++[swR s J])) Q:=by
 refine Bh mono rfl rfl rfl rfl rfl ?_
 have r1:=R.rd d (i:=a) (by omega)
 have Y:=R.rd d (i:=b) (by omega)
 have q:=fun row=>W.run d[b]! d[a]! row (C++[swR s J]) (W.ext _ _ hC)
 have e:=W.neg d[b]! d[a]!
 generalize d[a]! = u at *
 generalize d[b]! = w at *
 simp (contextual:=true) (maxSteps:=2000000) (disch:=omega) [Ai,-Int.not_lt,-Int.not_le,-Nat.not_lt,-Nat.not_le,-List.map_take,Ac,Ab,AC,R.ld,-Be,-Bf,r1,Y,cl (q _),e,hd,IZ,IP,z]
 refine⟨fun l=>?_,fun l=>?_⟩
 ·exact U b a _ 1 (.inr ⟨rfl,rfl⟩) (Ahu _)
 ·exact U a b s J (.inl ⟨rfl,rfl⟩) z
include W hC in
theorem Adq (d:Array α)(a b c u U:Nat)(s:Int)(ha:a<n)(hb:b<n)(hc:c<n)(hd:d.size=n)(h0:u<=n)(N:n<=1000000000)(Z:U<=1)(Q:V->Hp->Prop) 
  (hQ:∀(x:Nat) (s':Int) (z:Nat),(x=a\/x=b\/x=c)->z<=1->Q (J0 x) (A ++ .cs ty 3 (Bl R d) u false::(C++[swR s' z]))) :
  Ret G 181 [.sl A.length n 3 0 n lim,J0 a,J0 b,J0 c,.pt (A.length+(C.length+1)) 1 0 0,.m (.fn k [])] (A ++ .cs ty 3 (Bl R d) u false::(C++[swR s U])) Q:=by
 refine Bh mono rfl rfl rfl rfl rfl ?_
 simp (contextual:=true) (maxSteps:=2000000) (disch:=omega) [-Int.not_lt,-Int.not_le,-Nat.not_lt,-Nat.not_le,-List.map_take]
 rw[Ao]
 refine Vg W hC d a b u U s ha hb hd h0 N Z _ fun x1 y1 s1 sb1 h1 E=>?_
 simp (contextual:=true) (maxSteps:=2000000) (disch:=omega) [-Int.not_lt,-Int.not_le,-Nat.not_lt,-Nat.not_le,-List.map_take]
 rw[Ao]
 refine Vg W hC d y1 c u sb1 s1 (by omega) hc hd h0 N E _ fun y2 z2 s2 J h2 hs2=>?_
 simp (contextual:=true) (maxSteps:=2000000) (disch:=omega) [-Int.not_lt,-Int.not_le,-Nat.not_lt,-Nat.not_le,-List.map_take]
 rw[Ao]
 refine Vg W hC d x1 y2 u J s2 (by omega) (by omega) hd h0 N hs2 _ fun x3 y3 s3 Y h3 a0=>?_
 simp (contextual:=true) (maxSteps:=2000000) (disch:=omega) [-Int.not_lt,-Int.not_le,-Nat.not_lt,-Nat.not_le,-List.map_take]
 exact hQ y3 s3 Y (by omega) a0
include W hC in
theorem AdJ (d:Array α)(a z J:Nat)(s:Int)(ha1:1<=a)(ha:a+1<n)(hd:d.size=n)(h0:z<=n)(Y:n<=1000000000)(N:J<=1)(Q:V->Hp->Prop) 
  (hQ:∀(x:Nat) (s':Int) (u:Nat),(a-1<=x/\x<=a+1)->u<=1->Q (J0 x) (A ++ .cs ty 3 (Bl R d) z false::(C++[swR s' u]))) :
  Ret G 180 [.sl A.length n 3 0 n lim,J0 a,.pt (A.length+(C.length+1)) 1 0 0,.m (.fn k [])] (A ++ .cs ty 3 (Bl R d) z false::(C++[swR s J])) Q:=by
 refine Bh mono rfl rfl rfl rfl rfl ?_
 obtain⟨m,rfl⟩:∃m,a=m+1:=⟨a-1,by omega⟩
 have Z:(m:Int)+1-1=m:=by omega
 simp (contextual:=true) (maxSteps:=2000000) (disch:=omega) [-Int.not_lt,-Int.not_le,-Nat.not_lt,-Nat.not_le,-List.map_take,Aa,Z]
 rw[Ao]
 refine Adq W hC d m (m+1) (m+1+1) z J s (by omega) (by omega) (by omega) hd h0 Y N _ fun x s1 U h1 E=>?_
 simp (contextual:=true) (maxSteps:=2000000) (disch:=omega) [-Int.not_lt,-Int.not_le,-Nat.not_lt,-Nat.not_le,-List.map_take]
 exact hQ x s1 U (by omega) E
include W hC in
theorem piv_w (d:Array α)(a b u:Nat)(hab:a+8<=b)(hb:b<=n)(E:d.size=n)(N:u<=n)(J:n<=1000000000)(Q:V->Hp->Prop) 
  (z:∀(x:Nat) (h:Int) (X:Hp),a<=x->x<b->Q (.tu [J0 x,J0 h]) (A ++ .cs ty 3 (Bl R d) u false::(C++X))) :
  Ret G 148 [.sl A.length n 3 0 n lim,J0 a,J0 b,.m (.fn k [])] (A ++ .cs ty 3 (Bl R d) u false::C) Q:=by
 refine Bh mono rfl rfl rfl rfl rfl ?_
 have e1:((b:Int)-a).tdiv 4=(((b-a) / 4:Nat):Int):=by
  rw[show (b:Int)-a=((b-a:Nat):Int) by omega];rfl
 generalize hl:(b-a) / 4=l at e1
 have h8:(8:Int)<=(b:Int)-a:=by omega
 have c1:(a:Int)+l=((a+l:Nat):Int):=by omega
 have c2:(a:Int)+(l:Int)*2=((a+l*2:Nat):Int):=by omega
 have c3:(a:Int)+(l:Int)*3=((a+l*3:Nat):Int):=by omega
 by_cases U:(50:Int)<=(b:Int)-a
 ·simp (contextual:=true) (maxSteps:=2000000) (disch:=omega) [Ai,-Int.not_lt,-Int.not_le,-Nat.not_lt,-Nat.not_le,-List.map_take,Ab,Aa,e1,h8,U]
  rw[Ao,c1]
  refine AdJ W hC d (a+l) u 0 0 (by omega) (by omega) E N J (by omega) _ fun x1 s1 sb1 h1 a0=>?_
  simp (contextual:=true) (maxSteps:=2000000) (disch:=omega) [-Int.not_lt,-Int.not_le,-Nat.not_lt,-Nat.not_le,-List.map_take]
  rw[Ao,c2]
  refine AdJ W hC d (a+l*2) u sb1 s1 (by omega) (by omega) E N J a0 _ fun x2 s2 Y h2 Z=>?_
  simp (contextual:=true) (maxSteps:=2000000) (disch:=omega) [-Int.not_lt,-Int.not_le,-Nat.not_lt,-Nat.not_le,-List.map_take]
  rw[Ao,c3]
  refine AdJ W hC d (a+l*3) u Y s2 (by omega) (by omega) E N J Z _ fun x3 s3 a1 h3 a2=>?_
  simp (contextual:=true) (maxSteps:=2000000) (disch:=omega) [-Int.not_lt,-Int.not_le,-Nat.not_lt,-Nat.not_le,-List.map_take]
  rw[Ao]
  refine Adq W hC d x1 x2 x3 u a1 s3 (by omega) (by omega) (by omega) E N J a2 _ fun x s' sb' hx hs=>?_
  simp (contextual:=true) (maxSteps:=2000000) (disch:=omega) [Ai,-Int.not_lt,-Int.not_le,-Nat.not_lt,-Nat.not_le,-List.map_take,Ac,Ab,IZ]
  exact⟨fun _=>z x _ [_] (by omega) (by omega),fun _=>⟨fun _=>z x _ [_] (by omega) (by omega),fun _=>z x _ [_] (by omega) (by omega)⟩⟩
 ·simp (contextual:=true) (maxSteps:=2000000) (disch:=omega) [Ai,-Int.not_lt,-Int.not_le,-Nat.not_lt,-Nat.not_le,-List.map_take,Ab,Aa,e1,h8,U]
  rw[Ao,c1,c2,c3]
  refine Adq W hC d (a+l) (a+l*2) (a+l*3) u 0 0 (by omega) (by omega) (by omega) E N J (by omega) _ fun x s' sb' hx hs=>?_
  simp (contextual:=true) (maxSteps:=2000000) (disch:=omega) [Ai,-Int.not_lt,-Int.not_le,-Nat.not_lt,-Nat.not_le,-List.map_take,Ac,Ab,IZ]
  exact⟨fun _=>z x _ [_] (by omega) (by omega),fun _=>⟨fun _=>z x _ [_] (by omega) (by omega),fun _=>z x _ [_] (by omega) (by omega)⟩⟩
end
end Go.Mx.Tryz
set_option maxRecDepth 100000
namespace Go.Mx.Tryz
open Go.Sort Go.Lib
def x64 (x y:Int):Int:=wr .u64 (Int.ofNat (Nat.xor (Gr .u64 x) (Gr .u64 y)))
theorem Zg (x y:Int):Ez .xor (.m (.i .u64 x)) (.m (.i .u64 y))=some (.m (.i .u64 (x64 x y))):=by simp[Ez,arX,vi,x64]
theorem Ach (x y:Int):∃n:Nat,n<18446744073709551616/\x64 x y=n:=by
 refine⟨(Nat.xor (Gr .u64 x) (Gr .u64 y))%18446744073709551616,Nat.mod_lt _ (by decide),?_⟩
 unfold x64
 generalize Nat.xor (Gr .u64 x) (Gr .u64 y)=z
 rw[Gu]
 simp[IntKind.wrap,IntKind.signed,IntKind.bits]
theorem Ahc (y k:Nat)(N:y<18446744073709551616)(Q:k<=32):Ez .and (.m (.i .u64 y)) (.m (.i .u64 ((2 ^ k-1:Nat):Int)))=some (.m (.i .u64 ((y%2 ^ k:Nat):Int))):=by
 have Y:2 ^ k<=4294967296:=Nat.pow_le_pow_right (n:=2) (by decide) Q
 have J:0<2 ^ k:=Nat.pow_pos (by decide)
 have E:Gr .u64 (y:Int)=y:=Nat.mod_eq_of_lt N
 have u:Gr .u64 ((2 ^ k-1:Nat):Int)=2 ^ k-1:=Nat.mod_eq_of_lt (by show 2 ^ k-1<18446744073709551616;omega)
 rw[ZJ,E,u]
 have z:Nat.land y (2 ^ k-1)=y%2 ^ k:=Nat.and_two_pow_sub_one_eq_mod y k
 have U:y%2 ^ k<2 ^ k:=Nat.mod_lt _ J
 rw[z,show Int.ofNat (y%2 ^ k)=((y%2 ^ k:Nat):Int) from rfl,Dj (by omega) (by omega)]
theorem lenG (u:Nat)(h:u<18446744073709551616)(H:Hp):Gives G 112 [.m (.i .u64 u)] H (J0 (Lib.bitLen u)) H:=by
 refine Af rfl rfl rfl rfl rfl ?_
 simp (contextual:=true) (maxSteps:=2000000) (disch:=omega) [Ai,-Int.not_lt,-Int.not_le,-Nat.not_lt,-Nat.not_le,-List.map_take,cl (AgJ u h [])]
theorem Qj (u:Nat)(U:1<=u)(h:u<=1000000000):Lib.bitLen u<=30/\2 ^ Lib.bitLen u<=2*u:=by
 have N:Lib.bitLen u<=30:=bitLen_le u 30 (by decide) (by omega)
 obtain⟨J,E,Q⟩:=bitLenAux_bounds 64 u (by omega) (by omega)
 refine⟨N,?_⟩
 have e:bitLenAux 64 u=Lib.bitLen u:=rfl
 rw[e]at J E
 obtain⟨j,z⟩:∃j,Lib.bitLen u=j+1:=⟨Lib.bitLen u-1,by omega⟩
 rw[z,Nat.pow_succ]
 rw[z,Nat.add_sub_cancel]at E
 omega
theorem npow (u:Nat)(N:1<=u)(h:u<=1000000000)(H:Hp):Gives G 178 [J0 u] H (.m (.i .u64 ((2 ^ Lib.bitLen u:Nat):Int))) H:=by
 refine Af rfl rfl rfl rfl rfl ?_
 obtain⟨Q,Y⟩:=Qj u N h
 have t:min (Lib.bitLen u) 64=Lib.bitLen u:=by omega
 have U:0<2 ^ Lib.bitLen u:=Nat.pow_pos (by decide)
 have J:((2 ^ Lib.bitLen u:Nat):Int)<=2*u:=by omega
 have z:(0:Int)<=((2 ^ Lib.bitLen u:Nat):Int):=by omega
 generalize E:(2 ^ Lib.bitLen u:Nat)=m at J z ⊢
 simp (contextual:=true) (maxSteps:=2000000) (disch:=omega) [-Int.not_lt,-Int.not_le,-Nat.not_lt,-Nat.not_le,-List.map_take,cl (lenG u (by omega) []),Dj,t,E]
section
variable {α:Type} [Inhabited α] {R:Rw α 3 true} {A C:Hp} {k:Nat} {lt:α->α->Bool} (W:Cmp R A k lt) (hC:W.ok C) {ty n:Nat} {lim:Bool}
abbrev rnR (x:Int)(b:Nat):Row:=.cs 217 1 [[.m (.i .u64 x)]] b false
theorem Agy (z:Row)(x:Int)(b:Nat)(N:b<=1)(Q:V->Hp->Prop) 
  (E:∀(y:Nat) (u:Nat),y<18446744073709551616->u<=1->Q (.m (.i .u64 y)) (A++z::(C++[rnR y u]))) :
  Ret G 179 [.pt (A.length+(C.length+1)) 1 0 0] (A++z::(C++[rnR x b])) Q:=by
 refine Bh mono rfl rfl rfl rfl rfl ?_
 simp (contextual:=true) (maxSteps:=2000000) (disch:=omega) [-Int.not_lt,-Int.not_le,-Nat.not_lt,-Nat.not_le,-List.map_take,Ac,Ab,Zg,IZ,IP]
 have h:=Ach (x64 (x64 x (wr IntKind.u64 (x*8192))) (x64 x (wr IntKind.u64 (x*8192)) / 128)) (wr IntKind.u64 (x64 (x64 x (wr IntKind.u64 (x*8192))) (x64 x (wr IntKind.u64 (x*8192)) / 128)*131072))
 obtain⟨y,J,e⟩:=h
 rw[e]
 exact E y 1 J (Ahu _)
theorem brk_w (d:Array α)(a b b0:Nat)(hab:a+8<=b)(hb:b<=n)(hd:d.size=n)(h0:b0<=n)(hn:n<=1000000000)(Q:V->Hp->Prop) 
  (hQ:∀(u:Array α) (U:Nat) (X:Hp),PermIn a b d u->U<=n->Q (.tu []) (A ++ .cs ty 3 (Bl R u) U false::(C++X))) :
  Ret G 147 [.sl A.length n 3 0 n lim,J0 a,J0 b,.m (.fn k [])] (A ++ .cs ty 3 (Bl R d) b0 false::C) Q:=by
 refine Bh mono rfl rfl rfl rfl rfl ?_
 obtain⟨L,rfl⟩:∃L,b=a+L:=⟨b-a,by omega⟩
 have tL:(a:Int)+L-a=L:=by omega
 have h8:(8:Int)<=L:=by omega
 obtain⟨p1,p2⟩:=Qj L (by omega) (by omega)
 have a3:0<2 ^ Lib.bitLen L:=Nat.pow_pos (by decide)
 have E:=fun y hy=>Ahc y (Lib.bitLen L) hy (by omega)
 have N:=fun y=>Nat.mod_lt y a3
 have Y:=npow L (by omega) (by omega)
 have a2:((2 ^ Lib.bitLen L-1:Nat):Int)=((2 ^ Lib.bitLen L:Nat):Int)-1:=by omega
 rw[a2]at E
 generalize (2 ^ Lib.bitLen L:Nat)=m at a3 p2 E N Y a2
 clear a2 p1
 have d4:(L:Int).tdiv 4=((L / 4:Nat):Int):=rfl
 generalize hl:L / 4=l at d4
 have i0:(a:Int)+(l:Int)*2-1=((a+l*2-1:Nat):Int):=by omega
 simp (contextual:=true) (maxSteps:=2000000) (disch:=omega) [Ai,-Int.not_lt,-Int.not_le,-Nat.not_lt,-Nat.not_le,-List.map_take,Ab,Aa,Dj,tL,h8,cl (Y _),d4,IZ,IP,i0]
 refine(?key:∀(q i:Nat) (u:Array α) (U x2:Nat) (sb:Nat),a+l*2+2-i=q->a<=i->i<a+L->u.size=n->U<=n->sb<=1->PermIn a (a+L) d u->Run G c147_B0 (S147_0 (.sl A.length n 3 0 n lim) (J0 a) (J0 L) (.pt (A.length+(C.length+1)) 1 0 0) (.m (.i .u64 m)) (J0 i) [] (A ++ .cs ty 3 (Bl R u) U false::(C++[rnR x2 sb]))) _) _ (a+l*2-1) d b0 L 1 rfl (by omega) (by omega) hd h0 (Ahu _) (permIn_refl _ _ _)
 clear i0 Y h0 b0
 refine Bj (fun q:Nat=>q) fun q ih i u U x2 sb hq hai a4 z hb1 hsb hp=>?_
 unfold c147_B0
 by_cases hi:i<=a+l*2+1
 ·have Z:(i:Int)<=(a:Int)+(l:Int)*2+1:=by omega
  simp (contextual:=true) (maxSteps:=2000000) (disch:=omega) [Ai,-Int.not_lt,-Int.not_le,-Nat.not_lt,-Nat.not_le,-List.map_take,Aa,d4,Z]
  rw[Ao]
  refine Agy _ _ sb hsb _ fun y b2 hy hb2=>?_
  have a0:=E y hy
  have hmo:=N y
  generalize y%m=o at a0 hmo
  by_cases ho:L<=o
  ·have ho':(L:Int)<=o:=by omega
   obtain⟨j,rfl⟩:∃j,o=L+j:=⟨o-L,by omega⟩
   have tj:((L+j:Nat):Int)-L=j:=by omega
   have tj':(L:Int)+j-L=j:=by omega
   have r1:=R.rd u (i:=i) (by omega)
   have r2:=R.rd u (i:=a+j) (by omega)
   have w1:=R.wr u (i:=i) u[a+j]! (by omega)
   have w2:=R.wr (u.setIfInBounds i u[a+j]!) (i:=a+j) u[i]! (by simp;omega)
   have s1:(u.setIfInBounds i u[a+j]!).size=n:=by simp[z]
   have J:PermIn a (a+L) d (swp u i (a+j)):=permIn_trans _ _ _ _ _ hp (swp_permIn _ _ _ _ _ hai a4 (by omega) (by omega) (by omega))
   have es:swp u i (a+j)=(u.setIfInBounds i u[a+j]!).setIfInBounds (a+j) u[i]!:=rfl
   have xj:((a:Int)+j).toNat=a+j:=by omega
   rw[es]at J
   have a1:=ih (a+l*2+2-(i+1)) (by omega) (i+1) ((u.setIfInBounds i u[a+j]!).setIfInBounds (a+j) u[i]!) n y b2 rfl (by omega) (by omega) (by simp[z]) (Ahu _) hb2 J
   clear ih es
   generalize u[i]! = z0 at *
   generalize u[a+j]! = z1 at *
   simp (contextual:=true) (maxSteps:=2000000) (disch:=omega) [Ai,-Int.not_lt,-Int.not_le,-Nat.not_lt,-Nat.not_le,-List.map_take,Ac,Ab,AC,Av,R.ld,R.st,R.all1,R.len,-Be,-Bf,Aa,Dj,a0,tj',r1,r2,w1,w2,s1,z,xj]
   exact⟨fun _=>a1,by omega⟩
  ·have ho':¬(L:Int)<=o:=by omega
   have r1:=R.rd u (i:=i) (by omega)
   have r2:=R.rd u (i:=a+o) (by omega)
   have w1:=R.wr u (i:=i) u[a+o]! (by omega)
   have w2:=R.wr (u.setIfInBounds i u[a+o]!) (i:=a+o) u[i]! (by simp;omega)
   have s1:(u.setIfInBounds i u[a+o]!).size=n:=by simp[z]
   have J:PermIn a (a+L) d (swp u i (a+o)):=permIn_trans _ _ _ _ _ hp (swp_permIn _ _ _ _ _ hai a4 (by omega) (by omega) (by omega))
   have es:swp u i (a+o)=(u.setIfInBounds i u[a+o]!).setIfInBounds (a+o) u[i]!:=rfl
   have xo:((a:Int)+o).toNat=a+o:=by omega
   rw[es]at J
   have a1:=ih (a+l*2+2-(i+1)) (by omega) (i+1) ((u.setIfInBounds i u[a+o]!).setIfInBounds (a+o) u[i]!) n y b2 rfl (by omega) (by omega) (by simp[z]) (Ahu _) hb2 J
   clear ih es
   generalize u[i]! = z0 at *
   generalize u[a+o]! = z1 at *
   simp (contextual:=true) (maxSteps:=2000000) (disch:=omega) [Ai,-Int.not_lt,-Int.not_le,-Nat.not_lt,-Nat.not_le,-List.map_take,Ac,Ab,AC,Av,R.ld,R.st,R.all1,R.len,-Be,-Bf,Aa,Dj,a0,ho',r1,r2,w1,w2,s1,z,xo]
   exact a1
 ·have Z:¬(i:Int)<=(a:Int)+(l:Int)*2+1:=by omega
  simp (contextual:=true) (maxSteps:=2000000) (disch:=omega) [Ai,-Int.not_lt,-Int.not_le,-Nat.not_lt,-Nat.not_le,-List.map_take,Aa,d4,Z]
  exact hQ u U _ hp hb1
end
end Go.Mx.Tryz
