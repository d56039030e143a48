/- Follows and Right of the reference. -/
import Derived.Test.YtgljapjkjbmicaaGreatDoorRe
import Derived.Test.YtgljapjkjbmicaaGreatDoorNa
import Derived.Test.YtgljapjkjbmicaaGreatDoorRo
set_option linter.unusedSimpArgs false
set_option linter.unusedVariables false
set_option linter.unusedSectionVars false
set_option maxRecDepth 100000
namespace Go.Mx.Tryz
open Go.Lib Go.Proofs
set_option maxHeartbeats 4000000 in
theorem his_r {t : TreeC} {h n v : I} {es : List (List I)} {p : List Ce} (hT : TreeV t h n es) (hv : IsSl v (Al p)) (hc : DI t p = 0) (m : Nat) (hm : m <= 10000) (H : Hp) : ∃ x,HisV t p m x /\ Gives G 67 [.m (.ag [.i .i64 t.states,h,n]),.m v,.m (.i .i64 (m : Int))] H x H:=by
 obtain ⟨hq,hr,ht⟩:=FR hc
 have hR:=Dz hq
 obtain ⟨pw,hg,hl⟩:=Bh hr
 have key : ∃ x H',Gives G 67 [.m (.ag [.i .i64 t.states,h,n]),.m v,.m (.i .i64 (m : Int))] H x H' /\ (H' = H /\ HisV t p m x):=by
  refine Ba ?_
  refine Dv rfl rfl rfl rfl rfl ?_
  generalize hQ : (fun (x : V) (H' : Hp)=>H' = H /\ HisV t p m x) = Q
  have qe : ∀ ps e,HisQ t p m (ps,e) -> ¬ e = 0 -> Q (.tu [.m (.nl 4),.m (.i .i64 e)]) H:=fun ps e h1 h2=>by rw [<- hQ]; exact ⟨rfl,ps,e,h1,.inl ⟨h2,rfl⟩⟩
  have qk : ∀ ps vs,HisQ t p m (ps,0) -> AaA vs ps -> Q (.tu [.m (.sl (CX vs)),.m (.i .i64 0)]) H:=fun ps vs h1 h2=>by rw [<- hQ]; exact ⟨rfl,ps,0,h1,.inr ⟨rfl,vs,h2,rfl⟩⟩
  clear hQ
  have g1:=fun H=>Nv hT hv (by omega) H
  rw [hc] at g1
  have m0 : ¬ (m : Int) < 0:=by omega
  have m1 : ¬ (10000 : Int) < m:=by omega
  have m2 : ¬ 10000 < m:=by omega
  have hb1:=fun c B H=>OF hv c B H
  simp (maxSteps:=2000000) (disch:=omega) [Ad,Ab,Aa,cl (g1 _),m0,m1,m2,hb1]
  refine (?key : ∀ (i : Nat) (vs : List I) (ps : List (List Ce)) (a : List Ce) (o : V) (B : List (Nat × List V)) (H1 : Hp),i <= m -> getB B 3 = some [.m (.i .i64 t.states),.m h,.m n] -> HisR t p (ps ++ [a]) -> ps.length = i -> AaA vs (ps ++ [a]) -> DI t a = 0 -> (∀ u,u ∈ vs -> CS (.m u) = true) -> Uh vs o H1 -> Run G c67_B0 (S67_0 (.m (.i .i64 (m : Int))) (.fa 3 0) o (.m (.i .i64 (i : Int))) B H1) _) 0 [v] [] p _ _ _ (AaT _) rfl .one rfl ⟨rfl,fun i u q hi hq=>by
   cases i with
   | zero=>cases hi; cases hq; exact hv
   | succ i=>simp at hi⟩ hc (fun u hu=>by rw [Abn.1 hu]; exact Ao hv) ⟨by simp,.inl ⟨rfl,rfl⟩⟩
  refine Bd (fun i : Nat=>m - i) fun i ih vs ps a o B H1 hi hB hH hps hP hca hone ho=>?_
  unfold c67_B0
  obtain ⟨hnf,hlen⟩:=Rj ho
  have hvl : vs.length = i + 1:=by rw [hP.1]; simp [hps]
  by_cases him : i < m
  ·have him2 : (i : Int) < m:=by omega
   obtain ⟨u,hu⟩ : ∃ u,vs[i]? = some u:=⟨_,AaK (by omega)⟩
   have hua : IsSl u (Al a):=hP.2 i u a hu (by simp [<- hps])
   obtain ⟨pt,r1,r2⟩:=Ly ho hu (by omega)
   have w1 : wr .i64 ((vs.length : Int) - 1) = (i : Int):=by rw [Aa (by omega) (by omega)]; omega
   have wi : wr .i64 ((i : Int) + 1) = ((i + 1 : Nat) : Int):=Aa (by omega) (by omega)
   obtain ⟨x,⟨q,e,hst,rfl⟩,_⟩:=UE hT hua hca []
   have gs : ∀ H,Gives G 98 [.m (.ag [.i .i64 t.states,h,n]),.m u] H (.tu [.m (zP q),.m (.i .i64 e)]) H:=fun H=>by
    obtain ⟨x',⟨q',e',hst',rfl⟩,g⟩:=UE hT hua hca H
    have:=HZ hst hst'
    cases this
    exact g
   by_cases he : e = 0
   ·subst he
    obtain ⟨hq2,hr2,ht2⟩:=FR hca
    obtain ⟨k1,k2,k3,k4⟩:=MV hR ht2 hst
    have hcq:=Aav hq k1 k2 k3 k4
    have hoz:=Ao (Eo q)
    obtain ⟨o1,H2,ha,hn1,ho1⟩:=Kl ho (by omega) hone hoz
    have hb2:=fun c B H=>OF (Eo q) c B H
    have k:=fun B'=>ih (i + 1) (by omega) (vs ++ [zP q]) (ps ++ [a]) q o1 B' H2 (by omega)
    simp (maxSteps:=2000000) (disch:=omega) [Ad,Ab,Aa,him,him2,hB,hlen,w1,r1,r2,cl (gs _),hb2,ha,wi,AC hnf,AC hn1,-Int.natCast_add]
    exact k _ hB (hH.snoc hst) (by simp [hps]) (Re hP (Eo q)) hcq (fun x hx=>by
     rcases AbC.1 hx with hx | hx
     ·exact hone x hx
     ·rw [Abn.1 hx]; exact hoz) ho1
   ·have hq0 : q = []:=by
     rcases hst with ⟨e1,_⟩ | ⟨_,r,_,_,e1⟩
     ·exact congrArg Prod.fst e1
     ·split at e1
      ·exact congrArg Prod.fst e1
      ·exact absurd (congrArg Prod.snd e1) he
    subst hq0
    have k:=qe [] e (.inr ⟨ps,a,by omega,hH,hst,he,rfl⟩) he
    simp (maxSteps:=2000000) (disch:=omega) [Ad,Ab,Aa,him,him2,hB,hlen,w1,r1,r2,cl (gs _),he,AC hnf]
    exact k
  ·have : i = m:=by omega
   subst this
   have hvw : view 20 H1 o = some (.sl (CX vs)):=Kk ho 18
   have k:=qk (ps ++ [a]) vs (.inl ⟨rfl,by simp [hps],hH⟩) hP
   simp (maxSteps:=2000000) (disch:=omega) [Ad,Ab,Aa,AC hnf,hvw]
   exact ⟨hnf,k⟩
 obtain ⟨x,H',h1,rfl,h2⟩:=key
 exact ⟨x,h2,h1⟩
theorem Aaf {t : TreeC} {h n v : I} {es : List (List I)} {p : List Ce} (hT : TreeV t h n es) (hv : IsSl v (Al p)) (hl : (p.length : Int) <= 9223372036854775806) (hc : ¬ DI t p = 0) (m : Int) (H : Hp) : Gives G 67 [.m (.ag [.i .i64 t.states,h,n]),.m v,.m (.i .i64 m)] H (.tu [.m (.nl 4),.m (.i .i64 (DI t p))]) H:=by
 have g1:=fun H=>Nv hT hv hl H
 refine Ak rfl rfl rfl rfl rfl ?_
 simp (maxSteps:=2000000) (disch:=omega) [Ad,Ab,Aa,cl (g1 _),hc]
theorem Aae {t : TreeC} {h n v : I} {es : List (List I)} {p : List Ce} (hT : TreeV t h n es) (hv : IsSl v (Al p)) (hl : (p.length : Int) <= 9223372036854775806) (hc : DI t p = 0) (m : Int) (hm : m < 0 \/ 10000 < m) (H : Hp) : Gives G 67 [.m (.ag [.i .i64 t.states,h,n]),.m v,.m (.i .i64 m)] H (.tu [.m (.nl 4),.m (.i .i64 2)]) H:=by
 have g1:=fun H=>Nv hT hv hl H
 rw [hc] at g1
 refine Ak rfl rfl rfl rfl rfl ?_
 by_cases h0 : m < 0
 ·simp (maxSteps:=2000000) (disch:=omega) [Ad,Ab,Aa,cl (g1 _),h0]
 ·have h1 : (10000 : Int) < m:=by omega
  simp (maxSteps:=2000000) (disch:=omega) [Ad,Ab,Aa,cl (g1 _),h0,h1]
theorem IL {t : TreeC} {h n : I} {es : List (List I)} (hT : TreeV t h n es) : Ih t:=fun p hc=>by
 obtain ⟨x,⟨q,e,hs,rfl⟩,g⟩:=UF hT (Eo p) hc []
 rw [MU hs]
 exact hs
theorem WE {t : TreeC} {h n v : I} {es : List (List I)} {p : List Ce} (hT : TreeV t h n es) (hv : IsSl v (Al p)) (hc : DI t p = 0) (H : Hp) : Gives G 93 [.m (.ag [.i .i64 t.states,h,n]),.m v] H (.tu [.m (zP (stp t p).1),.m (.i .i64 (stp t p).2)]) H:=by
 obtain ⟨x,⟨q,e,hs,rfl⟩,g⟩:=UF hT hv hc H
 rw [MU hs]
 exact g
theorem Fl {t : TreeC} (hS : Ih t) : ∀ (n : Nat) (p : List Ce),DI t p = 0 -> (EJ t n p).2 = 0 -> EJ t (n + 1) p = stp t (EJ t n p).1
 | 0,p,hc,_=>by
  show (if (stp t p).2 = 0 then ((stp t p).1,0) else ([],(stp t p).2)) = stp t p
  by_cases he : (stp t p).2 = 0
  ·rw [AaN he]; exact Prod.ext rfl he.symm
  ·rw [AaL he]; exact Prod.ext (QL (hS p hc) he).symm rfl
 | n + 1,p,hc,h=>by
  have e1 : ∀ k,EJ t (k + 1) p = if (stp t p).2 = 0 then EJ t k (stp t p).1 else ([],(stp t p).2):=fun k=>by rw [EJ]
  by_cases he : (stp t p).2 = 0
  ·rw [e1,AaN he] at h ⊢
   rw [e1,AaN he]
   exact Fl hS n _ (QK hc (hS p hc) he) h
  ·rw [e1,AaL he] at h
   exact absurd h he
theorem Hj {t : TreeC} : ∀ (k n : Nat) (p : List Ce),k <= n -> ¬ (EJ t k p).2 = 0 -> EJ t n p = EJ t k p
 | 0,_,p,_,h=>absurd rfl h
 | k + 1,0,p,hl,_=>absurd hl (by omega)
 | k + 1,n + 1,p,hl,h=>by
  rw [EJ] at h
  rw [EJ,EJ]
  by_cases he : (stp t p).2 = 0
  ·rw [AaN he] at h
   rw [AaN he,AaN he]
   exact Hj k n _ (by omega) h
  ·rw [AaL he,AaL he]
theorem Nr {t : TreeC} (hS : Ih t) {p : List Ce} (hc : DI t p = 0) {l : List (List Ce)} (h : HisR t p l) : ∀ (i : Nat) (q : List Ce),l[i]? = some q -> EJ t i p = (q,0):=by
 induction h with
 | one =>
  intro i q hq
  cases i with
  | zero=>cases hq; rfl
  | succ i=>simp at hq
 | @snoc ps a q h1 h2 ih =>
  intro i x hx
  by_cases hi : i < (ps ++ [a]).length
  ·rw [Aba hi] at hx
   exact ih i x hx
  ·have hlt:=(AaI.1 hx).1
   have : i = ps.length + 1:=by simp at hlt hi; omega
   subst this
   have e0:=ih ps.length a (by simp)
   have e1:=Fl hS ps.length p hc (by rw [e0])
   rw [e1,e0]
   have ex : x = q:=by
    rw [AbK (by simp)] at hx
    simpa using hx.symm
   rw [ex]
   exact MU h2
theorem TP {t : TreeC} (hS : Ih t) {p : List Ce} (hc : DI t p = 0) {n : Nat} {ps : List (List Ce)} {e : Int} (h : HisQ t p n (ps,e)) : (e = 0 -> ∃ q,ps[n]? = some q /\ EJ t n p = (q,0)) /\ (¬ e = 0 -> EJ t n p = ([],e)):=by
 rcases h with ⟨h1,h2,h3⟩ | ⟨qs,a,h1,h2,h3,h4,h5⟩
 ·dsimp only at h1 h2 h3
  refine ⟨fun _=>?_,fun h=>absurd h1 h⟩
  obtain ⟨q,hq⟩ : ∃ q,ps[n]? = some q:=⟨_,AaK (by omega)⟩
  exact ⟨q,hq,Nr hS hc h3 n q hq⟩
 ·dsimp only at h3 h4
  refine ⟨fun h=>absurd h h4,fun _=>?_⟩
  have e0:=Nr hS hc h2 qs.length a (by simp)
  have e1:=Fl hS qs.length p hc (by rw [e0])
  rw [e0,MU h3] at e1
  rw [Hj (qs.length + 1) n p (by omega) (by rw [e1]; exact h4),e1]
end Go.Mx.Tryz
set_option maxHeartbeats 4000000
namespace Go.Mx.Tryz
open Go.Lib Go.Proofs
theorem run_s {t : TreeC} {h n v : I} {es : List (List I)} {p : List Ce} (hT : TreeV t h n es) (hv : IsSl v (Al p)) (hl : (p.length : Int) <= 9223372036854775806) (m : Int) : ∃ x,IsSl x (Al (rnE t p m).1) /\ ∀ H,Gives G 55 [.m (.ag [.i .i64 t.states,h,n]),.m v,.m (.i .i64 m)] H (.tu [.m x,.m (.i .i64 (rnE t p m).2)]) H:=by
 have g1:=fun H=>Xk hT hv hl H
 unfold rnE
 by_cases hc : DI t p = 0
 rotate_left
 ·rw [AaL hc]
  refine ⟨.nl 4,AR,fun H=>?_⟩
  refine Ak rfl rfl rfl rfl rfl ?_
  simp (maxSteps:=2000000) (disch:=omega) [Ad,Ab,Aa,cl (g1 _),hc]
 rw [AaN hc]
 rw [hc] at g1
 by_cases hm : 0 <= m /\ m <= 10000
 rotate_left
 ·rw [AaL hm]
  refine ⟨.nl 4,AR,fun H=>?_⟩
  refine Ak rfl rfl rfl rfl rfl ?_
  by_cases h0 : m < 0
  ·simp (maxSteps:=2000000) (disch:=omega) [Ad,Ab,Aa,cl (g1 _),h0]
  ·have h1 : (10000 : Int) < m:=by omega
   simp (maxSteps:=2000000) (disch:=omega) [Ad,Ab,Aa,cl (g1 _),h0,h1]
 rw [AaN hm]
 have hS:=IL hT
 obtain ⟨k,rfl⟩:=Abs hm.1
 have hk : k <= 10000:=by omega
 rw [show ((k : Int)).toNat = k from rfl]
 have key : ∃ x H',Gives G 55 [.m (.ag [.i .i64 t.states,h,n]),.m v,.m (.i .i64 (k : Int))] [] x H' /\ (H' = [] /\ ∃ z,IsSl z (Al (EJ t k p).1) /\ x = .tu [.m z,.m (.i .i64 (EJ t k p).2)]):=by
  refine Ba ?_
  refine Dv rfl rfl rfl rfl rfl ?_
  generalize hQ : (fun (x : V) (H' : Hp)=>H' = [] /\ ∃ z,IsSl z (Al (EJ t k p).1) /\ x = .tu [.m z,.m (.i .i64 (EJ t k p).2)]) = Q
  have qk : ∀ q z,EJ t k p = (q,0) -> IsSl z (Al q) -> Q (.tu [.m z,.m (.i .i64 0)]) []:=fun q z h1 h2=>by rw [<- hQ]; exact ⟨rfl,z,by rw [h1]; exact h2,by rw [h1]⟩
  have qe : ∀ e,EJ t k p = ([],e) -> Q (.tu [.m (.nl 4),.m (.i .i64 e)]) []:=fun e h1=>by rw [<- hQ]; exact ⟨rfl,.nl 4,by rw [h1]; exact AR,by rw [h1]⟩
  clear hQ
  have m0 : ¬ (k : Int) < 0:=by omega
  have m1 : ¬ (10000 : Int) < k:=by omega
  have m2 : ¬ 10000 < k:=by omega
  simp (maxSteps:=2000000) (disch:=omega) [Ad,Ab,Aa,cl (g1 _),m0,m1,m2]
  refine (?key : ∀ (i : Nat) (q : List Ce) (u : I) (B : List (Nat × List V)),i <= k -> EJ t i p = (q,0) -> DI t q = 0 -> IsSl u (Al q) -> getB B 3 = some [.m (.i .i64 t.states),.m h,.m n] -> Run G c55_B0 (S55_0 (.m u) (.fa 3 0) (.m (.i .i64 (k : Int))) (.m (.i .i64 (i : Int))) B []) _) 0 p v _ (AaT _) rfl hc hv rfl
  refine Bd (fun i : Nat=>k - i) fun i ih q u B hi hr hcq hu hB=>?_
  unfold c55_B0
  by_cases hik : i < k
  ·have hik2 : (i : Int) < k:=by omega
   have wi : wr .i64 ((i : Int) + 1) = ((i + 1 : Nat) : Int):=Aa (by omega) (by omega)
   have gs:=fun H=>WE hT hu hcq H
   have e1:=Fl hS i p hc (by rw [hr])
   rw [hr] at e1
   dsimp only at e1
   by_cases he : (stp t q).2 = 0
   ·have k2:=fun B'=>ih (i + 1) (by omega) (stp t q).1 (zP (stp t q).1) B' (by omega) (by rw [e1]; exact Prod.ext rfl he) (QK hcq (hS q hcq) he) (Eo _)
    rw [he] at gs
    generalize zP (stp t q).1 = z at *
    simp (maxSteps:=2000000) (disch:=omega) [Ad,Ab,Aa,hik,hik2,hB,cl (gs _),wi,-Int.natCast_add]
    exact k2 _ hB
   ·have k2:=qe (stp t q).2 (by rw [Hj (i + 1) k p (by omega) (by rw [e1]; exact he),e1]; exact Prod.ext (QL (hS q hcq) he) rfl)
    generalize (stp t q).2 = e at *
    generalize zP (stp t q).1 = z at *
    simp (maxSteps:=2000000) (disch:=omega) [Ad,Ab,Aa,hik,hik2,hB,cl (gs _),he]
    exact k2
  ·have : i = k:=by omega
   subst this
   have k2:=qk q u hr hu
   simp (maxSteps:=2000000) (disch:=omega) [Ad,Ab,Aa]
   exact k2
 obtain ⟨x,H',g,rfl,z,h1,rfl⟩:=key
 exact ⟨z,h1,fun H=>AX (H:=H) (is:=[.ag [.i .i64 t.states,h,n],v,.i .i64 (k : Int)]) rfl rfl g rfl (.inl ⟨rfl,rfl⟩)⟩
theorem run_r {t : TreeC} {h n v : I} {es : List (List I)} {p : List Ce} (hT : TreeV t h n es) (hv : IsSl v (Al p)) (hl : (p.length : Int) <= 9223372036854775806) (m : Int) : ∃ x,IsSl x (Al (rnE t p m).1) /\ ∀ H,Gives G 28 [.m (.ag [.i .i64 t.states,h,n]),.m v,.m (.i .i64 m)] H (.tu [.m x,.m (.i .i64 (rnE t p m).2)]) H:=by
 unfold rnE
 by_cases hc : DI t p = 0
 rotate_left
 ·rw [AaL hc]
  have g1:=fun H=>Aaf hT hv hl hc m H
  refine ⟨.nl 4,AR,fun H=>?_⟩
  refine Ak rfl rfl rfl rfl rfl ?_
  simp (maxSteps:=2000000) (disch:=omega) [Ad,Ab,Aa,cl (g1 _),hc]
 rw [AaN hc]
 by_cases hm : 0 <= m /\ m <= 10000
 rotate_left
 ·rw [AaL hm]
  have g1:=fun H=>Aae hT hv hl hc m (by omega) H
  refine ⟨.nl 4,AR,fun H=>?_⟩
  refine Ak rfl rfl rfl rfl rfl ?_
  simp (maxSteps:=2000000) (disch:=omega) [Ad,Ab,Aa,cl (g1 _)]
 rw [AaN hm]
 have hS:=IL hT
 obtain ⟨k,rfl⟩:=Abs hm.1
 have hk : k <= 10000:=by omega
 rw [show ((k : Int)).toNat = k from rfl]
 obtain ⟨x,⟨ps,e,hQ,hx⟩,g0⟩:=his_r hT hv hc k hk []
 have g1 : ∀ H,Gives G 67 [.m (.ag [.i .i64 t.states,h,n]),.m v,.m (.i .i64 (k : Int))] H x H:=fun H=>AX (H:=H) (is:=[.ag [.i .i64 t.states,h,n],v,.i .i64 (k : Int)]) rfl rfl g0 rfl (.inl ⟨by rcases hx with ⟨_,rfl⟩ | ⟨_,vs,_,rfl⟩ <;> rfl,rfl⟩)
 obtain ⟨q1,q2⟩:=TP hS hc hQ
 rcases hx with ⟨he,rfl⟩ | ⟨he,vs,hP,rfl⟩
 ·rw [q2 he]
  refine ⟨.nl 4,AR,fun H=>?_⟩
  refine Ak rfl rfl rfl rfl rfl ?_
  simp (maxSteps:=2000000) (disch:=omega) [Ad,Ab,Aa,cl (g1 _),he]
 ·obtain ⟨q,hq,hr⟩:=q1 he
  rw [hr]
  have hlt:=(AaI.1 hq).1
  obtain ⟨u,hu⟩ : ∃ u,vs[k]? = some u:=⟨_,AaK (by rw [hP.1]; exact hlt)⟩
  have hn:=DY hu
  have hlen : k < vs.length:=by rw [hP.1]; exact hlt
  have hrv:=(BF (CX vs)).rules
  simp only [Do] at hrv
  refine ⟨u,hP.2 k u q hu hq,fun H=>?_⟩
  refine Ak rfl rfl rfl rfl rfl ?_
  simp (maxSteps:=2000000) (disch:=omega) [Ad,Ab,Aa,cl (g1 _),hrv,hn,hlen,show (k : Int) < vs.length from by omega]
theorem Ci {p : List Chg} {i : Nat} {c : Chg} (h : p[i]? = some c) : nth (AU p) i = some [.i .i64 c.x,.i .i64 c.y,.i .i64 c.f,.i .i64 c.t]:=by
 rw [AK]
 unfold AU
 rw [Abb,h]
 rfl
theorem Ue (x y f t : Int) (H : Hp) : Gives G 90 [.m (.ag [.i .i64 x,.i .i64 y,.i .i64 f,.i .i64 t])] H (.m (.ag [.i .i64 x,.i .i64 y])) H:=by
 refine Ak rfl rfl rfl rfl rfl ?_
 simp
theorem ZS (a b : Chg) (H : Hp) : Gives G 88 [.m (.ag [.i .i64 a.x,.i .i64 a.y,.i .i64 a.f,.i .i64 a.t]),.m (.ag [.i .i64 b.x,.i .i64 b.y,.i .i64 b.f,.i .i64 b.t])] H (.m (.i .i64 (FQ a.x a.y b.x b.y))) H:=by
 refine Ak rfl rfl rfl rfl rfl ?_
 simp [cl (Ue _ _ _ _ _),cl (Rc _ _ _ _ _)]
theorem ZD (s : Int) (H : Hp) : Gives G 87 [.m (.i .i64 s)] H (.m (.b (decide (0 <= s /\ s < 8)))) H:=by
 refine Ak rfl rfl rfl rfl rfl ?_
 by_cases h : 0 <= s
 ·simp (maxSteps:=2000000) (disch:=omega) [Ad,Ab,Aa,Ae,Af,Ac,Ag,-Int.not_lt,-Int.not_le,-Nat.not_lt,-Nat.not_le,-List.map_take,h]
 ·simp (maxSteps:=2000000) (disch:=omega) [Ad,Ab,Aa,Ae,Af,Ac,Ag,-Int.not_lt,-Int.not_le,-Nat.not_lt,-Nat.not_le,-List.map_take,h]
theorem Em (a b : Chg) : (0 <= FQ a.x a.y b.x b.y) ↔ EL a b = false:=by
 unfold EL FQ DA
 grind
def Ep (p : List Chg) : Nat -> Option Chg
 | 0=>none
 | i + 1=>p[i]?
theorem Ht {p : List Chg} {i : Nat} {c : Chg} (hx : p[i]? = some c) : BE (Ep p i) (c :: p.drop (i + 1)) = (Kv c && (match Ep p i with | none=>true | some a=>EL a c) && BE (Ep p (i + 1)) (p.drop (i + 1))):=by
 have : Ep p (i + 1) = some c:=hx
 rw [this]
 rfl
theorem Ra (x y : Int) : AG x y = (decide (max x y <= 1048576) && decide (-1048576 <= min x y)):=by
 unfold AG
 rw [Abu]
 simp only [AaJ,AaU]
 omega
set_option maxHeartbeats 4000000 in
theorem Nx {v : I} {p : List Chg} (hv : IsSl v (AU p)) (hl : (p.length : Int) <= 9223372036854775806) (H : Hp) : Gives G 49 [.m v] H (.m (.b (Bv p))) H:=by
 have hr:=hv.rules
 simp only [show (AU p).length = p.length from by simp [AU]] at hr
 refine Ak rfl rfl rfl rfl rfl ?_
 by_cases h1 : 10000 < p.length
 ·have h1' : (10000 : Int) < p.length:=by omega
  have e : Bv p = false:=by unfold Bv; rw [AaO (by omega)]; rfl
  simp (maxSteps:=2000000) (disch:=omega) [Ad,Ab,Aa,hr,h1,h1',e]
 have h1' : ¬ (10000 : Int) < p.length:=by omega
 have e : Bv p = BE none p:=by unfold Bv; rw [AaP (by omega)]; rfl
 simp (maxSteps:=2000000) (disch:=omega) [Ad,Ab,Aa,hr,h1,h1',e]
 refine (?key : ∀ (i : Nat) (B : List (Nat × List V)),i <= p.length -> BE none p = BE (Ep p i) (p.drop i) -> Run G c49_B0 (S49_0 (.m v) (.m v) (.m (.i .i64 p.length)) (.m (.i .i64 (i : Int))) B []) _) 0 _ (AaT _) rfl
 refine Bd (fun i : Nat=>p.length - i) fun i ih B hi hc=>?_
 unfold c49_B0
 cases hx : p[i]? with
 | none =>
  have : i = p.length:=by have:=AaM.1 hx; omega
  subst this
  have : BE (Ep p p.length) [] = true:=by cases Ep p p.length <;> rfl
  rw [Abj,this] at hc
  simp (maxSteps:=2000000) (disch:=omega) [Ad,Ab,Aa,hr,hc]
 | some c =>
  have hlt:=(Aj hx).1
  have hlt' : (i : Int) < p.length:=by omega
  have hn:=Ci hx
  have wi : wr .i64 ((i : Int) + 1) = (i : Int) + 1:=Aa (by omega) (by omega)
  rw [(Aj hx).2,Ht hx] at hc
  have hg : Kv c = (AG c.x c.y && (decide (0 <= c.f /\ c.f < 8) && (decide (0 <= c.t /\ c.t < 8) && decide (c.f ≠ c.t)))):=rfl
  rw [hg,Ra] at hc
  have g3:=fun H=>ZD c.f H
  have g4:=fun H=>ZD c.t H
  by_cases q1 : 1048576 < max c.x c.y
  case pos =>
   rw [AaO (show ¬ max c.x c.y <= 1048576 by omega)] at hc
   simp only [Abo] at hc
   simp (maxSteps:=2000000) (disch:=omega) [Ad,Ab,Aa,Ae,Af,Ac,Ag,-Int.not_lt,-Int.not_le,-Nat.not_lt,-Nat.not_le,-List.map_take,hr,hlt,hlt',hn,q1,hc]
  by_cases q2 : min c.x c.y < -1048576
  case pos =>
   rw [AaO (show ¬ -1048576 <= min c.x c.y by omega)] at hc
   simp only [Abo,Bool.and_false] at hc
   simp (maxSteps:=2000000) (disch:=omega) [Ad,Ab,Aa,Ae,Af,Ac,Ag,-Int.not_lt,-Int.not_le,-Nat.not_lt,-Nat.not_le,-List.map_take,hr,hlt,hlt',hn,q1,q2,hc]
  by_cases q3 : 0 <= c.f /\ c.f < 8
  case neg =>
   rw [AaO q3] at hc g3
   simp only [Abo,Bool.and_false] at hc
   simp (maxSteps:=2000000) (disch:=omega) [Ad,Ab,Aa,Ae,Af,Ac,Ag,-Int.not_lt,-Int.not_le,-Nat.not_lt,-Nat.not_le,-List.map_take,hr,hlt,hlt',hn,q1,q2,cl (g3 _),hc]
  by_cases q4 : 0 <= c.t /\ c.t < 8
  case neg =>
   rw [AaP q3] at g3
   rw [AaO q4] at hc g4
   simp only [Abo,Bool.and_false] at hc
   simp (maxSteps:=2000000) (disch:=omega) [Ad,Ab,Aa,Ae,Af,Ac,Ag,-Int.not_lt,-Int.not_le,-Nat.not_lt,-Nat.not_le,-List.map_take,hr,hlt,hlt',hn,q1,q2,cl (g3 _),cl (g4 _),hc]
  rw [AaP q3] at g3
  rw [AaP q4] at g4
  by_cases q5 : c.f = c.t
  case pos =>
   rw [AaO (show ¬ c.f ≠ c.t from fun h=>h q5)] at hc
   simp only [Abo,Bool.and_false] at hc
   simp (maxSteps:=2000000) (disch:=omega) [Ad,Ab,Aa,Ae,Af,Ac,Ag,-Int.not_lt,-Int.not_le,-Nat.not_lt,-Nat.not_le,-List.map_take,hr,hlt,hlt',hn,q1,q2,cl (g3 _),cl (g4 _),q5,hc]
  rw [AaP (show max c.x c.y <= 1048576 by omega),AaP (show -1048576 <= min c.x c.y by omega),AaP q3,AaP q4,AaP q5] at hc
  simp only [Abl] at hc
  cases i with
  | zero =>
   have hc : BE none p = BE (Ep p 1) (p.drop 1):=hc
   simp (maxSteps:=2000000) (disch:=omega) [Ad,Ab,Aa,Ae,Af,Ac,Ag,-Int.not_lt,-Int.not_le,-Nat.not_lt,-Nat.not_le,-List.map_take,hr,hlt,hlt',hn,q1,q2,cl (g3 _),cl (g4 _),q5,wi]
   exact ih 1 (by omega) _ (by omega) hc
  | succ j =>
   obtain ⟨c0,hx0⟩ : ∃ c0,p[j]? = some c0:=⟨p[j],AaK (by omega)⟩
   have hn0:=Ci hx0
   have hp0 : Ep p (j + 1) = some c0:=hx0
   rw [hp0] at hc
   have hc : BE none p = (EL c0 c && BE (Ep p (j + 2)) (p.drop (j + 2))):=hc
   have e3 : (j : Int) + 1 < p.length:=by omega
   have e4 : (j : Int) < p.length:=by omega
   have e5 : (0 : Int) < (j : Int) + 1:=by omega
   have e6 : (0 : Int) <= (j : Int) + 1:=by omega
   have e7 : ((j : Int) + 1).toNat = j + 1:=by omega
   have e8 : wr .i64 ((j : Int) + 1 - 1) = (j : Int):=by rw [show (j : Int) + 1 - 1 = j by omega]; exact Aa (by omega) (by omega)
   have e9 : wr .i64 ((j : Int) + 1 + 1) = ((j + 2 : Nat) : Int):=Aa (by omega) (by omega)
   have go:=fun H=>ZS c0 c H
   by_cases q6 : EL c0 c = true
   ·have q7 : ¬ 0 <= FQ c0.x c0.y c.x c.y:=fun h=>by have:=(Em c0 c).1 h; rw [q6] at this; cases this
    rw [q6,Abl] at hc
    simp (maxSteps:=2000000) (disch:=omega) [Ad,Ab,Aa,Ae,Af,Ac,Ag,-Int.not_lt,-Int.not_le,-Nat.not_lt,-Nat.not_le,-List.map_take,hr,hlt,e3,e4,e5,e6,e7,e8,e9,hn,hn0,q1,q2,cl (g3 _),cl (g4 _),cl (go _),q5,q7,-Int.natCast_add]
    exact ih (j + 2) (by omega) _ (by omega) hc
   ·rw [Bool.not_eq_true] at q6
    have q7 : 0 <= FQ c0.x c0.y c.x c.y:=(Em c0 c).2 q6
    rw [q6] at hc
    simp only [Abo] at hc
    simp (maxSteps:=2000000) (disch:=omega) [Ad,Ab,Aa,Ae,Af,Ac,Ag,-Int.not_lt,-Int.not_le,-Nat.not_lt,-Nat.not_le,-List.map_take,hr,hlt,e3,e4,e5,e6,e7,e8,hn,hn0,q1,q2,cl (g3 _),cl (g4 _),cl (go _),q5,q7,hc]
theorem Ub {v : I} {p : List Ce} (hv : IsSl v (Al p)) (hr : Bo p = true) : Gives G 89 [.m v] [] (.mp 0) [mPI (CW p)]:=by
 obtain ⟨pw,hg,hl⟩:=Bh hr
 have hrv:=hv.rules
 simp only [show (Al p).length = p.length from by simp [Al]] at hrv
 refine Gives.of_ret (Cs mono rfl rfl rfl rfl rfl ?_)
 simp (maxSteps:=2000000) (disch:=omega) [Ad,Ab,Aa,hrv]
 refine (?key : ∀ (i : Nat) (B : List (Nat × List V)),i <= p.length -> Run G c89_B0 (S89_0 (.mp 0) (.m v) (.m (.i .i64 p.length)) (.m (.i .i64 (i : Int))) B [mPI (CW (p.take i))]) _) 0 _ (AaT _)
 refine Bd (fun i : Nat=>p.length - i) fun i ih B hi=>?_
 unfold c89_B0
 cases hx : p[i]? with
 | none =>
  have : i = p.length:=by have:=AaM.1 hx; omega
  subst this
  rw [Aby]
  simp (maxSteps:=2000000) (disch:=omega) [Ad,Ab,Aa]
 | some c =>
  have hlt:=(Aj hx).1
  have hlt' : (i : Int) < p.length:=by omega
  have hn:=Aq hx
  have wi : wr .i64 ((i : Int) + 1) = ((i + 1 : Nat) : Int):=Aa (by omega) (by omega)
  have pw':=pw
  rw [<- List.take_append_drop i p,(Aj hx).2] at pw'
  have hm:=Ks pw'
  rw [<- Au hx] at hm
  have k:=ih (i + 1) (by omega)
  simp (maxSteps:=2000000) (disch:=omega) [Ad,Ab,Aa,hrv,hlt,hlt',hn,wi,hm,-Int.natCast_add]
  exact k _ (by omega)
theorem Kt (x y : Int) : ∀ Q : List Ce,(Dc (CW Q) (x,y)).getD 0 = By Q x y
 | []=>rfl
 | c :: r=>by
  show (Dc (((c.x,c.y),c.s) :: CW r) (x,y)).getD 0 = if c.x = x /\ c.y = y then c.s else By r x y
  unfold Dc
  by_cases h : c.x = x /\ c.y = y
  ·rw [AaN (by rw [h.1,h.2]),AaN h]
   rfl
  ·rw [AaL (by rw [AaH]; exact h),AaL h]
   exact Kt x y r
theorem Nl (d : Ce) : ∀ Q : List Ce,NU (CW Q) (d.x,d.y) d.s = CW (KH d Q)
 | []=>rfl
 | c :: r=>by
  show NU (((c.x,c.y),c.s) :: CW r) (d.x,d.y) d.s = _
  unfold NU KH
  by_cases h : c.x = d.x /\ c.y = d.y
  ·rw [AaN (by rw [h.1,h.2]),AaN h]
   rfl
  ·rw [AaL (by rw [AaH]; exact h),AaL h,Nl d r]
   rfl
theorem Nn (x y : Int) : ∀ Q : List Ce,Up (CW Q) (x,y) = CW (RQ x y Q)
 | []=>rfl
 | c :: r=>by
  show Up (((c.x,c.y),c.s) :: CW r) (x,y) = _
  unfold Up RQ
  by_cases h : c.x = x /\ c.y = y
  ·rw [AaN (by rw [h.1,h.2]),AaN h]
  ·rw [AaL (by rw [AaH]; exact h),AaL h,Nn x y r]
   rfl
theorem Kh {α : Type} : ∀ (l : List α) (P : Nat -> List α -> Prop),(∀ n m l,n <= m -> P n l -> P m l) -> (∀ l',l'.Perm l -> ∃ n,P n l') -> ∃ N,∀ l',l'.Perm l -> P N l'
 | [],P,_,h=>by
  obtain ⟨n,hn⟩:=h [] (.refl _)
  exact ⟨n,fun l' hp=>by rw [hp.eq_nil]; exact hn⟩
 | a :: t,P,hm,h=>by
  have key : ∀ t' : List α,t'.Perm t -> ∀ k,∃ n,∀ i,i <= k -> i <= t'.length -> P n (t'.take i ++ a :: t'.drop i):=fun t' ht k=>by
   have hp : ∀ i,(t'.take i ++ a :: t'.drop i).Perm (a :: t):=fun i=>by
    refine List.perm_middle.trans ?_
    rw [List.take_append_drop]
    exact ht.cons a
   induction k with
   | zero =>
    obtain ⟨n,hn⟩:=h _ (hp 0)
    exact ⟨n,fun i hi _=>by rw [Nat.le_zero.1 hi]; exact hn⟩
   | succ k ih =>
    obtain ⟨n,hn⟩:=ih
    obtain ⟨m,hm'⟩:=h _ (hp (k + 1))
    refine ⟨max n m,fun i hi hl=>?_⟩
    by_cases e : i = k + 1
    ·subst e
     exact hm _ _ _ (AbR ..) hm'
    ·exact hm _ _ _ (AbJ ..) (hn i (by omega) hl)
  obtain ⟨N,hN⟩:=Kh t (fun n t'=>∀ i,i <= t'.length -> P n (t'.take i ++ a :: t'.drop i)) (fun n m l hle hl i hi=>hm n m _ hle (hl i hi)) fun t' ht=>by
   obtain ⟨n,hn⟩:=key t' ht t'.length
   exact ⟨n,fun i hi=>hn i hi hi⟩
  refine ⟨N,fun l' hp=>?_⟩
  obtain ⟨l1,l2,rfl⟩:=List.append_of_mem (hp.mem_iff.2 (Abq ..) : a ∈ l')
  have ht : (l1 ++ l2).Perm t:=(List.perm_cons a).1 (List.perm_middle.symm.trans hp)
  have:=hN _ ht l1.length (by rw [AaX]; omega)
  simpa using this
theorem Nb {ops : List Op} {s : St} {Q : St -> Prop} (h : Run G (.reg ops) s (.st fun e s'=>e = .nm /\ Q s')) : ∃ n s1,Bc (AQ G n) ops s = some s1 /\ Q { s1 with L:=[] }:=by
 obtain ⟨n,e,s',h1,h2⟩:=h
 simp only [evC,AaF,AaG,AaH] at h1
 obtain ⟨s1,h1,rfl,rfl⟩:=h1
 exact ⟨n,s1,h1,h2.2⟩
theorem rd_of {g : Rg} {q : List Op} (hrs : g.rs = [q]) {s : St} {k : I} {x : V} {Q : St -> Prop}
  (h : Run G (.reg g.qB) ⟨Ar g.dr s.E,[(g.tn,.tu [.m (.b true),.m k,x])],s.M⟩ (.st fun e s1=>e = .nm /\ (isT true (BA s1.E g.tb) = true /\ Run G (.reg g.qC) ⟨s1.E,[(g.te,.tu [.m k,x])],s1.M⟩ (.st fun e s2=>e = .nm /\ Run G (.reg q) s2 (.st fun e s3=>e = .nm /\ Q s3))))) :
  ∃ n s',rg1 (AQ G n) g s (k,x) = some s' /\ Q s':=by
 obtain ⟨n1,s1,a1,ht,h⟩:=Nb h
 obtain ⟨n2,s2,a2,h⟩:=Nb h
 obtain ⟨n3,s3,a3,h⟩:=Nb h
 have m1:=Az mono (AbF (AbJ n1 n2) (AbJ (max n1 n2) n3))
 have m2:=Az mono (AbF (AbR n1 n2) (AbJ (max n1 n2) n3))
 have m3:=Az mono (AbR (max n1 n2) n3)
 refine ⟨max (max n1 n2) n3,{ s3 with L:=[] },?_,h⟩
 unfold rg1
 rw [hrs,Bs m1 a1]
 show gd (isT true (BA s1.E g.tb)) _ = _
 rw [ht]
 show Option.bind (Bc _ g.qC ⟨s1.E,[(g.te,.tu [.m k,x])],s1.M⟩) _ = _
 rw [Bs m2 a2]
 show Option.bind (Bc _ q ⟨s2.E,[],s2.M⟩) _ = _
 rw [Bs m3 a3]
 rfl
def Hv (R : Row) (f : List Ce) (o : V) (H : Hp) : Prop:=(f = [] /\ o = .m (.nl 4) /\ H = [R]) \/ (f ≠ [] /\ o = .sl 1 f.length 3 0 f.length false /\ H = [R,.cs 90 3 (AJ f) 0 false])
theorem Ox {R : Row} {f : List Ce} {o : V} {H : Hp} (h : Hv R f o H) (hl : f.length <= 1000000) (c : Ce) : ∃ o1 H1,(∀ B,EG ⟨B,H⟩ 90 3 24 o [[.m (.i .i64 c.x),.m (.i .i64 c.y),.m (.i .i64 c.s)]] = some (o1,⟨B,H1⟩)) /\ AE o1 = true /\ Hv R (f ++ [c]) o1 H1:=by
 rcases h with ⟨rfl,rfl,rfl⟩ | ⟨hne,rfl,rfl⟩
 ·exact ⟨_,_,fun B=>rfl,rfl,.inr ⟨by simp,rfl,rfl⟩⟩
 ·have hl2 : (AJ f).length = f.length:=by simp [AJ]
  have e1 : AJ (f ++ [c]) = AJ f ++ [[.m (.i .i64 c.x),.m (.i .i64 c.y),.m (.i .i64 c.s)]]:=by unfold AJ; rw [List.map_append]; rfl
  refine ⟨.sl 1 (f.length + 1) 3 0 (f.length + 1) false,[R,.cs 90 3 (AJ f ++ [[.m (.i .i64 c.x),.m (.i .i64 c.y),.m (.i .i64 c.s)]]) 0 false],fun B=>?_,rfl,.inr ⟨by simp,by simp,by rw [e1]⟩⟩
  have hb : Nat.ble ((f.length + 1) * 24) 140737488355328 = true:=by rw [Abv]; omega
  have hb2 : (f.length + 1) * 24 <= 140737488355328:=by omega
  simp [EG,nth,hl2,gd,hb2,Bw,CS]
theorem IR {R : Row} {f : List Ce} {o : V} {H : Hp} (h : Hv R f o H) : AE o = true:=by
 rcases h with ⟨_,rfl,_⟩ | ⟨_,rfl,_⟩ <;> rfl
theorem Aaj {R : Row} {f : List Ce} {o : V} {H : Hp} (h : Hv R f o H) (hl : f.length <= 1000000) (hg : ∀ c,c ∈ f -> Co c = true) (ha : f.Pairwise apart) : ∃ H2,Gives G 79 [o] H (.tu [.m (zP (tlF f).1),.m (.i .i64 (tlF f).2)]) H2:=by
 rcases h with ⟨rfl,rfl,rfl⟩ | ⟨hne,rfl,rfl⟩
 ·exact ⟨_,RH (v:=.nl 4) (L:=[]) AR (by simp) hg ha _⟩
 ·have h2:=RH (v:=.sl (Al f)) (BF _) hl hg ha []
  generalize hH : ([R,.cs 90 3 (AJ f) 0 false] : Hp) = H
  have h3 : nth H 1 = some (.cs 90 3 (AJ f) 0 false):=by rw [<- hH]; rfl
  have hv:=QI h3 (AaT _) 18
  have hvs : Ai (view 20 H) [V.sl 1 f.length 3 0 f.length false] = some [.sl (Al f)]:=by
   simp only [Ai,hv,AaR]
  cases hfl : Hy (.tu [.m (zP (tlF f).1),.m (.i .i64 (tlF f).2)]) with
  | true=>exact ⟨H,AX (is:=[.sl (Al f)]) rfl rfl h2 hvs (.inr ⟨by simp [DG,Fy],hfl⟩)⟩
  | false =>
   have hfz : AO ([V.sl 1 f.length 3 0 f.length false].flatMap DG) H = some (H.set 1 (.cs 90 3 (AJ f) 0 true)):=by
    show Option.bind (nth H 1) _ = _
    rw [h3]
    show Option.bind (gd ((AJ f).all fun e=>e.all isM) (some (Row.cs 90 3 (AJ f) 0 true))) _ = _
    rw [Fm]
    show Option.bind (Bw H 1 _) _ = _
    rw [BX _ _ _ (Rx h3)]
    rfl
   exact ⟨_,Cv (is:=[.sl (Al f)]) rfl rfl h2 hvs (by simp [DG,Fy]) hfl rfl hfz⟩
noncomputable def apV (p : List Ce) (l : List Chg) : V:=.tu [.m (zP (appF p l).1),.m (.i .i64 (appF p l).2)]
theorem allM2 (v u : I) : Cc [.m v,.m u] = some [v,u]:=rfl
theorem WR : G.prim 50 = some (rfX apF 2):=by kernel_rfl
theorem WQ {R : Row} {f : List Ce} {o : V} {s : St} (c : Ce) (hE : Ar apG.dr s.E = [(9,o)]) (hO : Hv R f o s.M.H) (hl : f.length <= 1000000) : ∃ n s',rg1 (AQ G n) apG s (ekP (c.x,c.y),evI c.s) = some s' /\ ∃ o',Ar apG.dr s'.E = [(9,o')] /\ Hv R (f ++ [c]) o' s'.M.H:=by
 obtain ⟨o1,H1,ha,hn,hO1⟩:=Ox hO hl c
 have hnf:=IR hO
 refine rd_of (g:=apG) (q:=regO (mq2 (blkC (mq2 (mq2 c50_B1))))) rfl ?_
 rw [hE]
 generalize hs : s.M = M at *
 obtain ⟨B,H⟩:=M
 show Run G (.reg [⟨.v 50,.p (.ext 0),[.l 49],none⟩]) ⟨[(9,o)],[(49,.tu [.m (.b true),.m (ekP (c.x,c.y)),evI c.s])],⟨B,H⟩⟩ (.st _)
 simp (maxSteps:=2000000) (disch:=omega) [Ad,Ab,Aa]
 refine ⟨rfl,?_⟩
 show Cu G (some ⟨[(9,o),(50,.m (.b true))],[(51,.tu [.m (.ag [.i .i64 c.x,.i .i64 c.y]),.m (.i .i64 c.s)])],⟨B,H⟩⟩) [⟨.l 52,.p (.ext 0),[.l 51],none⟩,⟨.l 53,.p (.ext 1),[.l 51],none⟩,⟨.v 10,.l (.alp 10 [.m (.i .i64 0),.m (.i .i64 0)]),[],none⟩,⟨.no,.l (.st 2),[.v 10,.l 52],none⟩,⟨.v 11,.p .mv,[.l 53],none⟩] (.st fun e s2=>e = .nm /\ Cu G (some s2) [⟨.l 54,.p .mv,[.v 9],none⟩,
  ⟨.l 55,.p (.fad 0),[.v 10],none⟩,
  ⟨.l 56,.r (.ld false 1),[.l 55],none⟩,
  ⟨.l 57,.p (.fad 1),[.v 10],none⟩,
  ⟨.l 58,.r (.ld false 1),[.l 57],none⟩,
  ⟨.l 59,.p .mv,[.v 11],none⟩,
  ⟨.l 60,.p (.build [.m (.i .i64 0),.m (.i .i64 0),.m (.i .i64 0)] [(0,1),(1,1),(2,1)]),[.l 56,.l 58,.l 59],none⟩,
  ⟨.l 61,.p (.bsl 3 [.m (.i .i64 0),.m (.i .i64 0),.m (.i .i64 0)] 1 [0]),[.l 60],none⟩,
  ⟨.l 62,.l (.app 90 3 24),[.l 54,.l 61],none⟩,
  ⟨.v 9,.p .mv,[.l 62],none⟩] (.st fun e s3=>e = .nm /\ ∃ o',Ar [6,10,11,22,23,24,25,50] s3.E = [(9,o')] /\ Hv R (f ++ [c]) o' s3.M.H))
 have ha : ∀ B,EG ⟨B,H⟩ 90 3 24 o [[.m (.i .i64 c.x),.m (.i .i64 c.y),.m (.i .i64 c.s)]] = some (o1,⟨B,H1⟩):=ha
 have hd : ∀ st : St,CB st (.v 9) o1 = some { st with E:=BT st.E 9 o1 }:=fun st=>by
  have : EW 9 o1 = true:=by
   cases o1 with
   | fa d off=>cases hn
   | _=>rfl
  simp [CB,this,gd]
 simp (maxSteps:=2000000) (disch:=omega) [Ad,Ab,Aa,ha,hd,hnf]
 exact hO1
theorem MY {R : Row} : ∀ (Q f : List Ce) (o : V) (s : St),Ar apG.dr s.E = [(9,o)] -> Hv R f o s.M.H -> f.length + Q.length <= 1000000 -> ∃ n s',rgL (AQ G n) apG (Q.map fun c=>(ekP (c.x,c.y),evI c.s)) s = some s' /\ ∃ o',Ar apG.dr s'.E = [(9,o')] /\ Hv R (f ++ Q) o' s'.M.H
 | [],f,o,s,hE,hO,_=>⟨0,s,rfl,o,hE,by rw [AbI]; exact hO⟩
 | c :: Q,f,o,s,hE,hO,hl=>by
  rw [AbD] at hl
  obtain ⟨n1,s1,h1,o1,hE1,hO1⟩:=WQ c hE hO (by omega)
  obtain ⟨n2,s2,h2,o2,hE2,hO2⟩:=MY Q (f ++ [c]) o1 s1 hE1 hO1 (by rw [AaX,List.length_singleton]; omega)
  refine ⟨max n1 n2,s2,?_,o2,hE2,by rw [AbG] at hO2; exact hO2⟩
  rw [Abr]
  show (rg1 (AQ G (max n1 n2)) apG s (ekP (c.x,c.y),evI c.s)).bind _ = _
  rw [LX (Az mono (AbJ n1 n2)) h1]
  exact Gk (Az mono (AbR n1 n2)) h2
theorem end_a {R : Row} {f : List Ce} {o : V} {s : St} (hE : Ar apG.dr s.E = [(9,o)]) (hO : Hv R f o s.M.H) : ∃ n s',rgE (AQ G n) apG s = some s' /\ s'.L = [] /\ ∃ b,s'.E = [(9,o),(50,b)] /\ s'.M.H = s.M.H:=by
 have hnf:=IR hO
 have h : Run G (.reg apG.qB) ⟨Ar apG.dr s.E,[(apG.tn,.tu [.m (.b false)])],s.M⟩ (.st fun e s1=>e = .nm /\ (isT false (BA s1.E apG.tb) = true /\ s1.E = [(9,o),(50,.m (.b false))] /\ s1.M = s.M)):=by
  rw [hE]
  generalize s.M = M
  show Run G (.reg [⟨.v 50,.p (.ext 0),[.l 49],none⟩]) ⟨[(9,o)],[(49,.tu [.m (.b false)])],M⟩ (.st _)
  simp (maxSteps:=2000000) (disch:=omega) [Ad,Ab,Aa]
  rfl
 obtain ⟨n,s1,h1,h2,h3,h4⟩:=Nb h
 refine ⟨n,⟨s1.E,[],s1.M⟩,?_,rfl,_,h3,by show s1.M.H = _; rw [h4]⟩
 unfold rgE
 rw [h1]
 show gd (isT false (BA s1.E apG.tb)) _ = _
 rw [h2]
 rfl
theorem ZC {R : Row} {f : List Ce} {o b : V} {s : St} (hE : s.E = [(9,o),(50,b)]) (hL : s.L = []) (hO : Hv R f o s.M.H) (hl : f.length <= 1000000) (hg : ∀ c,c ∈ f -> Co c = true) (ha : f.Pairwise apart) : ∃ n,(evX (AQ G n) apF.mT s).bind (fun q=>match q.1 with | .ret=>rfF apF q.2 | _=>none) = some (.tu [.m (zP (tlF f).1),.m (.i .i64 (tlF f).2)]):=by
 obtain ⟨H2,hF⟩:=Aaj hO hl hg ha
 have hnf:=IR hO
 obtain ⟨E,L,⟨B,H⟩⟩:=s
 dsimp only at hE hL hF hO
 subst hE hL
 have h : Run G (.seq (.reg [⟨.l 63,.p .mv,[.v 9],none⟩,⟨.l 64,.l (.cal 79),[.l 63],none⟩,⟨.l 65,.p (.ext 0),[.l 64],none⟩,⟨.l 66,.p (.ext 1),[.l 64],none⟩,⟨.v 4,.p .mv,[.l 65],none⟩,⟨.v 5,.p .mv,[.l 66],none⟩]) .ret) ⟨[(9,o),(50,b)],[],⟨B,H⟩⟩ (.st fun e s'=>e = .ret /\ rfF apF s' = some (.tu [.m (zP (tlF f).1),.m (.i .i64 (tlF f).2)])):=by
  simp (maxSteps:=2000000) (disch:=omega) [Ad,Ab,Aa,cl hF,hnf]
  rfl
 obtain ⟨n,e,s',h1,rfl,h2⟩:=h
 refine ⟨n,?_⟩
 have h1 : evC (AQ G n) n apF.mT ⟨[(9,o),(50,b)],[],⟨B,H⟩⟩ = some (.ret,s'):=h1
 rw [MG h1]
 exact h2
def PreQ (p : List Ce) (l : List Chg) (e : Ex) (s : St) : Prop :=
 (e = .ret /\ rfF apF s = some (apV p l)) \/ (e = .nm /\ Bo p = true /\ Bv l = true /\ apV p l = .tu [.m (zP (tlF (LA p l)).1),.m (.i .i64 (tlF (LA p l)).2)] /\ ∃ B x y z t,s = ⟨[(6,.mp 0),(9,.m (.nl 4)),(22,x),(23,y),(24,z),(25,t)],[],⟨B,[mPI (CW (l.foldl Dk p))]⟩⟩)
set_option maxHeartbeats 8000000 in
theorem pre_a {v u : I} {p : List Ce} {l : List Chg} (hv : IsSl v (Al p)) (hu : IsSl u (AU l)) (hp : (p.length : Int) <= 9223372036854775806) (hl : (l.length : Int) <= 9223372036854775806) : Run G (sqC apF.pre) ⟨Cw 0 [.m v,.m u],[],⟨[],[]⟩⟩ (.st (PreQ p l)):=by
 have hrv:=hv.rules
 have hru:=hu.rules
 simp only [show (AU l).length = l.length from by simp [AU]] at hru
 have g1:=fun H=>IN hv (by omega) H
 have g2:=fun H=>Nx hu hl H
 show Run G (.seq (mq1 c50.body) (.seq (mq1 (mq2 c50.body)) (.seq (mq1 (mq2 (mq2 c50.body))) (.seq (mq1 (mq2 (mq2 (mq2 c50.body)))) (.seq (mq1 (mq2 (mq2 (mq2 (mq2 c50.body))))) .skip))))) ⟨[(0,.m v),(1,.m u)],[],⟨[],[]⟩⟩ _
 simp only [c50,mq1,mq2]
 cases h1 : Bo p with
 | false =>
  rw [h1] at g1
  have e : apV p l = .tu [.m (.nl 4),.m (.i .i64 2)]:=by unfold apV appF; rw [AaL (by simp [h1])]; rfl
  simp (maxSteps:=2000000) (disch:=omega) [Ad,Ab,Aa,Ae,Af,Ac,Ag,-Int.not_lt,-Int.not_le,-Nat.not_lt,-Nat.not_le,-List.map_take,cl (g1 _)]
  exact .inl ⟨rfl,by rw [e]; rfl⟩
 | true =>
 rw [h1] at g1
 cases h2 : Bv l with
 | false =>
  rw [h2] at g2
  have e : apV p l = .tu [.m (.nl 4),.m (.i .i64 2)]:=by unfold apV appF; rw [AaL (by simp [h2])]; rfl
  simp (maxSteps:=2000000) (disch:=omega) [Ad,Ab,Aa,Ae,Af,Ac,Ag,-Int.not_lt,-Int.not_le,-Nat.not_lt,-Nat.not_le,-List.map_take,cl (g1 _),cl (g2 _)]
  exact .inl ⟨rfl,by rw [e]; rfl⟩
 | true =>
 rw [h2] at g2
 have g3:=Ub hv h1
 simp (maxSteps:=2000000) (disch:=omega) [Ad,Ab,Aa,Ae,Af,Ac,Ag,-Int.not_lt,-Int.not_le,-Nat.not_lt,-Nat.not_le,-List.map_take,cl (g1 _),cl (g2 _),cl g3,hru]
 refine (?key : ∀ (i : Nat) (B : List (Nat × List V)),i <= l.length -> ((l.take i).all fun c=>decide (By p c.x c.y = c.f)) = true -> Run G c50_B0 (S50_0 (.mp 0) (.m u) (.m (.i .i64 l.length)) (.m (.i .i64 (i : Int))) B [mPI (CW ((l.take i).foldl Dk p))]) _) 0 _ (AaT _) rfl
 refine Bd (fun i : Nat=>l.length - i) fun i ih B hi hall=>?_
 unfold c50_B0
 cases hx : l[i]? with
 | none =>
  have : i = l.length:=by have:=AaM.1 hx; omega
  subst this
  rw [Aby] at hall ⊢
  simp (maxSteps:=2000000) (disch:=omega) [Ad,Ab,Aa]
  refine .inr ⟨rfl,h1,h2,?_,?_⟩
  ·unfold apV appF
   rw [AaN ⟨h1,h2⟩,AaN hall]
  ·exact ⟨_,_,_,_,_,rfl⟩
 | some c =>
  have hlt:=(Aj hx).1
  have hlt' : (i : Int) < l.length:=by omega
  have hn:=Ci hx
  have wi : wr .i64 ((i : Int) + 1) = ((i + 1 : Nat) : Int):=Aa (by omega) (by omega)
  have htk : l.take (i + 1) = l.take i ++ [c]:=Au hx
  have hlook:=RB (p:=p) h2 hx
  generalize hQ : (l.take i).foldl Dk p = Q at *
  have hget:=Kt c.x c.y Q
  rw [hlook] at hget
  have hset:=Nl c.new Q
  have hset : NU (CW Q) (c.x,c.y) c.t = CW (KH c.new Q):=hset
  have hdel:=Nn c.x c.y (KH c.new Q)
  have hnext : (l.take (i + 1)).foldl Dk p = Dk Q c:=by rw [htk,List.foldl_append,hQ]; rfl
  by_cases hf : By p c.x c.y = c.f
  case neg =>
   have e : apV p l = .tu [.m (.nl 4),.m (.i .i64 17)]:=by
    unfold apV appF
    rw [AaN ⟨h1,h2⟩,AaL]
    ·rfl
    ·intro h
     have:=AaZ.1 h c (AaS hx)
     exact hf (of_decide_eq_true this)
   simp (maxSteps:=2000000) (disch:=omega) [Ad,Ab,Aa,Ae,Af,Ac,Ag,-Int.not_lt,-Int.not_le,-Nat.not_lt,-Nat.not_le,-List.map_take,hru,hlt,hlt',hn,cl (Ue _ _ _ _ _),hget,hf]
   exact .inl ⟨rfl,by rw [e]; rfl⟩
  have hall' : ((l.take (i + 1)).all fun c=>decide (By p c.x c.y = c.f)) = true:=by
   rw [htk,List.all_append,hall]
   simp [hf]
  have k:=ih (i + 1) (by omega)
  by_cases ht : c.t = 0
  ·have e : Dk Q c = RQ c.x c.y (KH c.new Q):=by unfold Dk; rw [AaN ht]
   rw [hnext,e] at k
   rw [ht] at hset
   simp (maxSteps:=2000000) (disch:=omega) [Ad,Ab,Aa,Ae,Af,Ac,Ag,-Int.not_lt,-Int.not_le,-Nat.not_lt,-Nat.not_le,-List.map_take,hru,hlt,hlt',hn,cl (Ue _ _ _ _ _),hget,hf,hset,hdel,ht,wi,-Int.natCast_add]
   exact k _ (by omega) hall'
  ·have e : Dk Q c = KH c.new Q:=by unfold Dk; rw [AaL ht]
   rw [hnext,e] at k
   simp (maxSteps:=2000000) (disch:=omega) [Ad,Ab,Aa,Ae,Af,Ac,Ag,-Int.not_lt,-Int.not_le,-Nat.not_lt,-Nat.not_le,-List.map_take,hru,hlt,hlt',hn,cl (Ue _ _ _ _ _),hget,hf,hset,ht,wi,-Int.natCast_add]
   exact k _ (by omega) hall'
def Nw (c : Ce) : I × V:=(ekP (c.x,c.y),evI c.s)
def decQ : I × V -> Ce
 | (.ag [.i _ x,.i _ y],.m (.i _ s))=>⟨x,y,s⟩
 | _=>⟨0,0,0⟩
theorem Xi (c : Ce) : decQ (Nw c) = c:=rfl
theorem TG {Q : List Ce} {es : List (I × V)} (h : es.Perm (Q.map Nw)) : ∃ Q' : List Ce,Q'.Perm Q /\ es = Q'.map Nw:=by
 refine ⟨es.map decQ,?_,?_⟩
 ·have:=h.map decQ
  rw [List.map_map] at this
  have e : Q.map (decQ ∘ Nw) = Q:=by
   conv=>rhs; rw [<- List.map_id Q]
   exact List.map_congr_left fun c _=>Xi c
  rw [e] at this
  exact this
 ·rw [List.map_map]
  conv=>lhs; rw [<- List.map_id es]
  refine List.map_congr_left fun x hx=>?_
  obtain ⟨c,_,rfl⟩:=Abz.1 (h.mem_iff.1 hx)
  rfl
theorem UQ {v u : I} {p : List Ce} {l : List Chg} (hv : IsSl v (Al p)) (hu : IsSl u (AU l)) (hp : (p.length : Int) <= 9223372036854775806) (hl : (l.length : Int) <= 9223372036854775806) (H : Hp) : Gives G 50 [.m v,.m u] H (apV p l) H:=by
 have fin : ∀ n,rfV (AQ G n) apF [v,u] = some (apV p l) -> Gives G 50 [.m v,.m u] H (apV p l) H:=fun n h=>by
  refine ⟨n + 1,?_⟩
  unfold AQ
  rw [WR]
  show rfX apF 2 (AQ G n) [.m v,.m u] H = _
  unfold rfX
  rw [allM2]
  show (rfV (AQ G n) apF [v,u]).bind _ = _
  rw [h]
  rfl
 obtain ⟨n0,e,s,h1,h2⟩:=pre_a hv hu hp hl
 have h3 : PreQ p l e s:=h2
 clear h2
 rcases h3 with ⟨rfl,h2⟩ | ⟨rfl,hr,hrl,hap,B,x,y,z,t,rfl⟩
 ·refine fin n0 ?_
  unfold rfV
  rw [show [v,u].map V.m = [V.m v,V.m u] from rfl,MG h1]
  exact h2
 ·generalize hQ : l.foldl Dk p = Q at h1
  have hcan : Q.Perm (LA p l):=by rw [<- hQ]; exact TT hr hrl
  obtain ⟨c1,c2,c3⟩:=RW hr hrl
  have hes : (CW Q).map (fun q=>(ekP q.1,evI q.2)) = Q.map Nw:=by unfold CW; rw [List.map_map]; rfl
  generalize hs : (⟨[(6,.mp 0),(9,.m (.nl 4)),(22,x),(23,y),(24,z),(25,t)],[],⟨B,[Row.mp (Q.map Nw) true]⟩⟩ : St) = s1
  have hM : rfM apF ⟨[(6,.mp 0),(9,.m (.nl 4)),(22,x),(23,y),(24,z),(25,t)],[],⟨B,[mPI (CW Q)]⟩⟩ = some (Q.map Nw,s1):=by
   have hfr : AO [0] [mPI (CW Q)] = some [Row.mp (Q.map Nw) true]:=by
    show Option.bind (AD (mPI (CW Q))) _ = _
    have hr : AD (mPI (CW Q)) = some (Row.mp (Q.map Nw) true):=by
     show gd (((CW Q).map fun q=>(ekP q.1,evI q.2)).all fun p=>isM p.2) (some (Row.mp ((CW Q).map fun q=>(ekP q.1,evI q.2)) true)) = _
     rw [hes]
     have : ((Q.map Nw).all fun p=>isM p.2) = true:=by rw [List.all_map,AaZ]; exact fun _ _=>rfl
     rw [this]
     rfl
    rw [hr]
    rfl
   show Option.bind (AO [0] [mPI (CW Q)]) _ = _
   rw [hfr,<- hs]
   show some ((CW Q).map fun q=>(ekP q.1,evI q.2),_) = _
   rw [hes]
  have hone : ∀ es',es'.Perm (Q.map Nw) -> ∃ n,rfO (AQ G n) apF s1 es' = some (apV p l):=fun es' he=>by
   obtain ⟨Q',hq,rfl⟩:=TG he
   have hqc:=hq.trans hcan
   have hql : Q'.length <= 1000000:=by rw [hqc.length_eq]; omega
   obtain ⟨n1,s2,r1,o,hE,hO⟩:=MY (R:=Row.mp (Q.map Nw) true) Q' [] (.m (.nl 4)) s1 (by rw [<- hs]; rfl) (by rw [<- hs]; exact .inl ⟨rfl,rfl,rfl⟩) (by simpa using hql)
   rw [List.nil_append] at hO
   obtain ⟨n2,s3,r2,hL,b,hE3,hH3⟩:=end_a hE hO
   rw [<- hH3] at hO
   obtain ⟨n3,r3⟩:=ZC hE3 hL hO hql (fun c hc=>c1 c (hqc.mem_iff.1 hc)) (BR hqc c2)
   refine ⟨max (max n1 n2) n3,?_⟩
   unfold rfO
   have m1:=Az mono (AbF (AbJ n1 n2) (AbJ (max n1 n2) n3))
   have m2:=Az mono (AbF (AbR n1 n2) (AbJ (max n1 n2) n3))
   have m3:=Az mono (AbR (max n1 n2) n3)
   have r1 : rgL (AQ G n1) apF.g (Q'.map Nw) s1 = some s2:=r1
   rw [Gk m1 r1]
   simp only [AaR]
   have r2 : rgE (AQ G n2) apF.g s2 = some s3:=r2
   rw [LW m2 r2]
   simp only [AaR]
   simp only [AaF] at r3 ⊢
   obtain ⟨⟨e3,s4⟩,k1,k2⟩:=r3
   refine ⟨(e3,s4),Gm m3 k1,?_⟩
   rw [hap,<- MT hqc (BR hqc c2)]
   cases e3 with
   | ret=>exact k2
   | nm=>cases k2
   | ex id=>cases k2
  obtain ⟨N,hN⟩:=Kh (Q.map Nw) (fun n es'=>rfO (AQ G n) apF s1 es' = some (apV p l)) (fun n m es' hle h=>EV (Az mono hle) h) hone
  refine fin (max n0 N) ?_
  unfold rfV
  have m0:=Az mono (AbJ n0 N)
  have mN:=Az mono (AbR n0 N)
  rw [show [v,u].map V.m = [V.m v,V.m u] from rfl,Gm m0 (MG h1)]
  simp only [AaR]
  rw [hM]
  simp only [AaR]
  rw [EV mN (hN _ (.refl _))]
  simp only [AaR]
  rw [AaN fun es' h'=>EV mN (hN es' h')]
theorem Hm (x y f t : Int) (H : Hp) : Gives G 60 [.m (.ag [.i .i64 x,.i .i64 y,.i .i64 f,.i .i64 t])] H (.m (.ag [.i .i64 x,.i .i64 y])) H:=by
 refine Ak rfl rfl rfl rfl rfl ?_
 simp
theorem Zx (x y : Int) (H : Hp) : Gives G 59 [.m (.ag [.i .i64 x,.i .i64 y])] H (.m (.b (AG x y))) H:=by
 refine Ak rfl rfl rfl rfl rfl ?_
 simp (contextual:=true) [Ae,Af,Ac,Ag,-Int.not_lt,-Int.not_le,-Nat.not_lt,-Nat.not_le,-List.map_take,AG]
 try grind
theorem Aau (x y z w : Int) (H : Hp) : Gives G 61 [.m (.ag [.i .i64 x,.i .i64 y]),.m (.ag [.i .i64 z,.i .i64 w])] H (.m (.i .i64 (FQ x y z w))) H:=by
 refine Ak rfl rfl rfl rfl rfl ?_
 by_cases h1 : y < w
 ·have e : FQ x y z w = -1:=by unfold FQ DA; simp [h1]
  simp (maxSteps:=2000000) (disch:=omega) [Ad,Ab,Aa,Ae,Af,Ac,Ag,-Int.not_lt,-Int.not_le,-Nat.not_lt,-Nat.not_le,-List.map_take,h1,e]
 by_cases h2 : y = w
 ·subst h2
  by_cases h3 : x < z
  ·have e : FQ x y z y = -1:=by unfold FQ DA; simp [h3]
   simp (maxSteps:=2000000) (disch:=omega) [Ad,Ab,Aa,Ae,Af,Ac,Ag,-Int.not_lt,-Int.not_le,-Nat.not_lt,-Nat.not_le,-List.map_take,h3,e]
  by_cases h4 : x = z
  ·subst h4
   have e : FQ x y x y = 0:=by unfold FQ DA; simp
   simp (maxSteps:=2000000) (disch:=omega) [Ad,Ab,Aa,Ae,Af,Ac,Ag,-Int.not_lt,-Int.not_le,-Nat.not_lt,-Nat.not_le,-List.map_take,e]
  ·have h5 : z < x:=by omega
   have e : FQ x y z y = 1:=by unfold FQ DA; simp [h3,h5]
   simp (maxSteps:=2000000) (disch:=omega) [Ad,Ab,Aa,Ae,Af,Ac,Ag,-Int.not_lt,-Int.not_le,-Nat.not_lt,-Nat.not_le,-List.map_take,h3,h4,e]
 ·have h3 : w < y:=by omega
  have e : FQ x y z w = 1:=by unfold FQ DA; simp [h1,h3]
  simp (maxSteps:=2000000) (disch:=omega) [Ad,Ab,Aa,Ae,Af,Ac,Ag,-Int.not_lt,-Int.not_le,-Nat.not_lt,-Nat.not_le,-List.map_take,h1,h2,e]
set_option maxHeartbeats 4000000 in
theorem Ny {v : I} {p : List Chg} (hv : IsSl v (AU p)) (hl : (p.length : Int) <= 9223372036854775806) (H : Hp) : Gives G 22 [.m v] H (.m (.b (Bv p))) H:=by
 have hr:=hv.rules
 simp only [show (AU p).length = p.length from by simp [AU]] at hr
 refine Ak rfl rfl rfl rfl rfl ?_
 by_cases h1 : 10000 < p.length
 ·have h1' : (10000 : Int) < p.length:=by omega
  have e : Bv p = false:=by unfold Bv; rw [AaO (by omega)]; rfl
  simp (maxSteps:=2000000) (disch:=omega) [Ad,Ab,Aa,hr,h1,h1',e]
 have h1' : ¬ (10000 : Int) < p.length:=by omega
 have e : Bv p = BE none p:=by unfold Bv; rw [AaP (by omega)]; rfl
 simp (maxSteps:=2000000) (disch:=omega) [Ad,Ab,Aa,hr,h1,h1',e]
 refine (?key : ∀ (i : Nat) (B : List (Nat × List V)),i <= p.length -> BE none p = BE (Ep p i) (p.drop i) -> Run G c22_B0 (S22_0 (.m v) (.m (.i .i64 (i : Int))) B []) _) 0 _ (AaT _) rfl
 refine Bd (fun i : Nat=>p.length - i) fun i ih B hi hc=>?_
 unfold c22_B0
 cases hx : p[i]? with
 | none =>
  have : i = p.length:=by have:=AaM.1 hx; omega
  subst this
  have : BE (Ep p p.length) [] = true:=by cases Ep p p.length <;> rfl
  rw [Abj,this] at hc
  simp (maxSteps:=2000000) (disch:=omega) [Ad,Ab,Aa,hr,hc]
 | some c =>
  have hlt:=(Aj hx).1
  have hlt' : (i : Int) < p.length:=by omega
  have hn:=Ci hx
  have wi : wr .i64 ((i : Int) + 1) = (i : Int) + 1:=Aa (by omega) (by omega)
  rw [(Aj hx).2,Ht hx] at hc
  have hg : Kv c = (AG c.x c.y && (decide (0 <= c.f /\ c.f < 8) && (decide (0 <= c.t /\ c.t < 8) && decide (c.f ≠ c.t)))):=rfl
  rw [hg] at hc
  have gv:=fun H=>Zx c.x c.y H
  cases q1 : AG c.x c.y with
  | false =>
   rw [q1] at gv hc
   simp only [Abo] at hc
   simp (maxSteps:=2000000) (disch:=omega) [Ad,Ab,Aa,Ae,Af,Ac,Ag,-Int.not_lt,-Int.not_le,-Nat.not_lt,-Nat.not_le,-List.map_take,hr,hlt,hlt',hn,cl (Hm _ _ _ _ _),cl (gv _),hc]
  | true =>
  rw [q1] at gv hc
  simp only [Abl] at hc
  by_cases q3 : 0 <= c.f /\ c.f < 8
  case neg =>
   rw [AaO q3] at hc
   simp only [Abo] at hc
   by_cases q30 : c.f < 0
   ·simp (maxSteps:=2000000) (disch:=omega) [Ad,Ab,Aa,Ae,Af,Ac,Ag,-Int.not_lt,-Int.not_le,-Nat.not_lt,-Nat.not_le,-List.map_take,hr,hlt,hlt',hn,cl (Hm _ _ _ _ _),cl (gv _),q30,hc]
   ·have q31 : 8 <= c.f:=by omega
    simp (maxSteps:=2000000) (disch:=omega) [Ad,Ab,Aa,Ae,Af,Ac,Ag,-Int.not_lt,-Int.not_le,-Nat.not_lt,-Nat.not_le,-List.map_take,hr,hlt,hlt',hn,cl (Hm _ _ _ _ _),cl (gv _),q30,q31,hc]
  have q30 : ¬ c.f < 0:=by omega
  have q31 : ¬ 8 <= c.f:=by omega
  by_cases q4 : 0 <= c.t /\ c.t < 8
  case neg =>
   rw [AaO q4] at hc
   simp only [Abo,Bool.and_false] at hc
   by_cases q40 : c.t < 0
   ·simp (maxSteps:=2000000) (disch:=omega) [Ad,Ab,Aa,Ae,Af,Ac,Ag,-Int.not_lt,-Int.not_le,-Nat.not_lt,-Nat.not_le,-List.map_take,hr,hlt,hlt',hn,cl (Hm _ _ _ _ _),cl (gv _),q30,q31,q40,hc]
   ·have q41 : 8 <= c.t:=by omega
    simp (maxSteps:=2000000) (disch:=omega) [Ad,Ab,Aa,Ae,Af,Ac,Ag,-Int.not_lt,-Int.not_le,-Nat.not_lt,-Nat.not_le,-List.map_take,hr,hlt,hlt',hn,cl (Hm _ _ _ _ _),cl (gv _),q30,q31,q40,q41,hc]
  have q40 : ¬ c.t < 0:=by omega
  have q41 : ¬ 8 <= c.t:=by omega
  by_cases q5 : c.f = c.t
  case pos =>
   rw [AaO (show ¬ c.f ≠ c.t from fun h=>h q5)] at hc
   simp only [Abo,Bool.and_false] at hc
   simp (maxSteps:=2000000) (disch:=omega) [Ad,Ab,Aa,Ae,Af,Ac,Ag,-Int.not_lt,-Int.not_le,-Nat.not_lt,-Nat.not_le,-List.map_take,hr,hlt,hlt',hn,cl (Hm _ _ _ _ _),cl (gv _),q5,q40,q41,hc]
  rw [AaP q3,AaP q4,AaP q5] at hc
  simp only [Abl] at hc
  cases i with
  | zero =>
   have hc : BE none p = BE (Ep p 1) (p.drop 1):=hc
   simp (maxSteps:=2000000) (disch:=omega) [Ad,Ab,Aa,Ae,Af,Ac,Ag,-Int.not_lt,-Int.not_le,-Nat.not_lt,-Nat.not_le,-List.map_take,hr,hlt,hlt',hn,cl (Hm _ _ _ _ _),cl (gv _),q30,q31,q40,q41,q5,wi]
   exact ih 1 (by omega) _ (by omega) hc
  | succ j =>
   obtain ⟨c0,hx0⟩ : ∃ c0,p[j]? = some c0:=⟨p[j],AaK (by omega)⟩
   have hn0:=Ci hx0
   have hp0 : Ep p (j + 1) = some c0:=hx0
   rw [hp0] at hc
   have hc : BE none p = (EL c0 c && BE (Ep p (j + 2)) (p.drop (j + 2))):=hc
   have e3 : (j : Int) + 1 < p.length:=by omega
   have e4 : (j : Int) < p.length:=by omega
   have e5 : (0 : Int) < (j : Int) + 1:=by omega
   have e6 : (0 : Int) <= (j : Int) + 1:=by omega
   have e7 : ((j : Int) + 1).toNat = j + 1:=by omega
   have e8 : wr .i64 ((j : Int) + 1 - 1) = (j : Int):=by rw [show (j : Int) + 1 - 1 = j by omega]; exact Aa (by omega) (by omega)
   have e9 : wr .i64 ((j : Int) + 1 + 1) = ((j + 2 : Nat) : Int):=Aa (by omega) (by omega)
   have go:=fun H=>Aau c0.x c0.y c.x c.y H
   by_cases q6 : EL c0 c = true
   ·have q7 : ¬ 0 <= FQ c0.x c0.y c.x c.y:=fun h=>by have:=(Em c0 c).1 h; rw [q6] at this; cases this
    rw [q6,Abl] at hc
    simp (maxSteps:=2000000) (disch:=omega) [Ad,Ab,Aa,Ae,Af,Ac,Ag,-Int.not_lt,-Int.not_le,-Nat.not_lt,-Nat.not_le,-List.map_take,hr,hlt,e3,e4,e5,e6,e7,e8,e9,hn,hn0,cl (Hm _ _ _ _ _),cl (gv _),cl (go _),q30,q31,q40,q41,q5,q7,-Int.natCast_add]
    exact ih (j + 2) (by omega) _ (by omega) hc
   ·rw [Bool.not_eq_true] at q6
    have q7 : 0 <= FQ c0.x c0.y c.x c.y:=(Em c0 c).2 q6
    rw [q6] at hc
    simp only [Abo] at hc
    simp (maxSteps:=2000000) (disch:=omega) [Ad,Ab,Aa,Ae,Af,Ac,Ag,-Int.not_lt,-Int.not_le,-Nat.not_lt,-Nat.not_le,-List.map_take,hr,hlt,e3,e4,e5,e6,e7,e8,hn,hn0,cl (Hm _ _ _ _ _),cl (gv _),cl (go _),q30,q31,q40,q41,q5,q7,hc]
def OW (x y : Int) : List Chg -> Nat -> Int
 | [],_=>-1
 | c :: r,i=>if c.x = x /\ c.y = y then (i : Int) else OW x y r (i + 1)
theorem Nu (c : Ce) : ∀ (l : List Chg) (i : Nat),OW c.x c.y l i < 0 ↔ l.any (Cf c) = false
 | [],i=>by simp [OW]
 | d :: r,i=>by
  unfold OW
  rw [List.any_cons,Bool.or_eq_false_iff]
  by_cases h : d.x = c.x /\ d.y = c.y
  ·rw [AaN h]
   have : Cf c d = true:=AaP ⟨h.1.symm,h.2.symm⟩
   rw [this]
   simp
  ·rw [AaL h]
   have : Cf c d = false:=AaO fun g=>h ⟨g.1.symm,g.2.symm⟩
   rw [this,Nu c r]
   simp
theorem Aap {v : I} {p : List Chg} (hv : IsSl v (AU p)) (hl : (p.length : Int) <= 9223372036854775806) (x y : Int) (H : Hp) : Gives G 63 [.m v,.m (.ag [.i .i64 x,.i .i64 y])] H (.m (.i .i64 (OW x y p 0))) H:=by
 have hr:=hv.rules
 simp only [show (AU p).length = p.length from by simp [AU]] at hr
 refine Ak rfl rfl rfl rfl rfl ?_
 simp (maxSteps:=2000000) (disch:=omega) [Ad,Ab,Aa,hr]
 refine (?key : ∀ (i : Nat) (B : List (Nat × List V)),i <= p.length -> getB B 3 = some [.m (.i .i64 x),.m (.i .i64 y)] -> OW x y p 0 = OW x y (p.drop i) i -> Run G c63_B0 (S63_0 (.m v) (.fa 3 0) (.m (.i .i64 (i : Int))) B []) _) 0 _ (AaT _) (by simp) rfl
 refine Bd (fun i : Nat=>p.length - i) fun i ih B hi hB hf=>?_
 unfold c63_B0
 cases hx : p[i]? with
 | none =>
  have : i = p.length:=by have:=AaM.1 hx; omega
  subst this
  rw [Abj] at hf
  have hf : OW x y p 0 = -1:=hf
  simp (maxSteps:=2000000) (disch:=omega) [Ad,Ab,Aa,hr,hf]
 | some c =>
  have hlt:=(Aj hx).1
  have hlt' : (i : Int) < p.length:=by omega
  have hn:=Ci hx
  have wi : wr .i64 ((i : Int) + 1) = ((i + 1 : Nat) : Int):=Aa (by omega) (by omega)
  rw [(Aj hx).2] at hf
  have hf : OW x y p 0 = if c.x = x /\ c.y = y then (i : Int) else OW x y (p.drop (i + 1)) (i + 1):=hf
  by_cases h : c.x = x /\ c.y = y
  ·rw [AaN h] at hf
   simp (maxSteps:=2000000) (disch:=omega) [Ad,Ab,Aa,hr,hlt,hlt',hn,cl (Hm _ _ _ _ _),hB,h.1,h.2,hf]
  ·rw [AaL h] at hf
   have h1 : (decide (c.x = x) && decide (c.y = y)) = false:=by
    rw [Bool.eq_false_iff]
    intro g
    simp only [AaJ,AaU] at g
    exact h g
   have k:=ih (i + 1) (by omega)
   simp (maxSteps:=2000000) (disch:=omega) [Ad,Ab,Aa,hr,hlt,hlt',hn,cl (Hm _ _ _ _ _),hB,h1,wi,-Int.natCast_add]
   exact k _ (by omega) (by simp [hB]) hf
noncomputable def apW (p : List Ce) (l : List Chg) : V:=.tu [.m (zP (appF p l).1),.m (.i .i64 (appF p l).2)]
theorem fromB {f : List Ce} {o : V} {H : Hp} (h : RY f o H) (hl : f.length <= 800000) (hg : ∀ c,c ∈ f -> AG c.x c.y = true /\ 0 <= c.s /\ c.s < 8) (ha : (liv f).Pairwise apart) : ∃ H2,Gives G 64 [o] H (.tu [.m (zP (tlF (liv f)).1),.m (.i .i64 (tlF (liv f)).2)]) H2:=by
 rcases h with ⟨rfl,rfl,rfl⟩ | ⟨hne,rfl,rfl⟩
 ·exact ⟨_,Kg (v:=.nl 4) (p:=[]) AR (by simp) hg ha _⟩
 ·have h2:=Kg (v:=.sl (Al f)) (BF _) hl hg ha []
  generalize hH : ([.cs 90 3 (AJ f) 0 false] : Hp) = H
  have h3 : nth H 0 = some (.cs 90 3 (AJ f) 0 false):=by rw [<- hH]; rfl
  have hv:=QI h3 (AaT _) 18
  have hvs : Ai (view 20 H) [V.sl 0 f.length 3 0 f.length false] = some [.sl (Al f)]:=by
   simp only [Ai,hv,AaR]
  cases hfl : Hy (.tu [.m (zP (tlF (liv f)).1),.m (.i .i64 (tlF (liv f)).2)]) with
  | true=>exact ⟨H,AX (is:=[.sl (Al f)]) rfl rfl h2 hvs (.inr ⟨by simp [DG,Fy],hfl⟩)⟩
  | false =>
   have hfz : AO ([V.sl 0 f.length 3 0 f.length false].flatMap DG) H = some (H.set 0 (.cs 90 3 (AJ f) 0 true)):=by
    show Option.bind (nth H 0) _ = _
    rw [h3]
    show Option.bind (gd ((AJ f).all fun e=>e.all isM) (some (Row.cs 90 3 (AJ f) 0 true))) _ = _
    rw [Fm]
    show Option.bind (Bw H 0 _) _ = _
    rw [BX _ _ _ (Rx h3)]
    rfl
   exact ⟨_,Cv (is:=[.sl (Al f)]) rfl rfl h2 hvs (by simp [DG,Fy]) hfl rfl hfz⟩
set_option maxHeartbeats 8000000 in
theorem ND {v u : I} {p : List Ce} {l : List Chg} (hv : IsSl v (Al p)) (hu : IsSl u (AU l)) (hp : (p.length : Int) <= 9223372036854775806) (hl : (l.length : Int) <= 9223372036854775806) (H : Hp) : Gives G 23 [.m v,.m u] H (apW p l) H:=by
 have hrv:=hv.rules
 have hru:=hu.rules
 simp only [show (AU l).length = l.length from by simp [AU]] at hru
 simp only [show (Al p).length = p.length from by simp [Al]] at hrv
 have g1:=fun H=>Hl hv (by omega) H
 have g2:=fun H=>Ny hu hl H
 refine Ak rfl rfl rfl rfl rfl ?_
 cases h1 : Bo p with
 | false =>
  rw [h1] at g1
  have e : apW p l = .tu [.m (.nl 4),.m (.i .i64 2)]:=by unfold apW appF; rw [AaL (by simp [h1])]; rfl
  rw [e]
  simp (maxSteps:=2000000) (disch:=omega) [Ad,Ab,Aa,Ae,Af,Ac,Ag,-Int.not_lt,-Int.not_le,-Nat.not_lt,-Nat.not_le,-List.map_take,cl (g1 _)]
 | true =>
 rw [h1] at g1
 cases h2 : Bv l with
 | false =>
  rw [h2] at g2
  have e : apW p l = .tu [.m (.nl 4),.m (.i .i64 2)]:=by unfold apW appF; rw [AaL (by simp [h2])]; rfl
  rw [e]
  simp (maxSteps:=2000000) (disch:=omega) [Ad,Ab,Aa,Ae,Af,Ac,Ag,-Int.not_lt,-Int.not_le,-Nat.not_lt,-Nat.not_le,-List.map_take,cl (g1 _),cl (g2 _)]
 | true =>
 rw [h2] at g2
 obtain ⟨pw,pg,pl⟩:=Bh h1
 obtain ⟨lw,lg,ll⟩:=Fn h2
 have hpa : p.Pairwise apart:=pw.imp fun {a b} g=>by
  unfold Bm at g
  unfold apart
  simp only [AaU] at g
  omega
 simp (maxSteps:=2000000) (disch:=omega) [Ad,Ab,Aa,Ae,Af,Ac,Ag,-Int.not_lt,-Int.not_le,-Nat.not_lt,-Nat.not_le,-List.map_take,cl (g1 _),cl (g2 _)]
 refine (?key : ∀ (i : Nat) (o : V) (B : List (Nat × List V)) (H1 : Hp),i <= l.length -> RY ((l.take i).map Chg.new) o H1 -> ((l.take i).all fun c=>decide (By p c.x c.y = c.f)) = true -> Run G c23_B0 (S23_0 (.m v) (.m u) o (.m (.i .i64 (i : Int))) B H1) _) 0 (.m (.nl 4)) _ _ (AaT _) (.inl ⟨rfl,rfl,rfl⟩) rfl
 refine Bd (fun i : Nat=>l.length - i) fun i ih o B H1 hi ho hall=>?_
 have hnf:=(DX ho).2
 unfold c23_B0
 cases hx : l[i]? with
 | some c =>
  have hlt:=(Aj hx).1
  have hlt' : (i : Int) < l.length:=by omega
  have hn:=Ci hx
  have wi : wr .i64 ((i : Int) + 1) = ((i + 1 : Nat) : Int):=Aa (by omega) (by omega)
  have htk : l.take (i + 1) = l.take i ++ [c]:=Au hx
  have gg:=fun H=>Aah hv (by omega) c.x c.y H
  by_cases hf : By p c.x c.y = c.f
  case neg =>
   have e : apW p l = .tu [.m (.nl 4),.m (.i .i64 17)]:=by
    unfold apW appF
    rw [AaN ⟨h1,h2⟩,AaL]
    ·rfl
    ·intro h
     have:=AaZ.1 h c (AaS hx)
     exact hf (of_decide_eq_true this)
   rw [e]
   simp (maxSteps:=2000000) (disch:=omega) [Ad,Ab,Aa,Ae,Af,Ac,Ag,-Int.not_lt,-Int.not_le,-Nat.not_lt,-Nat.not_le,-List.map_take,hru,hlt,hlt',hn,cl (gg _),hf,hnf]
  have hall' : ((l.take (i + 1)).all fun c=>decide (By p c.x c.y = c.f)) = true:=by
   rw [htk,List.all_append,hall]
   simp [hf]
  obtain ⟨o1,H2,ha,hn1,ho1⟩:=Ca ho (by rw [Abe,AaW]; omega) c.new
  have e1 : (l.take i).map Chg.new ++ [c.new] = (l.take (i + 1)).map Chg.new:=by rw [htk,List.map_append]; rfl
  rw [e1] at ho1
  have ha : ∀ B,EG ⟨B,H1⟩ 90 3 24 o [[.m (.i .i64 c.x),.m (.i .i64 c.y),.m (.i .i64 c.t)]] = some (o1,⟨B,H2⟩):=ha
  have k:=ih (i + 1) (by omega)
  simp (maxSteps:=2000000) (disch:=omega) [Ad,Ab,Aa,Ae,Af,Ac,Ag,-Int.not_lt,-Int.not_le,-Nat.not_lt,-Nat.not_le,-List.map_take,hru,hlt,hlt',hn,cl (gg _),hf,ha,AC hn1,hnf,wi,-Int.natCast_add]
  exact k _ _ _ (by omega) ho1 hall'
 | none =>
  have : i = l.length:=by have:=AaM.1 hx; omega
  subst this
  clear ih hx hi
  rw [Aby] at ho hall
  simp (maxSteps:=2000000) (disch:=omega) [Ad,Ab,Aa,hru]
  refine (?key2 : ∀ (i : Nat) (o : V) (B : List (Nat × List V)) (H1 : Hp),i <= p.length -> RY (l.map Chg.new ++ (p.take i).filter fun c=>!l.any (Cf c)) o H1 -> Run G c23_B1 (S23_1 (.m v) (.m u) o (.m (.i .i64 (i : Int))) B H1) _) 0 _ _ _ (AaT _) (by simpa using ho)
  refine Bd (fun i : Nat=>p.length - i) fun i ih o B H1 hi ho=>?_
  have hnf:=(DX ho).2
  have hfl : (l.map Chg.new ++ (p.take i).filter fun c=>!l.any (Cf c)).length <= 15000:=by
   rw [AaX,Abe]
   have h3 : ((p.take i).filter fun c=>!l.any (Cf c)).length <= (p.take i).length:=AbX _ _
   rw [AaW] at h3
   omega
  unfold c23_B1
  cases hx : p[i]? with
  | some c =>
   have hlt:=(Aj hx).1
   have hlt' : (i : Int) < p.length:=by omega
   have hn:=Aq hx
   have wi : wr .i64 ((i : Int) + 1) = ((i + 1 : Nat) : Int):=Aa (by omega) (by omega)
   have htk : p.take (i + 1) = p.take i ++ [c]:=Au hx
   have gf:=fun H=>Aap hu hl c.x c.y H
   have hneg:=Nu c l 0
   have k:=ih (i + 1) (by omega)
   cases ha : l.any (Cf c) with
   | true =>
    have h0 : ¬ OW c.x c.y l 0 < 0:=fun g=>by rw [hneg.1 g] at ha; cases ha
    have e1 : (p.take (i + 1)).filter (fun c=>!l.any (Cf c)) = (p.take i).filter fun c=>!l.any (Cf c):=by
     rw [htk,AbT]
     simp [ha]
    rw [e1] at k
    simp (maxSteps:=2000000) (disch:=omega) [Ad,Ab,Aa,Ae,Af,Ac,Ag,-Int.not_lt,-Int.not_le,-Nat.not_lt,-Nat.not_le,-List.map_take,hrv,hlt,hlt',hn,cl (gf _),h0,wi,hnf,-Int.natCast_add]
    exact k _ _ _ (by omega) ho
   | false =>
    have h0 : OW c.x c.y l 0 < 0:=hneg.2 ha
    have e1 : (p.take (i + 1)).filter (fun c=>!l.any (Cf c)) = ((p.take i).filter fun c=>!l.any (Cf c)) ++ [c]:=by
     rw [htk,AbT]
     simp [ha]
    obtain ⟨o1,H2,hap,hn1,ho1⟩:=Ca ho (by omega) c
    rw [AbG,<- e1] at ho1
    simp (maxSteps:=2000000) (disch:=omega) [Ad,Ab,Aa,Ae,Af,Ac,Ag,-Int.not_lt,-Int.not_le,-Nat.not_lt,-Nat.not_le,-List.map_take,hrv,hlt,hlt',hn,cl (gf _),h0,hap,AC hn1,hnf,wi,-Int.natCast_add]
    exact k _ _ _ (by omega) ho1
  | none =>
   have : i = p.length:=by have:=AaM.1 hx; omega
   subst this
   clear ih hx hi
   rw [Aby] at ho hfl
   have hgd : ∀ c,c ∈ (l.map Chg.new ++ p.filter fun c=>!l.any (Cf c)) -> AG c.x c.y = true /\ 0 <= c.s /\ c.s < 8:=fun c hc=>by
    rcases AbC.1 hc with hc | hc
    ·obtain ⟨d,hd,rfl⟩:=Abz.1 hc
     exact Hs (lg d hd)
    ·have:=Fs (pg c (AbS.1 hc).1)
     exact ⟨this.1,by omega,this.2.2⟩
   have hperm:=TD p l pg
   obtain ⟨_,hcap,_⟩:=RW h1 h2
   obtain ⟨H3,hF⟩:=fromB ho (by omega) hgd (BR hperm hcap)
   rw [MT hperm (BR hperm hcap)] at hF
   have e : apW p l = .tu [.m (zP (tlF (LA p l)).1),.m (.i .i64 (tlF (LA p l)).2)]:=by
    unfold apW appF
    rw [AaN ⟨h1,h2⟩,AaN hall]
   rw [e]
   simp (maxSteps:=2000000) (disch:=omega) [Ad,Ab,Aa,hrv,cl hF,hnf]
structure Frm where
 g : Int
 b : Bool
 cv : I
 p : List Ce
 hv : I
 l : List Chg
structure FrmOk (f : Frm) : Prop where
 c : IsSl f.cv (Al f.p)
 h : IsSl f.hv (AU f.l)
 cl : (f.p.length : Int) <= 9223372036854775806
 hl : (f.l.length : Int) <= 9223372036854775806
 gr : -9223372036854775808 <= f.g /\ f.g <= 9223372036854775807
def Frm.i (f : Frm) : List I:=[.i .i64 f.g,.b f.b,f.cv,f.hv]
def BP (x : List Frm) : List (List I):=x.map Frm.i
theorem BD (x : List Frm) : (BP x).length = x.length:=by simp [BP]
theorem AF {x : List Frm} {i : Nat} {f : Frm} (h : x[i]? = some f) : nth (BP x) i = some [.i .i64 f.g,.b f.b,f.cv,f.hv]:=by
 rw [AK]
 unfold BP
 rw [Abb,h]
 rfl
def CL (key : Int) (k : Nat) : Bool:=decide (Int.tmod (k : Int) key = 0)
def Ia : Int -> List Frm -> Bool
 | _,[]=>true
 | last,f :: r=>decide (last < f.g /\ f.g <= 2147483647) && Ia f.g r
def Fv (key : Int) : Nat -> List Frm -> Bool
 | _,[]=>true
 | k,f :: r=>decide (f.b = CL key k) && Fv key (k + 1) r
def Hw (f : Frm) : Bool:=if f.b = true then Bo f.p && decide (f.l.length = 0) else decide (f.p.length = 0) && Bv f.l
noncomputable def If : List Ce -> List Frm -> Bool
 | _,[]=>true
 | q,f :: r=>if f.b = true then If f.p r else decide ((appF q f.l).2 = 0) && If (appF q f.l).1 r
noncomputable def OT (key : Int) (k : Nat) (last : Int) (q : List Ce) (f : Frm) : Option (I × List Ce) :=
 if (last < f.g /\ f.g <= 2147483647) /\ f.b = CL key k then
  if f.b = true then if Bo f.p = true /\ f.l.length = 0 then some (f.cv,f.p) else none
  else if (appF q f.l).2 = 0 /\ f.p.length = 0 then some (zP (appF q f.l).1,(appF q f.l).1) else none
 else none
noncomputable def Sc (key : Int) : Nat -> Int -> List Ce -> List Frm -> Option (List (I × List Ce))
 | _,_,_,[]=>some []
 | k,last,q,f :: r=>(OT key k last q f).bind fun u=>(Sc key (k + 1) f.g u.2 r).map (u :: ·)
noncomputable def patF (key : Int) (x : List Frm) : Option (List (I × List Ce)):=if (1 <= key /\ key <= 100) /\ x.length <= 1000 then Sc key 0 (-1) [] x else none
noncomputable def OV (t : TreeC) : Nat -> Int × List Ce -> List (Int × List Ce) -> Int × Int
 | _,_,[]=>(-1,0)
 | k,a,b :: r =>
  if 10000 < b.1 - a.1 then (0,14)
  else if (rnE t a.2 (b.1 - a.1)).2 = 0 then
   if Ge (rnE t a.2 (b.1 - a.1)).1 b.2 = 0 then OV t (k + 1) b r else ((k : Int),0)
  else (0,(rnE t a.2 (b.1 - a.1)).2)
noncomputable def XR (t : TreeC) : List (Int × List Ce) -> Int × Int
 | []=>(-1,0)
 | a :: r=>OV t 1 a r
noncomputable def folF (t : TreeC) (key : Int) (x : List Frm) : Int × Int :=
 if AS t = true then
  match patF key x with
  | none=>(0,2)
  | some us=>if (us.any fun u=>decide (t.states <= EI u.2)) = true then (0,10) else XR t ((x.map Frm.g).zip (us.map Prod.snd))
 else (0,11)
noncomputable def timF (t : TreeC) (key : Int) (x : List Frm) : Int :=
 if AS t = true then
  if 1 <= key /\ key <= 100 then
   if x.length <= 1000 then
    if Ia (-1) x = true then
     if Fv key 0 x = true then
      if x.all Hw = true then
       if If [] x = true then if folF t key x = (-1,0) then 0 else 8 else 7
      else 6
     else 5
    else 4
   else 3
  else 2
 else 1
theorem OG {q : List Ce} {l : List Chg} (h : (appF q l).2 = 0) : Bv l = true:=by
 unfold appF at h
 split at h
 ·rename_i h1
  exact h1.2
 ·cases h
theorem Hq {key : Int} {k : Nat} {last : Int} {q : List Ce} {f : Frm} {u : I × List Ce} (h : OT key k last q f = some u) : (last < f.g /\ f.g <= 2147483647) /\ f.b = CL key k /\ Hw f = true /\ ((f.b = true /\ u = (f.cv,f.p)) \/ (f.b = false /\ (appF q f.l).2 = 0 /\ u = (zP (appF q f.l).1,(appF q f.l).1))):=by
 unfold OT at h
 split at h
 rotate_left
 ·cases h
 rename_i h1
 refine ⟨h1.1,h1.2,?_⟩
 unfold Hw
 split at h
 ·rename_i hb
  split at h
  rotate_left
  ·cases h
  rename_i h2
  cases h
  rw [AaN hb,h2.1,AaP h2.2]
  exact ⟨rfl,.inl ⟨hb,rfl⟩⟩
 ·rename_i hb
  split at h
  rotate_left
  ·cases h
  rename_i h2
  cases h
  rw [AaL hb,AaP h2.2,OG h2.1]
  exact ⟨rfl,.inr ⟨by simpa using hb,h2.1,rfl⟩⟩
theorem Lv {key : Int} : ∀ {x : List Frm} {k : Nat} {last : Int} {q : List Ce} {us : List (I × List Ce)},Sc key k last q x = some us -> Ia last x = true /\ Fv key k x = true /\ x.all Hw = true /\ If q x = true /\ us.length = x.length
 | [],k,last,q,us,h=>by
  cases h
  exact ⟨rfl,rfl,rfl,rfl,rfl⟩
 | f :: r,k,last,q,us,h=>by
  unfold Sc at h
  simp only [AaF,Abh] at h
  obtain ⟨u,h1,w,h2,rfl⟩:=h
  obtain ⟨a1,a2,a3,a4⟩:=Hq h1
  obtain ⟨b1,b2,b3,b4,b5⟩:=Lv h2
  unfold Ia Fv If
  rw [AaP a1,b1,AaP a2,b2,List.all_cons,a3,b3]
  refine ⟨rfl,rfl,rfl,?_,by simp [b5]⟩
  rcases a4 with ⟨hb,rfl⟩ | ⟨hb,h0,rfl⟩
  ·rw [AaN hb]
   exact b4
  ·rw [AaL (by simp [hb]),AaP h0]
   exact b4
theorem IS : ∀ {x : List Frm} {last : Int},-1 <= last -> Ia last x = true -> ∀ f,f ∈ x -> 0 <= f.g /\ f.g <= 2147483647
 | [],_,_,_,f,h=>by cases h
 | a :: r,last,hl,h,f,hf=>by
  unfold Ia at h
  simp only [AaJ,AaU] at h
  rcases Abd.1 hf with rfl | hf
  ·omega
  ·exact IS (by omega) h.2 f hf
theorem RJ {t : TreeC} {key : Int} {x : List Frm} (h : folF t key x = (-1,0)) : AS t = true /\ (patF key x).isSome = true:=by
 unfold folF at h
 split at h
 ·rename_i hq
  refine ⟨hq,?_⟩
  split at h
  ·cases h
  ·rename_i us hu
   rw [hu]
   rfl
 ·cases h
theorem WD (t : TreeC) (key : Int) (x : List Frm) : timF t key x = 0 ↔ folF t key x = (-1,0):=by
 constructor
 ·intro h
  unfold timF at h
  repeat' split at h
  all_goals first
   | assumption
   | (exfalso; revert h; decide)
 ·intro h
  obtain ⟨hq,hp⟩:=RJ h
  obtain ⟨us,hu⟩:=AbB.1 hp
  unfold patF at hu
  split at hu
  rotate_left
  ·cases hu
  rename_i hk
  obtain ⟨a1,a2,a3,a4,_⟩:=Lv hu
  unfold timF
  rw [AaN hq,AaN hk.1,AaN hk.2,AaN a1,AaN a2,AaN a3,AaN a4,AaN h]
theorem WC (t : TreeC) (key : Int) (x : List Frm) : decide (timF t key x = 0) = ((AS t && (patF key x).isSome) && (decide ((folF t key x).1 = -1) && decide ((folF t key x).2 = 0))):=by
 rw [Abu]
 simp only [AaU,AaJ]
 rw [WD]
 constructor
 ·intro h
  refine ⟨RJ h,?_⟩
  rw [h]
  exact ⟨rfl,rfl⟩
 ·rintro ⟨_,h1,h2⟩
  exact Prod.ext h1 h2
theorem Ua {f : Frm} (hf : FrmOk f) (H : Hp) : Gives G 18 [.m (.ag f.i)] H (.m (.b (Hw f))) H:=by
 obtain ⟨g,b,cv,p,hv,l⟩:=f
 obtain ⟨c1,c2,c3,c4,_⟩:=hf
 dsimp only at c1 c2 c3 c4
 have r1:=c1.rules
 have r2:=c2.rules
 simp only [show (AU l).length = l.length from by simp [AU]] at r2
 simp only [show (Al p).length = p.length from by simp [Al]] at r1
 have o1:=Ao c1
 have o2:=Ao c2
 have g1:=fun H=>IN c1 (by omega) H
 have g2:=fun H=>Nx c2 c4 H
 show Gives G 18 [.m (.ag [.i .i64 g,.b b,cv,hv])] H _ H
 unfold Hw
 refine Ak rfl rfl rfl rfl rfl ?_
 cases b with
 | true =>
  rw [AaN rfl]
  cases h1 : Bo p with
  | false =>
   rw [h1] at g1
   simp (maxSteps:=2000000) (disch:=omega) [Ad,Ab,Aa,Ae,Af,Ac,Ag,-Int.not_lt,-Int.not_le,-Nat.not_lt,-Nat.not_le,-List.map_take,r1,r2,o1,o2,cl (g1 _)]
  | true =>
   rw [h1] at g1
   simp (maxSteps:=2000000) (disch:=omega) [Ad,Ab,Aa,Ae,Af,Ac,Ag,-Int.not_lt,-Int.not_le,-Nat.not_lt,-Nat.not_le,-List.map_take,r1,r2,o1,o2,cl (g1 _)]
 | false =>
  rw [AaL (by simp)]
  by_cases h1 : p.length = 0
  ·cases h2 : Bv l with
   | true =>
    rw [h2] at g2
    simp (maxSteps:=2000000) (disch:=omega) [Ad,Ab,Aa,Ae,Af,Ac,Ag,-Int.not_lt,-Int.not_le,-Nat.not_lt,-Nat.not_le,-List.map_take,r1,r2,o1,o2,cl (g2 _),h1]
   | false =>
    rw [h2] at g2
    simp (maxSteps:=2000000) (disch:=omega) [Ad,Ab,Aa,Ae,Af,Ac,Ag,-Int.not_lt,-Int.not_le,-Nat.not_lt,-Nat.not_le,-List.map_take,r1,r2,o1,o2,cl (g2 _),h1]
  ·simp (maxSteps:=2000000) (disch:=omega) [Ad,Ab,Aa,Ae,Af,Ac,Ag,-Int.not_lt,-Int.not_le,-Nat.not_lt,-Nat.not_le,-List.map_take,r1,r2,o1,o2,h1]
def XU (vs : List I) (o : V) (H : Hp) : Prop:=(vs = [] /\ o = .m (.nl 4) /\ H = []) \/ Uh vs o H
theorem Rk {vs : List I} {o : V} {H : Hp} (h : XU vs o H) : AE o = true:=by
 rcases h with ⟨_,rfl,_⟩ | h
 ·rfl
 ·exact (Rj h).1
theorem Fo {vs : List I} {o : V} {H : Hp} (h : XU vs o H) (hl : vs.length <= 1000000) (ho : ∀ u,u ∈ vs -> CS (.m u) = true) {u : I} (hu : CS (.m u) = true) : ∃ o1 H1,(∀ B,EG ⟨B,H⟩ 41 1 24 o [[.m u]] = some (o1,⟨B,H1⟩)) /\ AE o1 = true /\ XU (vs ++ [u]) o1 H1:=by
 rcases h with ⟨rfl,rfl,rfl⟩ | h
 ·refine ⟨.sl 0 1 1 0 1 false,[.cs 41 1 (CK [u]) 0 false],fun B=>?_,rfl,.inr ⟨by simp,.inr ⟨rfl,rfl⟩⟩⟩
  simp [EG,BI,CK,hu]
 ·obtain ⟨o1,H1,a,b,c⟩:=Kl h hl ho hu
  exact ⟨o1,H1,a,b,.inr c⟩
def Jc (us : List (I × List Ce)) : I:=if us = [] then .nl 4 else .sl (CX (us.map Prod.fst))
noncomputable def UK : Option (List (I × List Ce)) -> V
 | none=>.tu [.m (.nl 4),.m (.b false)]
 | some us=>.tu [.m (Jc us),.m (.b true)]
theorem Km {us : List (I × List Ce)} {o : V} {H : Hp} (h : XU (us.map Prod.fst) o H) : view 20 H o = some (Jc us):=by
 rcases h with ⟨h,rfl,rfl⟩ | h
 ·have : us = []:=by simpa using h
  subst this
  rfl
 ·have hne : us ≠ []:=fun h'=>h.1 (by rw [h']; rfl)
  have:=Kk h 18
  unfold Jc
  rw [AaL hne]
  exact this
theorem Ft (q : List Ce) (l : List Chg) : (appF q l).1.length <= 5000:=by
 unfold appF tlF
 repeat' split
 all_goals first
  | (show ([] : List Ce).length <= 5000; simp)
  | skip
 show (CJ _).length <= 5000
 rw [Dm]
 omega
theorem ZT {key : Int} {k : Nat} {last : Int} {q : List Ce} {f : Frm} (h : ¬ ((last < f.g /\ f.g <= 2147483647) /\ f.b = CL key k)) : OT key k last q f = none:=by
 unfold OT
 rw [AaL h]
theorem Rs {key : Int} {k : Nat} {last : Int} {q : List Ce} {f : Frm} (h : (last < f.g /\ f.g <= 2147483647) /\ f.b = CL key k) (hb : f.b = true) : OT key k last q f = if Bo f.p = true /\ f.l.length = 0 then some (f.cv,f.p) else none:=by
 unfold OT
 rw [AaN h,AaN hb]
theorem Rr {key : Int} {k : Nat} {last : Int} {q : List Ce} {f : Frm} (h : (last < f.g /\ f.g <= 2147483647) /\ f.b = CL key k) (hb : f.b = false) : OT key k last q f = if (appF q f.l).2 = 0 /\ f.p.length = 0 then some (zP (appF q f.l).1,(appF q f.l).1) else none:=by
 unfold OT
 rw [AaN h,AaL (by simp [hb])]
theorem Kj {key : Int} {x : List Frm} {i : Nat} {last : Int} {q : List Ce} {f : Frm} (hx : x[i]? = some f) : Sc key i last q (x.drop i) = (OT key i last q f).bind fun u=>(Sc key (i + 1) f.g u.2 (x.drop (i + 1))).map (u :: ·):=by
 rw [(Aj hx).2]
 rfl
structure Wk (key : Int) (x : List Frm) (i : Nat) (us : List (I × List Ce)) (last : Int) (q : List Ce) : Prop where
 len : us.length = i
 ok : ∀ u,u ∈ us -> IsSl u.1 (Al u.2) /\ (u.2.length : Int) <= 9223372036854775806
 at_ : ∀ j,i = j + 1 -> ∃ u,us[j]? = some (u,q)
 eq : patF key x = (Sc key i last q (x.drop i)).map (us ++ ·)
 l0 : i = 0 -> last = -1
 l1 : ∀ j,i = j + 1 -> ∃ f,x[j]? = some f /\ f.g = last
 lm : -1 <= last
theorem Wk.no {key : Int} {x : List Frm} {i : Nat} {us : List (I × List Ce)} {last : Int} {q : List Ce} (h : Wk key x i us last q) {f : Frm} (hx : x[i]? = some f) (hn : OT key i last q f = none) : patF key x = none:=by
 rw [h.eq,Kj hx,hn]
 rfl
theorem Wk.next {key : Int} {x : List Frm} {i : Nat} {us : List (I × List Ce)} {last : Int} {q : List Ce} (h : Wk key x i us last q) {f : Frm} (hx : x[i]? = some f) {u : I × List Ce} (hn : OT key i last q f = some u) (hu : IsSl u.1 (Al u.2) /\ (u.2.length : Int) <= 9223372036854775806) : Wk key x (i + 1) (us ++ [u]) f.g u.2:=by
 have hg:=(Hq hn).1
 have hlm:=h.lm
 refine ⟨by simp [h.len],fun w hw=>?_,fun j hj=>?_,?_,fun h0=>by omega,fun j hj=>?_,by omega⟩
 ·rcases AbC.1 hw with hw | hw
  ·exact h.ok w hw
  ·rw [Abn.1 hw]
   exact hu
 ·have : j = us.length:=by have:=h.len; omega
  subst this
  exact ⟨u.1,by simp⟩
 ·rw [h.eq,Kj hx,hn]
  show ((Sc key (i + 1) f.g u.2 (x.drop (i + 1))).map (u :: ·)).map (us ++ ·) = _
  rw [Option.map_map]
  congr 1
  funext w
  simp
 ·have : j = i:=by omega
  subst this
  exact ⟨f,hx,rfl⟩
theorem Wk.done {key : Int} {x : List Frm} {us : List (I × List Ce)} {last : Int} {q : List Ce} (h : Wk key x x.length us last q) : patF key x = some us:=by
 rw [h.eq,Abj]
 show some (us ++ []) = _
 rw [AbI]
theorem Wk.begin {key : Int} {x : List Frm} (hk : (1 <= key /\ key <= 100) /\ x.length <= 1000) : Wk key x 0 [] (-1) []:=by
 refine ⟨rfl,by simp,fun j hj=>by omega,?_,fun _=>rfl,fun j hj=>by omega,by omega⟩
 unfold patF
 rw [AaN hk,AbV]
 show _ = Option.map (fun w=>w) _
 simp
theorem Xa (key : Int) : CL key 0 = true:=by
 unfold CL
 simp
theorem Wk.prev {key : Int} {x : List Frm} {i : Nat} {us : List (I × List Ce)} {last : Int} {q : List Ce} (h : Wk key x i us last q) {f : Frm} (hb : f.b = false) (he : f.b = CL key i) : ∃ j,i = j + 1 /\ ∃ u,us[j]? = some (u,q) /\ IsSl u (Al q) /\ (q.length : Int) <= 9223372036854775806:=by
 cases i with
 | zero=>rw [Xa] at he; rw [he] at hb; cases hb
 | succ j =>
  obtain ⟨u,hu⟩:=h.at_ j rfl
  exact ⟨j,rfl,u,hu,h.ok _ (AaS hu)⟩
theorem EK {us : List (I × List Ce)} {j : Nat} {u : I} {q : List Ce} (h : us[j]? = some (u,q)) : (us.map Prod.fst)[j]? = some u:=by
 rw [Abb,h]
 rfl
theorem BG {x : List Frm} (hok : ∀ f,f ∈ x -> FrmOk f) {i : Nat} {f : Frm} (hx : x[i]? = some f) : FrmOk f:=hok f (AaS hx)
theorem UC {key : Int} {x : List Frm} {i : Nat} {us : List (I × List Ce)} {last : Int} {q : List Ce} (h : Wk key x i us last q) : ∀ u,u ∈ us.map Prod.fst -> CS (.m u) = true:=fun u hu=>by
 obtain ⟨w,hw,rfl⟩:=Abz.1 hu
 exact Ao (h.ok w hw).1
set_option maxHeartbeats 8000000 in
theorem ZR {fv : I} {x : List Frm} (hv : IsSl fv (BP x)) (hok : ∀ f,f ∈ x -> FrmOk f) (hxl : (x.length : Int) <= 9223372036854775806) (key : Int) (H : Hp) : Gives G 51 [.m (.ag [.i .i64 key,fv])] H (UK (patF key x)) H:=by
 have hr:=hv.rules
 rw [BD] at hr
 have ho:=Ao hv
 refine Ak rfl rfl rfl rfl rfl ?_
 have e0 : ¬ ((1 <= key /\ key <= 100) /\ x.length <= 1000) -> UK (patF key x) = .tu [.m (.nl 4),.m (.b false)]:=fun h=>by unfold patF; rw [AaL h]; rfl
 by_cases k1 : key < 1
 ·rw [e0 (by omega)]
  simp (maxSteps:=2000000) (disch:=omega) [Ad,Ab,Aa,hr,ho,k1]
 by_cases k2 : 100 < key
 ·rw [e0 (by omega)]
  simp (maxSteps:=2000000) (disch:=omega) [Ad,Ab,Aa,hr,ho,k1,k2]
 by_cases k3 : 1000 < x.length
 ·rw [e0 (by omega)]
  simp (maxSteps:=2000000) (disch:=omega) [Ad,Ab,Aa,hr,ho,k1,k2,k3,show (1000 : Int) < x.length from by omega]
 clear e0
 have k3' : ¬ (1000 : Int) < x.length:=by omega
 have hkz : ¬ key = 0:=by omega
 simp (maxSteps:=2000000) (disch:=omega) [Ad,Ab,Aa,hr,ho,k1,k2,k3,k3']
 generalize hE : UK (patF key x) = E
 have eN : patF key x = none -> E = .tu [.m (.nl 4),.m (.b false)]:=fun h=>by rw [<- hE,h]; rfl
 have eS : ∀ us,patF key x = some us -> E = .tu [.m (Jc us),.m (.b true)]:=fun us h=>by rw [<- hE,h]; rfl
 clear hE
 refine (?key : ∀ (i : Nat) (us : List (I × List Ce)) (last : Int) (q : List Ce) (o : V) (B : List (Nat × List V)) (H1 : Hp),i <= x.length -> getB B 1 = some [.m (.i .i64 key),.m fv] -> Wk key x i us last q -> XU (us.map Prod.fst) o H1 -> Run G c51_B0 (S51_0 (.fa 1 0) o (.m (.i .i64 last)) (.m fv) (.m (.i .i64 x.length)) (.m (.i .i64 (i : Int))) B H1) _) 0 [] (-1) [] _ _ _ (AaT _) rfl (Wk.begin (by omega)) (.inl ⟨rfl,rfl,rfl⟩)
 refine Bd (fun i : Nat=>x.length - i) fun i ih us last q o B H1 hi hB hW hO=>?_
 have hnf:=Rk hO
 have hlen:=hW.len
 unfold c51_B0
 cases hx : x[i]? with
 | none =>
  have : i = x.length:=by have:=AaM.1 hx; omega
  subst this
  have hvw:=Km hO
  rw [eS us hW.done]
  simp (maxSteps:=2000000) (disch:=omega) [Ad,Ab,Aa,hr,hvw,hnf,AC hnf]
 | some f =>
  have hF:=BG hok hx
  have hno:=fun h=>eN (hW.no hx (ZT (f:=f) (q:=q) h))
  have hfull:=Rs (key:=key) (k:=i) (last:=last) (q:=q) (f:=f)
  have hpart:=Rr (key:=key) (k:=i) (last:=last) (q:=q) (f:=f)
  have hprev:=fun hb he=>hW.prev (f:=f) hb he
  have hN:=hW.no hx
  have hnext:=fun u hn hu=>hW.next hx (u:=u) hn hu
  have hlt:=(Aj hx).1
  have hlt' : (i : Int) < x.length:=by omega
  have hn:=AF hx
  have hone:=UC hW
  have wi : wr .i64 ((i : Int) + 1) = ((i + 1 : Nat) : Int):=Aa (by omega) (by omega)
  obtain ⟨g,b,cv,p,lv,l⟩:=f
  obtain ⟨c1,c2,c3,c4,_⟩:=hF
  dsimp only at *
  have r1:=c1.rules
  have r2:=c2.rules
  simp only [show (AU l).length = l.length from by simp [AU]] at r2
  simp only [show (Al p).length = p.length from by simp [Al]] at r1
  have o1:=Ao c1
  have o2:=Ao c2
  by_cases q1 : g <= last
  ·rw [hno (by omega)]
   simp (maxSteps:=2000000) (disch:=omega) [Ad,Ab,Aa,Ae,Af,Ac,Ag,-Int.not_lt,-Int.not_le,-Nat.not_lt,-Nat.not_le,-List.map_take,hr,hlt,hlt',hn,hB,o1,o2,q1]
  by_cases q2 : 2147483647 < g
  ·rw [hno (by omega)]
   simp (maxSteps:=2000000) (disch:=omega) [Ad,Ab,Aa,Ae,Af,Ac,Ag,-Int.not_lt,-Int.not_le,-Nat.not_lt,-Nat.not_le,-List.map_take,hr,hlt,hlt',hn,hB,o1,o2,q1,q2]
  by_cases q3 : b = CL key i
  rotate_left
  ·rw [hno (fun h=>q3 h.2)]
   have q3' : b = !decide (Int.tmod (i : Int) key = 0):=by
    unfold CL at q3
    cases b <;> simp_all
   by_cases q4 : Int.tmod (i : Int) key = 0
   ·rw [AaP q4] at q3'
    subst q3'
    simp (maxSteps:=2000000) (disch:=omega) [Ad,Ab,Aa,Ae,Af,Ac,Ag,-Int.not_lt,-Int.not_le,-Nat.not_lt,-Nat.not_le,-List.map_take,hr,hlt,hlt',hn,hB,o1,o2,q1,q2,hkz,q4]
   ·rw [AaO q4] at q3'
    subst q3'
    simp (maxSteps:=2000000) (disch:=omega) [Ad,Ab,Aa,Ae,Af,Ac,Ag,-Int.not_lt,-Int.not_le,-Nat.not_lt,-Nat.not_le,-List.map_take,hr,hlt,hlt',hn,hB,o1,o2,q1,q2,hkz,q4]
  have hc : (last < g /\ g <= 2147483647) /\ b = CL key i:=⟨by omega,q3⟩
  cases b with
  | true =>
   have q4 : Int.tmod (i : Int) key = 0:=by
    unfold CL at q3
    exact of_decide_eq_true q3.symm
   have hfull:=hfull hc rfl
   have g1:=fun H=>IN c1 (by omega) H
   cases h1 : Bo p with
   | false =>
    rw [h1] at g1
    rw [eN (hN (by rw [hfull,AaL (by simp [h1])]))]
    simp (maxSteps:=2000000) (disch:=omega) [Ad,Ab,Aa,Ae,Af,Ac,Ag,-Int.not_lt,-Int.not_le,-Nat.not_lt,-Nat.not_le,-List.map_take,hr,hlt,hlt',hn,hB,o1,o2,q1,q2,hkz,q4,r1,r2,cl (g1 _),hnf]
   | true =>
   rw [h1] at g1
   by_cases h2 : 0 < l.length
   ·rw [eN (hN (by rw [hfull,AaL (by omega)]))]
    simp (maxSteps:=2000000) (disch:=omega) [Ad,Ab,Aa,Ae,Af,Ac,Ag,-Int.not_lt,-Int.not_le,-Nat.not_lt,-Nat.not_le,-List.map_take,hr,hlt,hlt',hn,hB,o1,o2,q1,q2,hkz,q4,r1,r2,cl (g1 _),hnf,h2,show (0 : Int) < l.length from by omega]
   have h2' : l.length = 0:=by omega
   have hb2:=fun c B H=>OF c1 c B H
   have hW2:=hnext (cv,p) (by rw [hfull,AaN ⟨h1,h2'⟩]) ⟨c1,c3⟩
   obtain ⟨ov,H2,ha,hn1,ho1⟩:=Fo hO (by rw [Abe]; omega) hone o1
   have e1 : us.map Prod.fst ++ [cv] = (us ++ [(cv,p)]).map Prod.fst:=by simp
   rw [e1] at ho1
   have k:=fun B'=>ih (i + 1) (by omega) (us ++ [(cv,p)]) g p ov B' H2 (by omega)
   simp (maxSteps:=2000000) (disch:=omega) [Ad,Ab,Aa,Ae,Af,Ac,Ag,-Int.not_lt,-Int.not_le,-Nat.not_lt,-Nat.not_le,-List.map_take,hr,hlt,hlt',hn,hB,o1,o2,q1,q2,hkz,q4,r1,r2,cl (g1 _),hnf,h2',hb2,ha,wi,AC hnf,AC hn1,-Int.natCast_add]
   exact k _ (by simp [hB]) hW2 ho1
  | false =>
   have q4 : ¬ Int.tmod (i : Int) key = 0:=by
    unfold CL at q3
    exact of_decide_eq_false q3.symm
   have hpart:=hpart hc rfl
   obtain ⟨j,hj,u,hu,huq,hql⟩:=hprev rfl q3
   have w1 : wr .i64 ((i : Int) - 1) = (j : Int):=by rw [Aa (by omega) (by omega)]; omega
   have g2:=fun H=>UQ huq c2 hql c4 H
   have hOL : Uh (us.map Prod.fst) o H1:=by
    rcases hO with ⟨h0,_⟩ | h
    ·have:=EK hu
     rw [h0] at this
     cases this
    ·exact h
   obtain ⟨pt,ra,rb⟩:=Ly hOL (EK hu) (by rw [Abe]; omega)
   by_cases h1 : (appF q l).2 = 0
   rotate_left
   ·rw [eN (hN (by rw [hpart,AaL (fun h=>h1 h.1)]))]
    unfold apV at g2
    simp (maxSteps:=2000000) (disch:=omega) [Ad,Ab,Aa,Ae,Af,Ac,Ag,-Int.not_lt,-Int.not_le,-Nat.not_lt,-Nat.not_le,-List.map_take,hr,hlt,hlt',hn,hB,o1,o2,q1,q2,hkz,q4,r1,r2,w1,ra,rb,cl (g2 _),hnf,h1]
   by_cases h2 : 0 < p.length
   ·rw [eN (hN (by rw [hpart,AaL (by omega)]))]
    unfold apV at g2
    simp (maxSteps:=2000000) (disch:=omega) [Ad,Ab,Aa,Ae,Af,Ac,Ag,-Int.not_lt,-Int.not_le,-Nat.not_lt,-Nat.not_le,-List.map_take,hr,hlt,hlt',hn,hB,o1,o2,q1,q2,hkz,q4,r1,r2,w1,ra,rb,cl (g2 _),hnf,h1,h2,show (0 : Int) < p.length from by omega]
   have h2' : p.length = 0:=by omega
   have hzl:=Ft q l
   have hz:=Eo (appF q l).1
   have hb2:=fun c B H=>OF hz c B H
   have hW2:=hnext (zP (appF q l).1,(appF q l).1) (by rw [hpart,AaN ⟨h1,h2'⟩]) ⟨hz,by dsimp only; omega⟩
   obtain ⟨ov,H2,ha,hn1,ho1⟩:=Fo hO (by rw [Abe]; omega) hone (Ao hz)
   have e1 : us.map Prod.fst ++ [zP (appF q l).1] = (us ++ [(zP (appF q l).1,(appF q l).1)]).map Prod.fst:=by simp
   rw [e1] at ho1
   have k:=fun B'=>ih (i + 1) (by omega) (us ++ [(zP (appF q l).1,(appF q l).1)]) g (appF q l).1 ov B' H2 (by omega)
   unfold apV at g2
   simp (maxSteps:=2000000) (disch:=omega) [Ad,Ab,Aa,Ae,Af,Ac,Ag,-Int.not_lt,-Int.not_le,-Nat.not_lt,-Nat.not_le,-List.map_take,hr,hlt,hlt',hn,hB,o1,o2,q1,q2,hkz,q4,r1,r2,w1,ra,rb,cl (g2 _),hnf,h1,h2',hb2,ha,wi,AC hnf,AC hn1,-Int.natCast_add]
   exact k _ (by simp [hB]) hW2 ho1
set_option maxHeartbeats 8000000 in
theorem Rd {fv : I} {x : List Frm} (hv : IsSl fv (BP x)) (hok : ∀ f,f ∈ x -> FrmOk f) (hxl : (x.length : Int) <= 9223372036854775806) (key : Int) (H : Hp) : Gives G 26 [.m (.ag [.i .i64 key,fv])] H (UK (patF key x)) H:=by
 have hr:=hv.rules
 rw [BD] at hr
 have ho:=Ao hv
 refine Ak rfl rfl rfl rfl rfl ?_
 have e0 : ¬ ((1 <= key /\ key <= 100) /\ x.length <= 1000) -> UK (patF key x) = .tu [.m (.nl 4),.m (.b false)]:=fun h=>by unfold patF; rw [AaL h]; rfl
 by_cases k1 : key < 1
 ·rw [e0 (by omega)]
  simp (maxSteps:=2000000) (disch:=omega) [Ad,Ab,Aa,hr,ho,k1]
 by_cases k2 : 100 < key
 ·rw [e0 (by omega)]
  simp (maxSteps:=2000000) (disch:=omega) [Ad,Ab,Aa,hr,ho,k1,k2]
 by_cases k3 : 1000 < x.length
 ·rw [e0 (by omega)]
  simp (maxSteps:=2000000) (disch:=omega) [Ad,Ab,Aa,hr,ho,k1,k2,k3,show (1000 : Int) < x.length from by omega]
 clear e0
 have k3' : ¬ (1000 : Int) < x.length:=by omega
 have hkz : ¬ key = 0:=by omega
 simp (maxSteps:=2000000) (disch:=omega) [Ad,Ab,Aa,hr,ho,k1,k2,k3,k3']
 generalize hE : UK (patF key x) = E
 have eN : patF key x = none -> E = .tu [.m (.nl 4),.m (.b false)]:=fun h=>by rw [<- hE,h]; rfl
 have eS : ∀ us,patF key x = some us -> E = .tu [.m (Jc us),.m (.b true)]:=fun us h=>by rw [<- hE,h]; rfl
 clear hE
 refine (?key : ∀ (i : Nat) (us : List (I × List Ce)) (last : Int) (q : List Ce) (o : V) (B : List (Nat × List V)) (H1 : Hp),i <= x.length -> getB B 1 = some [.m (.i .i64 key),.m fv] -> Wk key x i us last q -> XU (us.map Prod.fst) o H1 -> Run G c26_B0 (S26_0 (.fa 1 0) o (.m (.i .i64 (i : Int))) B H1) _) 0 [] (-1) [] _ _ _ (AaT _) rfl (Wk.begin (by omega)) (.inl ⟨rfl,rfl,rfl⟩)
 refine Bd (fun i : Nat=>x.length - i) fun i ih us last q o B H1 hi hB hW hO=>?_
 have hnf:=Rk hO
 have hlen:=hW.len
 unfold c26_B0
 cases hx : x[i]? with
 | none =>
  have : i = x.length:=by have:=AaM.1 hx; omega
  subst this
  have hvw:=Km hO
  rw [eS us hW.done]
  simp (maxSteps:=2000000) (disch:=omega) [Ad,Ab,Aa,hr,hB,ho,hvw,hnf,AC hnf]
 | some f =>
  have hF:=BG hok hx
  have hno:=fun h=>eN (hW.no hx (ZT (f:=f) (q:=q) h))
  have hfull:=Rs (key:=key) (k:=i) (last:=last) (q:=q) (f:=f)
  have hpart:=Rr (key:=key) (k:=i) (last:=last) (q:=q) (f:=f)
  have hprev:=fun hb he=>hW.prev (f:=f) hb he
  have hN:=hW.no hx
  have hnext:=fun u hn hu=>hW.next hx (u:=u) hn hu
  have hlt:=(Aj hx).1
  have hlt' : (i : Int) < x.length:=by omega
  have hn:=AF hx
  have hone:=UC hW
  have wi : wr .i64 ((i : Int) + 1) = ((i + 1 : Nat) : Int):=Aa (by omega) (by omega)
  obtain ⟨f',j0,hj0,hprv⟩ : ∃ (f' : Frm) (j : Nat),j < x.length /\ (0 < i -> x[j]? = some f' /\ f'.g = last /\ i = j + 1):=by
   cases i with
   | zero=>exact ⟨f,0,by omega,fun h=>by omega⟩
   | succ j =>
    obtain ⟨f',h1,h2⟩:=hW.l1 j rfl
    exact ⟨f',j,by omega,fun _=>⟨h1,h2,rfl⟩⟩
  have hj0' : (j0 : Int) < x.length:=by omega
  have hnj : 0 < i -> nth (BP x) j0 = some [.i .i64 last,.b f'.b,f'.cv,f'.hv]:=fun h=>by
   obtain ⟨h1,h2,_⟩:=hprv h
   rw [AF h1,h2]
  have hwj : 0 < i -> wr .i64 ((i : Int) - 1) = (j0 : Int):=fun h=>by
   have:=(hprv h).2.2
   rw [Aa (by omega) (by omega)]
   omega
  have hpo : 0 < i -> CS (.m f'.cv) = true /\ CS (.m f'.hv) = true:=fun h=>by
   have:=BG hok (hprv h).1
   exact ⟨Ao this.c,Ao this.h⟩
  have hl0:=hW.l0
  have hlm:=hW.lm
  clear hprv
  obtain ⟨g,b,cv,p,lv,l⟩:=f
  obtain ⟨c1,c2,c3,c4,_⟩:=hF
  dsimp only at *
  have r1:=c1.rules
  have r2:=c2.rules
  simp only [show (AU l).length = l.length from by simp [AU]] at r2
  simp only [show (Al p).length = p.length from by simp [Al]] at r1
  have o1:=Ao c1
  have o2:=Ao c2
  by_cases q0 : g < 0
  ·rw [hno (by omega)]
   simp (maxSteps:=2000000) (disch:=omega) [Ad,Ab,Aa,Ae,Af,Ac,Ag,-Int.not_lt,-Int.not_le,-Nat.not_lt,-Nat.not_le,-List.map_take,hr,hlt,hlt',hn,hB,o1,o2,q0,hkz]
  by_cases q2 : 2147483647 < g
  ·rw [hno (by omega)]
   simp (maxSteps:=2000000) (disch:=omega) [Ad,Ab,Aa,Ae,Af,Ac,Ag,-Int.not_lt,-Int.not_le,-Nat.not_lt,-Nat.not_le,-List.map_take,hr,hlt,hlt',hn,hB,o1,o2,q0,q2,hkz]
  by_cases q1 : 0 < i /\ g <= last
  ·obtain ⟨hi0,q1⟩:=q1
   rw [hno (by omega)]
   simp (maxSteps:=2000000) (disch:=omega) [Ad,Ab,Aa,Ae,Af,Ac,Ag,-Int.not_lt,-Int.not_le,-Nat.not_lt,-Nat.not_le,-List.map_take,hr,hlt,hlt',hn,hB,o1,o2,q0,q2,hkz,hi0,hnj hi0,hwj hi0,(hpo hi0).1,(hpo hi0).2,hj0,hj0',q1]
  have q1' : ¬ g <= last:=fun h=>by
   have h1 : ¬ 0 < i:=fun h'=>q1 ⟨h',h⟩
   have:=hl0 (by omega)
   omega
  clear q1
  by_cases hi0 : 0 < i
  all_goals
   by_cases q3 : b = CL key i
   rotate_left
   ·rw [hno (fun h=>q3 h.2)]
    have q3' : b = !decide (Int.tmod (i : Int) key = 0):=by
     unfold CL at q3
     cases b <;> simp_all
    by_cases q4 : Int.tmod (i : Int) key = 0
    ·rw [AaP q4] at q3'
     subst q3'
     simp (maxSteps:=2000000) (disch:=omega) [Ad,Ab,Aa,Ae,Af,Ac,Ag,-Int.not_lt,-Int.not_le,-Nat.not_lt,-Nat.not_le,-List.map_take,hr,hlt,hlt',hn,hB,o1,o2,q0,q2,hkz,hi0,hnj,hwj,hpo,hj0,hj0',q1',q4]
    ·rw [AaO q4] at q3'
     subst q3'
     simp (maxSteps:=2000000) (disch:=omega) [Ad,Ab,Aa,Ae,Af,Ac,Ag,-Int.not_lt,-Int.not_le,-Nat.not_lt,-Nat.not_le,-List.map_take,hr,hlt,hlt',hn,hB,o1,o2,q0,q2,hkz,hi0,hnj,hwj,hpo,hj0,hj0',q1',q4]
   have hc : (last < g /\ g <= 2147483647) /\ b = CL key i:=⟨by omega,q3⟩
   cases b with
   | true =>
    have q4 : Int.tmod (i : Int) key = 0:=by
     unfold CL at q3
     exact of_decide_eq_true q3.symm
    have hfull:=hfull hc rfl
    have g1:=fun H=>Hl c1 (by omega) H
    cases h1 : Bo p with
    | false =>
     rw [h1] at g1
     rw [eN (hN (by rw [hfull,AaL (by simp [h1])]))]
     simp (maxSteps:=2000000) (disch:=omega) [Ad,Ab,Aa,Ae,Af,Ac,Ag,-Int.not_lt,-Int.not_le,-Nat.not_lt,-Nat.not_le,-List.map_take,hr,hlt,hlt',hn,hB,o1,o2,q0,q2,hkz,hi0,hnj,hwj,hpo,hj0,hj0',q1',q4,r1,r2,cl (g1 _),hnf]
    | true =>
    rw [h1] at g1
    by_cases h2 : 0 < l.length
    ·rw [eN (hN (by rw [hfull,AaL (by omega)]))]
     simp (maxSteps:=2000000) (disch:=omega) [Ad,Ab,Aa,Ae,Af,Ac,Ag,-Int.not_lt,-Int.not_le,-Nat.not_lt,-Nat.not_le,-List.map_take,hr,hlt,hlt',hn,hB,o1,o2,q0,q2,hkz,hi0,hnj,hwj,hpo,hj0,hj0',q1',q4,r1,r2,cl (g1 _),hnf,h2,show (0 : Int) < l.length from by omega]
    have h2' : l.length = 0:=by omega
    have hb2:=fun c B H=>OF c1 c B H
    have hW2:=hnext (cv,p) (by rw [hfull,AaN ⟨h1,h2'⟩]) ⟨c1,c3⟩
    obtain ⟨ov,H2,ha,hn1,ho1⟩:=Fo hO (by rw [Abe]; omega) hone o1
    have e1 : us.map Prod.fst ++ [cv] = (us ++ [(cv,p)]).map Prod.fst:=by simp
    rw [e1] at ho1
    have k:=fun B'=>ih (i + 1) (by omega) (us ++ [(cv,p)]) g p ov B' H2 (by omega)
    simp (maxSteps:=2000000) (disch:=omega) [Ad,Ab,Aa,Ae,Af,Ac,Ag,-Int.not_lt,-Int.not_le,-Nat.not_lt,-Nat.not_le,-List.map_take,hr,hlt,hlt',hn,hB,o1,o2,q0,q2,hkz,hi0,hnj,hwj,hpo,hj0,hj0',q1',q4,r1,r2,cl (g1 _),hnf,h2',hb2,ha,wi,AC hnf,AC hn1,-Int.natCast_add]
    exact k _ (by simp [hB]) hW2 ho1
   | false =>
    first
     | (exfalso; obtain ⟨j,hj,_⟩:=hprev rfl q3; omega)
     |
      have q4 : ¬ Int.tmod (i : Int) key = 0:=by
       unfold CL at q3
       exact of_decide_eq_false q3.symm
      have hpart:=hpart hc rfl
      obtain ⟨j,hj,u,hu,huq,hql⟩:=hprev rfl q3
      have w1 : wr .i64 ((i : Int) - 1) = (j : Int):=by rw [Aa (by omega) (by omega)]; omega
      have hjj : j0 = j:=by have:=hwj hi0; omega
      subst hjj
      have g2:=fun H=>ND huq c2 hql c4 H
      have hOL : Uh (us.map Prod.fst) o H1:=by
       rcases hO with ⟨h0,_⟩ | h
       ·have:=EK hu
        rw [h0] at this
        cases this
       ·exact h
      obtain ⟨pt,ra,rb⟩:=Ly hOL (EK hu) (by rw [Abe]; omega)
      by_cases h1 : (appF q l).2 = 0
      rotate_left
      ·rw [eN (hN (by rw [hpart,AaL (fun h=>h1 h.1)]))]
       unfold apW at g2
       simp (maxSteps:=2000000) (disch:=omega) [Ad,Ab,Aa,Ae,Af,Ac,Ag,-Int.not_lt,-Int.not_le,-Nat.not_lt,-Nat.not_le,-List.map_take,hr,hlt,hlt',hn,hB,o1,o2,q0,q2,hkz,hi0,hnj,hwj,hpo,hj0,hj0',q1',q4,r1,r2,w1,ra,rb,cl (g2 _),hnf,h1]
      by_cases h2 : 0 < p.length
      ·rw [eN (hN (by rw [hpart,AaL (by omega)]))]
       unfold apW at g2
       simp (maxSteps:=2000000) (disch:=omega) [Ad,Ab,Aa,Ae,Af,Ac,Ag,-Int.not_lt,-Int.not_le,-Nat.not_lt,-Nat.not_le,-List.map_take,hr,hlt,hlt',hn,hB,o1,o2,q0,q2,hkz,hi0,hnj,hwj,hpo,hj0,hj0',q1',q4,r1,r2,w1,ra,rb,cl (g2 _),hnf,h1,h2,show (0 : Int) < p.length from by omega]
      have h2' : p.length = 0:=by omega
      have hzl:=Ft q l
      have hz:=Eo (appF q l).1
      have hb2:=fun c B H=>OF hz c B H
      have hW2:=hnext (zP (appF q l).1,(appF q l).1) (by rw [hpart,AaN ⟨h1,h2'⟩]) ⟨hz,by dsimp only; omega⟩
      obtain ⟨ov,H2,ha,hn1,ho1⟩:=Fo hO (by rw [Abe]; omega) hone (Ao hz)
      have e1 : us.map Prod.fst ++ [zP (appF q l).1] = (us ++ [(zP (appF q l).1,(appF q l).1)]).map Prod.fst:=by simp
      rw [e1] at ho1
      have k:=fun B'=>ih (i + 1) (by omega) (us ++ [(zP (appF q l).1,(appF q l).1)]) g (appF q l).1 ov B' H2 (by omega)
      unfold apW at g2
      simp (maxSteps:=2000000) (disch:=omega) [Ad,Ab,Aa,Ae,Af,Ac,Ag,-Int.not_lt,-Int.not_le,-Nat.not_lt,-Nat.not_le,-List.map_take,hr,hlt,hlt',hn,hB,o1,o2,q0,q2,hkz,hi0,hnj,hwj,hpo,hj0,hj0',q1',q4,r1,r2,w1,ra,rb,cl (g2 _),hnf,h1,h2',hb2,ha,wi,AC hnf,AC hn1,-Int.natCast_add]
      exact k _ (by simp [hB]) hW2 ho1
theorem ZA {v : I} {p : List Ce} (hv : IsSl v (Al p)) (hl : (p.length : Int) <= 9223372036854775806) (H : Hp) : Gives G 27 [.m v] H (.m (.i .i64 (EI p))) H:=by
 have hr:=hv.rules
 simp only [show (Al p).length = p.length from by simp [Al]] at hr
 refine Ak rfl rfl rfl rfl rfl ?_
 simp (maxSteps:=2000000) (disch:=omega) [Ad,Ab,Aa,hr]
 refine (?key : ∀ (i : Nat) (m : Int) (B : List (Nat × List V)),i <= p.length -> m = EI (p.take i) -> Run G c27_B0 (S27_0 (.m v) (.m (.i .i64 m)) (.m (.i .i64 (i : Int))) B []) _) 0 0 _ (AaT _) rfl
 refine Bd (fun i : Nat=>p.length - i) fun i ih m B hi hm=>?_
 unfold c27_B0
 cases hx : p[i]? with
 | none =>
  have : i = p.length:=by have:=AaM.1 hx; omega
  subst this
  rw [Aby] at hm
  simp (maxSteps:=2000000) (disch:=omega) [Ad,Ab,Aa,hr,hm]
 | some c =>
  have hlt:=(Aj hx).1
  have hlt' : (i : Int) < p.length:=by omega
  have hn:=Aq hx
  have wi : wr .i64 ((i : Int) + 1) = ((i + 1 : Nat) : Int):=Aa (by omega) (by omega)
  have htk : p.take (i + 1) = p.take i ++ [c]:=Au hx
  have k:=ih (i + 1) (by omega) (max m c.s) B (by omega) (by rw [htk,Hg,hm])
  simp (maxSteps:=2000000) (disch:=omega) [Ad,Ab,Aa,hr,hlt,hlt',hn,wi,-Int.natCast_add]
  exact k
theorem QT {t : TreeC} (hS : Ih t) (p : List Ce) (n : Int) : (rnE t p n).1.length <= 5000:=by
 unfold rnE
 split
 ·rename_i hc
  split
  ·by_cases he : (EJ t n.toNat p).2 = 0
   ·exact (TC (FR (UH hS n.toNat p hc he)).2.1).2.2
   ·rw [UI n.toNat p he]; simp
  ·simp
 ·simp
theorem Lw (us : List (I × List Ce)) : IsSl (Jc us) (CX (us.map Prod.fst)):=by
 unfold Jc
 split
 ·rename_i h
  subst h
  exact AR
 ·exact BF _
theorem Aao {t : TreeC} {h n : I} {u : I} {p : List Ce} (hu : IsSl u (Al p)) (hl : (p.length : Int) <= 9223372036854775806) (H : Hp) : Gives G 53 [.m u,.m (.pt [.i .i64 t.states,h,n])] H (.m (.b (decide (t.states <= EI p)))) H:=by
 have g1:=fun H=>Zz hu hl H
 refine Ak rfl rfl rfl rfl rfl ?_
 by_cases h1 : t.states <= EI p
 ·simp (maxSteps:=2000000) (disch:=omega) [Ad,Ab,Aa,cl (g1 _),h1]
 ·simp (maxSteps:=2000000) (disch:=omega) [Ad,Ab,Aa,cl (g1 _),h1]
def fiU (t : TreeC) : Nat -> List (I × List Ce) -> Int
 | _,[]=>-1
 | i,u :: r=>if t.states <= EI u.2 then (i : Int) else fiU t (i + 1) r
theorem RM (t : TreeC) : ∀ (r : List (I × List Ce)) (i : Nat),decide (0 <= fiU t i r) = r.any fun u=>decide (t.states <= EI u.2)
 | [],i=>rfl
 | e :: r,i=>by
  have ih:=RM t r (i + 1)
  unfold fiU
  rw [List.any_cons]
  by_cases h : t.states <= EI e.2
  ·rw [AaN h,AaP h,AaP (by omega)]
   rfl
  ·rw [AaL h,AaO h,ih]
   rfl
set_option maxHeartbeats 1000000 in
theorem WY {t : TreeC} {h n : I} {us : List (I × List Ce)} (hle : us.length <= 1000) (hv : ∀ u,u ∈ us -> IsSl u.1 (Al u.2) /\ (u.2.length : Int) <= 9223372036854775806) (HH : Hp) :
  Gives G 91 [.m (Jc us),.m (.fn 53 [.pt [.i .i64 t.states,h,n]])] HH (.m (.i .i64 (fiU t 0 us))) HH:=by
 have rn:=(Lw us).rules
 rw [Do,Abe] at rn
 refine Ak rfl rfl rfl rfl rfl ?_
 generalize hE : fiU t 0 us = E
 generalize Jc us = pv at rn
 simp (maxSteps:=2000000) (disch:=omega) [Ad,Ab,Aa,rn]
 refine (?key : ∀ (i : Nat) (B : List (Nat × List V)) (H : Hp),i <= us.length -> fiU t i (us.drop i) = E -> Run G c91_B0 (S91_0 (.m pv) (.m (.fn 53 [.pt [.i .i64 t.states,h,n]])) (.m (.i .i64 us.length)) (.m (.i .i64 (i : Int))) B H) _) 0 _ _ (AaT _) hE
 refine Bd (fun i : Nat=>us.length - i) fun i ih B H hi hI=>?_
 unfold c91_B0
 cases hx : us[i]? with
 | none =>
  have : i = us.length:=by have:=AaM.1 hx; omega
  subst this
  rw [Abj] at hI
  have hI : -1 = E:=hI
  subst hI
  simp (maxSteps:=2000000) (disch:=omega) [Ad,Ab,Aa,rn]
 | some e =>
  obtain ⟨u,p⟩:=e
  obtain ⟨hu,hul⟩:=hv _ (AaS hx)
  have hz1:=Ao hu
  have hlt:=(Aj hx).1
  have hlt2 : (i : Int) < us.length:=by omega
  have hnx : nth (CX (us.map Prod.fst)) i = some [u]:=DY (EK hx)
  have wi : wr .i64 ((i : Int) + 1) = ((i + 1 : Nat) : Int):=Aa (by omega) (by omega)
  rw [(Aj hx).2] at hI
  have hI : (if t.states <= EI p then (i : Int) else fiU t (i + 1) (us.drop (i + 1))) = E:=hI
  have hg:=fun H=>Aao (t:=t) (h:=h) (n:=n) hu hul H
  by_cases hp : t.states <= EI p
  ·rw [AaP hp] at hg
   rw [AaN hp] at hI
   subst hI
   simp (maxSteps:=2000000) (disch:=omega) [Ad,Ab,Aa,rn,hlt,hlt2,hnx,hz1,Cc,cl (hg _)]
  ·rw [AaO hp] at hg
   rw [AaL hp] at hI
   have kk:=fun B H=>ih (i + 1) (by omega) B H (by omega) hI
   simp (maxSteps:=2000000) (disch:=omega) [Ad,Ab,Aa,rn,hlt,hlt2,hnx,hz1,Cc,cl (hg _),wi,-Int.natCast_add]
   exact kk _ _
theorem OB {t : TreeC} {h n : I} {us : List (I × List Ce)} (hle : us.length <= 1000) (hv : ∀ u,u ∈ us -> IsSl u.1 (Al u.2) /\ (u.2.length : Int) <= 9223372036854775806) (H : Hp) :
  Gives G 52 [.m (Jc us),.m (.fn 53 [.pt [.i .i64 t.states,h,n]])] H (.m (.b (us.any fun u=>decide (t.states <= EI u.2)))) H:=by
 refine Ak rfl rfl rfl rfl rfl ?_
 have he:=RM t us 0
 simp (maxSteps:=2000000) (disch:=omega) [Ad,Ab,Aa,cl (WY hle hv _),he]
def Xb (e : Int × Int) : V:=.tu [.m (.i .i64 e.1),.m (.i .i64 e.2)]
theorem Ki {key : Int} : ∀ {x : List Frm} {k : Nat} {last : Int} {q : List Ce} {us : List (I × List Ce)},(∀ f,f ∈ x -> FrmOk f) -> Sc key k last q x = some us -> ∀ u,u ∈ us -> IsSl u.1 (Al u.2) /\ u.2.length <= 5000
 | [],k,last,q,us,_,h=>by
  cases h
  intro u hu
  cases hu
 | f :: r,k,last,q,us,hok,h=>by
  unfold Sc at h
  simp only [AaF,Abh] at h
  obtain ⟨u,h1,w,h2,rfl⟩:=h
  obtain ⟨a1,a2,a3,a4⟩:=Hq h1
  have hf:=hok f (by simp)
  intro v hv
  rcases Abd.1 hv with rfl | hv
  ·rcases a4 with ⟨hb,rfl⟩ | ⟨hb,h0,rfl⟩
   ·refine ⟨hf.c,?_⟩
    unfold Hw at a3
    rw [AaN hb,AaJ] at a3
    exact (Bh a3.1).2.2
   ·exact ⟨Eo _,Ft q f.l⟩
  ·exact Ki (fun g hg=>hok g (by simp [hg])) h2 v hv
theorem Rf {key : Int} {x : List Frm} {us : List (I × List Ce)} (hok : ∀ f,f ∈ x -> FrmOk f) (h : patF key x = some us) : us.length = x.length /\ x.length <= 1000 /\ (∀ f,f ∈ x -> 0 <= f.g /\ f.g <= 2147483647) /\ ∀ u,u ∈ us -> IsSl u.1 (Al u.2) /\ u.2.length <= 5000:=by
 unfold patF at h
 split at h
 rotate_left
 ·cases h
 rename_i hk
 obtain ⟨a1,_,_,_,a5⟩:=Lv h
 exact ⟨a5,hk.2,IS (by omega) a1,Ki hok h⟩
theorem Aan {t : TreeC} {key : Int} {x : List Frm} (hq : AS t = false) : folF t key x = (0,11):=by
 unfold folF
 rw [AaL (by simp [hq])]
theorem Aal {t : TreeC} {key : Int} {x : List Frm} (hq : AS t = true) (h : patF key x = none) : folF t key x = (0,2):=by
 unfold folF
 rw [AaN hq,h]
theorem Aak {t : TreeC} {key : Int} {x : List Frm} {us : List (I × List Ce)} (hq : AS t = true) (h : patF key x = some us) (ha : (us.any fun u=>decide (t.states <= EI u.2)) = true) : folF t key x = (0,10):=by
 unfold folF
 rw [AaN hq,h]
 show (if _ then _ else _) = _
 rw [AaN ha]
theorem Aam {t : TreeC} {key : Int} {x : List Frm} {us : List (I × List Ce)} (hq : AS t = true) (h : patF key x = some us) (ha : (us.any fun u=>decide (t.states <= EI u.2)) = false) : folF t key x = XR t ((x.map Frm.g).zip (us.map Prod.snd)):=by
 unfold folF
 rw [AaN hq,h]
 show (if _ then _ else _) = _
 rw [AaL (by simp [ha])]
theorem MS {x : List Frm} {us : List (I × List Ce)} {i : Nat} {f : Frm} {u : I} {p : List Ce} (h1 : x[i]? = some f) (h2 : us[i]? = some (u,p)) : ((x.map Frm.g).zip (us.map Prod.snd))[i]? = some (f.g,p):=by
 rw [List.getElem?_zip_eq_some]
 exact ⟨by rw [Abb,h1]; rfl,by rw [Abb,h2]; rfl⟩
theorem Ky {t : TreeC} {ws : List (Int × List Ce)} {k : Nat} {a b : Int × List Ce} (hb : ws[k]? = some b) : OV t k a (ws.drop k) = if 10000 < b.1 - a.1 then (0,14) else if (rnE t a.2 (b.1 - a.1)).2 = 0 then if Ge (rnE t a.2 (b.1 - a.1)).1 b.2 = 0 then OV t (k + 1) b (ws.drop (k + 1)) else ((k : Int),0) else (0,(rnE t a.2 (b.1 - a.1)).2):=by
 rw [(Aj hb).2]
 rfl
set_option maxHeartbeats 8000000 in
theorem RI {t : TreeC} {h n fv : I} {es : List (List I)} {x : List Frm} (hT : TreeV t h n es) (hv : IsSl fv (BP x)) (hok : ∀ f,f ∈ x -> FrmOk f) (hxl : (x.length : Int) <= 9223372036854775806) (key : Int) (H : Hp) : Gives G 20 [.m (.ag [.i .i64 t.states,h,n]),.m (.ag [.i .i64 key,fv])] H (Xb (folF t key x)) H:=by
 have hS:=IL hT
 have gq:=fun H=>Lu hT H
 have gp:=fun H=>ZR hv hok hxl key H
 have r0 : ∀ a b c : V,DF 3 [[a,b,c]] 0 0 1 = some [a]:=fun _ _ _=>rfl
 have r1 : ∀ a b c : V,DF 3 [[a,b,c]] 0 1 1 = some [b]:=fun _ _ _=>rfl
 have r2 : ∀ a b c : V,DF 3 [[a,b,c]] 0 2 1 = some [c]:=fun _ _ _=>rfl
 have r3 : ∀ a b c : V,DF 3 [[a,b,c]] 0 0 3 = some [a,b,c]:=fun _ _ _=>rfl
 have vof : ∀ a : V,CD false [a] = some a:=fun _=>rfl
 have ho:=Ao hv
 have t1:=Ao hT.hd
 have t2:=Ao hT.nd
 unfold Xb
 refine Ak rfl rfl rfl rfl rfl ?_
 cases hq : AS t with
 | false =>
  rw [hq] at gq
  rw [Aan hq]
  simp (maxSteps:=2000000) (disch:=omega) [Ad,Ab,Aa,t1,t2,r0,r1,r2,r3,vof,Cc,cl (gq _),ho]
 | true =>
 rw [hq] at gq
 cases hp : patF key x with
 | none =>
  rw [hp] at gp
  unfold UK at gp
  rw [Aal hq hp]
  simp (maxSteps:=2000000) (disch:=omega) [Ad,Ab,Aa,t1,t2,r0,r1,r2,r3,vof,Cc,cl (gq _),cl (gp _),ho]
 | some us =>
 rw [hp] at gp
 have gp : ∀ H,Gives G 51 [.m (.ag [.i .i64 key,fv])] H (.tu [.m (Jc us),.m (.b true)]) H:=gp
 obtain ⟨p1,p2,p3,p4⟩:=Rf hok hp
 have hI:=Lw us
 have hw : Ai (view 20 [Row.cs 25 3 [[.m (.i .i64 t.states),.m h,.m n]] 0 false]) [.m (Jc us),.fn 53 [.pt 0 1 0 0]] = some [Jc us,.fn 53 [.pt [.i .i64 t.states,h,n]]]:=rfl
 have g1:=AX (vs:=[.m (Jc us),.fn 53 [.pt 0 1 0 0]]) (H:=[Row.cs 25 3 [[.m (.i .i64 t.states),.m h,.m n]] 0 false]) rfl rfl (OB (t:=t) (h:=h) (n:=n) (by omega) (fun u hu=>⟨(p4 u hu).1,by have:=(p4 u hu).2; omega⟩) []) hw (.inr ⟨by simp [DG,Fy],rfl⟩)
 have rI:=hI.rules
 rw [Do,Abe] at rI
 have oI:=Ao hI
 have hnth : ∀ i u p,us[i]? = some (u,p) -> nth (CX (us.map Prod.fst)) i = some [u]:=fun i u p h=>DY (EK h)
 generalize Jc us = pv at *
 cases ha : us.any fun u=>decide (t.states <= EI u.2) with
 | true =>
  rw [ha] at g1
  rw [Aak hq hp ha]
  simp (maxSteps:=2000000) (disch:=omega) [Ad,Ab,Aa,t1,t2,r0,r1,r2,r3,vof,Cc,cl (gq _),cl (gp _),cl g1,ho,oI]
 | false =>
 rw [ha] at g1
 rw [Aam hq hp ha]
 have hrx:=hv.rules
 rw [BD] at hrx
 simp (maxSteps:=2000000) (disch:=omega) [Ad,Ab,Aa,t1,t2,r0,r1,r2,r3,vof,Cc,cl (gq _),cl (gp _),cl g1,ho,oI]
 generalize hws : (x.map Frm.g).zip (us.map Prod.snd) = ws
 have hwl : ws.length = x.length:=by rw [<- hws,List.length_zip,Abe,Abe]; omega
 cases hw0 : ws[0]? with
 | none =>
  have h0 : x.length = 0:=by have:=AaM.1 hw0; omega
  have h1 : us.length = 0:=by omega
  have hws0 : ws = []:=Abf (by omega)
  subst hws0
  unfold c20_L0 c20_B0
  simp (maxSteps:=2000000) (disch:=omega) [Ad,Ab,Aa,rI,h1,XR]
 | some a0 =>
 have hM : XR t ws = OV t 1 a0 (ws.drop 1):=by
  cases ws with
  | nil=>cases hw0
  | cons b r=>cases hw0; rfl
 rw [hM]
 generalize hE : OV t 1 a0 (ws.drop 1) = E
 clear hM
 refine (?key : ∀ (i k : Nat) (a : Int × List Ce) (B : List (Nat × List V)),k = i + 1 -> ws[i]? = some a -> OV t k a (ws.drop k) = E -> getB B 3 = some [.m (.i .i64 key),.m fv] -> Run G c20_B0 (S20_0 (.pt 0 1 0 0) (.fa 3 0) (.m pv) (.m (.i .i64 (k : Int))) B [Row.cs 25 3 [[.m (.i .i64 t.states),.m h,.m n]] 0 false]) _) 0 1 a0 _ rfl hw0 hE rfl
 clear hw0 hE a0
 refine Bd (fun i : Nat=>ws.length - i) fun i ih k a B hk hi hE hB=>?_
 have hil:=(AaI.1 hi).1
 unfold c20_B0
 cases hb : ws[k]? with
 | none =>
  have hkl : k = us.length:=by have:=AaM.1 hb; omega
  rw [List.drop_eq_nil_of_le (by omega)] at hE
  subst hE
  clear ih
  subst hkl
  simp (maxSteps:=2000000) (disch:=omega) [Ad,Ab,Aa,rI,OV]
 | some b =>
  have hkl:=(AaI.1 hb).1
  obtain ⟨fa,hfa⟩ : ∃ f,x[i]? = some f:=⟨_,AaK (by omega)⟩
  obtain ⟨fb,hfb⟩ : ∃ f,x[k]? = some f:=⟨_,AaK (by omega)⟩
  obtain ⟨⟨ua,pa⟩,hua⟩ : ∃ u,us[i]? = some u:=⟨_,AaK (by omega)⟩
  obtain ⟨⟨ub,pb⟩,hub⟩ : ∃ u,us[k]? = some u:=⟨_,AaK (by omega)⟩
  have ea:=MS hfa hua
  have eb:=MS hfb hub
  rw [hws] at ea eb
  rw [hi] at ea
  rw [hb] at eb
  cases ea
  cases eb
  rw [Ky hb] at hE
  dsimp only at hE
  have na:=AF hfa
  have nb:=AF hfb
  have ma:=hnth i ua pa hua
  have mb:=hnth k ub pb hub
  obtain ⟨va,vla⟩:=p4 _ (AaS hua)
  obtain ⟨vb,vlb⟩:=p4 _ (AaS hub)
  dsimp only at va vla vb vlb
  have ga:=p3 fa (AaS hfa)
  have gb:=p3 fb (AaS hfb)
  have hFa:=BG hok hfa
  have hFb:=BG hok hfb
  have oa1:=Ao hFa.c
  have oa2:=Ao hFa.h
  have ob1:=Ao hFb.c
  have ob2:=Ao hFb.h
  have ov1:=Ao va
  have ov2:=Ao vb
  have l1 : i < x.length:=by omega
  have l1' : (i : Int) < x.length:=by omega
  have l2 : k < x.length:=by omega
  have l2' : (k : Int) < x.length:=by omega
  have l3 : i < us.length:=by omega
  have l3' : (i : Int) < us.length:=by omega
  have l4 : k < us.length:=by omega
  have l4' : (k : Int) < us.length:=by omega
  have w1 : wr .i64 ((k : Int) - 1) = (i : Int):=by rw [Aa (by omega) (by omega)]; omega
  have wd : wr .i64 (fb.g - fa.g) = fb.g - fa.g:=Aa (by omega) (by omega)
  have wi : wr .i64 ((k : Int) + 1) = ((k + 1 : Nat) : Int):=Aa (by omega) (by omega)
  by_cases q1 : 10000 < fb.g - fa.g
  ·rw [AaN q1] at hE
   subst hE
   simp (maxSteps:=2000000) (disch:=omega) [Ad,Ab,Aa,rI,hrx,hB,na,nb,oa1,oa2,ob1,ob2,l1,l1',l2,l2',l3,l3',l4,l4',w1,wd,q1]
  rw [AaL q1] at hE
  obtain ⟨xv,hxv,gx⟩:=run_s hT va (by omega) (fb.g - fa.g)
  have hxl:=QT hS pa (fb.g - fa.g)
  generalize rnE t pa (fb.g - fa.g) = e at hE hxv gx hxl
  obtain ⟨e1,e2⟩:=e
  dsimp only at hE hxv gx hxl
  by_cases q2 : e2 = 0
  rotate_left
  ·rw [AaL q2] at hE
   subst hE
   simp (maxSteps:=2000000) (disch:=omega) [Ad,Ab,Aa,rI,hrx,hB,na,nb,oa1,oa2,ob1,ob2,l1,l1',l2,l2',l3,l3',l4,l4',w1,wd,q1,r0,r1,r2,r3,vof,Cc,ma,ov1,cl (gx _),q2,t1,t2]
  rw [AaN q2] at hE
  have gs:=fun H=>ZF hxv vb (by omega) (by omega) H
  by_cases q3 : Ge e1 pb = 0
  ·rw [AaN q3] at hE
   rw [AaP q3] at gs
   have kk:=fun B'=>ih k (by omega) (k + 1) (fb.g,pb) B' rfl hb hE
   simp (maxSteps:=2000000) (disch:=omega) [Ad,Ab,Aa,rI,hrx,hB,na,nb,oa1,oa2,ob1,ob2,l1,l1',l2,l2',l3,l3',l4,l4',w1,wd,q1,r0,r1,r2,r3,vof,Cc,ma,mb,ov1,ov2,cl (gx _),q2,cl (gs _),t1,t2,wi,-Int.natCast_add]
   exact kk _ (by simp [hB])
  ·rw [AaL q3] at hE
   rw [AaO q3] at gs
   subst hE
   simp (maxSteps:=2000000) (disch:=omega) [Ad,Ab,Aa,rI,hrx,hB,na,nb,oa1,oa2,ob1,ob2,l1,l1',l2,l2',l3,l3',l4,l4',w1,wd,q1,r0,r1,r2,r3,vof,Cc,ma,mb,ov1,ov2,cl (gx _),q2,cl (gs _),t1,t2]
set_option maxHeartbeats 8000000 in
theorem Ie {t : TreeC} {h n fv : I} {es : List (List I)} {x : List Frm} (hT : TreeV t h n es) (hv : IsSl fv (BP x)) (hok : ∀ f,f ∈ x -> FrmOk f) (hxl : (x.length : Int) <= 9223372036854775806) (key : Int) (H : Hp) : Gives G 11 [.m (.ag [.i .i64 t.states,h,n]),.m (.ag [.i .i64 key,fv])] H (Xb (folF t key x)) H:=by
 have hS:=IL hT
 have gq:=fun H=>IP hT H
 have gp:=fun H=>Rd hv hok hxl key H
 have r0 : ∀ a b c : V,DF 3 [[a,b,c]] 0 0 1 = some [a]:=fun _ _ _=>rfl
 have r1 : ∀ a b c : V,DF 3 [[a,b,c]] 0 1 1 = some [b]:=fun _ _ _=>rfl
 have r2 : ∀ a b c : V,DF 3 [[a,b,c]] 0 2 1 = some [c]:=fun _ _ _=>rfl
 have r3 : ∀ a b c : V,DF 3 [[a,b,c]] 0 0 3 = some [a,b,c]:=fun _ _ _=>rfl
 have vof : ∀ a : V,CD false [a] = some a:=fun _=>rfl
 have ho:=Ao hv
 have t1:=Ao hT.hd
 have t2:=Ao hT.nd
 unfold Xb
 refine Ak rfl rfl rfl rfl rfl ?_
 cases hq : AS t with
 | false =>
  rw [hq] at gq
  rw [Aan hq]
  simp (maxSteps:=2000000) (disch:=omega) [Ad,Ab,Aa,t1,t2,r0,r1,r2,r3,vof,Cc,cl (gq _),ho]
 | true =>
 rw [hq] at gq
 cases hp : patF key x with
 | none =>
  rw [hp] at gp
  unfold UK at gp
  rw [Aal hq hp]
  simp (maxSteps:=2000000) (disch:=omega) [Ad,Ab,Aa,t1,t2,r0,r1,r2,r3,vof,Cc,cl (gq _),cl (gp _),ho]
 | some us =>
 rw [hp] at gp
 have gp : ∀ H,Gives G 26 [.m (.ag [.i .i64 key,fv])] H (.tu [.m (Jc us),.m (.b true)]) H:=gp
 obtain ⟨p1,p2,p3,p4⟩:=Rf hok hp
 have hI:=Lw us
 have rI:=hI.rules
 rw [Do,Abe] at rI
 have oI:=Ao hI
 have hnth : ∀ i u p,us[i]? = some (u,p) -> nth (CX (us.map Prod.fst)) i = some [u]:=fun i u p h=>DY (EK h)
 generalize Jc us = pv at *
 have hrx:=hv.rules
 rw [BD] at hrx
 simp (maxSteps:=2000000) (disch:=omega) [Ad,Ab,Aa,t1,t2,r0,r1,r2,r3,vof,Cc,cl (gq _),cl (gp _),ho,oI]
 refine (?kt : ∀ (i : Nat) (B : List (Nat × List V)),i <= us.length -> (us.any fun u=>decide (t.states <= EI u.2)) = ((us.drop i).any fun u=>decide (t.states <= EI u.2)) -> getB B 2 = some [.m (.i .i64 t.states),.m h,.m n] -> getB B 3 = some [.m (.i .i64 key),.m fv] -> Run G c11_B0 (S11_0 (.fa 2 0) (.fa 3 0) (.m pv) (.m (.i .i64 (i : Int))) B []) _) 0 _ (AaT _) rfl rfl rfl
 refine Bd (fun i : Nat=>us.length - i) fun i ih B hi hany hB2 hB=>?_
 unfold c11_B0
 cases hx : us[i]? with
 | some u =>
  obtain ⟨u,p⟩:=u
  have hlt:=(Aj hx).1
  have hlt' : (i : Int) < us.length:=by omega
  obtain ⟨hu,hul⟩:=p4 _ (AaS hx)
  dsimp only at hu hul
  have hm:=hnth i u p hx
  have ou:=Ao hu
  have gt:=fun H=>ZA hu (by omega) H
  have wi : wr .i64 ((i : Int) + 1) = ((i + 1 : Nat) : Int):=Aa (by omega) (by omega)
  rw [(Aj hx).2,List.any_cons] at hany
  dsimp only at hany
  by_cases hq2 : t.states <= EI p
  ·rw [AaP hq2,Bool.true_or] at hany
   rw [Aak hq hp hany]
   simp (maxSteps:=2000000) (disch:=omega) [Ad,Ab,Aa,rI,hlt,hlt',hm,ou,cl (gt _),hB2,hq2]
  ·rw [AaO hq2,Bool.false_or] at hany
   have kk:=fun B'=>ih (i + 1) (by omega) B' (by omega) hany
   simp (maxSteps:=2000000) (disch:=omega) [Ad,Ab,Aa,rI,hlt,hlt',hm,ou,cl (gt _),hB2,hq2,wi,-Int.natCast_add]
   exact kk _ (by simp [hB2]) (by simp [hB])
 | none =>
 have hil : i = us.length:=by have:=AaM.1 hx; omega
 subst hil
 rw [Abj] at hany
 have ha : (us.any fun u=>decide (t.states <= EI u.2)) = false:=hany
 rw [Aam hq hp ha]
 clear ih hx hi hany ha
 simp (maxSteps:=2000000) (disch:=omega) [Ad,Ab,Aa,rI]
 generalize hws : (x.map Frm.g).zip (us.map Prod.snd) = ws
 have hwl : ws.length = x.length:=by rw [<- hws,List.length_zip,Abe,Abe]; omega
 cases hw0 : ws[0]? with
 | none =>
  have h0 : x.length = 0:=by have:=AaM.1 hw0; omega
  have h1 : us.length = 0:=by omega
  have hws0 : ws = []:=Abf (by omega)
  subst hws0
  unfold c11_L1 c11_B1
  simp (maxSteps:=2000000) (disch:=omega) [Ad,Ab,Aa,rI,h1,XR]
 | some a0 =>
 have hM : XR t ws = OV t 1 a0 (ws.drop 1):=by
  cases ws with
  | nil=>cases hw0
  | cons b r=>cases hw0; rfl
 rw [hM]
 generalize hE : OV t 1 a0 (ws.drop 1) = E
 clear hM
 refine (?key : ∀ (i k : Nat) (a : Int × List Ce) (B : List (Nat × List V)),k = i + 1 -> ws[i]? = some a -> OV t k a (ws.drop k) = E -> getB B 2 = some [.m (.i .i64 t.states),.m h,.m n] -> getB B 3 = some [.m (.i .i64 key),.m fv] -> Run G c11_B1 (S11_1 (.fa 2 0) (.fa 3 0) (.m pv) (.m (.i .i64 (k : Int))) B []) _) 0 1 a0 _ rfl hw0 hE hB2 hB
 clear hw0 hE a0 hB2 hB
 refine Bd (fun i : Nat=>ws.length - i) fun i ih k a B hk hi hE hB2 hB=>?_
 have hil:=(AaI.1 hi).1
 unfold c11_B1
 cases hb : ws[k]? with
 | none =>
  have hkl : k = us.length:=by have:=AaM.1 hb; omega
  rw [List.drop_eq_nil_of_le (by omega)] at hE
  subst hE
  clear ih
  subst hkl
  simp (maxSteps:=2000000) (disch:=omega) [Ad,Ab,Aa,rI,OV]
 | some b =>
  have hkl:=(AaI.1 hb).1
  obtain ⟨fa,hfa⟩ : ∃ f,x[i]? = some f:=⟨_,AaK (by omega)⟩
  obtain ⟨fb,hfb⟩ : ∃ f,x[k]? = some f:=⟨_,AaK (by omega)⟩
  obtain ⟨⟨ua,pa⟩,hua⟩ : ∃ u,us[i]? = some u:=⟨_,AaK (by omega)⟩
  obtain ⟨⟨ub,pb⟩,hub⟩ : ∃ u,us[k]? = some u:=⟨_,AaK (by omega)⟩
  have ea:=MS hfa hua
  have eb:=MS hfb hub
  rw [hws] at ea eb
  rw [hi] at ea
  rw [hb] at eb
  cases ea
  cases eb
  rw [Ky hb] at hE
  dsimp only at hE
  have na:=AF hfa
  have nb:=AF hfb
  have ma:=hnth i ua pa hua
  have mb:=hnth k ub pb hub
  obtain ⟨va,vla⟩:=p4 _ (AaS hua)
  obtain ⟨vb,vlb⟩:=p4 _ (AaS hub)
  dsimp only at va vla vb vlb
  have ga:=p3 fa (AaS hfa)
  have gb:=p3 fb (AaS hfb)
  have hFa:=BG hok hfa
  have hFb:=BG hok hfb
  have oa1:=Ao hFa.c
  have oa2:=Ao hFa.h
  have ob1:=Ao hFb.c
  have ob2:=Ao hFb.h
  have ov1:=Ao va
  have ov2:=Ao vb
  have l1 : i < x.length:=by omega
  have l1' : (i : Int) < x.length:=by omega
  have l2 : k < x.length:=by omega
  have l2' : (k : Int) < x.length:=by omega
  have l3 : i < us.length:=by omega
  have l3' : (i : Int) < us.length:=by omega
  have l4 : k < us.length:=by omega
  have l4' : (k : Int) < us.length:=by omega
  have w1 : wr .i64 ((k : Int) - 1) = (i : Int):=by rw [Aa (by omega) (by omega)]; omega
  have wd : wr .i64 (fb.g - fa.g) = fb.g - fa.g:=Aa (by omega) (by omega)
  have wi : wr .i64 ((k : Int) + 1) = ((k + 1 : Nat) : Int):=Aa (by omega) (by omega)
  by_cases q1 : 10000 < fb.g - fa.g
  ·rw [AaN q1] at hE
   subst hE
   simp (maxSteps:=2000000) (disch:=omega) [Ad,Ab,Aa,rI,hrx,hB2,hB,na,nb,oa1,oa2,ob1,ob2,l1,l1',l2,l2',l3,l3',l4,l4',w1,wd,q1]
  rw [AaL q1] at hE
  obtain ⟨xv,hxv,gx⟩:=run_r hT va (by omega) (fb.g - fa.g)
  have hxl:=QT hS pa (fb.g - fa.g)
  generalize rnE t pa (fb.g - fa.g) = e at hE hxv gx hxl
  obtain ⟨e1,e2⟩:=e
  dsimp only at hE hxv gx hxl
  by_cases q2 : e2 = 0
  rotate_left
  ·rw [AaL q2] at hE
   subst hE
   simp (maxSteps:=2000000) (disch:=omega) [Ad,Ab,Aa,rI,hrx,hB2,hB,na,nb,oa1,oa2,ob1,ob2,l1,l1',l2,l2',l3,l3',l4,l4',w1,wd,q1,r0,r1,r2,r3,vof,Cc,ma,ov1,cl (gx _),q2,t1,t2]
  rw [AaN q2] at hE
  have gs:=fun H=>QV hxv vb (by omega) (by omega) H
  by_cases q3 : Ge e1 pb = 0
  ·rw [AaN q3] at hE
   rw [AaP q3] at gs
   have kk:=fun B'=>ih k (by omega) (k + 1) (fb.g,pb) B' rfl hb hE
   simp (maxSteps:=2000000) (disch:=omega) [Ad,Ab,Aa,rI,hrx,hB2,hB,na,nb,oa1,oa2,ob1,ob2,l1,l1',l2,l2',l3,l3',l4,l4',w1,wd,q1,r0,r1,r2,r3,vof,Cc,ma,mb,ov1,ov2,cl (gx _),q2,cl (gs _),t1,t2,wi,-Int.natCast_add]
   exact kk _ (by simp [hB2]) (by simp [hB])
  ·rw [AaL q3] at hE
   rw [AaO q3] at gs
   subst hE
   simp (maxSteps:=2000000) (disch:=omega) [Ad,Ab,Aa,rI,hrx,hB2,hB,na,nb,oa1,oa2,ob1,ob2,l1,l1',l2,l2',l3,l3',l4,l4',w1,wd,q1,r0,r1,r2,r3,vof,Cc,ma,mb,ov1,ov2,cl (gx _),q2,cl (gs _),t1,t2]
theorem QU {fv : I} {x : List Frm} (hv : IsSl fv (BP x)) (hok : ∀ f,f ∈ x -> FrmOk f) (hxl : (x.length : Int) <= 9223372036854775806) (key : Int) (H : Hp) : Gives G 10 [.m (.ag [.i .i64 key,fv])] H (.m (.b (patF key x).isSome)) H:=by
 have gp:=fun H=>Rd hv hok hxl key H
 have ho:=Ao hv
 refine Ak rfl rfl rfl rfl rfl ?_
 cases hp : patF key x with
 | none =>
  rw [hp] at gp
  have gp : ∀ H,Gives G 26 [.m (.ag [.i .i64 key,fv])] H (.tu [.m (.nl 4),.m (.b false)]) H:=gp
  simp (maxSteps:=2000000) (disch:=omega) [Ad,Ab,Aa,cl (gp _),ho]
 | some us =>
  rw [hp] at gp
  have gp : ∀ H,Gives G 26 [.m (.ag [.i .i64 key,fv])] H (.tu [.m (Jc us),.m (.b true)]) H:=gp
  simp (maxSteps:=2000000) (disch:=omega) [Ad,Ab,Aa,cl (gp _),ho]
end Go.Mx.Tryz
