/- Ships and shots: Right, Place of the reference. -/
import Derived.Test.YtlhjjcaifenlbaaGreatDoorRc
import Derived.Test.YtlhjjcaifenlbaaGreatDoorRf
import Derived.Test.YtlhjjcaifenlbaaGreatDoorVn
set_option linter.unusedSimpArgs false
set_option linter.unusedVariables false
set_option linter.unusedSectionVars false
set_option maxRecDepth 100000
namespace Go.Mx.Tryz
open Go.Lib Go.Proofs
theorem Ca {t : TreeC} {h n : I} {es : List (List I)} (hT : TreeV t h n es) : DX t:=fun p hc=>by
 obtain ⟨x,⟨q,e,hs,rfl⟩,g⟩:=Wq hT (Ch p) hc []
 rw [IV hs]
 exact hs
theorem Sd {t : TreeC} {h n v : I} {es : List (List I)} {p : List Ce} (hT : TreeV t h n es) (hv : IsSl v (Af p)) (hc : BY t p = 0) (H : Hp) : Gives G 82 [.m (.ag [.i .i64 t.states,h,n]),.m v] H (.tu [.m (zP (stp t p).1),.m (.i .i64 (stp t p).2)]) H:=by
 obtain ⟨x,⟨q,e,hs,rfl⟩,g⟩:=Wq hT hv hc H
 rw [IV hs]
 exact g
theorem Yz {t : TreeC} {h n v : I} {es : List (List I)} {p : List Ce} (hT : TreeV t h n es) (hv : IsSl v (Af p)) (hc : BY t p = 0) (H : Hp) : Gives G 58 [.m (.ag [.i .i64 t.states,h,n]),.m v] H (.tu [.m (zP (stp t p).1),.m (.i .i64 (stp t p).2)]) H:=by
 obtain ⟨x,⟨q,e,hs,rfl⟩,g⟩:=Sc hT hv hc H
 rw [IV hs]
 exact g
theorem YA {t : TreeC} {h n v : I} {es : List (List I)} {p : List Ce} (hT : TreeV t h n es) (hv : IsSl v (Af p)) (hl : (p.length : Int) <= 9223372036854775806) (H : Hp) : Gives G 56 [.m (.ag [.i .i64 t.states,h,n]),.m v] H (.tu [.m (zP (Wp t p).1),.m (.i .i64 (Wp t p).2)]) H:=by
 have g1:=fun H=>Tu hT hv hl H
 unfold Wp
 by_cases hc : BY t p = 0
 ·rw [Adu hc]
  have g2:=fun H=>Sd hT hv hc H
  rw [hc] at g1
  generalize stp t p = r at *
  obtain ⟨q,e⟩:=r
  dsimp only at *
  generalize zP q = z at *
  refine Ae rfl rfl rfl rfl rfl ?_
  simp (maxSteps:=2000000) (disch:=omega) [cl (g1 _),cl (g2 _)]
 ·rw [Ads hc]
  refine Ae rfl rfl rfl rfl rfl ?_
  simp (maxSteps:=2000000) (disch:=omega) [cl (g1 _),hc]
  rfl
theorem YB {t : TreeC} {h n v : I} {es : List (List I)} {p : List Ce} (hT : TreeV t h n es) (hv : IsSl v (Af p)) (hl : (p.length : Int) <= 9223372036854775806) (H : Hp) : Gives G 58 [.m (.ag [.i .i64 t.states,h,n]),.m v] H (.tu [.m (zP (Wp t p).1),.m (.i .i64 (Wp t p).2)]) H:=by
 unfold Wp
 by_cases hc : BY t p = 0
 ·rw [Adu hc]
  exact Yz hT hv hc H
 ·rw [Ads hc]
  have g1:=fun H=>Jh hT hv hl H
  refine Ae rfl rfl rfl rfl rfl ?_
  simp (maxSteps:=2000000) (disch:=omega) [cl (g1 _),hc]
  rfl
theorem FF {t : TreeC} (hS : DX t) : ∀ (n : Nat) (p : List Ce),BY t p = 0 -> (BK t n p).2 = 0 -> BK t (n + 1) p = stp t (BK t n p).1
 | 0,p,hc,_=>by
  show (if (stp t p).2 = 0 then ((stp t p).1,0) else ([],(stp t p).2)) = stp t p
  by_cases he : (stp t p).2 = 0
  ·rw [Adu he]; exact Prod.ext rfl he.symm
  ·rw [Ads he]; exact Prod.ext (Sb (hS p hc) he).symm rfl
 | n + 1,p,hc,h=>by
  have e1 : ∀ k,BK t (k + 1) p = if (stp t p).2 = 0 then BK t k (stp t p).1 else ([],(stp t p).2):=fun k=>by rw [BK]
  by_cases he : (stp t p).2 = 0
  ·rw [e1,Adu he] at h ⊢
   rw [e1,Adu he]
   exact FF hS n _ (IU hc (hS p hc) he) h
  ·rw [e1,Ads he] at h
   exact absurd h he
theorem Ia {t : TreeC} : ∀ (k n : Nat) (p : List Ce),k <= n -> ¬ (BK t k p).2 = 0 -> BK t n p = BK t k p
 | 0,_,p,_,h=>absurd rfl h
 | k + 1,0,p,hl,_=>absurd hl (by omega)
 | k + 1,n + 1,p,hl,h=>by
  rw [BK] at h
  rw [BK,BK]
  by_cases he : (stp t p).2 = 0
  ·rw [Adu he] at h
   rw [Adu he,Adu he]
   exact Ia k n _ (by omega) h
  ·rw [Ads he,Ads he]
theorem ON {t : TreeC} (hS : DX t) {p : List Ce} (hc : BY t p = 0) {l : List (List Ce)} (h : HisR t p l) : ∀ (i : Nat) (q : List Ce),l[i]? = some q -> BK t i p = (q,0):=by
 induction h with
 | one =>
  intro i q hq
  cases i with
  | zero=>cases hq; rfl
  | succ i=>simp at hq
 | @snoc ps a q h1 h2 ih =>
  intro i x hx
  by_cases hi : i < (ps ++ [a]).length
  ·rw [AdK hi] at hx
   exact ih i x hx
  ·have hlt:=(Adq.1 hx).1
   have : i = ps.length + 1:=by simp at hlt hi; omega
   subst this
   have e0:=ih ps.length a (by simp)
   have e1:=FF hS ps.length p hc (by rw [e0])
   rw [e1,e0]
   have ex : x = q:=by
    rw [Aep (by simp)] at hx
    simpa using hx.symm
   rw [ex]
   exact IV h2
theorem Vz {t : TreeC} (hS : DX t) {p : List Ce} (hc : BY t p = 0) {n : Nat} {ps : List (List Ce)} {e : Int} (h : HisQ t p n (ps,e)) : (e = 0 -> ∃ q,ps[n]? = some q /\ BK t n p = (q,0)) /\ (¬ e = 0 -> BK t n p = ([],e)):=by
 rcases h with ⟨h1,h2,h3⟩ | ⟨qs,a,h1,h2,h3,h4,h5⟩
 ·dsimp only at h1 h2 h3
  refine ⟨fun _=>?_,fun h=>absurd h1 h⟩
  obtain ⟨q,hq⟩ : ∃ q,ps[n]? = some q:=⟨_,Adt (by omega)⟩
  exact ⟨q,hq,ON hS hc h3 n q hq⟩
 ·dsimp only at h3 h4
  refine ⟨fun h=>absurd h h4,fun _=>?_⟩
  have e0:=ON hS hc h2 qs.length a (by simp)
  have e1:=FF hS qs.length p hc (by rw [e0])
  rw [e0,IV h3] at e1
  rw [Ia (qs.length + 1) n p (by omega) (by rw [e1]; exact h4),e1]
end Go.Mx.Tryz
set_option maxHeartbeats 4000000
namespace Go.Mx.Tryz
open Go.Lib Go.Proofs
theorem YP {t : TreeC} {h n v : I} {es : List (List I)} {p : List Ce} (hT : TreeV t h n es) (hv : IsSl v (Af p)) (hl : (p.length : Int) <= 9223372036854775806) (m : Int) : ∃ x,IsSl x (Af (rnE t p m).1) /\ ∀ H,Gives G 41 [.m (.ag [.i .i64 t.states,h,n]),.m v,.m (.i .i64 m)] H (.tu [.m x,.m (.i .i64 (rnE t p m).2)]) H:=by
 have g1:=fun H=>Tu hT hv hl H
 unfold rnE
 by_cases hc : BY t p = 0
 rotate_left
 ·rw [Ads hc]
  refine ⟨.nl 4,AC,fun H=>?_⟩
  refine Ae rfl rfl rfl rfl rfl ?_
  simp (maxSteps:=2000000) (disch:=omega) [cl (g1 _),hc]
 rw [Adu hc]
 rw [hc] at g1
 by_cases hm : 0 <= m /\ m <= 10000
 rotate_left
 ·rw [Ads hm]
  refine ⟨.nl 4,AC,fun H=>?_⟩
  refine Ae rfl rfl rfl rfl rfl ?_
  by_cases h0 : m < 0
  ·simp (maxSteps:=2000000) (disch:=omega) [cl (g1 _),h0]
  ·have h1 : (10000 : Int) < m:=by omega
   simp (maxSteps:=2000000) (disch:=omega) [cl (g1 _),h0,h1]
 rw [Adu hm]
 have hS:=Ca hT
 obtain ⟨k,rfl⟩:=AdM hm.1
 have hk : k <= 10000:=by omega
 rw [show ((k : Int)).toNat = k from rfl]
 have key : ∃ x H',Gives G 41 [.m (.ag [.i .i64 t.states,h,n]),.m v,.m (.i .i64 (k : Int))] [] x H' /\ (H' = [] /\ ∃ z,IsSl z (Af (BK t k p).1) /\ x = .tu [.m z,.m (.i .i64 (BK t k p).2)]):=by
  refine AI ?_
  refine Cl rfl rfl rfl rfl rfl ?_
  generalize hQ : (fun (x : V) (H' : Hp)=>H' = [] /\ ∃ z,IsSl z (Af (BK t k p).1) /\ x = .tu [.m z,.m (.i .i64 (BK t k p).2)]) = Q
  have qk : ∀ q z,BK t k p = (q,0) -> IsSl z (Af q) -> Q (.tu [.m z,.m (.i .i64 0)]) []:=fun q z h1 h2=>by rw [<- hQ]; exact ⟨rfl,z,by rw [h1]; exact h2,by rw [h1]⟩
  have qe : ∀ e,BK t k p = ([],e) -> Q (.tu [.m (.nl 4),.m (.i .i64 e)]) []:=fun e h1=>by rw [<- hQ]; exact ⟨rfl,.nl 4,by rw [h1]; exact AC,by rw [h1]⟩
  clear hQ
  have m0 : ¬ (k : Int) < 0:=by omega
  have m1 : ¬ (10000 : Int) < k:=by omega
  have m2 : ¬ 10000 < k:=by omega
  simp (maxSteps:=2000000) (disch:=omega) [cl (g1 _),m0,m1]
  refine (?key : ∀ (i : Nat) (q : List Ce) (u : I) (B : List (Nat × List V)),i <= k -> BK t i p = (q,0) -> BY t q = 0 -> IsSl u (Af q) -> getB B 3 = some [.m (.i .i64 t.states),.m h,.m n] -> Run G c41_B0 (S41_0 (.m u) (.fa 3 0) (.m (.i .i64 (k : Int))) (.m (.i .i64 (i : Int))) B []) _) 0 p v _ (Adz _) rfl hc hv rfl
  refine Bi (fun i : Nat=>k - i) fun i ih q u B hi hr hcq hu hB=>?_
  unfold c41_B0
  by_cases hik : i < k
  ·have hik2 : (i : Int) < k:=by omega
   have wi : wr .i64 ((i : Int) + 1) = ((i + 1 : Nat) : Int):=Aa (by omega) (by omega)
   have gs:=fun H=>Sd hT hu hcq H
   have e1:=FF hS i p hc (by rw [hr])
   rw [hr] at e1
   dsimp only at e1
   by_cases he : (stp t q).2 = 0
   ·have k2:=fun B'=>ih (i + 1) (by omega) (stp t q).1 (zP (stp t q).1) B' (by omega) (by rw [e1]; exact Prod.ext rfl he) (IU hcq (hS q hcq) he) (Ch _)
    rw [he] at gs
    generalize zP (stp t q).1 = z at *
    simp (maxSteps:=2000000) (disch:=omega) [hik2,hB,cl (gs _),wi,-Int.natCast_add]
    exact k2 _ hB
   ·have k2:=qe (stp t q).2 (by rw [Ia (i + 1) k p (by omega) (by rw [e1]; exact he),e1]; exact Prod.ext (Sb (hS q hcq) he) rfl)
    generalize (stp t q).2 = e at *
    generalize zP (stp t q).1 = z at *
    simp (maxSteps:=2000000) (disch:=omega) [hik2,hB,cl (gs _),he]
    exact k2
  ·have : i = k:=by omega
   subst this
   have k2:=qk q u hr hu
   simp (maxSteps:=2000000) (disch:=omega) []
   exact k2
 obtain ⟨x,H',g,rfl,z,h1,rfl⟩:=key
 exact ⟨z,h1,fun H=>AT (H:=H) (is:=[.ag [.i .i64 t.states,h,n],v,.i .i64 (k : Int)]) rfl rfl g rfl (.inl ⟨rfl,rfl⟩)⟩
theorem YQ {t : TreeC} {h n v : I} {es : List (List I)} {p : List Ce} (hT : TreeV t h n es) (hv : IsSl v (Af p)) (hl : (p.length : Int) <= 9223372036854775806) (m : Int) : ∃ x,IsSl x (Af (rnE t p m).1) /\ ∀ H,Gives G 43 [.m (.ag [.i .i64 t.states,h,n]),.m v,.m (.i .i64 m)] H (.tu [.m x,.m (.i .i64 (rnE t p m).2)]) H:=by
 unfold rnE
 by_cases hc : BY t p = 0
 rotate_left
 ·rw [Ads hc]
  have g1:=fun H=>AcO hT hv hl hc m H
  refine ⟨.nl 4,AC,fun H=>?_⟩
  refine Ae rfl rfl rfl rfl rfl ?_
  simp (maxSteps:=2000000) (disch:=omega) [cl (g1 _),hc]
 rw [Adu hc]
 by_cases hm : 0 <= m /\ m <= 10000
 rotate_left
 ·rw [Ads hm]
  have g1:=fun H=>AcN hT hv hl hc m (by omega) H
  refine ⟨.nl 4,AC,fun H=>?_⟩
  refine Ae rfl rfl rfl rfl rfl ?_
  simp (maxSteps:=2000000) (disch:=omega) [cl (g1 _)]
 rw [Adu hm]
 have hS:=Ca hT
 obtain ⟨k,rfl⟩:=AdM hm.1
 have hk : k <= 10000:=by omega
 rw [show ((k : Int)).toNat = k from rfl]
 obtain ⟨x,⟨ps,e,hQ,hx⟩,g0⟩:=his_r hT hv hc k hk []
 have g1 : ∀ H,Gives G 84 [.m (.ag [.i .i64 t.states,h,n]),.m v,.m (.i .i64 (k : Int))] H x H:=fun H=>AT (H:=H) (is:=[.ag [.i .i64 t.states,h,n],v,.i .i64 (k : Int)]) rfl rfl g0 rfl (.inl ⟨by rcases hx with ⟨_,rfl⟩ | ⟨_,vs,_,rfl⟩ <;> rfl,rfl⟩)
 obtain ⟨q1,q2⟩:=Vz hS hc hQ
 rcases hx with ⟨he,rfl⟩ | ⟨he,vs,hP,rfl⟩
 ·rw [q2 he]
  refine ⟨.nl 4,AC,fun H=>?_⟩
  refine Ae rfl rfl rfl rfl rfl ?_
  simp (maxSteps:=2000000) (disch:=omega) [cl (g1 _),he]
 ·obtain ⟨q,hq,hr⟩:=q1 he
  rw [hr]
  have hlt:=(Adq.1 hq).1
  obtain ⟨u,hu⟩ : ∃ u,vs[k]? = some u:=⟨_,Adt (by rw [hP.1]; exact hlt)⟩
  have hn:=Lp hu
  have hlen : k < vs.length:=by rw [hP.1]; exact hlt
  have hrv:=(Ba (ER vs)).rules
  simp only [If] at hrv
  refine ⟨u,hP.2 k u q hu hq,fun H=>?_⟩
  refine Ae rfl rfl rfl rfl rfl ?_
  simp (maxSteps:=2000000) (disch:=omega) [cl (g1 _),hrv,hn]
def mvF (a b : Int) (e : Ce) : Ce:=⟨e.x + a,e.y + b,e.s⟩
theorem Zo (c d : Ce) (r s : List Ce) : mvd (c :: r) (d :: s) = if d :: s = (c :: r).map (mvF (d.x - c.x) (d.y - c.y)) then some (d.x - c.x,d.y - c.y) else none:=rfl
theorem Vq (c d : Ce) (r s : List Ce) : mvd (c :: r) (d :: s) = if (d :: s).map (mvC d.x d.y) = (c :: r).map (mvC c.x c.y) then some (d.x - c.x,d.y - c.y) else none:=by
 rw [Zo]
 have e : (d :: s = (c :: r).map (mvF (d.x - c.x) (d.y - c.y))) = ((d :: s).map (mvC d.x d.y) = (c :: r).map (mvC c.x c.y)):=by
  refine propext ⟨fun h=>?_,fun h=>?_⟩
  ·have h2:=congrArg (List.map (mvC d.x d.y)) h
   rw [h2,List.map_map]
   refine List.map_congr_left fun e _=>?_
   show mvC d.x d.y (mvF _ _ e) = mvC c.x c.y e
   simp only [mvC,mvF,Ce.mk.injEq,and_true]
   omega
  ·have h2:=congrArg (List.map (mvF d.x d.y)) h
   rw [List.map_map,List.map_map] at h2
   have e1 : ∀ l : List Ce,l.map (mvF d.x d.y ∘ mvC d.x d.y) = l:=fun l=>by
    conv=>rhs; rw [<- List.map_id l]
    refine List.map_congr_left fun e _=>?_
    show mvF d.x d.y (mvC d.x d.y e) = e
    cases e
    simp [mvC,mvF]
   rw [e1] at h2
   rw [h2]
   refine List.map_congr_left fun e _=>?_
   show mvF d.x d.y (mvC c.x c.y e) = mvF _ _ e
   simp only [mvC,mvF,Ce.mk.injEq,and_true]
   omega
 by_cases h : d :: s = (c :: r).map (mvF (d.x - c.x) (d.y - c.y))
 ·rw [Adu h,Adu (e ▸ h)]
 ·rw [Ads h,Ads (fun hh=>h (e ▸ hh))]
theorem OC (p : List Ce) : mvd [] p = none:=by cases p <;> rfl
theorem Zn {p q : List Ce} (h : ¬ p.length = q.length) : mvd p q = none:=by
 cases p with
 | nil=>exact OC q
 | cons c r =>
  cases q with
  | nil=>rfl
  | cons d s =>
   rw [Zo]
   refine Ads fun e=>h ?_
   have:=congrArg List.length e
   rw [AdJ] at this
   exact this.symm
def Jd (m : Int × Int × Int) : I:=.ag [.i .i64 m.1,.i .i64 m.2.1,.i .i64 m.2.2]
def mvV : Option (Int × Int) -> V
 | some d=>.tu [.m (.i .i64 d.1),.m (.i .i64 d.2),.m (.b true)]
 | none=>.tu [.m (.i .i64 0),.m (.i .i64 0),.m (.b false)]
def Lx (r : (Int × Int × Int) × Bool × Int) : V:=.tu [.m (Jd r.1),.m (.b r.2.1),.m (.i .i64 r.2.2)]
theorem Zp {v w : I} {p q : List Ce} (hv : IsSl v (Af p)) (hw : IsSl w (Af q)) (hp : AL p = true) (hq : AL q = true) (H : Hp) : Gives G 170 [.m v,.m w] H (mvV (mvd p q)) H:=by
 have hl:=(Av hp).2.2
 have hl2:=(Av hq).2.2
 have hr:=hv.rules
 have hr2:=hw.rules
 simp only [show (Af p).length = p.length from by simp [Af]] at hr
 simp only [show (Af q).length = q.length from by simp [Af]] at hr2
 refine Ae rfl rfl rfl rfl rfl ?_
 by_cases hlen : p.length = q.length
 rotate_left
 ·have hlen' : ¬ (p.length : Int) = q.length:=by omega
  rw [Zn hlen]
  simp (maxSteps:=2000000) (disch:=omega) [hr,hr2,hlen',mvV]
 cases hpe : p with
 | nil =>
  have hl0 : p.length = 0:=by rw [hpe]; rfl
  rw [<- hpe]
  have hm : mvd p q = none:=by rw [hpe]; exact OC q
  rw [hm]
  have hq0 : q.length = 0:=by omega
  simp (maxSteps:=2000000) (disch:=omega) [hr,hr2,hl0,hq0,mvV]
 | cons c r =>
  obtain ⟨d,s,hqe⟩ : ∃ d s,q = d :: s:=by
   cases q with
   | nil=>rw [hpe] at hlen; simp at hlen
   | cons d s=>exact ⟨d,s,rfl⟩
  have h0 : p[0]? = some c:=by rw [hpe]; rfl
  have h02 : q[0]? = some d:=by rw [hqe]; rfl
  have hn0:=An h0
  have hn02:=An h02
  have hbc:=AH hp (Ady h0)
  have hbd:=AH hq (Ady h02)
  have hm : mvd p q = if q = p.map (mvF (d.x - c.x) (d.y - c.y)) then some (d.x - c.x,d.y - c.y) else none:=by rw [hpe,hqe]; exact Zo c d r s
  rw [<- hpe,hm]
  obtain ⟨dx,hdx⟩ : ∃ dx,dx = d.x - c.x:=⟨_,rfl⟩
  obtain ⟨dy,hdy⟩ : ∃ dy,dy = d.y - c.y:=⟨_,rfl⟩
  have w1 : wr .i64 (d.x - c.x) = dx:=by rw [hdx]; exact Aa (by omega) (by omega)
  have w2 : wr .i64 (d.y - c.y) = dy:=by rw [hdy]; exact Aa (by omega) (by omega)
  rw [<- hdx,<- hdy]
  have hpos : 0 < p.length:=(Al h0).1
  have hpos2 : 0 < q.length:=(Al h02).1
  have hlen' : (p.length : Int) = q.length:=by omega
  have hne : ¬ q.length = 0:=by omega
  have hne' : ¬ (q.length : Int) = 0:=by omega
  simp (maxSteps:=2000000) (disch:=omega) [hr,hr2,hlen,hne,hn0,hn02,w1,w2]
  refine (?key : ∀ (i : Nat) (B : List (Nat × List V)),i <= q.length -> q.take i = (p.map (mvF dx dy)).take i -> Run G c170_B0 (S170_0 (.m v) (.m w) (.m (.i .i64 dx)) (.m (.i .i64 dy)) (.m (.i .i64 (q.length : Int))) (.m (.i .i64 (i : Int))) B []) _) 0 _ (Adz _) rfl
  refine Bi (fun i : Nat=>q.length - i) fun i ih B hi hpre=>?_
  unfold c170_B0
  cases hy : q[i]? with
  | none =>
   have : i = q.length:=by have:=Adv.1 hy; omega
   subst this
   rw [AdQ,AdI (by simp; omega)] at hpre
   rw [Adu hpre]
   simp (maxSteps:=2000000) (disch:=omega) [mvV]
  | some b =>
   have hlt2:=(Al hy).1
   obtain ⟨a,hx⟩ : ∃ a,p[i]? = some a:=⟨p[i]'(by omega),Adt _⟩
   have hlt:=(Al hx).1
   have hlt2' : (i : Int) < q.length:=by omega
   have hn:=An hx
   have hn2:=An hy
   have hba:=AH hp (Ady hx)
   have hbb:=AH hq (Ady hy)
   have wi : wr .i64 ((i : Int) + 1) = ((i + 1 : Nat) : Int):=Aa (by omega) (by omega)
   have w3 : wr .i64 (a.x + dx) = a.x + dx:=Aa (by omega) (by omega)
   have w4 : wr .i64 (a.y + dy) = a.y + dy:=Aa (by omega) (by omega)
   have hmy : (p.map (mvF dx dy))[i]? = some (mvF dx dy a):=by rw [AdT,hx]; rfl
   by_cases he : b.x = a.x + dx /\ b.y = a.y + dy /\ b.s = a.s
   ·have e : b = mvF dx dy a:=by
     cases b
     unfold mvF
     simp only [Ce.mk.injEq]
     exact he
    have k2:=fun B'=>ih (i + 1) (by omega) B' (by omega) (Vb hpre hy hmy e)
    simp (maxSteps:=2000000) (disch:=omega) [hr,hr2,hlen,hlt2',hn,hn2,wi,w3,w4,he.1,he.2.1,he.2.2,-Int.natCast_add]
    exact k2 _
   ·have hno : ¬ q = p.map (mvF dx dy):=fun hh=>he (by
     have : q[i]? = some (mvF dx dy a):=by rw [hh]; exact hmy
     rw [hy] at this
     injection this with this
     rw [this]
     exact ⟨rfl,rfl,rfl⟩)
    rw [Ads hno]
    have he1 : (decide (b.x = a.x + dx) && (decide (b.y = a.y + dy) && decide (b.s = a.s))) = false:=by
     rw [Bool.eq_false_iff]
     simpa using he
    have he2 : (decide (b.x = a.x + dx) && decide (b.y = a.y + dy) && decide (b.s = a.s)) = false:=by
     rw [Bool.and_assoc]; exact he1
    simp (maxSteps:=2000000) (disch:=omega) [hr,hr2,hlen,hlt2',hn,hn2,w3,w4,he1,mvV]
theorem Vk (m : Int) (H : Hp) : Gives G 169 [.m (.i .i64 m)] H (.m (.b (decide (1 <= m /\ m <= 64)))) H:=by
 refine Ae rfl rfl rfl rfl rfl ?_
 by_cases h1 : 1 <= m
 ·by_cases h2 : m <= 64
  ·simp (maxSteps:=2000000) (disch:=omega) [h1,h2]
  ·simp (maxSteps:=2000000) (disch:=omega) [h1,h2]
 ·simp (maxSteps:=2000000) (disch:=omega) [h1]
theorem AcS {t : TreeC} {h n v : I} {es : List (List I)} {p : List Ce} (hT : TreeV t h n es) (hv : IsSl v (Af p)) (hl : (p.length : Int) <= 9223372036854775806) (m : Int) (H : Hp) : Gives G 136 [.m (.ag [.i .i64 t.states,h,n]),.m v,.m (.i .i64 m)] H (Lx (MQ t p m)) H:=by
 obtain ⟨x0,_,g1⟩:=YP hT hv hl 0
 unfold rnE at g1
 have gp:=fun H=>Vk m H
 unfold MQ
 by_cases hc : BY t p = 0
 rotate_left
 ·rw [Ads hc] at *
  refine Ae rfl rfl rfl rfl rfl ?_
  simp (maxSteps:=2000000) (disch:=omega) [Ab,cl (g1 _),hc,Lx,Jd]
 rw [Adu hc] at *
 rw [Adu (by omega)] at g1
 by_cases hm : 1 <= m /\ m <= 64
 rotate_left
 ·rw [Ads hm] at *
  rw [AdB hm] at gp
  refine Ae rfl rfl rfl rfl rfl ?_
  simp (maxSteps:=2000000) (disch:=omega) [Ab,cl (g1 _),cl (gp _),BK,Lx,Jd]
 rw [Adu hm] at *
 rw [AdA hm] at gp
 have hS:=Ca hT
 obtain ⟨hq,hrp,_⟩:=Bd hc
 have hrv:=hv.rules
 obtain ⟨k,rfl⟩:=AdM (show 0 <= m by omega)
 rw [show ((k : Int)).toNat = k from rfl]
 have hk : k <= 64:=by omega
 refine Ae rfl rfl rfl rfl rfl ?_
 simp (maxSteps:=2000000) (disch:=omega) [cl (g1 _),cl (gp _),show ((0 : Int)).toNat = 0 from rfl,BK]
 refine (?key : ∀ (i : Nat) (q : List Ce) (u : I) (B : List (Nat × List V)),i <= k -> He t p k 1 p = He t p (k - i) (((i + 1 : Nat) : Int)) q -> BY t q = 0 -> IsSl u (Af q) -> getB B 3 = some [.m (.i .i64 t.states),.m h,.m n] -> getB B 6 = some [.m (.i .i64 0),.m (.i .i64 0),.m (.i .i64 0)] -> Run G c136_B0 (S136_0 (.m v) (.m (.i .i64 (k : Int))) (.fa 3 0) (.fa 6 0) (.m u) (.m (.i .i64 (((i + 1 : Nat) : Int)))) B []) _) 0 p v _ (Adz _) rfl hc hv rfl rfl
 refine Bi (fun i : Nat=>k - i) fun i ih q u B hi hf hcq hu hB hB6=>?_
 unfold c136_B0
 have hru:=hu.rules
 simp only [show (Af q).length = q.length from by simp [Af]] at hru
 rw [hf]
 by_cases hik : i < k
 rotate_left
 ·have : i = k:=by omega
  subst this
  rw [Nat.sub_self]
  simp (maxSteps:=2000000) (disch:=omega) [Ab,show ¬ ((i + 1 : Nat) : Int) <= i from by omega,hB6,He,Lx,Jd,-Int.natCast_add]
 have hik2 : ((i + 1 : Nat) : Int) <= k:=by omega
 by_cases hq0 : q = []
 ·rw [hq0,Hd hq]
  have hl0 : q.length = 0:=by rw [hq0]; rfl
  simp (maxSteps:=2000000) (disch:=omega) [Ab,hik2,hru,hl0,hB6,Lx,Jd,-Int.natCast_add]
 have hpos : 0 < q.length:=List.length_pos_iff.2 hq0
 have hpos2 : (0 : Int) < q.length:=by omega
 have gs:=fun H=>YA hT hu (by have:=(Av (Bd hcq).2.1).2.2; omega) H
 unfold Wp at gs
 rw [Adu hcq] at gs
 obtain ⟨j,hj⟩ : ∃ j,k - i = j + 1:=⟨k - i - 1,by omega⟩
 have wi : wr .i64 (((i + 1 : Nat) : Int) + 1) = ((i + 1 + 1 : Nat) : Int):=Aa (by omega) (by omega)
 by_cases he : (stp t q).2 = 0
 ·have hc2:=IU hcq (hS q hcq) he
  have gm:=fun H=>Zp hv (Ch (stp t q).1) hrp (Bd hc2).2.1 H
  have hf2 : He t p (k - i) (((i + 1 : Nat) : Int)) q = match mvd p (stp t q).1 with
   | some d=>((((i + 1 : Nat) : Int),d.1,d.2),true,0)
   | none=>He t p j (((i + 1 + 1 : Nat) : Int)) (stp t q).1:=by rw [hj]; exact Lz he
  rw [he] at gs
  cases hmv : mvd p (stp t q).1 with
  | some d =>
   rw [hmv] at hf2 gm
   dsimp only at hf2
   rw [hf2]
   generalize zP (stp t q).1 = z at *
   simp only [mvV] at gm
   simp (maxSteps:=2000000) (disch:=omega) [Ab,hik2,hru,hpos,hB,cl (gs _),cl (gm _),hB6,Lx,Jd,-Int.natCast_add]
  | none =>
   rw [hmv] at hf2 gm
   dsimp only at hf2
   have k2:=fun B'=>ih (i + 1) (by omega) (stp t q).1 (zP (stp t q).1) B' (by omega) (by rw [hf,hf2,show k - (i + 1) = j from by omega]) hc2 (Ch _)
   rw [hf] at k2
   generalize zP (stp t q).1 = z at *
   simp only [mvV] at gm
   simp (maxSteps:=2000000) (disch:=omega) [hik2,hru,hpos,hB,cl (gs _),cl (gm _),wi,-Int.natCast_add]
   exact k2 _ hB hB6
 ·rw [hj,OS he]
  generalize (stp t q).2 = e at *
  generalize zP (stp t q).1 = z at *
  simp (maxSteps:=2000000) (disch:=omega) [Ab,hik2,hru,hpos,hB,cl (gs _),he,hB6,Lx,Jd,-Int.natCast_add]
theorem OM {v : I} {p : List Ce} (hv : IsSl v (Af p)) (hp : AL p = true) {c : Ce} {r : List Ce} (hpe : p = c :: r) (H : Hp) : Gives G 151 [.m v] H (.m (zP (p.map (mvC c.x c.y)))) H:=by
 have hl:=(Av hp).2.2
 have hr:=hv.rules
 simp only [show (Af p).length = p.length from by simp [Af]] at hr
 have h0 : p[0]? = some c:=by rw [hpe]; rfl
 have hn0:=An h0
 have hbc:=AH hp (Ady h0)
 have hpos : 0 < p.length:=(Al h0).1
 refine Ae rfl rfl rfl rfl rfl ?_
 simp (maxSteps:=2000000) (disch:=omega) []
 refine (?key : ∀ (i : Nat) (f : List Ce) (o : V) (B : List (Nat × List V)) (H1 : Hp),i <= p.length -> f = (p.take i).map (mvC c.x c.y) -> Jl f o H1 -> Run G c151_B0 (S151_0 (.m v) o (.m (.i .i64 (i : Int))) B H1) _) 0 [] _ _ _ (Adz _) rfl (.inl ⟨rfl,rfl,rfl⟩)
 refine Bi (fun i : Nat=>p.length - i) fun i ih f o B H1 hi hf ho=>?_
 unfold c151_B0
 obtain ⟨hvw,hnf⟩:=BW ho
 cases hx : p[i]? with
 | some a =>
  have hlt:=(Al hx).1
  have hlt' : (i : Int) < p.length:=by omega
  have hn:=An hx
  have wi : wr .i64 ((i : Int) + 1) = (i : Int) + 1:=Aa (by omega) (by omega)
  have htk : p.take (i + 1) = p.take i ++ [a]:=Ao hx
  have hba:=AH hp (Ady hx)
  have w1 : wr .i64 (a.x - c.x) = a.x - c.x:=Aa (by omega) (by omega)
  have w2 : wr .i64 (a.y - c.y) = a.y - c.y:=Aa (by omega) (by omega)
  have hfl : f.length <= 1000000:=by rw [hf,AdJ,AdE]; omega
  obtain ⟨o1,H2,ha,hn1,ho1⟩:=BM ho hfl (mvC c.x c.y a)
  have e : f ++ [mvC c.x c.y a] = (p.take (i + 1)).map (mvC c.x c.y):=by rw [htk,hf]; simp
  have k2:=fun B'=>ih (i + 1) (by omega) (f ++ [mvC c.x c.y a]) o1 B' H2 (by omega) e ho1
  simp only [mvC] at ha
  simp (maxSteps:=2000000) (disch:=omega) [hr,hlt',hn,hn0,wi,w1,w2,ha,Ap hn1]
  exact k2 _
 | none =>
  have : i = p.length:=by have:=Adv.1 hx; omega
  subst this
  rw [AdQ] at hf
  rw [hf] at hvw
  generalize zP (p.map (mvC c.x c.y)) = z at *
  simp (maxSteps:=2000000) (disch:=omega) [hr,hvw,Ap hnf]
  exact hnf
theorem AcT {t : TreeC} {h n v : I} {es : List (List I)} {p : List Ce} (hT : TreeV t h n es) (hv : IsSl v (Af p)) (hl : (p.length : Int) <= 9223372036854775806) (m : Int) (H : Hp) : Gives G 113 [.m (.ag [.i .i64 t.states,h,n]),.m v,.m (.i .i64 m)] H (Lx (MQ t p m)) H:=by
 obtain ⟨x0,_,g1⟩:=YQ hT hv hl 0
 unfold rnE at g1
 unfold MQ
 by_cases hc : BY t p = 0
 rotate_left
 ·rw [Ads hc] at *
  refine Ae rfl rfl rfl rfl rfl ?_
  simp (maxSteps:=2000000) (disch:=omega) [Ab,cl (g1 _),hc,Lx,Jd]
 rw [Adu hc] at *
 rw [Adu (by omega)] at g1
 by_cases hm : 1 <= m /\ m <= 64
 rotate_left
 ·rw [Ads hm] at *
  refine Ae rfl rfl rfl rfl rfl ?_
  by_cases h1 : m < 1
  ·simp (maxSteps:=2000000) (disch:=omega) [Ab,cl (g1 _),BK,h1,Lx,Jd]
  ·have h2 : 64 < m:=by omega
   simp (maxSteps:=2000000) (disch:=omega) [Ab,cl (g1 _),BK,h1,h2,Lx,Jd]
 rw [Adu hm] at *
 have hS:=Ca hT
 obtain ⟨hq,hrp,_⟩:=Bd hc
 have hpl:=(Av hrp).2.2
 have hrv:=hv.rules
 simp only [show (Af p).length = p.length from by simp [Af]] at hrv
 obtain ⟨k,rfl⟩:=AdM (show 0 <= m by omega)
 rw [show ((k : Int)).toNat = k from rfl]
 have hk : k <= 64:=by omega
 have m1 : ¬ (k : Int) < 1:=by omega
 have m1' : ¬ k < 1:=by omega
 have m2 : ¬ (64 : Int) < k:=by omega
 have m2' : ¬ 64 < k:=by omega
 refine Ae rfl rfl rfl rfl rfl ?_
 cases hpe : p with
 | nil =>
  have hl0 : p.length = 0:=by rw [hpe]; rfl
  rw [<- hpe]
  have e : He t p k 1 p = ((0,0,0),false,0):=by
   have:=Hd hq p k 1
   rw [<- hpe] at this
   exact this
  rw [e]
  simp (maxSteps:=2000000) (disch:=omega) [Ab,cl (g1 _),show ((0 : Int)).toNat = 0 from rfl,BK,m1,m2,hrv,hl0,Lx,Jd]
 | cons c r =>
 have hp0 : 0 < p.length:=by rw [hpe]; simp
 have hp0' : ¬ p.length = 0:=by omega
 have hp1' : ¬ (p.length : Int) = 0:=by omega
 have h0 : p[0]? = some c:=by rw [hpe]; rfl
 have hn0:=An h0
 have hbc:=AH hrp (Ady h0)
 have gh1:=fun H=>OM hv hrp hpe H
 rw [<- hpe]
 simp (maxSteps:=2000000) (disch:=omega) [cl (g1 _),show ((0 : Int)).toNat = 0 from rfl,BK,m1,m2,hrv,hp0']
 refine (?key : ∀ (i : Nat) (q : List Ce) (u : I) (B : List (Nat × List V)),i <= k -> He t p k 1 p = He t p (k - i) (((i + 1 : Nat) : Int)) q -> BY t q = 0 -> IsSl u (Af q) -> getB B 3 = some [.m (.i .i64 t.states),.m h,.m n] -> getB B 6 = some [.m (.i .i64 0),.m (.i .i64 0),.m (.i .i64 0)] -> Run G c113_B0 (S113_0 (.m v) (.m (.i .i64 (k : Int))) (.fa 3 0) (.fa 6 0) (.m u) (.m (.i .i64 (((i + 1 : Nat) : Int)))) B []) _) 0 p v _ (Adz _) rfl hc hv rfl rfl
 refine Bi (fun i : Nat=>k - i) fun i ih q u B hi hf hcq hu hB hB6=>?_
 unfold c113_B0
 rw [hf]
 by_cases hik : i < k
 rotate_left
 ·have : i = k:=by omega
  subst this
  rw [Nat.sub_self]
  simp (maxSteps:=2000000) (disch:=omega) [Ab,show ¬ ((i + 1 : Nat) : Int) <= i from by omega,hB6,He,Lx,Jd,-Int.natCast_add]
 have hik2 : ((i + 1 : Nat) : Int) <= k:=by omega
 have gs:=fun H=>YB hT hu (by have:=(Av (Bd hcq).2.1).2.2; omega) H
 unfold Wp at gs
 rw [Adu hcq] at gs
 obtain ⟨j,hj⟩ : ∃ j,k - i = j + 1:=⟨k - i - 1,by omega⟩
 have wi : wr .i64 (((i + 1 : Nat) : Int) + 1) = ((i + 1 + 1 : Nat) : Int):=Aa (by omega) (by omega)
 by_cases he : (stp t q).2 = 0
 ·have hc2:=IU hcq (hS q hcq) he
  have hf2 : He t p (k - i) (((i + 1 : Nat) : Int)) q = match mvd p (stp t q).1 with
   | some d=>((((i + 1 : Nat) : Int),d.1,d.2),true,0)
   | none=>He t p j (((i + 1 + 1 : Nat) : Int)) (stp t q).1:=by rw [hj]; exact Lz he
  rw [he] at gs
  have k1:=fun (hmv : mvd p (stp t q).1 = none) B'=>ih (i + 1) (by omega) (stp t q).1 (zP (stp t q).1) B' (by omega) (by rw [hf,hf2,hmv,show k - (i + 1) = j from by omega]) hc2 (Ch _)
  rw [hf] at k1
  have hz:=Ch (stp t q).1
  have hrz:=hz.rules
  have hrq:=(Bd hc2).2.1
  have hql:=(Av hrq).2.2
  generalize zP (stp t q).1 = z at *
  generalize (stp t q).1 = q2 at *
  simp only [show (Af q2).length = q2.length from by simp [Af]] at hrz
  cases hqe : q2 with
  | nil =>
   have hl0 : q2.length = 0:=by rw [hqe]; rfl
   have hmv : mvd p q2 = none:=by rw [hqe]; exact SX p
   have k2:=k1 hmv
   rw [hmv] at hf2
   dsimp only at hf2
   simp (maxSteps:=2000000) (disch:=omega) [hik2,hB,cl (gs _),hrz,hl0,Ad,wi,-Int.natCast_add]
   exact k2 _ hB hB6
  | cons d s =>
   have hq0 : 0 < q2.length:=by rw [hqe]; simp
   have hq0' : (0 : Int) < q2.length:=by omega
   have gh2:=fun H=>OM hz hrq hqe H
   have gsm:=fun H=>FI (Ch (q2.map (mvC d.x d.y))) (Ch (p.map (mvC c.x c.y))) (by simp; omega) (by simp; omega) H
   have hmh:=Vq c d r s
   rw [<- hqe,<- hpe] at hmh
   have h02 : q2[0]? = some d:=by rw [hqe]; rfl
   have hn02:=An h02
   have hbd:=AH hrq (Ady h02)
   have w1 : wr .i64 (d.x - c.x) = d.x - c.x:=Aa (by omega) (by omega)
   have w2 : wr .i64 (d.y - c.y) = d.y - c.y:=Aa (by omega) (by omega)
   by_cases hE : q2.map (mvC d.x d.y) = p.map (mvC c.x c.y)
   ·rw [Adu hE] at hmh
    rw [hmh] at hf2
    dsimp only at hf2
    rw [hf2]
    rw [AdA (Fa.2 hE)] at gsm
    generalize zP (q2.map (mvC d.x d.y)) = z1 at *
    generalize zP (p.map (mvC c.x c.y)) = z2 at *
    simp (maxSteps:=2000000) (disch:=omega) [Ab,hik2,hB,cl (gs _),hrz,hrv,hq0,Ad,cl (gh1 _),cl (gh2 _),cl (gsm _),hn0,hn02,w1,w2,hB6,Lx,Jd,-Int.natCast_add]
   ·rw [Ads hE] at hmh
    have k2:=k1 hmh
    rw [hmh] at hf2
    dsimp only at hf2
    rw [AdB (fun h=>hE (Fa.1 h))] at gsm
    generalize zP (q2.map (mvC d.x d.y)) = z1 at *
    generalize zP (p.map (mvC c.x c.y)) = z2 at *
    simp (maxSteps:=2000000) (disch:=omega) [hik2,hB,cl (gs _),hrz,hq0,Ad,cl (gh1 _),cl (gh2 _),cl (gsm _),wi,-Int.natCast_add]
    exact k2 _ hB hB6
 ·rw [hj,OS he]
  generalize (stp t q).2 = e at *
  generalize zP (stp t q).1 = z at *
  simp (maxSteps:=2000000) (disch:=omega) [Ab,hik2,hB,cl (gs _),he,hB6,Lx,Jd,-Int.natCast_add]
def VA (r : Bool × Int) : V:=.tu [.m (.b r.1),.m (.i .i64 r.2)]
theorem WD {a b : Int × Int × Int} : (decide (a = b)) = (decide (a.1 = b.1) && (decide (a.2.1 = b.2.1) && decide (a.2.2 = b.2.2))):=by
 obtain ⟨a1,a2,a3⟩:=a
 obtain ⟨b1,b2,b3⟩:=b
 simp [Bool.decide_and]
theorem has_s {t : TreeC} {h n v : I} {es : List (List I)} {p : List Ce} (hT : TreeV t h n es) (hv : IsSl v (Af p)) (hl : (p.length : Int) <= 9223372036854775806) (m : Int × Int × Int) (H : Hp) : Gives G 106 [.m (.ag [.i .i64 t.states,h,n]),.m v,.m (Jd m)] H (VA (VB t p m)) H:=by
 have g1:=fun H=>AcS hT hv hl m.1 H
 unfold VB
 rw [WD]
 generalize MQ t p m.1 = r at *
 obtain ⟨f,ok,e⟩:=r
 dsimp only at *
 simp only [Lx,Jd] at *
 refine Ae rfl rfl rfl rfl rfl ?_
 cases ok with
 | true=>simp (maxSteps:=2000000) (disch:=omega) [Ab,cl (g1 _),VA]
 | false=>simp (maxSteps:=2000000) (disch:=omega) [Ab,cl (g1 _),VA]
theorem has_r {t : TreeC} {h n v : I} {es : List (List I)} {p : List Ce} (hT : TreeV t h n es) (hv : IsSl v (Af p)) (hl : (p.length : Int) <= 9223372036854775806) (m : Int × Int × Int) (H : Hp) : Gives G 73 [.m (.ag [.i .i64 t.states,h,n]),.m v,.m (Jd m)] H (VA (VB t p m)) H:=by
 have g1:=fun H=>AcT hT hv hl m.1 H
 have g2 : ¬ (MQ t p m.1).2.2 = 0 -> (MQ t p m.1).2.1 = false:=VF
 unfold VB
 rw [WD]
 generalize MQ t p m.1 = r at *
 obtain ⟨f,ok,e⟩:=r
 dsimp only at *
 simp only [Lx,Jd] at *
 refine Ae rfl rfl rfl rfl rfl ?_
 by_cases he : e = 0
 ·cases ok with
  | true=>simp (maxSteps:=2000000) (disch:=omega) [Ab,cl (g1 _),he,VA]
  | false=>simp (maxSteps:=2000000) (disch:=omega) [Ab,cl (g1 _),he,VA]
 ·rw [g2 he] at *
  simp (maxSteps:=2000000) (disch:=omega) [Ab,cl (g1 _),he,VA]
noncomputable def plE (t : TreeC) (l : List Sh) : List St5 -> Int
 | []=>0
 | x :: r=>if (plF t l x).2 = 0 then plE t l r else (plF t l x).2
noncomputable def plP (t : TreeC) (l : List Sh) (xs : List St5) : List (List Ce):=xs.map fun x=>(plF t l x).1
theorem On {t : TreeC} {l : List Sh} {xs : List St5} {i : Nat} {x : St5} (h : xs[i]? = some x) : plE t l (xs.drop i) = if (plF t l x).2 = 0 then plE t l (xs.drop (i + 1)) else (plF t l x).2:=by
 rw [(Al h).2]
 rfl
theorem Om {t : TreeC} {l : List Sh} {xs : List St5} {i : Nat} {x : St5} (h : xs[i]? = some x) : plP t l (xs.take (i + 1)) = plP t l (xs.take i) ++ [(plF t l x).1]:=by
 unfold plP
 rw [Ao h]
 simp
theorem FJ {t : TreeC} (hS : DX t) {l : List Sh} {xs : List St5} : ∀ p,p ∈ plP t l xs -> AL p = true:=fun p hp=>by
 obtain ⟨x,_,rfl⟩:=AdU.1 hp
 exact (YS hS).1
def dsj (p q : List Ce) : Prop:=∀ c,c ∈ p -> ∀ d,d ∈ q -> apart c d
def Aap (p q : List Ce) : Bool:=p.all fun c=>q.all fun d=>!(decide (c.x = d.x) && decide (c.y = d.y))
theorem Hg (p q : List Ce) : Aap p q = true ↔ dsj p q:=by
 unfold Aap dsj apart
 simp only [AdH,AdV,Bool.and_eq_false_iff,decide_eq_false_iff_not]
 refine ⟨fun h c hc d hd hh=>?_,fun h c hc d hd=>?_⟩
 ·rcases h c hc d hd with h | h
  ·exact h hh.1
  ·exact h hh.2
 ·have:=h c hc d hd
  by_cases hx : c.x = d.x
  ·exact .inr fun hy=>this ⟨hx,hy⟩
  ·exact .inl hx
def PO (ps : List (List Ce)) : Prop:=ps.Pairwise dsj
theorem Jg {ps : List (List Ce)} (h : ∀ p,p ∈ ps -> AL p = true) : ps.flatten.Pairwise apart ↔ PO ps:=by
 rw [List.pairwise_flatten]
 refine ⟨fun hh=>hh.2,fun hh=>⟨fun l hl=>Dh (Av (h l hl)).1,hh⟩⟩
theorem LB {ps : List (List Ce)} (h : ∀ p,p ∈ ps -> AL p = true) : ∀ c,c ∈ ps.flatten -> Cr c = true:=fun c hc=>by
 obtain ⟨l,hl,hm⟩:=List.mem_flatten.1 hc
 exact (Av (h l hl)).2.1 c hm
open Classical in
noncomputable def Vw (ps : List (List Ce)) : List Ce × Int:=if PO ps then if 5000 < ps.flatten.length then ([],6) else (Ci ps.flatten,0) else ([],8)
noncomputable def Bh (t : TreeC) (l : List Sh) (xs : List St5) (gens : Int) (res : List Ce) : List Ce × Int :=
 if AJ t = true then if l.length <= 8 /\ xs.length <= 16 then if 0 <= gens /\ gens <= 10000 then if BY t res = 0 then if (l.all (AU t)) = true then if plE t l xs = 0 then Vw (plP t l xs) else ([],plE t l xs) else ([],17) else ([],BY t res) else ([],2) else ([],6) else ([],11)
noncomputable def Bv (t : TreeC) (l : List Sh) (xs : List St5) (gens : Int) (res : List Ce) : Int :=
 if (Bh t l xs gens res).2 = 0 then if (rnE t (Bh t l xs gens res).1 gens).2 = 0 then if (rnE t (Bh t l xs gens res).1 gens).1 = res then 0 else 17 else (rnE t (Bh t l xs gens res).1 gens).2 else (Bh t l xs gens res).2
def shI (v : I) (s : Sh) : List I:=[v,.i .i64 s.m.1,.i .i64 s.m.2.1,.i .i64 s.m.2.2]
def FT (es : List (List I)) (l : List Sh) : Prop:=es.length = l.length /\ ∀ (i : Nat) (s : Sh),l[i]? = some s -> s.c.length <= 1000000 /\ ∃ v,nth es i = some (shI v s) /\ IsSl v (Af s.c)
def EQ (x : St5) : List I:=[.i .i64 x.i,.i .i64 x.n,.i .i64 x.k,.i .i64 x.x,.i .i64 x.y]
def BN (xs : List St5) : List (List I):=xs.map EQ
@[simp] theorem BE (xs : List St5) : (BN xs).length = xs.length:=by simp [BN]
theorem DG {xs : List St5} {i : Nat} {x : St5} (h : xs[i]? = some x) : nth (BN xs) i = some [.i .i64 x.i,.i .i64 x.n,.i .i64 x.k,.i .i64 x.x,.i .i64 x.y]:=by
 rw [AS]
 simp [BN,h,EQ]
theorem Wm {p : List Ce} {x y w h : Int} (e : LG p = [x,y,w,h]) : RX p = (decide (10000 < w) || decide (10000 < h)):=by
 unfold RX
 rw [e]
theorem Sl {t : TreeC} {h n v : I} {es : List (List I)} {s : Sh} (hT : TreeV t h n es) (hv : IsSl v (Af s.c)) (hl : s.c.length <= 1000000) (H : Hp) : Gives G 64 [.m (.ag [.i .i64 t.states,h,n]),.m (.ag (shI v s))] H (.m (.b (AU t s))) H:=by
 have gb:=fun H=>Ade hv (by omega) H
 have gh:=fun H=>has_s hT hv (by omega) s.m H
 obtain ⟨x,y,w,hh,e⟩:=WF s.c
 unfold AU
 unfold OY at gb
 rw [e] at gb
 rw [Wm e]
 generalize (!s.c.isEmpty && AL s.c) = b at *
 generalize VB t s.c s.m = r at *
 obtain ⟨ok,er⟩:=r
 simp only [VA,Jd,Aee,List.map_nil] at gb gh
 refine Ae rfl rfl rfl rfl rfl ?_
 cases b with
 | false=>simp (maxSteps:=2000000) (disch:=omega) [Ab,shI,cl (gb _)]
 | true =>
  by_cases h1 : 10000 < w
  ·simp (maxSteps:=2000000) (disch:=omega) [Ab,shI,cl (gb _),h1]
  ·by_cases h2 : 10000 < hh
   ·simp (maxSteps:=2000000) (disch:=omega) [Ab,shI,cl (gb _),h1,h2]
   ·cases ok with
    | false=>simp (maxSteps:=2000000) (disch:=omega) [Ab,shI,cl (gb _),h1,h2,cl (gh _)]
    | true=>simp (maxSteps:=2000000) (disch:=omega) [Ab,shI,cl (gb _),h1,h2,cl (gh _)]
def phV (r : List Ce × Int) : I:=if r.2 = 0 then .sl (Af r.1) else .nl 4
theorem Oe {n p : Int} (h1 : 0 <= n) (h2 : 0 < p) : n.tmod p = ((n.toNat % p.toNat : Nat) : Int):=by
 obtain ⟨a,rfl⟩:=AdM h1
 obtain ⟨b,rfl⟩:=AdM (Int.le_of_lt h2)
 rfl
theorem YX {t : TreeC} {h n v : I} {es : List (List I)} {s : Sh} (hT : TreeV t h n es) (hv : IsSl v (Af s.c)) (hl : s.c.length <= 1000000) (k : Int) (H : Hp) : Gives G 86 [.m (.ag [.i .i64 t.states,h,n]),.m (.ag (shI v s)),.m (.i .i64 k)] H (.tu [.m (phV (phF t s k)),.m (.i .i64 (phF t s k).2)]) H:=by
 have gq:=fun H=>JQ hT H
 have gr:=fun H=>Sl hT hv hl H
 have hS:=Ca hT
 unfold phF
 cases hq : AJ t with
 | false =>
  rw [hq] at gq
  refine Ae rfl rfl rfl rfl rfl ?_
  simp (maxSteps:=2000000) (disch:=omega) [shI,cl (gq _),phV]
 | true =>
 rw [hq] at gq
 rw [Adu rfl]
 by_cases hk : 0 <= k /\ k <= 10000
 rotate_left
 ·rw [Ads (fun hh=>hk hh.1)]
  refine Ae rfl rfl rfl rfl rfl ?_
  by_cases h1 : k < 0
  ·simp (maxSteps:=2000000) (disch:=omega) [shI,cl (gq _),h1,Ad,phV]
  ·have h2 : 10000 < k:=by omega
   simp (maxSteps:=2000000) (disch:=omega) [shI,cl (gq _),h1,h2,Ad,phV]
 have k1 : ¬ k < 0:=by omega
 have k2 : ¬ 10000 < k:=by omega
 cases hok : AU t s with
 | false =>
  rw [hok] at gr
  rw [Ads (fun hh=>by cases hh.2)]
  refine Ae rfl rfl rfl rfl rfl ?_
  simp only [shI] at gr
  simp (maxSteps:=2000000) (disch:=omega) [cl (gq _),k1,k2,Ad,shI,cl (gr _),phV]
 | true =>
  rw [hok] at gr
  rw [Adu ⟨hk,rfl⟩]
  have hR:=DR hS hok
  have hp:=hR.p1
  have hlt : ((k.toNat % s.m.1.toNat : Nat) : Int) < s.m.1:=by
   have:=Nat.mod_lt k.toNat (show 0 < s.m.1.toNat from by omega)
   omega
  obtain ⟨p1,p2,p3,_⟩:=hR.ph _ hlt
  obtain ⟨x,hx,gx⟩:=YP hT hv (by omega) ((k.toNat % s.m.1.toNat : Nat) : Int)
  unfold rnE at hx gx
  rw [Adu hR.ck,Adu (by have:=hR.p2; omega)] at hx gx
  rw [show (((k.toNat % s.m.1.toNat : Nat) : Int)).toNat = k.toNat % s.m.1.toNat from rfl] at hx gx
  have gh:=fun H=>WA hx (Bd p3).2.1 H
  rw [Ads p2] at gh
  rw [p1] at gx
  have ht:=Oe hk.1 (show 0 < s.m.1 from by omega)
  have hne : ¬ s.m.1 = 0:=by omega
  simp only [shI] at gr
  unfold phV
  dsimp only
  rw [Adu rfl]
  generalize Bs (BK t (k.toNat % s.m.1.toNat) s.c).1 = q at *
  generalize k.toNat % s.m.1.toNat = m at *
  refine Ae rfl rfl rfl rfl rfl ?_
  simp (maxSteps:=2000000) (disch:=omega) [cl (gq _),k1,k2,Ad,shI,cl (gr _),ht,hne,Aa (show -9223372036854775808 <= ((m : Nat) : Int) from by omega) (show ((m : Nat) : Int) <= 9223372036854775807 from by have:=hR.p2; omega),cl (gx _),cl (gh _)]
theorem MN {k : Int} (h : 0 <= k /\ k <= 7) : Db k = k.toNat:=by unfold Db; omega
theorem Sx {t : TreeC} {h n z : I} {es fs : List (List I)} {l : List Sh} (hT : TreeV t h n es) (hz : IsSl z fs) (hs : FT fs l) (x : St5) : ∃ u,IsSl u (Af (plF t l x).1) /\ ∀ H,Gives G 45 [.m (.ag [.i .i64 t.states,h,n]),.m z,.m (.ag (EQ x))] H (.tu [.m u,.m (.i .i64 (plF t l x).2)]) H:=by
 have gq:=fun H=>JQ hT H
 have hS:=Ca hT
 have hrz:=hz.rules
 rw [hs.1] at hrz
 unfold plF
 cases hq : AJ t with
 | false =>
  rw [hq] at gq
  refine ⟨.nl 4,AC,fun H=>Ae rfl rfl rfl rfl rfl ?_⟩
  simp (maxSteps:=2000000) (disch:=omega) [EQ,cl (gq _)]
 | true =>
 rw [hq] at gq
 rw [Adu rfl]
 by_cases h0 : x.i < 0
 ·rw [Ads (by omega)]
  refine ⟨.nl 4,AC,fun H=>Ae rfl rfl rfl rfl rfl ?_⟩
  simp (maxSteps:=2000000) (disch:=omega) [EQ,cl (gq _),h0]
 rw [Adu (by omega)]
 obtain ⟨i,hi⟩:=AdM (show 0 <= x.i by omega)
 rw [hi]
 rw [show ((i : Int)).toNat = i from rfl]
 have hi0 : ¬ (i : Int) < 0:=by omega
 cases hx : l[i]? with
 | none =>
  have hge:=Adv.1 hx
  refine ⟨.nl 4,AC,fun H=>Ae rfl rfl rfl rfl rfl ?_⟩
  simp (maxSteps:=2000000) (disch:=omega) [EQ,cl (gq _),hi,hi0,hrz,show (l.length : Int) <= i from by omega]
 | some s =>
 have hlt:=(Adq.1 hx).1
 obtain ⟨hsl,v,hn,hv⟩:=hs.2 i s hx
 have hilt : ¬ (l.length : Int) <= i:=by omega
 have hilt' : ¬ l.length <= i:=by omega
 dsimp only
 by_cases hk : 0 <= x.k /\ x.k <= 7
 rotate_left
 ·rw [Ads (fun hh=>hk hh.1)]
  refine ⟨.nl 4,AC,fun H=>Ae rfl rfl rfl rfl rfl ?_⟩
  by_cases h1 : x.k < 0
  ·simp (maxSteps:=2000000) (disch:=omega) [EQ,cl (gq _),hi,hi0,hrz,hilt,h1]
  ·have h2 : 7 < x.k:=by omega
   simp (maxSteps:=2000000) (disch:=omega) [EQ,cl (gq _),hi,hi0,hrz,hilt,h1,h2]
 have k1 : ¬ x.k < 0:=by omega
 have k2 : ¬ 7 < x.k:=by omega
 have gp:=fun H=>YX hT hv hsl x.n H
 unfold phF at gp
 rw [Adu hq] at gp
 by_cases hP : (0 <= x.n /\ x.n <= 10000) /\ AU t s = true
 rotate_left
 ·rw [Ads (fun hh=>hP hh.2)]
  rw [Ads hP] at gp
  refine ⟨.nl 4,AC,fun H=>Ae rfl rfl rfl rfl rfl ?_⟩
  simp only [shI] at gp hn
  simp (maxSteps:=2000000) (disch:=omega) [EQ,cl (gq _),hi,hi0,hrz,hilt,k1,k2,hn,cl (gp _)]
 rw [Adu ⟨hk,hP⟩]
 rw [Adu hP] at gp
 have hR:=DR hS hP.2
 have hlt2 : ((x.n.toNat % s.m.1.toNat : Nat) : Int) < s.m.1:=by
  have:=hR.p1
  have:=Nat.mod_lt x.n.toNat (show 0 < s.m.1.toNat from by omega)
  omega
 obtain ⟨r1,r2,r3,r4⟩:=Lk hR hlt2 x.k.toNat
 obtain ⟨q,hq2,_⟩:=Wn (Ba (Af (Bs (BK t (x.n.toNat % s.m.1.toNat) s.c).1))) r1 x.k []
 rw [MN hk] at hq2
 have e1:=Od (Av r1).1 hq2
 have gt : ∀ H,Gives G 87 [.m (.i .i64 x.k),.m (.sl (Af (Bs (BK t (x.n.toNat % s.m.1.toNat) s.c).1)))] H (.tu [.m (.sl (Af (tnS x.k.toNat (Bs (BK t (x.n.toNat % s.m.1.toNat) s.c).1)))),.m (.i .i64 0)]) H:=fun H=>by
  obtain ⟨q',hq',g⟩:=Wn (Ba (Af (Bs (BK t (x.n.toNat % s.m.1.toNat) s.c).1))) r1 x.k H
  rw [MN hk] at hq'
  rw [<- Od (Av r1).1 hq']
  exact g
 have gh:=fun H=>WA (Ba (Af (tnS x.k.toNat (Bs (BK t (x.n.toNat % s.m.1.toNat) s.c).1)))) r2 H
 have hnn : ¬ tnS x.k.toNat (Bs (BK t (x.n.toNat % s.m.1.toNat) s.c).1) = []:=fun e=>r4 (by unfold PH; rw [e]; rfl)
 rw [Ads hnn] at gh
 obtain ⟨u,hu,gs⟩:=Oh (Ba (Af (PH t s (x.n.toNat % s.m.1.toNat) x.k.toNat))) r3 x.x x.y
 refine ⟨u,hu,fun H=>Ae rfl rfl rfl rfl rfl ?_⟩
 simp only [phV,Adu] at gp
 unfold PH at gs ⊢
 generalize tnS x.k.toNat (Bs (BK t (x.n.toNat % s.m.1.toNat) s.c).1) = q1 at *
 generalize Bs (BK t (x.n.toNat % s.m.1.toNat) s.c).1 = q2 at *
 generalize Bs q1 = q3 at *
 generalize shF q3 x.x x.y = res at *
 simp only [shI] at gp hn
 simp (maxSteps:=2000000) (disch:=omega) [EQ,cl (gq _),hi,hi0,hrz,hilt,k1,k2,hn,cl (gp _),cl (gt _),cl (gh _),cl (gs _)]
theorem MC {t : TreeC} {h n v : I} {es : List (List I)} {s : Sh} (hT : TreeV t h n es) (hv : IsSl v (Af s.c)) (hl : s.c.length <= 1000000) (H : Hp) : Gives G 38 [.m (.ag [.i .i64 t.states,h,n]),.m (.ag (shI v s))] H (.m (.b (AU t s))) H:=by
 have gb:=fun H=>Adf hv (by omega) H
 have gh:=fun H=>has_r hT hv (by omega) s.m H
 obtain ⟨x,y,w,hh,e⟩:=WF s.c
 unfold AU
 unfold OY at gb
 rw [e] at gb
 rw [Wm e]
 generalize (!s.c.isEmpty && AL s.c) = b at *
 generalize VB t s.c s.m = r at *
 obtain ⟨ok,er⟩:=r
 simp only [VA,Jd,Aee,List.map_nil] at gb gh
 refine Ae rfl rfl rfl rfl rfl ?_
 have e1 : decide (w <= 10000) = !decide (10000 < w):=by by_cases h : 10000 < w <;> simp [h] <;> omega
 have e2 : decide (hh <= 10000) = !decide (10000 < hh):=by by_cases h : 10000 < hh <;> simp [h] <;> omega
 cases ok with
 | false=>simp (maxSteps:=2000000) (disch:=omega) [Ab,shI,cl (gb _),cl (gh _)]
 | true =>
  by_cases he : er = 0
  ·cases b with
   | false=>simp (maxSteps:=2000000) (disch:=omega) [Ab,shI,cl (gb _),cl (gh _),he]
   | true =>
    by_cases h1 : 10000 < w
    ·simp (maxSteps:=2000000) (disch:=omega) [Ab,shI,cl (gb _),cl (gh _),he,h1,show ¬ w <= 10000 from by omega]
    ·simp (maxSteps:=2000000) (disch:=omega) [Ab,shI,cl (gb _),cl (gh _),he,h1,show w <= 10000 from by omega,e2]
  ·simp (maxSteps:=2000000) (disch:=omega) [Ab,shI,cl (gb _),cl (gh _),he]
theorem To {t : TreeC} {h n v : I} {es : List (List I)} {s : Sh} (hT : TreeV t h n es) (hv : IsSl v (Af s.c)) (hl : s.c.length <= 1000000) (hR : ShipR t s) {i : Nat} (hi : (i : Int) < s.m.1) : ∃ x,IsSl x (Af (BK t i s.c).1) /\ ∀ H,Gives G 152 [.m (.ag [.i .i64 t.states,h,n]),.m (.ag (shI v s)),.m (.i .i64 (i : Int))] H (.m x) H:=by
 obtain ⟨x,hx,gx⟩:=YQ hT hv (by omega) (i : Int)
 have hp2:=hR.p2
 unfold rnE at hx gx
 rw [Adu hR.ck,Adu (by omega)] at hx gx
 rw [show ((i : Int)).toNat = i from rfl] at hx gx
 refine ⟨x,hx,fun H=>Ae rfl rfl rfl rfl rfl ?_⟩
 simp (maxSteps:=2000000) (disch:=omega) [shI,cl (gx _)]
theorem YY {t : TreeC} {h n v : I} {es : List (List I)} {s : Sh} (hT : TreeV t h n es) (hv : IsSl v (Af s.c)) (hl : s.c.length <= 1000000) {k : Int} (hk : 0 <= k /\ k <= 10000) (hok : AU t s = true) (H : Hp) : Gives G 114 [.m (.ag [.i .i64 t.states,h,n]),.m (.ag (shI v s)),.m (.i .i64 k)] H (.tu [.m (zP (Bs (BK t (k.toNat % s.m.1.toNat) s.c).1)),.m (.i .i64 0)]) H:=by
 have hS:=Ca hT
 have gq:=fun H=>JR hT H
 have gr:=fun H=>MC hT hv hl H
 have hR:=DR hS hok
 rw [hR.q] at gq
 rw [hok] at gr
 have k1 : ¬ k < 0:=by omega
 have k2 : ¬ 10000 < k:=by omega
 have hp:=hR.p1
 have hp2:=hR.p2
 have hlt : ((k.toNat % s.m.1.toNat : Nat) : Int) < s.m.1:=by
  have:=Nat.mod_lt k.toNat (show 0 < s.m.1.toNat from by omega)
  omega
 obtain ⟨p1,p2,p3,_⟩:=hR.ph _ hlt
 obtain ⟨x,hx,gx⟩:=To hT hv hl hR hlt
 have gh:=fun H=>Th hx (Bd p3).2.1 H
 rw [Ads p2] at gh
 have ht:=Oe hk.1 (show 0 < s.m.1 from by omega)
 have hne : ¬ s.m.1 = 0:=by omega
 simp only [shI] at gr gx
 generalize zP (Bs (BK t (k.toNat % s.m.1.toNat) s.c).1) = q at *
 generalize k.toNat % s.m.1.toNat = m at *
 refine Ae rfl rfl rfl rfl rfl ?_
 simp (maxSteps:=2000000) (disch:=omega) [cl (gq _),k1,k2,shI,cl (gr _),ht,hne,Aa (show -9223372036854775808 <= ((m : Nat) : Int) from by omega) (show ((m : Nat) : Int) <= 9223372036854775807 from by omega),cl (gx _),cl (gh _)]
theorem YH {t : TreeC} {h n v : I} {es : List (List I)} {s : Sh} (hT : TreeV t h n es) (hv : IsSl v (Af s.c)) (hl : s.c.length <= 1000000) {k c : Int} (hk : 0 <= k /\ k <= 10000) (hc : 0 <= c /\ c <= 7) (hok : AU t s = true) (H : Hp) : Gives G 77 [.m (.ag [.i .i64 t.states,h,n]),.m (.ag (shI v s)),.m (.i .i64 k),.m (.i .i64 c)] H (.m (zP (PH t s (k.toNat % s.m.1.toNat) c.toNat))) H:=by
 have hS:=Ca hT
 have hR:=DR hS hok
 have hp:=hR.p1
 have hlt : ((k.toNat % s.m.1.toNat : Nat) : Int) < s.m.1:=by
  have:=Nat.mod_lt k.toNat (show 0 < s.m.1.toNat from by omega)
  omega
 have gp:=fun H=>YY hT hv hl hk hok H
 obtain ⟨r1,r2,r3,r4⟩:=Lk hR hlt c.toNat
 have gt:=fun H=>Yx (Ch (Bs (BK t (k.toNat % s.m.1.toNat) s.c).1)) r1 c (by omega) H
 rw [MN hc] at gt
 have gh:=fun H=>Th (Ch (tnS c.toNat (Bs (BK t (k.toNat % s.m.1.toNat) s.c).1))) r2 H
 have hnn : ¬ tnS c.toNat (Bs (BK t (k.toNat % s.m.1.toNat) s.c).1) = []:=fun e=>r4 (by unfold PH; rw [e]; rfl)
 rw [Ads hnn] at gh
 unfold PH
 generalize zP (Bs (tnS c.toNat (Bs (BK t (k.toNat % s.m.1.toNat) s.c).1))) = z3 at *
 generalize zP (tnS c.toNat (Bs (BK t (k.toNat % s.m.1.toNat) s.c).1)) = z2 at *
 generalize zP (Bs (BK t (k.toNat % s.m.1.toNat) s.c).1) = z1 at *
 simp only [shI] at gp
 refine Ae rfl rfl rfl rfl rfl ?_
 simp (maxSteps:=2000000) (disch:=omega) [shI,cl (gp _),cl (gt _),cl (gh _)]
theorem Oz (x : Int) (H : Hp) : Gives G 76 [.m (.i .i64 x)] H (.m (.b (decide (-2097152 <= x /\ x <= 2097152)))) H:=by
 refine Ae rfl rfl rfl rfl rfl ?_
 by_cases h1 : -2097152 <= x
 ·by_cases h2 : x <= 2097152
  ·simp (maxSteps:=2000000) (disch:=omega) [h1,h2]
  ·simp (maxSteps:=2000000) (disch:=omega) [h1,h2]
 ·simp (maxSteps:=2000000) (disch:=omega) [h1]
noncomputable def ckF (t : TreeC) (l : List Sh) (x : St5) : Int:=if AJ t = true then match (if 0 <= x.i then l[x.i.toNat]? else none) with
  | some s=>if (0 <= x.k /\ x.k <= 7) /\ ((0 <= x.n /\ x.n <= 10000) /\ AU t s = true) then 0 else 2
  | none=>13
 else 11
set_option maxHeartbeats 2000000 in
theorem Tv {t : TreeC} {h n z : I} {es fs : List (List I)} {l : List Sh} (hT : TreeV t h n es) (hz : IsSl z fs) (hs : FT fs l) (x : St5) (H : Hp) : Gives G 75 [.m (.ag [.i .i64 t.states,h,n]),.m z,.m (.ag (EQ x))] H (.m (.i .i64 (ckF t l x))) H:=by
 have gq:=fun H=>JR hT H
 have hrz:=hz.rules
 rw [hs.1] at hrz
 unfold ckF
 cases hq : AJ t with
 | false =>
  rw [hq] at gq
  refine Ae rfl rfl rfl rfl rfl ?_
  simp (maxSteps:=2000000) (disch:=omega) [EQ,cl (gq _)]
 | true =>
 rw [hq] at gq
 rw [Adu rfl]
 by_cases h0 : x.i < 0
 ·rw [Ads (by omega)]
  refine Ae rfl rfl rfl rfl rfl ?_
  simp (maxSteps:=2000000) (disch:=omega) [EQ,cl (gq _),h0]
 rw [Adu (by omega)]
 obtain ⟨i,hi⟩:=AdM (show 0 <= x.i by omega)
 rw [hi]
 rw [show ((i : Int)).toNat = i from rfl]
 have hi0 : ¬ (i : Int) < 0:=by omega
 cases hx : l[i]? with
 | none =>
  have hge:=Adv.1 hx
  refine Ae rfl rfl rfl rfl rfl ?_
  simp (maxSteps:=2000000) (disch:=omega) [EQ,cl (gq _),hi,hi0,hrz,show (l.length : Int) <= i from by omega]
 | some s =>
 have hlt:=(Adq.1 hx).1
 obtain ⟨hsl,v,hn,hv⟩:=hs.2 i s hx
 have hilt : ¬ (l.length : Int) <= i:=by omega
 have hilt' : ¬ l.length <= i:=by omega
 have hlt' : (i : Int) < l.length:=by omega
 have gr:=fun H=>MC hT hv hsl H
 simp only [shI] at gr hn
 dsimp only
 refine Ae rfl rfl rfl rfl rfl ?_
 cases hok : AU t s with
 | false =>
  rw [hok] at gr
  rw [Ads (fun hh=>by cases hh.2.2)]
  simp (maxSteps:=2000000) (disch:=omega) [EQ,cl (gq _),hi,hi0,hrz,hilt,hn,cl (gr _)]
 | true =>
  rw [hok] at gr
  by_cases h1 : x.n < 0
  ·rw [Ads (by omega)]
   simp (maxSteps:=2000000) (disch:=omega) [EQ,cl (gq _),hi,hi0,hrz,hilt,hn,cl (gr _),h1]
  by_cases h2 : 10000 < x.n
  ·rw [Ads (by omega)]
   simp (maxSteps:=2000000) (disch:=omega) [EQ,cl (gq _),hi,hi0,hrz,hilt,hn,cl (gr _),h1,h2]
  by_cases h3 : x.k < 0
  ·rw [Ads (by omega)]
   simp (maxSteps:=2000000) (disch:=omega) [EQ,cl (gq _),hi,hi0,hrz,hilt,hn,cl (gr _),h1,h2,h3]
  by_cases h4 : 7 < x.k
  ·rw [Ads (by omega)]
   simp (maxSteps:=2000000) (disch:=omega) [EQ,cl (gq _),hi,hi0,hrz,hilt,hn,cl (gr _),h1,h2,h3,h4]
  rw [Adu ⟨by omega,by omega,rfl⟩]
  simp (maxSteps:=2000000) (disch:=omega) [EQ,cl (gq _),hi,hi0,hrz,hilt,hn,cl (gr _),h1,h2,h3,h4]
theorem Sy {t : TreeC} {h n z : I} {es fs : List (List I)} {l : List Sh} (hT : TreeV t h n es) (hz : IsSl z fs) (hs : FT fs l) (x : St5) (H : Hp) : Gives G 39 [.m (.ag [.i .i64 t.states,h,n]),.m z,.m (.ag (EQ x))] H (.tu [.m (zP (plF t l x).1),.m (.i .i64 (plF t l x).2)]) H:=by
 have hS:=Ca hT
 have gc:=fun H=>Tv hT hz hs x H
 have hrz:=hz.rules
 rw [hs.1] at hrz
 simp only [EQ] at gc
 by_cases hE : ckF t l x = 0
 rotate_left
 ·have e : plF t l x = ([],ckF t l x):=by
   unfold ckF plF at *
   by_cases h1 : AJ t = true
   ·simp only [Adu h1] at hE ⊢
    generalize (if 0 <= x.i then l[x.i.toNat]? else none) = o at *
    cases o with
    | none=>rfl
    | some s =>
     dsimp only at hE ⊢
     by_cases h3 : (0 <= x.k /\ x.k <= 7) /\ ((0 <= x.n /\ x.n <= 10000) /\ AU t s = true)
     ·rw [Adu h3] at hE
      exact absurd rfl hE
     ·simp only [Ads h3]
   ·simp only [Ads h1]
  rw [e]
  refine Ae rfl rfl rfl rfl rfl ?_
  simp (maxSteps:=2000000) (disch:=omega) [EQ,cl (gc _),hE,zP]
 have hok : AJ t = true /\ ∃ (i : Nat) (s : Sh),x.i = i /\ l[i]? = some s /\ (0 <= x.k /\ x.k <= 7) /\ (0 <= x.n /\ x.n <= 10000) /\ AU t s = true /\ plF t l x = shF (PH t s (x.n.toNat % s.m.1.toNat) x.k.toNat) x.x x.y:=by
  unfold ckF at hE
  unfold plF
  by_cases h1 : AJ t = true
  ·rw [Adu h1] at hE ⊢
   by_cases h0 : 0 <= x.i
   ·rw [Adu h0] at hE ⊢
    cases hx : l[x.i.toNat]? with
    | none=>rw [hx] at hE; cases hE
    | some s =>
     rw [hx] at hE
     dsimp only at hE ⊢
     by_cases h3 : (0 <= x.k /\ x.k <= 7) /\ ((0 <= x.n /\ x.n <= 10000) /\ AU t s = true)
     ·rw [Adu h3]
      exact ⟨h1,x.i.toNat,s,by omega,hx,h3.1,h3.2.1,h3.2.2,rfl⟩
     ·rw [Ads h3] at hE
      cases hE
   ·rw [Ads h0] at hE
    cases hE
  ·rw [Ads h1] at hE
   cases hE
 obtain ⟨hq,i,s,hi,hx,hk,hn2,hok,e⟩:=hok
 rw [e]
 rw [hE] at gc
 have hlt:=(Adq.1 hx).1
 have hlt' : (i : Int) < l.length:=by omega
 obtain ⟨hsl,v,hn,hv⟩:=hs.2 i s hx
 have hR:=DR hS hok
 have hp:=hR.p1
 have hlt2 : ((x.n.toNat % s.m.1.toNat : Nat) : Int) < s.m.1:=by
  have:=Nat.mod_lt x.n.toNat (show 0 < s.m.1.toNat from by omega)
  omega
 obtain ⟨_,_,r3,_⟩:=Lk hR hlt2 x.k.toNat
 have gs:=fun H=>YH hT hv hsl hn2 hk hok H
 have gsh:=fun H=>JN (Ch (PH t s (x.n.toNat % s.m.1.toNat) x.k.toNat)) r3 x.x x.y H
 have gnx:=fun H=>Oz x.x H
 have gny:=fun H=>Oz x.y H
 simp only [shI] at gs hn
 generalize PH t s (x.n.toNat % s.m.1.toNat) x.k.toNat = q at *
 refine Ae rfl rfl rfl rfl rfl ?_
 by_cases hX : -2097152 <= x.x /\ x.x <= 2097152
 rotate_left
 ·rw [AdB hX] at gnx
  rw [Ll (fun hh=>hX hh.1)]
  simp (maxSteps:=2000000) (disch:=omega) [EQ,cl (gc _),cl (gnx _),Ad,zP]
 rw [AdA hX] at gnx
 by_cases hY : -2097152 <= x.y /\ x.y <= 2097152
 rotate_left
 ·rw [AdB hY] at gny
  rw [Ll (fun hh=>hY hh.2)]
  simp (maxSteps:=2000000) (disch:=omega) [EQ,cl (gc _),cl (gnx _),cl (gny _),Ad,zP]
 rw [AdA hY] at gny
 generalize shF q x.x x.y = res at *
 generalize zP res.1 = z1 at *
 generalize zP q = z2 at *
 simp only [hi] at gc
 simp (maxSteps:=2000000) (disch:=omega) [EQ,hi,cl (gc _),cl (gnx _),cl (gny _),Ad,hrz,hn,cl (gs _),cl (gsh _)]
end Go.Mx.Tryz
