/- Ships and shots: Right, Place of the reference. -/
import Derived.Test.YtlhjjcaifenlbaaGreatDoorRc
import Derived.Test.YtlhjjcaifenlbaaGreatDoorRf
import Derived.Test.YtlhjjcaifenlbaaGreatDoorVn
set_option linter.unusedSimpArgs false
set_option linter.unusedVariables false
set_option linter.unusedSectionVars false
set_option maxRecDepth 100000
namespace Go.Mx.Tryz
open Go.Lib Go.Proofs
theorem Ch {t : TreeC} {h n : I} {es : List (List I)} (hT : TreeV t h n es) : Ei t:=fun p hc=>by
 obtain ⟨x,⟨q,e,hs,rfl⟩,g⟩:=VI hT (Cr p) hc []
 rw [Is hs]
 exact hs
theorem Rv {t : TreeC} {h n v : I} {es : List (List I)} {p : List Ce} (hT : TreeV t h n es) (hv : IsSl v (Ag p)) (hc : BR t p = 0) (H : Hp) : Gives G 82 [.m (.ag [.i .i64 t.states,h,n]),.m v] H (.tu [.m (zP (stp t p).1),.m (.i .i64 (stp t p).2)]) H:=by
 obtain ⟨x,⟨q,e,hs,rfl⟩,g⟩:=VI hT hv hc H
 rw [Is hs]
 exact g
theorem XR {t : TreeC} {h n v : I} {es : List (List I)} {p : List Ce} (hT : TreeV t h n es) (hv : IsSl v (Ag p)) (hc : BR t p = 0) (H : Hp) : Gives G 58 [.m (.ag [.i .i64 t.states,h,n]),.m v] H (.tu [.m (zP (stp t p).1),.m (.i .i64 (stp t p).2)]) H:=by
 obtain ⟨x,⟨q,e,hs,rfl⟩,g⟩:=Ru hT hv hc H
 rw [Is hs]
 exact g
theorem XS {t : TreeC} {h n v : I} {es : List (List I)} {p : List Ce} (hT : TreeV t h n es) (hv : IsSl v (Ag p)) (hl : (p.length : Int) <= 9223372036854775806) (H : Hp) : Gives G 56 [.m (.ag [.i .i64 t.states,h,n]),.m v] H (.tu [.m (zP (VH t p).1),.m (.i .i64 (VH t p).2)]) H:=by
 have g1:=fun H=>SM hT hv hl H
 unfold VH
 by_cases hc : BR t p = 0
 ·rw [AcC hc]
  have g2:=fun H=>Rv hT hv hc H
  rw [hc] at g1
  generalize stp t p = r at *
  obtain ⟨q,e⟩:=r
  dsimp only at *
  generalize zP q = z at *
  refine Ae rfl rfl rfl rfl rfl ?_
  simp (maxSteps:=2000000) (disch:=omega) [cl (g1 _),cl (g2 _)]
 ·rw [Acz hc]
  refine Ae rfl rfl rfl rfl rfl ?_
  simp (maxSteps:=2000000) (disch:=omega) [cl (g1 _),hc]
  rfl
theorem XT {t : TreeC} {h n v : I} {es : List (List I)} {p : List Ce} (hT : TreeV t h n es) (hv : IsSl v (Ag p)) (hl : (p.length : Int) <= 9223372036854775806) (H : Hp) : Gives G 58 [.m (.ag [.i .i64 t.states,h,n]),.m v] H (.tu [.m (zP (VH t p).1),.m (.i .i64 (VH t p).2)]) H:=by
 unfold VH
 by_cases hc : BR t p = 0
 ·rw [AcC hc]
  exact XR hT hv hc H
 ·rw [Acz hc]
  have g1:=fun H=>IE hT hv hl H
  refine Ae rfl rfl rfl rfl rfl ?_
  simp (maxSteps:=2000000) (disch:=omega) [cl (g1 _),hc]
  rfl
theorem Fm {t : TreeC} (hS : Ei t) : ∀ (n : Nat) (p : List Ce),BR t p = 0 -> (BC t n p).2 = 0 -> BC t (n + 1) p = stp t (BC t n p).1
 | 0,p,hc,_=>by
  show (if (stp t p).2 = 0 then ((stp t p).1,0) else ([],(stp t p).2)) = stp t p
  by_cases he : (stp t p).2 = 0
  ·rw [AcC he]; exact Prod.ext rfl he.symm
  ·rw [Acz he]; exact Prod.ext (Rt (hS p hc) he).symm rfl
 | n + 1,p,hc,h=>by
  have e1 : ∀ k,BC t (k + 1) p = if (stp t p).2 = 0 then BC t k (stp t p).1 else ([],(stp t p).2):=fun k=>by rw [BC]
  by_cases he : (stp t p).2 = 0
  ·rw [e1,AcC he] at h ⊢
   rw [e1,AcC he]
   exact Fm hS n _ (Ir hc (hS p hc) he) h
  ·rw [e1,Acz he] at h
   exact absurd h he
theorem Hv {t : TreeC} : ∀ (k n : Nat) (p : List Ce),k <= n -> ¬ (BC t k p).2 = 0 -> BC t n p = BC t k p
 | 0,_,p,_,h=>absurd rfl h
 | k + 1,0,p,hl,_=>absurd hl (by omega)
 | k + 1,n + 1,p,hl,h=>by
  rw [BC] at h
  rw [BC,BC]
  by_cases he : (stp t p).2 = 0
  ·rw [AcC he] at h
   rw [AcC he,AcC he]
   exact Hv k n _ (by omega) h
  ·rw [Acz he,Acz he]
theorem NU {t : TreeC} (hS : Ei t) {p : List Ce} (hc : BR t p = 0) {l : List (List Ce)} (h : HisR t p l) : ∀ (i : Nat) (q : List Ce),l[i]? = some q -> BC t i p = (q,0):=by
 induction h with
 | one =>
  intro i q hq
  cases i with
  | zero=>cases hq; rfl
  | succ i=>simp at hq
 | @snoc ps a q h1 h2 ih =>
  intro i x hx
  by_cases hi : i < (ps ++ [a]).length
  ·rw [AcS hi] at hx
   exact ih i x hx
  ·have hlt:=(Acy.1 hx).1
   have : i = ps.length + 1:=by simp at hlt hi; omega
   subst this
   have e0:=ih ps.length a (by simp)
   have e1:=Fm hS ps.length p hc (by rw [e0])
   rw [e1,e0]
   have ex : x = q:=by
    rw [AdA (by simp)] at hx
    simpa using hx.symm
   rw [ex]
   exact Is h2
theorem UO {t : TreeC} (hS : Ei t) {p : List Ce} (hc : BR t p = 0) {n : Nat} {ps : List (List Ce)} {e : Int} (h : HisQ t p n (ps,e)) : (e = 0 -> ∃ q,ps[n]? = some q /\ BC t n p = (q,0)) /\ (¬ e = 0 -> BC t n p = ([],e)):=by
 rcases h with ⟨h1,h2,h3⟩ | ⟨qs,a,h1,h2,h3,h4,h5⟩
 ·dsimp only at h1 h2 h3
  refine ⟨fun _=>?_,fun h=>absurd h1 h⟩
  obtain ⟨q,hq⟩ : ∃ q,ps[n]? = some q:=⟨_,AcA (by omega)⟩
  exact ⟨q,hq,NU hS hc h3 n q hq⟩
 ·dsimp only at h3 h4
  refine ⟨fun h=>absurd h h4,fun _=>?_⟩
  have e0:=NU hS hc h2 qs.length a (by simp)
  have e1:=Fm hS qs.length p hc (by rw [e0])
  rw [e0,Is h3] at e1
  rw [Hv (qs.length + 1) n p (by omega) (by rw [e1]; exact h4),e1]
end Go.Mx.Tryz
set_option maxHeartbeats 4000000
namespace Go.Mx.Tryz
open Go.Lib Go.Proofs
theorem Ye {t : TreeC} {h n v : I} {es : List (List I)} {p : List Ce} (hT : TreeV t h n es) (hv : IsSl v (Ag p)) (hl : (p.length : Int) <= 9223372036854775806) (m : Int) : ∃ x,IsSl x (Ag (rnE t p m).1) /\ ∀ H,Gives G 41 [.m (.ag [.i .i64 t.states,h,n]),.m v,.m (.i .i64 m)] H (.tu [.m x,.m (.i .i64 (rnE t p m).2)]) H:=by
 have g1:=fun H=>SM hT hv hl H
 unfold rnE
 by_cases hc : BR t p = 0
 rotate_left
 ·rw [Acz hc]
  refine ⟨.nl 4,AH,fun H=>?_⟩
  refine Ae rfl rfl rfl rfl rfl ?_
  simp (maxSteps:=2000000) (disch:=omega) [cl (g1 _),hc]
 rw [AcC hc]
 rw [hc] at g1
 by_cases hm : 0 <= m /\ m <= 10000
 rotate_left
 ·rw [Acz hm]
  refine ⟨.nl 4,AH,fun H=>?_⟩
  refine Ae rfl rfl rfl rfl rfl ?_
  by_cases h0 : m < 0
  ·simp (maxSteps:=2000000) (disch:=omega) [cl (g1 _),h0]
  ·have h1 : (10000 : Int) < m:=by omega
   simp (maxSteps:=2000000) (disch:=omega) [cl (g1 _),h0,h1]
 rw [AcC hm]
 have hS:=Ch hT
 obtain ⟨k,rfl⟩:=AcQ hm.1
 have hk : k <= 10000:=by omega
 rw [show ((k : Int)).toNat = k from rfl]
 have key : ∃ x H',Gives G 41 [.m (.ag [.i .i64 t.states,h,n]),.m v,.m (.i .i64 (k : Int))] [] x H' /\ (H' = [] /\ ∃ z,IsSl z (Ag (BC t k p).1) /\ x = .tu [.m z,.m (.i .i64 (BC t k p).2)]):=by
  refine AQ ?_
  refine Cu rfl rfl rfl rfl rfl ?_
  generalize hQ : (fun (x : V) (H' : Hp)=>H' = [] /\ ∃ z,IsSl z (Ag (BC t k p).1) /\ x = .tu [.m z,.m (.i .i64 (BC t k p).2)]) = Q
  have qk : ∀ q z,BC t k p = (q,0) -> IsSl z (Ag q) -> Q (.tu [.m z,.m (.i .i64 0)]) []:=fun q z h1 h2=>by rw [<- hQ]; exact ⟨rfl,z,by rw [h1]; exact h2,by rw [h1]⟩
  have qe : ∀ e,BC t k p = ([],e) -> Q (.tu [.m (.nl 4),.m (.i .i64 e)]) []:=fun e h1=>by rw [<- hQ]; exact ⟨rfl,.nl 4,by rw [h1]; exact AH,by rw [h1]⟩
  clear hQ
  have m0 : ¬ (k : Int) < 0:=by omega
  have m1 : ¬ (10000 : Int) < k:=by omega
  have m2 : ¬ 10000 < k:=by omega
  simp (maxSteps:=2000000) (disch:=omega) [cl (g1 _),m0,m1]
  refine (?key : ∀ (i : Nat) (q : List Ce) (u : I) (B : List (Nat × List V)),i <= k -> BC t i p = (q,0) -> BR t q = 0 -> IsSl u (Ag q) -> getB B 3 = some [.m (.i .i64 t.states),.m h,.m n] -> Run G c41_B0 (S41_0 (.m u) (.fa 3 0) (.m (.i .i64 (k : Int))) (.m (.i .i64 (i : Int))) B []) _) 0 p v _ (AcF _) rfl hc hv rfl
  refine Bk (fun i : Nat=>k - i) fun i ih q u B hi hr hcq hu hB=>?_
  unfold c41_B0
  by_cases hik : i < k
  ·have hik2 : (i : Int) < k:=by omega
   have wi : wr .i64 ((i : Int) + 1) = ((i + 1 : Nat) : Int):=Aa (by omega) (by omega)
   have gs:=fun H=>Rv hT hu hcq H
   have e1:=Fm hS i p hc (by rw [hr])
   rw [hr] at e1
   dsimp only at e1
   by_cases he : (stp t q).2 = 0
   ·have k2:=fun B'=>ih (i + 1) (by omega) (stp t q).1 (zP (stp t q).1) B' (by omega) (by rw [e1]; exact Prod.ext rfl he) (Ir hcq (hS q hcq) he) (Cr _)
    rw [he] at gs
    generalize zP (stp t q).1 = z at *
    simp (maxSteps:=2000000) (disch:=omega) [hik2,hB,cl (gs _),wi,-Int.natCast_add]
    exact k2 _ hB
   ·have k2:=qe (stp t q).2 (by rw [Hv (i + 1) k p (by omega) (by rw [e1]; exact he),e1]; exact Prod.ext (Rt (hS q hcq) he) rfl)
    generalize (stp t q).2 = e at *
    generalize zP (stp t q).1 = z at *
    simp (maxSteps:=2000000) (disch:=omega) [hik2,hB,cl (gs _),he]
    exact k2
  ·have : i = k:=by omega
   subst this
   have k2:=qk q u hr hu
   simp (maxSteps:=2000000) (disch:=omega) []
   exact k2
 obtain ⟨x,H',g,rfl,z,h1,rfl⟩:=key
 exact ⟨z,h1,fun H=>Ba (H:=H) (is:=[.ag [.i .i64 t.states,h,n],v,.i .i64 (k : Int)]) rfl rfl g rfl (.inl ⟨rfl,rfl⟩)⟩
theorem Yf {t : TreeC} {h n v : I} {es : List (List I)} {p : List Ce} (hT : TreeV t h n es) (hv : IsSl v (Ag p)) (hl : (p.length : Int) <= 9223372036854775806) (m : Int) : ∃ x,IsSl x (Ag (rnE t p m).1) /\ ∀ H,Gives G 43 [.m (.ag [.i .i64 t.states,h,n]),.m v,.m (.i .i64 m)] H (.tu [.m x,.m (.i .i64 (rnE t p m).2)]) H:=by
 unfold rnE
 by_cases hc : BR t p = 0
 rotate_left
 ·rw [Acz hc]
  have g1:=fun H=>AbW hT hv hl hc m H
  refine ⟨.nl 4,AH,fun H=>?_⟩
  refine Ae rfl rfl rfl rfl rfl ?_
  simp (maxSteps:=2000000) (disch:=omega) [cl (g1 _),hc]
 rw [AcC hc]
 by_cases hm : 0 <= m /\ m <= 10000
 rotate_left
 ·rw [Acz hm]
  have g1:=fun H=>AbV hT hv hl hc m (by omega) H
  refine ⟨.nl 4,AH,fun H=>?_⟩
  refine Ae rfl rfl rfl rfl rfl ?_
  simp (maxSteps:=2000000) (disch:=omega) [cl (g1 _)]
 rw [AcC hm]
 have hS:=Ch hT
 obtain ⟨k,rfl⟩:=AcQ hm.1
 have hk : k <= 10000:=by omega
 rw [show ((k : Int)).toNat = k from rfl]
 obtain ⟨x,⟨ps,e,hQ,hx⟩,g0⟩:=his_r hT hv hc k hk []
 have g1 : ∀ H,Gives G 84 [.m (.ag [.i .i64 t.states,h,n]),.m v,.m (.i .i64 (k : Int))] H x H:=fun H=>Ba (H:=H) (is:=[.ag [.i .i64 t.states,h,n],v,.i .i64 (k : Int)]) rfl rfl g0 rfl (.inl ⟨by rcases hx with ⟨_,rfl⟩ | ⟨_,vs,_,rfl⟩ <;> rfl,rfl⟩)
 obtain ⟨q1,q2⟩:=UO hS hc hQ
 rcases hx with ⟨he,rfl⟩ | ⟨he,vs,hP,rfl⟩
 ·rw [q2 he]
  refine ⟨.nl 4,AH,fun H=>?_⟩
  refine Ae rfl rfl rfl rfl rfl ?_
  simp (maxSteps:=2000000) (disch:=omega) [cl (g1 _),he]
 ·obtain ⟨q,hq,hr⟩:=q1 he
  rw [hr]
  have hlt:=(Acy.1 hq).1
  obtain ⟨u,hu⟩ : ∃ u,vs[k]? = some u:=⟨_,AcA (by rw [hP.1]; exact hlt)⟩
  have hn:=KL hu
  have hlen : k < vs.length:=by rw [hP.1]; exact hlt
  have hrv:=(Be (ED vs)).rules
  simp only [HC] at hrv
  refine ⟨u,hP.2 k u q hu hq,fun H=>?_⟩
  refine Ae rfl rfl rfl rfl rfl ?_
  simp (maxSteps:=2000000) (disch:=omega) [cl (g1 _),hrv,hn]
def mvF (a b : Int) (e : Ce) : Ce:=⟨e.x + a,e.y + b,e.s⟩
theorem Yz (c d : Ce) (r s : List Ce) : mvd (c :: r) (d :: s) = if d :: s = (c :: r).map (mvF (d.x - c.x) (d.y - c.y)) then some (d.x - c.x,d.y - c.y) else none:=rfl
theorem UH (c d : Ce) (r s : List Ce) : mvd (c :: r) (d :: s) = if (d :: s).map (mvC d.x d.y) = (c :: r).map (mvC c.x c.y) then some (d.x - c.x,d.y - c.y) else none:=by
 rw [Yz]
 have e : (d :: s = (c :: r).map (mvF (d.x - c.x) (d.y - c.y))) = ((d :: s).map (mvC d.x d.y) = (c :: r).map (mvC c.x c.y)):=by
  refine propext ⟨fun h=>?_,fun h=>?_⟩
  ·have h2:=congrArg (List.map (mvC d.x d.y)) h
   rw [h2,List.map_map]
   refine List.map_congr_left fun e _=>?_
   show mvC d.x d.y (mvF _ _ e) = mvC c.x c.y e
   simp only [mvC,mvF,Ce.mk.injEq,and_true]
   omega
  ·have h2:=congrArg (List.map (mvF d.x d.y)) h
   rw [List.map_map,List.map_map] at h2
   have e1 : ∀ l : List Ce,l.map (mvF d.x d.y ∘ mvC d.x d.y) = l:=fun l=>by
    conv=>rhs; rw [<- List.map_id l]
    refine List.map_congr_left fun e _=>?_
    show mvF d.x d.y (mvC d.x d.y e) = e
    cases e
    simp [mvC,mvF]
   rw [e1] at h2
   rw [h2]
   refine List.map_congr_left fun e _=>?_
   show mvF d.x d.y (mvC c.x c.y e) = mvF _ _ e
   simp only [mvC,mvF,Ce.mk.injEq,and_true]
   omega
 by_cases h : d :: s = (c :: r).map (mvF (d.x - c.x) (d.y - c.y))
 ·rw [AcC h,AcC (e ▸ h)]
 ·rw [Acz h,Acz (fun hh=>h (e ▸ hh))]
theorem NM (p : List Ce) : mvd [] p = none:=by cases p <;> rfl
theorem Yy {p q : List Ce} (h : ¬ p.length = q.length) : mvd p q = none:=by
 cases p with
 | nil=>exact NM q
 | cons c r =>
  cases q with
  | nil=>rfl
  | cons d s =>
   rw [Yz]
   refine Acz fun e=>h ?_
   have:=congrArg List.length e
   rw [AcR] at this
   exact this.symm
def Iz (m : Int × Int × Int) : I:=.ag [.i .i64 m.1,.i .i64 m.2.1,.i .i64 m.2.2]
def mvV : Option (Int × Int) -> V
 | some d=>.tu [.m (.i .i64 d.1),.m (.i .i64 d.2),.m (.b true)]
 | none=>.tu [.m (.i .i64 0),.m (.i .i64 0),.m (.b false)]
def KR (r : (Int × Int × Int) × Bool × Int) : V:=.tu [.m (Iz r.1),.m (.b r.2.1),.m (.i .i64 r.2.2)]
theorem YA {v w : I} {p q : List Ce} (hv : IsSl v (Ag p)) (hw : IsSl w (Ag q)) (hp : AP p = true) (hq : AP q = true) (H : Hp) : Gives G 170 [.m v,.m w] H (mvV (mvd p q)) H:=by
 have hl:=(Az hp).2.2
 have hl2:=(Az hq).2.2
 have hr:=hv.rules
 have hr2:=hw.rules
 simp only [show (Ag p).length = p.length from by simp [Ag]] at hr
 simp only [show (Ag q).length = q.length from by simp [Ag]] at hr2
 refine Ae rfl rfl rfl rfl rfl ?_
 by_cases hlen : p.length = q.length
 rotate_left
 ·have hlen' : ¬ (p.length : Int) = q.length:=by omega
  rw [Yy hlen]
  simp (maxSteps:=2000000) (disch:=omega) [hr,hr2,hlen',mvV]
 cases hpe : p with
 | nil =>
  have hl0 : p.length = 0:=by rw [hpe]; rfl
  rw [<- hpe]
  have hm : mvd p q = none:=by rw [hpe]; exact NM q
  rw [hm]
  have hq0 : q.length = 0:=by omega
  simp (maxSteps:=2000000) (disch:=omega) [hr,hr2,hl0,hq0,mvV]
 | cons c r =>
  obtain ⟨d,s,hqe⟩ : ∃ d s,q = d :: s:=by
   cases q with
   | nil=>rw [hpe] at hlen; simp at hlen
   | cons d s=>exact ⟨d,s,rfl⟩
  have h0 : p[0]? = some c:=by rw [hpe]; rfl
  have h02 : q[0]? = some d:=by rw [hqe]; rfl
  have hn0:=An h0
  have hn02:=An h02
  have hbc:=AG hp (AcE h0)
  have hbd:=AG hq (AcE h02)
  have hm : mvd p q = if q = p.map (mvF (d.x - c.x) (d.y - c.y)) then some (d.x - c.x,d.y - c.y) else none:=by rw [hpe,hqe]; exact Yz c d r s
  rw [<- hpe,hm]
  obtain ⟨dx,hdx⟩ : ∃ dx,dx = d.x - c.x:=⟨_,rfl⟩
  obtain ⟨dy,hdy⟩ : ∃ dy,dy = d.y - c.y:=⟨_,rfl⟩
  have w1 : wr .i64 (d.x - c.x) = dx:=by rw [hdx]; exact Aa (by omega) (by omega)
  have w2 : wr .i64 (d.y - c.y) = dy:=by rw [hdy]; exact Aa (by omega) (by omega)
  rw [<- hdx,<- hdy]
  have hpos : 0 < p.length:=(Al h0).1
  have hpos2 : 0 < q.length:=(Al h02).1
  have hlen' : (p.length : Int) = q.length:=by omega
  have hne : ¬ q.length = 0:=by omega
  have hne' : ¬ (q.length : Int) = 0:=by omega
  simp (maxSteps:=2000000) (disch:=omega) [hr,hr2,hlen,hne,hn0,hn02,w1,w2]
  refine (?key : ∀ (i : Nat) (B : List (Nat × List V)),i <= q.length -> q.take i = (p.map (mvF dx dy)).take i -> Run G c170_B0 (S170_0 (.m v) (.m w) (.m (.i .i64 dx)) (.m (.i .i64 dy)) (.m (.i .i64 (q.length : Int))) (.m (.i .i64 (i : Int))) B []) _) 0 _ (AcF _) rfl
  refine Bk (fun i : Nat=>q.length - i) fun i ih B hi hpre=>?_
  unfold c170_B0
  cases hy : q[i]? with
  | none =>
   have : i = q.length:=by have:=AcB.1 hy; omega
   subst this
   rw [AcV,AcP (by simp; omega)] at hpre
   rw [AcC hpre]
   simp (maxSteps:=2000000) (disch:=omega) [mvV]
  | some b =>
   have hlt2:=(Al hy).1
   obtain ⟨a,hx⟩ : ∃ a,p[i]? = some a:=⟨p[i]'(by omega),AcA _⟩
   have hlt:=(Al hx).1
   have hlt2' : (i : Int) < q.length:=by omega
   have hn:=An hx
   have hn2:=An hy
   have hba:=AG hp (AcE hx)
   have hbb:=AG hq (AcE hy)
   have wi : wr .i64 ((i : Int) + 1) = ((i + 1 : Nat) : Int):=Aa (by omega) (by omega)
   have w3 : wr .i64 (a.x + dx) = a.x + dx:=Aa (by omega) (by omega)
   have w4 : wr .i64 (a.y + dy) = a.y + dy:=Aa (by omega) (by omega)
   have hmy : (p.map (mvF dx dy))[i]? = some (mvF dx dy a):=by rw [AcY,hx]; rfl
   by_cases he : b.x = a.x + dx /\ b.y = a.y + dy /\ b.s = a.s
   ·have e : b = mvF dx dy a:=by
     cases b
     unfold mvF
     simp only [Ce.mk.injEq]
     exact he
    have k2:=fun B'=>ih (i + 1) (by omega) B' (by omega) (Ut hpre hy hmy e)
    simp (maxSteps:=2000000) (disch:=omega) [hr,hr2,hlen,hlt2',hn,hn2,wi,w3,w4,he.1,he.2.1,he.2.2,-Int.natCast_add]
    exact k2 _
   ·have hno : ¬ q = p.map (mvF dx dy):=fun hh=>he (by
     have : q[i]? = some (mvF dx dy a):=by rw [hh]; exact hmy
     rw [hy] at this
     injection this with this
     rw [this]
     exact ⟨rfl,rfl,rfl⟩)
    rw [Acz hno]
    have he1 : (decide (b.x = a.x + dx) && (decide (b.y = a.y + dy) && decide (b.s = a.s))) = false:=by
     rw [Bool.eq_false_iff]
     simpa using he
    have he2 : (decide (b.x = a.x + dx) && decide (b.y = a.y + dy) && decide (b.s = a.s)) = false:=by
     rw [Bool.and_assoc]; exact he1
    simp (maxSteps:=2000000) (disch:=omega) [hr,hr2,hlen,hlt2',hn,hn2,w3,w4,he1,mvV]
theorem UD (m : Int) (H : Hp) : Gives G 169 [.m (.i .i64 m)] H (.m (.b (decide (1 <= m /\ m <= 64)))) H:=by
 refine Ae rfl rfl rfl rfl rfl ?_
 by_cases h1 : 1 <= m
 ·by_cases h2 : m <= 64
  ·simp (maxSteps:=2000000) (disch:=omega) [h1,h2]
  ·simp (maxSteps:=2000000) (disch:=omega) [h1,h2]
 ·simp (maxSteps:=2000000) (disch:=omega) [h1]
theorem AbZ {t : TreeC} {h n v : I} {es : List (List I)} {p : List Ce} (hT : TreeV t h n es) (hv : IsSl v (Ag p)) (hl : (p.length : Int) <= 9223372036854775806) (m : Int) (H : Hp) : Gives G 136 [.m (.ag [.i .i64 t.states,h,n]),.m v,.m (.i .i64 m)] H (KR (Me t p m)) H:=by
 obtain ⟨x0,_,g1⟩:=Ye hT hv hl 0
 unfold rnE at g1
 have gp:=fun H=>UD m H
 unfold Me
 by_cases hc : BR t p = 0
 rotate_left
 ·rw [Acz hc] at *
  refine Ae rfl rfl rfl rfl rfl ?_
  simp (maxSteps:=2000000) (disch:=omega) [Ab,cl (g1 _),hc,KR,Iz]
 rw [AcC hc] at *
 rw [AcC (by omega)] at g1
 by_cases hm : 1 <= m /\ m <= 64
 rotate_left
 ·rw [Acz hm] at *
  rw [AcH hm] at gp
  refine Ae rfl rfl rfl rfl rfl ?_
  simp (maxSteps:=2000000) (disch:=omega) [Ab,cl (g1 _),cl (gp _),BC,KR,Iz]
 rw [AcC hm] at *
 rw [AcI hm] at gp
 have hS:=Ch hT
 obtain ⟨hq,hrp,_⟩:=BI hc
 have hrv:=hv.rules
 obtain ⟨k,rfl⟩:=AcQ (show 0 <= m by omega)
 rw [show ((k : Int)).toNat = k from rfl]
 have hk : k <= 64:=by omega
 refine Ae rfl rfl rfl rfl rfl ?_
 simp (maxSteps:=2000000) (disch:=omega) [cl (g1 _),cl (gp _),show ((0 : Int)).toNat = 0 from rfl,BC]
 refine (?key : ∀ (i : Nat) (q : List Ce) (u : I) (B : List (Nat × List V)),i <= k -> GA t p k 1 p = GA t p (k - i) (((i + 1 : Nat) : Int)) q -> BR t q = 0 -> IsSl u (Ag q) -> getB B 3 = some [.m (.i .i64 t.states),.m h,.m n] -> getB B 6 = some [.m (.i .i64 0),.m (.i .i64 0),.m (.i .i64 0)] -> Run G c136_B0 (S136_0 (.m v) (.m (.i .i64 (k : Int))) (.fa 3 0) (.fa 6 0) (.m u) (.m (.i .i64 (((i + 1 : Nat) : Int)))) B []) _) 0 p v _ (AcF _) rfl hc hv rfl rfl
 refine Bk (fun i : Nat=>k - i) fun i ih q u B hi hf hcq hu hB hB6=>?_
 unfold c136_B0
 have hru:=hu.rules
 simp only [show (Ag q).length = q.length from by simp [Ag]] at hru
 rw [hf]
 by_cases hik : i < k
 rotate_left
 ·have : i = k:=by omega
  subst this
  rw [Nat.sub_self]
  simp (maxSteps:=2000000) (disch:=omega) [Ab,show ¬ ((i + 1 : Nat) : Int) <= i from by omega,hB6,GA,KR,Iz,-Int.natCast_add]
 have hik2 : ((i + 1 : Nat) : Int) <= k:=by omega
 by_cases hq0 : q = []
 ·rw [hq0,Gz hq]
  have hl0 : q.length = 0:=by rw [hq0]; rfl
  simp (maxSteps:=2000000) (disch:=omega) [Ab,hik2,hru,hl0,hB6,KR,Iz,-Int.natCast_add]
 have hpos : 0 < q.length:=List.length_pos_iff.2 hq0
 have hpos2 : (0 : Int) < q.length:=by omega
 have gs:=fun H=>XS hT hu (by have:=(Az (BI hcq).2.1).2.2; omega) H
 unfold VH at gs
 rw [AcC hcq] at gs
 obtain ⟨j,hj⟩ : ∃ j,k - i = j + 1:=⟨k - i - 1,by omega⟩
 have wi : wr .i64 (((i + 1 : Nat) : Int) + 1) = ((i + 1 + 1 : Nat) : Int):=Aa (by omega) (by omega)
 by_cases he : (stp t q).2 = 0
 ·have hc2:=Ir hcq (hS q hcq) he
  have gm:=fun H=>YA hv (Cr (stp t q).1) hrp (BI hc2).2.1 H
  have hf2 : GA t p (k - i) (((i + 1 : Nat) : Int)) q = match mvd p (stp t q).1 with
   | some d=>((((i + 1 : Nat) : Int),d.1,d.2),true,0)
   | none=>GA t p j (((i + 1 + 1 : Nat) : Int)) (stp t q).1:=by rw [hj]; exact KU he
  rw [he] at gs
  cases hmv : mvd p (stp t q).1 with
  | some d =>
   rw [hmv] at hf2 gm
   dsimp only at hf2
   rw [hf2]
   generalize zP (stp t q).1 = z at *
   simp only [mvV] at gm
   simp (maxSteps:=2000000) (disch:=omega) [Ab,hik2,hru,hpos,hB,cl (gs _),cl (gm _),hB6,KR,Iz,-Int.natCast_add]
  | none =>
   rw [hmv] at hf2 gm
   dsimp only at hf2
   have k2:=fun B'=>ih (i + 1) (by omega) (stp t q).1 (zP (stp t q).1) B' (by omega) (by rw [hf,hf2,show k - (i + 1) = j from by omega]) hc2 (Cr _)
   rw [hf] at k2
   generalize zP (stp t q).1 = z at *
   simp only [mvV] at gm
   simp (maxSteps:=2000000) (disch:=omega) [hik2,hru,hpos,hB,cl (gs _),cl (gm _),wi,-Int.natCast_add]
   exact k2 _ hB hB6
 ·rw [hj,NX he]
  generalize (stp t q).2 = e at *
  generalize zP (stp t q).1 = z at *
  simp (maxSteps:=2000000) (disch:=omega) [Ab,hik2,hru,hpos,hB,cl (gs _),he,hB6,KR,Iz,-Int.natCast_add]
theorem NT {v : I} {p : List Ce} (hv : IsSl v (Ag p)) (hp : AP p = true) {c : Ce} {r : List Ce} (hpe : p = c :: r) (H : Hp) : Gives G 151 [.m v] H (.m (zP (p.map (mvC c.x c.y)))) H:=by
 have hl:=(Az hp).2.2
 have hr:=hv.rules
 simp only [show (Ag p).length = p.length from by simp [Ag]] at hr
 have h0 : p[0]? = some c:=by rw [hpe]; rfl
 have hn0:=An h0
 have hbc:=AG hp (AcE h0)
 have hpos : 0 < p.length:=(Al h0).1
 refine Ae rfl rfl rfl rfl rfl ?_
 simp (maxSteps:=2000000) (disch:=omega) []
 refine (?key : ∀ (i : Nat) (f : List Ce) (o : V) (B : List (Nat × List V)) (H1 : Hp),i <= p.length -> f = (p.take i).map (mvC c.x c.y) -> JC f o H1 -> Run G c151_B0 (S151_0 (.m v) o (.m (.i .i64 (i : Int))) B H1) _) 0 [] _ _ _ (AcF _) rfl (.inl ⟨rfl,rfl,rfl⟩)
 refine Bk (fun i : Nat=>p.length - i) fun i ih f o B H1 hi hf ho=>?_
 unfold c151_B0
 obtain ⟨hvw,hnf⟩:=Cb ho
 cases hx : p[i]? with
 | some a =>
  have hlt:=(Al hx).1
  have hlt' : (i : Int) < p.length:=by omega
  have hn:=An hx
  have wi : wr .i64 ((i : Int) + 1) = (i : Int) + 1:=Aa (by omega) (by omega)
  have htk : p.take (i + 1) = p.take i ++ [a]:=Ap hx
  have hba:=AG hp (AcE hx)
  have w1 : wr .i64 (a.x - c.x) = a.x - c.x:=Aa (by omega) (by omega)
  have w2 : wr .i64 (a.y - c.y) = a.y - c.y:=Aa (by omega) (by omega)
  have hfl : f.length <= 1000000:=by rw [hf,AcR,AcL]; omega
  obtain ⟨o1,H2,ha,hn1,ho1⟩:=BP ho hfl (mvC c.x c.y a)
  have e : f ++ [mvC c.x c.y a] = (p.take (i + 1)).map (mvC c.x c.y):=by rw [htk,hf]; simp
  have k2:=fun B'=>ih (i + 1) (by omega) (f ++ [mvC c.x c.y a]) o1 B' H2 (by omega) e ho1
  simp only [mvC] at ha
  simp (maxSteps:=2000000) (disch:=omega) [hr,hlt',hn,hn0,wi,w1,w2,ha,As hn1]
  exact k2 _
 | none =>
  have : i = p.length:=by have:=AcB.1 hx; omega
  subst this
  rw [AcV] at hf
  rw [hf] at hvw
  generalize zP (p.map (mvC c.x c.y)) = z at *
  simp (maxSteps:=2000000) (disch:=omega) [hr,hvw,As hnf]
  exact hnf
theorem Aca {t : TreeC} {h n v : I} {es : List (List I)} {p : List Ce} (hT : TreeV t h n es) (hv : IsSl v (Ag p)) (hl : (p.length : Int) <= 9223372036854775806) (m : Int) (H : Hp) : Gives G 113 [.m (.ag [.i .i64 t.states,h,n]),.m v,.m (.i .i64 m)] H (KR (Me t p m)) H:=by
 obtain ⟨x0,_,g1⟩:=Yf hT hv hl 0
 unfold rnE at g1
 unfold Me
 by_cases hc : BR t p = 0
 rotate_left
 ·rw [Acz hc] at *
  refine Ae rfl rfl rfl rfl rfl ?_
  simp (maxSteps:=2000000) (disch:=omega) [Ab,cl (g1 _),hc,KR,Iz]
 rw [AcC hc] at *
 rw [AcC (by omega)] at g1
 by_cases hm : 1 <= m /\ m <= 64
 rotate_left
 ·rw [Acz hm] at *
  refine Ae rfl rfl rfl rfl rfl ?_
  by_cases h1 : m < 1
  ·simp (maxSteps:=2000000) (disch:=omega) [Ab,cl (g1 _),BC,h1,KR,Iz]
  ·have h2 : 64 < m:=by omega
   simp (maxSteps:=2000000) (disch:=omega) [Ab,cl (g1 _),BC,h1,h2,KR,Iz]
 rw [AcC hm] at *
 have hS:=Ch hT
 obtain ⟨hq,hrp,_⟩:=BI hc
 have hpl:=(Az hrp).2.2
 have hrv:=hv.rules
 simp only [show (Ag p).length = p.length from by simp [Ag]] at hrv
 obtain ⟨k,rfl⟩:=AcQ (show 0 <= m by omega)
 rw [show ((k : Int)).toNat = k from rfl]
 have hk : k <= 64:=by omega
 have m1 : ¬ (k : Int) < 1:=by omega
 have m1' : ¬ k < 1:=by omega
 have m2 : ¬ (64 : Int) < k:=by omega
 have m2' : ¬ 64 < k:=by omega
 refine Ae rfl rfl rfl rfl rfl ?_
 cases hpe : p with
 | nil =>
  have hl0 : p.length = 0:=by rw [hpe]; rfl
  rw [<- hpe]
  have e : GA t p k 1 p = ((0,0,0),false,0):=by
   have:=Gz hq p k 1
   rw [<- hpe] at this
   exact this
  rw [e]
  simp (maxSteps:=2000000) (disch:=omega) [Ab,cl (g1 _),show ((0 : Int)).toNat = 0 from rfl,BC,m1,m2,hrv,hl0,KR,Iz]
 | cons c r =>
 have hp0 : 0 < p.length:=by rw [hpe]; simp
 have hp0' : ¬ p.length = 0:=by omega
 have hp1' : ¬ (p.length : Int) = 0:=by omega
 have h0 : p[0]? = some c:=by rw [hpe]; rfl
 have hn0:=An h0
 have hbc:=AG hrp (AcE h0)
 have gh1:=fun H=>NT hv hrp hpe H
 rw [<- hpe]
 simp (maxSteps:=2000000) (disch:=omega) [cl (g1 _),show ((0 : Int)).toNat = 0 from rfl,BC,m1,m2,hrv,hp0']
 refine (?key : ∀ (i : Nat) (q : List Ce) (u : I) (B : List (Nat × List V)),i <= k -> GA t p k 1 p = GA t p (k - i) (((i + 1 : Nat) : Int)) q -> BR t q = 0 -> IsSl u (Ag q) -> getB B 3 = some [.m (.i .i64 t.states),.m h,.m n] -> getB B 6 = some [.m (.i .i64 0),.m (.i .i64 0),.m (.i .i64 0)] -> Run G c113_B0 (S113_0 (.m v) (.m (.i .i64 (k : Int))) (.fa 3 0) (.fa 6 0) (.m u) (.m (.i .i64 (((i + 1 : Nat) : Int)))) B []) _) 0 p v _ (AcF _) rfl hc hv rfl rfl
 refine Bk (fun i : Nat=>k - i) fun i ih q u B hi hf hcq hu hB hB6=>?_
 unfold c113_B0
 rw [hf]
 by_cases hik : i < k
 rotate_left
 ·have : i = k:=by omega
  subst this
  rw [Nat.sub_self]
  simp (maxSteps:=2000000) (disch:=omega) [Ab,show ¬ ((i + 1 : Nat) : Int) <= i from by omega,hB6,GA,KR,Iz,-Int.natCast_add]
 have hik2 : ((i + 1 : Nat) : Int) <= k:=by omega
 have gs:=fun H=>XT hT hu (by have:=(Az (BI hcq).2.1).2.2; omega) H
 unfold VH at gs
 rw [AcC hcq] at gs
 obtain ⟨j,hj⟩ : ∃ j,k - i = j + 1:=⟨k - i - 1,by omega⟩
 have wi : wr .i64 (((i + 1 : Nat) : Int) + 1) = ((i + 1 + 1 : Nat) : Int):=Aa (by omega) (by omega)
 by_cases he : (stp t q).2 = 0
 ·have hc2:=Ir hcq (hS q hcq) he
  have hf2 : GA t p (k - i) (((i + 1 : Nat) : Int)) q = match mvd p (stp t q).1 with
   | some d=>((((i + 1 : Nat) : Int),d.1,d.2),true,0)
   | none=>GA t p j (((i + 1 + 1 : Nat) : Int)) (stp t q).1:=by rw [hj]; exact KU he
  rw [he] at gs
  have k1:=fun (hmv : mvd p (stp t q).1 = none) B'=>ih (i + 1) (by omega) (stp t q).1 (zP (stp t q).1) B' (by omega) (by rw [hf,hf2,hmv,show k - (i + 1) = j from by omega]) hc2 (Cr _)
  rw [hf] at k1
  have hz:=Cr (stp t q).1
  have hrz:=hz.rules
  have hrq:=(BI hc2).2.1
  have hql:=(Az hrq).2.2
  generalize zP (stp t q).1 = z at *
  generalize (stp t q).1 = q2 at *
  simp only [show (Ag q2).length = q2.length from by simp [Ag]] at hrz
  cases hqe : q2 with
  | nil =>
   have hl0 : q2.length = 0:=by rw [hqe]; rfl
   have hmv : mvd p q2 = none:=by rw [hqe]; exact So p
   have k2:=k1 hmv
   rw [hmv] at hf2
   dsimp only at hf2
   simp (maxSteps:=2000000) (disch:=omega) [hik2,hB,cl (gs _),hrz,hl0,Ad,wi,-Int.natCast_add]
   exact k2 _ hB hB6
  | cons d s =>
   have hq0 : 0 < q2.length:=by rw [hqe]; simp
   have hq0' : (0 : Int) < q2.length:=by omega
   have gh2:=fun H=>NT hz hrq hqe H
   have gsm:=fun H=>Hz (Cr (q2.map (mvC d.x d.y))) (Cr (p.map (mvC c.x c.y))) (by simp; omega) (by simp; omega) H
   have hmh:=UH c d r s
   rw [<- hqe,<- hpe] at hmh
   have h02 : q2[0]? = some d:=by rw [hqe]; rfl
   have hn02:=An h02
   have hbd:=AG hrq (AcE h02)
   have w1 : wr .i64 (d.x - c.x) = d.x - c.x:=Aa (by omega) (by omega)
   have w2 : wr .i64 (d.y - c.y) = d.y - c.y:=Aa (by omega) (by omega)
   by_cases hE : q2.map (mvC d.x d.y) = p.map (mvC c.x c.y)
   ·rw [AcC hE] at hmh
    rw [hmh] at hf2
    dsimp only at hf2
    rw [hf2]
    rw [AcI (Fs.2 hE)] at gsm
    generalize zP (q2.map (mvC d.x d.y)) = z1 at *
    generalize zP (p.map (mvC c.x c.y)) = z2 at *
    simp (maxSteps:=2000000) (disch:=omega) [Ab,hik2,hB,cl (gs _),hrz,hrv,hq0,Ad,cl (gh1 _),cl (gh2 _),cl (gsm _),hn0,hn02,w1,w2,hB6,KR,Iz,-Int.natCast_add]
   ·rw [Acz hE] at hmh
    have k2:=k1 hmh
    rw [hmh] at hf2
    dsimp only at hf2
    rw [AcH (fun h=>hE (Fs.1 h))] at gsm
    generalize zP (q2.map (mvC d.x d.y)) = z1 at *
    generalize zP (p.map (mvC c.x c.y)) = z2 at *
    simp (maxSteps:=2000000) (disch:=omega) [hik2,hB,cl (gs _),hrz,hq0,Ad,cl (gh1 _),cl (gh2 _),cl (gsm _),wi,-Int.natCast_add]
    exact k2 _ hB hB6
 ·rw [hj,NX he]
  generalize (stp t q).2 = e at *
  generalize zP (stp t q).1 = z at *
  simp (maxSteps:=2000000) (disch:=omega) [Ab,hik2,hB,cl (gs _),he,hB6,KR,Iz,-Int.natCast_add]
def UP (r : Bool × Int) : V:=.tu [.m (.b r.1),.m (.i .i64 r.2)]
theorem VU {a b : Int × Int × Int} : (decide (a = b)) = (decide (a.1 = b.1) && (decide (a.2.1 = b.2.1) && decide (a.2.2 = b.2.2))):=by
 obtain ⟨a1,a2,a3⟩:=a
 obtain ⟨b1,b2,b3⟩:=b
 simp [Bool.decide_and]
theorem has_s {t : TreeC} {h n v : I} {es : List (List I)} {p : List Ce} (hT : TreeV t h n es) (hv : IsSl v (Ag p)) (hl : (p.length : Int) <= 9223372036854775806) (m : Int × Int × Int) (H : Hp) : Gives G 106 [.m (.ag [.i .i64 t.states,h,n]),.m v,.m (Iz m)] H (UP (UQ t p m)) H:=by
 have g1:=fun H=>AbZ hT hv hl m.1 H
 unfold UQ
 rw [VU]
 generalize Me t p m.1 = r at *
 obtain ⟨f,ok,e⟩:=r
 dsimp only at *
 simp only [KR,Iz] at *
 refine Ae rfl rfl rfl rfl rfl ?_
 cases ok with
 | true=>simp (maxSteps:=2000000) (disch:=omega) [Ab,cl (g1 _),UP]
 | false=>simp (maxSteps:=2000000) (disch:=omega) [Ab,cl (g1 _),UP]
theorem has_r {t : TreeC} {h n v : I} {es : List (List I)} {p : List Ce} (hT : TreeV t h n es) (hv : IsSl v (Ag p)) (hl : (p.length : Int) <= 9223372036854775806) (m : Int × Int × Int) (H : Hp) : Gives G 73 [.m (.ag [.i .i64 t.states,h,n]),.m v,.m (Iz m)] H (UP (UQ t p m)) H:=by
 have g1:=fun H=>Aca hT hv hl m.1 H
 have g2 : ¬ (Me t p m.1).2.2 = 0 -> (Me t p m.1).2.1 = false:=UU
 unfold UQ
 rw [VU]
 generalize Me t p m.1 = r at *
 obtain ⟨f,ok,e⟩:=r
 dsimp only at *
 simp only [KR,Iz] at *
 refine Ae rfl rfl rfl rfl rfl ?_
 by_cases he : e = 0
 ·cases ok with
  | true=>simp (maxSteps:=2000000) (disch:=omega) [Ab,cl (g1 _),he,UP]
  | false=>simp (maxSteps:=2000000) (disch:=omega) [Ab,cl (g1 _),he,UP]
 ·rw [g2 he] at *
  simp (maxSteps:=2000000) (disch:=omega) [Ab,cl (g1 _),he,UP]
noncomputable def plE (t : TreeC) (l : List Sh) : List St5 -> Int
 | []=>0
 | x :: r=>if (plF t l x).2 = 0 then plE t l r else (plF t l x).2
noncomputable def plP (t : TreeC) (l : List Sh) (xs : List St5) : List (List Ce):=xs.map fun x=>(plF t l x).1
theorem ND {t : TreeC} {l : List Sh} {xs : List St5} {i : Nat} {x : St5} (h : xs[i]? = some x) : plE t l (xs.drop i) = if (plF t l x).2 = 0 then plE t l (xs.drop (i + 1)) else (plF t l x).2:=by
 rw [(Al h).2]
 rfl
theorem NC {t : TreeC} {l : List Sh} {xs : List St5} {i : Nat} {x : St5} (h : xs[i]? = some x) : plP t l (xs.take (i + 1)) = plP t l (xs.take i) ++ [(plF t l x).1]:=by
 unfold plP
 rw [Ap h]
 simp
theorem Fo {t : TreeC} (hS : Ei t) {l : List Sh} {xs : List St5} : ∀ p,p ∈ plP t l xs -> AP p = true:=fun p hp=>by
 obtain ⟨x,_,rfl⟩:=Adc.1 hp
 exact (AbH hS).1
def dsj (p q : List Ce) : Prop:=∀ c,c ∈ p -> ∀ d,d ∈ q -> apart c d
def Zz (p q : List Ce) : Bool:=p.all fun c=>q.all fun d=>!(decide (c.x = d.x) && decide (c.y = d.y))
theorem GC (p q : List Ce) : Zz p q = true ↔ dsj p q:=by
 unfold Zz dsj apart
 simp only [AcO,Ada,Bool.and_eq_false_iff,decide_eq_false_iff_not]
 refine ⟨fun h c hc d hd hh=>?_,fun h c hc d hd=>?_⟩
 ·rcases h c hc d hd with h | h
  ·exact h hh.1
  ·exact h hh.2
 ·have:=h c hc d hd
  by_cases hx : c.x = d.x
  ·exact .inr fun hy=>this ⟨hx,hy⟩
  ·exact .inl hx
def Pe (ps : List (List Ce)) : Prop:=ps.Pairwise dsj
theorem ID {ps : List (List Ce)} (h : ∀ p,p ∈ ps -> AP p = true) : ps.flatten.Pairwise apart ↔ Pe ps:=by
 rw [List.pairwise_flatten]
 refine ⟨fun hh=>hh.2,fun hh=>⟨fun l hl=>Gs (Az (h l hl)).1,hh⟩⟩
theorem KW {ps : List (List Ce)} (h : ∀ p,p ∈ ps -> AP p = true) : ∀ c,c ∈ ps.flatten -> Cj c = true:=fun c hc=>by
 obtain ⟨l,hl,hm⟩:=List.mem_flatten.1 hc
 exact (Az (h l hl)).2.1 c hm
open Classical in
noncomputable def UL (ps : List (List Ce)) : List Ce × Int:=if Pe ps then if 5000 < ps.flatten.length then ([],6) else (Ci ps.flatten,0) else ([],8)
noncomputable def Bi (t : TreeC) (l : List Sh) (xs : List St5) (gens : Int) (res : List Ce) : List Ce × Int :=
 if AI t = true then if l.length <= 8 /\ xs.length <= 16 then if 0 <= gens /\ gens <= 10000 then if BR t res = 0 then if (l.all (AS t)) = true then if plE t l xs = 0 then UL (plP t l xs) else ([],plE t l xs) else ([],17) else ([],BR t res) else ([],2) else ([],6) else ([],11)
noncomputable def KY (t : TreeC) (l : List Sh) (xs : List St5) (gens : Int) (res : List Ce) : Int :=
 if (Bi t l xs gens res).2 = 0 then if (rnE t (Bi t l xs gens res).1 gens).2 = 0 then if (rnE t (Bi t l xs gens res).1 gens).1 = res then 0 else 17 else (rnE t (Bi t l xs gens res).1 gens).2 else (Bi t l xs gens res).2
def shI (v : I) (s : Sh) : List I:=[v,.i .i64 s.m.1,.i .i64 s.m.2.1,.i .i64 s.m.2.2]
def Oe (es : List (List I)) (l : List Sh) : Prop:=es.length = l.length /\ ∀ (i : Nat) (s : Sh),l[i]? = some s -> s.c.length <= 1000000 /\ ∃ v,nth es i = some (shI v s) /\ IsSl v (Ag s.c)
def EU (x : St5) : List I:=[.i .i64 x.i,.i .i64 x.n,.i .i64 x.k,.i .i64 x.x,.i .i64 x.y]
def La (xs : List St5) : List (List I):=xs.map EU
@[simp] theorem HI (xs : List St5) : (La xs).length = xs.length:=by simp [La]
theorem HH {xs : List St5} {i : Nat} {x : St5} (h : xs[i]? = some x) : nth (La xs) i = some [.i .i64 x.i,.i .i64 x.n,.i .i64 x.k,.i .i64 x.x,.i .i64 x.y]:=by
 rw [AV]
 simp [La,h,EU]
theorem VE {p : List Ce} {x y w h : Int} (e : Lb p = [x,y,w,h]) : Ro p = (decide (10000 < w) || decide (10000 < h)):=by
 unfold Ro
 rw [e]
theorem RD {t : TreeC} {h n v : I} {es : List (List I)} {s : Sh} (hT : TreeV t h n es) (hv : IsSl v (Ag s.c)) (hl : s.c.length <= 1000000) (H : Hp) : Gives G 64 [.m (.ag [.i .i64 t.states,h,n]),.m (.ag (shI v s))] H (.m (.b (AS t s))) H:=by
 have gb:=fun H=>Acl hv (by omega) H
 have gh:=fun H=>has_s hT hv (by omega) s.m H
 obtain ⟨x,y,w,hh,e⟩:=VW s.c
 unfold AS
 unfold Od at gb
 rw [e] at gb
 rw [VE e]
 generalize (!s.c.isEmpty && AP s.c) = b at *
 generalize UQ t s.c s.m = r at *
 obtain ⟨ok,er⟩:=r
 simp only [UP,Iz,Adi,List.map_nil] at gb gh
 refine Ae rfl rfl rfl rfl rfl ?_
 cases b with
 | false=>simp (maxSteps:=2000000) (disch:=omega) [Ab,shI,cl (gb _)]
 | true =>
  by_cases h1 : 10000 < w
  ·simp (maxSteps:=2000000) (disch:=omega) [Ab,shI,cl (gb _),h1]
  ·by_cases h2 : 10000 < hh
   ·simp (maxSteps:=2000000) (disch:=omega) [Ab,shI,cl (gb _),h1,h2]
   ·cases ok with
    | false=>simp (maxSteps:=2000000) (disch:=omega) [Ab,shI,cl (gb _),h1,h2,cl (gh _)]
    | true=>simp (maxSteps:=2000000) (disch:=omega) [Ab,shI,cl (gb _),h1,h2,cl (gh _)]
def phV (r : List Ce × Int) : I:=if r.2 = 0 then .sl (Ag r.1) else .nl 4
theorem Ns {n p : Int} (h1 : 0 <= n) (h2 : 0 < p) : n.tmod p = ((n.toNat % p.toNat : Nat) : Int):=by
 obtain ⟨a,rfl⟩:=AcQ h1
 obtain ⟨b,rfl⟩:=AcQ (Int.le_of_lt h2)
 rfl
theorem Ym {t : TreeC} {h n v : I} {es : List (List I)} {s : Sh} (hT : TreeV t h n es) (hv : IsSl v (Ag s.c)) (hl : s.c.length <= 1000000) (k : Int) (H : Hp) : Gives G 86 [.m (.ag [.i .i64 t.states,h,n]),.m (.ag (shI v s)),.m (.i .i64 k)] H (.tu [.m (phV (phF t s k)),.m (.i .i64 (phF t s k).2)]) H:=by
 have gq:=fun H=>Jn hT H
 have gr:=fun H=>RD hT hv hl H
 have hS:=Ch hT
 unfold phF
 cases hq : AI t with
 | false =>
  rw [hq] at gq
  refine Ae rfl rfl rfl rfl rfl ?_
  simp (maxSteps:=2000000) (disch:=omega) [shI,cl (gq _),phV]
 | true =>
 rw [hq] at gq
 rw [AcC rfl]
 by_cases hk : 0 <= k /\ k <= 10000
 rotate_left
 ·rw [Acz (fun hh=>hk hh.1)]
  refine Ae rfl rfl rfl rfl rfl ?_
  by_cases h1 : k < 0
  ·simp (maxSteps:=2000000) (disch:=omega) [shI,cl (gq _),h1,Ad,phV]
  ·have h2 : 10000 < k:=by omega
   simp (maxSteps:=2000000) (disch:=omega) [shI,cl (gq _),h1,h2,Ad,phV]
 have k1 : ¬ k < 0:=by omega
 have k2 : ¬ 10000 < k:=by omega
 cases hok : AS t s with
 | false =>
  rw [hok] at gr
  rw [Acz (fun hh=>by cases hh.2)]
  refine Ae rfl rfl rfl rfl rfl ?_
  simp only [shI] at gr
  simp (maxSteps:=2000000) (disch:=omega) [cl (gq _),k1,k2,Ad,shI,cl (gr _),phV]
 | true =>
  rw [hok] at gr
  rw [AcC ⟨hk,rfl⟩]
  have hR:=Ew hS hok
  have hp:=hR.p1
  have hlt : ((k.toNat % s.m.1.toNat : Nat) : Int) < s.m.1:=by
   have:=Nat.mod_lt k.toNat (show 0 < s.m.1.toNat from by omega)
   omega
  obtain ⟨p1,p2,p3,_⟩:=hR.ph _ hlt
  obtain ⟨x,hx,gx⟩:=Ye hT hv (by omega) ((k.toNat % s.m.1.toNat : Nat) : Int)
  unfold rnE at hx gx
  rw [AcC hR.ck,AcC (by have:=hR.p2; omega)] at hx gx
  rw [show (((k.toNat % s.m.1.toNat : Nat) : Int)).toNat = k.toNat % s.m.1.toNat from rfl] at hx gx
  have gh:=fun H=>VS hx (BI p3).2.1 H
  rw [Acz p2] at gh
  rw [p1] at gx
  have ht:=Ns hk.1 (show 0 < s.m.1 from by omega)
  have hne : ¬ s.m.1 = 0:=by omega
  simp only [shI] at gr
  unfold phV
  dsimp only
  rw [AcC rfl]
  generalize Bn (BC t (k.toNat % s.m.1.toNat) s.c).1 = q at *
  generalize k.toNat % s.m.1.toNat = m at *
  refine Ae rfl rfl rfl rfl rfl ?_
  simp (maxSteps:=2000000) (disch:=omega) [cl (gq _),k1,k2,Ad,shI,cl (gr _),ht,hne,Aa (show -9223372036854775808 <= ((m : Nat) : Int) from by omega) (show ((m : Nat) : Int) <= 9223372036854775807 from by have:=hR.p2; omega),cl (gx _),cl (gh _)]
theorem Md {k : Int} (h : 0 <= k /\ k <= 7) : CN k = k.toNat:=by unfold CN; omega
theorem Yg {t : TreeC} {h n z : I} {es fs : List (List I)} {l : List Sh} (hT : TreeV t h n es) (hz : IsSl z fs) (hs : Oe fs l) (x : St5) : ∃ u,IsSl u (Ag (plF t l x).1) /\ ∀ H,Gives G 45 [.m (.ag [.i .i64 t.states,h,n]),.m z,.m (.ag (EU x))] H (.tu [.m u,.m (.i .i64 (plF t l x).2)]) H:=by
 have gq:=fun H=>Jn hT H
 have hS:=Ch hT
 have hrz:=hz.rules
 rw [hs.1] at hrz
 unfold plF
 cases hq : AI t with
 | false =>
  rw [hq] at gq
  refine ⟨.nl 4,AH,fun H=>Ae rfl rfl rfl rfl rfl ?_⟩
  simp (maxSteps:=2000000) (disch:=omega) [EU,cl (gq _)]
 | true =>
 rw [hq] at gq
 rw [AcC rfl]
 by_cases h0 : x.i < 0
 ·rw [Acz (by omega)]
  refine ⟨.nl 4,AH,fun H=>Ae rfl rfl rfl rfl rfl ?_⟩
  simp (maxSteps:=2000000) (disch:=omega) [EU,cl (gq _),h0]
 rw [AcC (by omega)]
 obtain ⟨i,hi⟩:=AcQ (show 0 <= x.i by omega)
 rw [hi]
 rw [show ((i : Int)).toNat = i from rfl]
 have hi0 : ¬ (i : Int) < 0:=by omega
 cases hx : l[i]? with
 | none =>
  have hge:=AcB.1 hx
  refine ⟨.nl 4,AH,fun H=>Ae rfl rfl rfl rfl rfl ?_⟩
  simp (maxSteps:=2000000) (disch:=omega) [EU,cl (gq _),hi,hi0,hrz,show (l.length : Int) <= i from by omega]
 | some s =>
 have hlt:=(Acy.1 hx).1
 obtain ⟨hsl,v,hn,hv⟩:=hs.2 i s hx
 have hilt : ¬ (l.length : Int) <= i:=by omega
 have hilt' : ¬ l.length <= i:=by omega
 dsimp only
 by_cases hk : 0 <= x.k /\ x.k <= 7
 rotate_left
 ·rw [Acz (fun hh=>hk hh.1)]
  refine ⟨.nl 4,AH,fun H=>Ae rfl rfl rfl rfl rfl ?_⟩
  by_cases h1 : x.k < 0
  ·simp (maxSteps:=2000000) (disch:=omega) [EU,cl (gq _),hi,hi0,hrz,hilt,h1]
  ·have h2 : 7 < x.k:=by omega
   simp (maxSteps:=2000000) (disch:=omega) [EU,cl (gq _),hi,hi0,hrz,hilt,h1,h2]
 have k1 : ¬ x.k < 0:=by omega
 have k2 : ¬ 7 < x.k:=by omega
 have gp:=fun H=>Ym hT hv hsl x.n H
 unfold phF at gp
 rw [AcC hq] at gp
 by_cases hP : (0 <= x.n /\ x.n <= 10000) /\ AS t s = true
 rotate_left
 ·rw [Acz (fun hh=>hP hh.2)]
  rw [Acz hP] at gp
  refine ⟨.nl 4,AH,fun H=>Ae rfl rfl rfl rfl rfl ?_⟩
  simp only [shI] at gp hn
  simp (maxSteps:=2000000) (disch:=omega) [EU,cl (gq _),hi,hi0,hrz,hilt,k1,k2,hn,cl (gp _)]
 rw [AcC ⟨hk,hP⟩]
 rw [AcC hP] at gp
 have hR:=Ew hS hP.2
 have hlt2 : ((x.n.toNat % s.m.1.toNat : Nat) : Int) < s.m.1:=by
  have:=hR.p1
  have:=Nat.mod_lt x.n.toNat (show 0 < s.m.1.toNat from by omega)
  omega
 obtain ⟨r1,r2,r3,r4⟩:=Nw hR hlt2 x.k.toNat
 obtain ⟨q,hq2,_⟩:=VF (Be (Ag (Bn (BC t (x.n.toNat % s.m.1.toNat) s.c).1))) r1 x.k []
 rw [Md hk] at hq2
 have e1:=Nr (Az r1).1 hq2
 have gt : ∀ H,Gives G 87 [.m (.i .i64 x.k),.m (.sl (Ag (Bn (BC t (x.n.toNat % s.m.1.toNat) s.c).1)))] H (.tu [.m (.sl (Ag (tnS x.k.toNat (Bn (BC t (x.n.toNat % s.m.1.toNat) s.c).1)))),.m (.i .i64 0)]) H:=fun H=>by
  obtain ⟨q',hq',g⟩:=VF (Be (Ag (Bn (BC t (x.n.toNat % s.m.1.toNat) s.c).1))) r1 x.k H
  rw [Md hk] at hq'
  rw [<- Nr (Az r1).1 hq']
  exact g
 have gh:=fun H=>VS (Be (Ag (tnS x.k.toNat (Bn (BC t (x.n.toNat % s.m.1.toNat) s.c).1)))) r2 H
 have hnn : ¬ tnS x.k.toNat (Bn (BC t (x.n.toNat % s.m.1.toNat) s.c).1) = []:=fun e=>r4 (by unfold Ps; rw [e]; rfl)
 rw [Acz hnn] at gh
 obtain ⟨u,hu,gs⟩:=UA (Be (Ag (Ps t s (x.n.toNat % s.m.1.toNat) x.k.toNat))) r3 x.x x.y
 refine ⟨u,hu,fun H=>Ae rfl rfl rfl rfl rfl ?_⟩
 simp only [phV,AcC] at gp
 unfold Ps at gs ⊢
 generalize tnS x.k.toNat (Bn (BC t (x.n.toNat % s.m.1.toNat) s.c).1) = q1 at *
 generalize Bn (BC t (x.n.toNat % s.m.1.toNat) s.c).1 = q2 at *
 generalize Bn q1 = q3 at *
 generalize shF q3 x.x x.y = res at *
 simp only [shI] at gp hn
 simp (maxSteps:=2000000) (disch:=omega) [EU,cl (gq _),hi,hi0,hrz,hilt,k1,k2,hn,cl (gp _),cl (gt _),cl (gh _),cl (gs _)]
theorem LX {t : TreeC} {h n v : I} {es : List (List I)} {s : Sh} (hT : TreeV t h n es) (hv : IsSl v (Ag s.c)) (hl : s.c.length <= 1000000) (H : Hp) : Gives G 38 [.m (.ag [.i .i64 t.states,h,n]),.m (.ag (shI v s))] H (.m (.b (AS t s))) H:=by
 have gb:=fun H=>Acm hv (by omega) H
 have gh:=fun H=>has_r hT hv (by omega) s.m H
 obtain ⟨x,y,w,hh,e⟩:=VW s.c
 unfold AS
 unfold Od at gb
 rw [e] at gb
 rw [VE e]
 generalize (!s.c.isEmpty && AP s.c) = b at *
 generalize UQ t s.c s.m = r at *
 obtain ⟨ok,er⟩:=r
 simp only [UP,Iz,Adi,List.map_nil] at gb gh
 refine Ae rfl rfl rfl rfl rfl ?_
 have e1 : decide (w <= 10000) = !decide (10000 < w):=by by_cases h : 10000 < w <;> simp [h] <;> omega
 have e2 : decide (hh <= 10000) = !decide (10000 < hh):=by by_cases h : 10000 < hh <;> simp [h] <;> omega
 cases ok with
 | false=>simp (maxSteps:=2000000) (disch:=omega) [Ab,shI,cl (gb _),cl (gh _)]
 | true =>
  by_cases he : er = 0
  ·cases b with
   | false=>simp (maxSteps:=2000000) (disch:=omega) [Ab,shI,cl (gb _),cl (gh _),he]
   | true =>
    by_cases h1 : 10000 < w
    ·simp (maxSteps:=2000000) (disch:=omega) [Ab,shI,cl (gb _),cl (gh _),he,h1,show ¬ w <= 10000 from by omega]
    ·simp (maxSteps:=2000000) (disch:=omega) [Ab,shI,cl (gb _),cl (gh _),he,h1,show w <= 10000 from by omega,e2]
  ·simp (maxSteps:=2000000) (disch:=omega) [Ab,shI,cl (gb _),cl (gh _),he]
theorem SG {t : TreeC} {h n v : I} {es : List (List I)} {s : Sh} (hT : TreeV t h n es) (hv : IsSl v (Ag s.c)) (hl : s.c.length <= 1000000) (hR : ShipR t s) {i : Nat} (hi : (i : Int) < s.m.1) : ∃ x,IsSl x (Ag (BC t i s.c).1) /\ ∀ H,Gives G 152 [.m (.ag [.i .i64 t.states,h,n]),.m (.ag (shI v s)),.m (.i .i64 (i : Int))] H (.m x) H:=by
 obtain ⟨x,hx,gx⟩:=Yf hT hv (by omega) (i : Int)
 have hp2:=hR.p2
 unfold rnE at hx gx
 rw [AcC hR.ck,AcC (by omega)] at hx gx
 rw [show ((i : Int)).toNat = i from rfl] at hx gx
 refine ⟨x,hx,fun H=>Ae rfl rfl rfl rfl rfl ?_⟩
 simp (maxSteps:=2000000) (disch:=omega) [shI,cl (gx _)]
theorem Yn {t : TreeC} {h n v : I} {es : List (List I)} {s : Sh} (hT : TreeV t h n es) (hv : IsSl v (Ag s.c)) (hl : s.c.length <= 1000000) {k : Int} (hk : 0 <= k /\ k <= 10000) (hok : AS t s = true) (H : Hp) : Gives G 114 [.m (.ag [.i .i64 t.states,h,n]),.m (.ag (shI v s)),.m (.i .i64 k)] H (.tu [.m (zP (Bn (BC t (k.toNat % s.m.1.toNat) s.c).1)),.m (.i .i64 0)]) H:=by
 have hS:=Ch hT
 have gq:=fun H=>Jo hT H
 have gr:=fun H=>LX hT hv hl H
 have hR:=Ew hS hok
 rw [hR.q] at gq
 rw [hok] at gr
 have k1 : ¬ k < 0:=by omega
 have k2 : ¬ 10000 < k:=by omega
 have hp:=hR.p1
 have hp2:=hR.p2
 have hlt : ((k.toNat % s.m.1.toNat : Nat) : Int) < s.m.1:=by
  have:=Nat.mod_lt k.toNat (show 0 < s.m.1.toNat from by omega)
  omega
 obtain ⟨p1,p2,p3,_⟩:=hR.ph _ hlt
 obtain ⟨x,hx,gx⟩:=SG hT hv hl hR hlt
 have gh:=fun H=>Sy hx (BI p3).2.1 H
 rw [Acz p2] at gh
 have ht:=Ns hk.1 (show 0 < s.m.1 from by omega)
 have hne : ¬ s.m.1 = 0:=by omega
 simp only [shI] at gr gx
 generalize zP (Bn (BC t (k.toNat % s.m.1.toNat) s.c).1) = q at *
 generalize k.toNat % s.m.1.toNat = m at *
 refine Ae rfl rfl rfl rfl rfl ?_
 simp (maxSteps:=2000000) (disch:=omega) [cl (gq _),k1,k2,shI,cl (gr _),ht,hne,Aa (show -9223372036854775808 <= ((m : Nat) : Int) from by omega) (show ((m : Nat) : Int) <= 9223372036854775807 from by omega),cl (gx _),cl (gh _)]
theorem XX {t : TreeC} {h n v : I} {es : List (List I)} {s : Sh} (hT : TreeV t h n es) (hv : IsSl v (Ag s.c)) (hl : s.c.length <= 1000000) {k c : Int} (hk : 0 <= k /\ k <= 10000) (hc : 0 <= c /\ c <= 7) (hok : AS t s = true) (H : Hp) : Gives G 77 [.m (.ag [.i .i64 t.states,h,n]),.m (.ag (shI v s)),.m (.i .i64 k),.m (.i .i64 c)] H (.m (zP (Ps t s (k.toNat % s.m.1.toNat) c.toNat))) H:=by
 have hS:=Ch hT
 have hR:=Ew hS hok
 have hp:=hR.p1
 have hlt : ((k.toNat % s.m.1.toNat : Nat) : Int) < s.m.1:=by
  have:=Nat.mod_lt k.toNat (show 0 < s.m.1.toNat from by omega)
  omega
 have gp:=fun H=>Yn hT hv hl hk hok H
 obtain ⟨r1,r2,r3,r4⟩:=Nw hR hlt c.toNat
 have gt:=fun H=>XP (Cr (Bn (BC t (k.toNat % s.m.1.toNat) s.c).1)) r1 c (by omega) H
 rw [Md hc] at gt
 have gh:=fun H=>Sy (Cr (tnS c.toNat (Bn (BC t (k.toNat % s.m.1.toNat) s.c).1))) r2 H
 have hnn : ¬ tnS c.toNat (Bn (BC t (k.toNat % s.m.1.toNat) s.c).1) = []:=fun e=>r4 (by unfold Ps; rw [e]; rfl)
 rw [Acz hnn] at gh
 unfold Ps
 generalize zP (Bn (tnS c.toNat (Bn (BC t (k.toNat % s.m.1.toNat) s.c).1))) = z3 at *
 generalize zP (tnS c.toNat (Bn (BC t (k.toNat % s.m.1.toNat) s.c).1)) = z2 at *
 generalize zP (Bn (BC t (k.toNat % s.m.1.toNat) s.c).1) = z1 at *
 simp only [shI] at gp
 refine Ae rfl rfl rfl rfl rfl ?_
 simp (maxSteps:=2000000) (disch:=omega) [shI,cl (gp _),cl (gt _),cl (gh _)]
theorem NJ (x : Int) (H : Hp) : Gives G 76 [.m (.i .i64 x)] H (.m (.b (decide (-2097152 <= x /\ x <= 2097152)))) H:=by
 refine Ae rfl rfl rfl rfl rfl ?_
 by_cases h1 : -2097152 <= x
 ·by_cases h2 : x <= 2097152
  ·simp (maxSteps:=2000000) (disch:=omega) [h1,h2]
  ·simp (maxSteps:=2000000) (disch:=omega) [h1,h2]
 ·simp (maxSteps:=2000000) (disch:=omega) [h1]
noncomputable def ckF (t : TreeC) (l : List Sh) (x : St5) : Int:=if AI t = true then match (if 0 <= x.i then l[x.i.toNat]? else none) with
  | some s=>if (0 <= x.k /\ x.k <= 7) /\ ((0 <= x.n /\ x.n <= 10000) /\ AS t s = true) then 0 else 2
  | none=>13
 else 11
set_option maxHeartbeats 2000000 in
theorem SN {t : TreeC} {h n z : I} {es fs : List (List I)} {l : List Sh} (hT : TreeV t h n es) (hz : IsSl z fs) (hs : Oe fs l) (x : St5) (H : Hp) : Gives G 75 [.m (.ag [.i .i64 t.states,h,n]),.m z,.m (.ag (EU x))] H (.m (.i .i64 (ckF t l x))) H:=by
 have gq:=fun H=>Jo hT H
 have hrz:=hz.rules
 rw [hs.1] at hrz
 unfold ckF
 cases hq : AI t with
 | false =>
  rw [hq] at gq
  refine Ae rfl rfl rfl rfl rfl ?_
  simp (maxSteps:=2000000) (disch:=omega) [EU,cl (gq _)]
 | true =>
 rw [hq] at gq
 rw [AcC rfl]
 by_cases h0 : x.i < 0
 ·rw [Acz (by omega)]
  refine Ae rfl rfl rfl rfl rfl ?_
  simp (maxSteps:=2000000) (disch:=omega) [EU,cl (gq _),h0]
 rw [AcC (by omega)]
 obtain ⟨i,hi⟩:=AcQ (show 0 <= x.i by omega)
 rw [hi]
 rw [show ((i : Int)).toNat = i from rfl]
 have hi0 : ¬ (i : Int) < 0:=by omega
 cases hx : l[i]? with
 | none =>
  have hge:=AcB.1 hx
  refine Ae rfl rfl rfl rfl rfl ?_
  simp (maxSteps:=2000000) (disch:=omega) [EU,cl (gq _),hi,hi0,hrz,show (l.length : Int) <= i from by omega]
 | some s =>
 have hlt:=(Acy.1 hx).1
 obtain ⟨hsl,v,hn,hv⟩:=hs.2 i s hx
 have hilt : ¬ (l.length : Int) <= i:=by omega
 have hilt' : ¬ l.length <= i:=by omega
 have hlt' : (i : Int) < l.length:=by omega
 have gr:=fun H=>LX hT hv hsl H
 simp only [shI] at gr hn
 dsimp only
 refine Ae rfl rfl rfl rfl rfl ?_
 cases hok : AS t s with
 | false =>
  rw [hok] at gr
  rw [Acz (fun hh=>by cases hh.2.2)]
  simp (maxSteps:=2000000) (disch:=omega) [EU,cl (gq _),hi,hi0,hrz,hilt,hn,cl (gr _)]
 | true =>
  rw [hok] at gr
  by_cases h1 : x.n < 0
  ·rw [Acz (by omega)]
   simp (maxSteps:=2000000) (disch:=omega) [EU,cl (gq _),hi,hi0,hrz,hilt,hn,cl (gr _),h1]
  by_cases h2 : 10000 < x.n
  ·rw [Acz (by omega)]
   simp (maxSteps:=2000000) (disch:=omega) [EU,cl (gq _),hi,hi0,hrz,hilt,hn,cl (gr _),h1,h2]
  by_cases h3 : x.k < 0
  ·rw [Acz (by omega)]
   simp (maxSteps:=2000000) (disch:=omega) [EU,cl (gq _),hi,hi0,hrz,hilt,hn,cl (gr _),h1,h2,h3]
  by_cases h4 : 7 < x.k
  ·rw [Acz (by omega)]
   simp (maxSteps:=2000000) (disch:=omega) [EU,cl (gq _),hi,hi0,hrz,hilt,hn,cl (gr _),h1,h2,h3,h4]
  rw [AcC ⟨by omega,by omega,rfl⟩]
  simp (maxSteps:=2000000) (disch:=omega) [EU,cl (gq _),hi,hi0,hrz,hilt,hn,cl (gr _),h1,h2,h3,h4]
theorem Yh {t : TreeC} {h n z : I} {es fs : List (List I)} {l : List Sh} (hT : TreeV t h n es) (hz : IsSl z fs) (hs : Oe fs l) (x : St5) (H : Hp) : Gives G 39 [.m (.ag [.i .i64 t.states,h,n]),.m z,.m (.ag (EU x))] H (.tu [.m (zP (plF t l x).1),.m (.i .i64 (plF t l x).2)]) H:=by
 have hS:=Ch hT
 have gc:=fun H=>SN hT hz hs x H
 have hrz:=hz.rules
 rw [hs.1] at hrz
 simp only [EU] at gc
 by_cases hE : ckF t l x = 0
 rotate_left
 ·have e : plF t l x = ([],ckF t l x):=by
   unfold ckF plF at *
   by_cases h1 : AI t = true
   ·simp only [AcC h1] at hE ⊢
    generalize (if 0 <= x.i then l[x.i.toNat]? else none) = o at *
    cases o with
    | none=>rfl
    | some s =>
     dsimp only at hE ⊢
     by_cases h3 : (0 <= x.k /\ x.k <= 7) /\ ((0 <= x.n /\ x.n <= 10000) /\ AS t s = true)
     ·rw [AcC h3] at hE
      exact absurd rfl hE
     ·simp only [Acz h3]
   ·simp only [Acz h1]
  rw [e]
  refine Ae rfl rfl rfl rfl rfl ?_
  simp (maxSteps:=2000000) (disch:=omega) [EU,cl (gc _),hE,zP]
 have hok : AI t = true /\ ∃ (i : Nat) (s : Sh),x.i = i /\ l[i]? = some s /\ (0 <= x.k /\ x.k <= 7) /\ (0 <= x.n /\ x.n <= 10000) /\ AS t s = true /\ plF t l x = shF (Ps t s (x.n.toNat % s.m.1.toNat) x.k.toNat) x.x x.y:=by
  unfold ckF at hE
  unfold plF
  by_cases h1 : AI t = true
  ·rw [AcC h1] at hE ⊢
   by_cases h0 : 0 <= x.i
   ·rw [AcC h0] at hE ⊢
    cases hx : l[x.i.toNat]? with
    | none=>rw [hx] at hE; cases hE
    | some s =>
     rw [hx] at hE
     dsimp only at hE ⊢
     by_cases h3 : (0 <= x.k /\ x.k <= 7) /\ ((0 <= x.n /\ x.n <= 10000) /\ AS t s = true)
     ·rw [AcC h3]
      exact ⟨h1,x.i.toNat,s,by omega,hx,h3.1,h3.2.1,h3.2.2,rfl⟩
     ·rw [Acz h3] at hE
      cases hE
   ·rw [Acz h0] at hE
    cases hE
  ·rw [Acz h1] at hE
   cases hE
 obtain ⟨hq,i,s,hi,hx,hk,hn2,hok,e⟩:=hok
 rw [e]
 rw [hE] at gc
 have hlt:=(Acy.1 hx).1
 have hlt' : (i : Int) < l.length:=by omega
 obtain ⟨hsl,v,hn,hv⟩:=hs.2 i s hx
 have hR:=Ew hS hok
 have hp:=hR.p1
 have hlt2 : ((x.n.toNat % s.m.1.toNat : Nat) : Int) < s.m.1:=by
  have:=Nat.mod_lt x.n.toNat (show 0 < s.m.1.toNat from by omega)
  omega
 obtain ⟨_,_,r3,_⟩:=Nw hR hlt2 x.k.toNat
 have gs:=fun H=>XX hT hv hsl hn2 hk hok H
 have gsh:=fun H=>Uz (Cr (Ps t s (x.n.toNat % s.m.1.toNat) x.k.toNat)) r3 x.x x.y H
 have gnx:=fun H=>NJ x.x H
 have gny:=fun H=>NJ x.y H
 simp only [shI] at gs hn
 generalize Ps t s (x.n.toNat % s.m.1.toNat) x.k.toNat = q at *
 refine Ae rfl rfl rfl rfl rfl ?_
 by_cases hX : -2097152 <= x.x /\ x.x <= 2097152
 rotate_left
 ·rw [AcH hX] at gnx
  rw [Ny (fun hh=>hX hh.1)]
  simp (maxSteps:=2000000) (disch:=omega) [EU,cl (gc _),cl (gnx _),Ad,zP]
 rw [AcI hX] at gnx
 by_cases hY : -2097152 <= x.y /\ x.y <= 2097152
 rotate_left
 ·rw [AcH hY] at gny
  rw [Ny (fun hh=>hY hh.2)]
  simp (maxSteps:=2000000) (disch:=omega) [EU,cl (gc _),cl (gnx _),cl (gny _),Ad,zP]
 rw [AcI hY] at gny
 generalize shF q x.x x.y = res at *
 generalize zP res.1 = z1 at *
 generalize zP q = z2 at *
 simp only [hi] at gc
 simp (maxSteps:=2000000) (disch:=omega) [EU,hi,cl (gc _),cl (gnx _),cl (gny _),Ad,hrz,hn,cl (gs _),cl (gsh _)]
end Go.Mx.Tryz
