/- One step of the reference. -/
import Derived.Test.YtgljapjkjbmicaaGreatDoorNa
set_option linter.unusedSimpArgs false
set_option linter.unusedVariables false
set_option linter.unusedSectionVars false
set_option maxRecDepth 100000
set_option maxHeartbeats 4000000
namespace Go.Mx.Tryz
open Go.Lib Go.Proofs
theorem RX (a b : Int × Int) (H : Hp) : Gives G 96 [.m (.ag [.i .i64 a.1,.i .i64 a.2]),.m (.ag [.i .i64 b.1,.i .i64 b.2])] H (.m (.b (Ku a b))) H:=by
 refine Ak rfl rfl rfl rfl rfl ?_
 simp (contextual:=true) [Ae,Af,Ac,Ag,-Int.not_lt,-Int.not_le,-Nat.not_lt,-Nat.not_le,-List.map_take,Ku]
theorem Aad {v : I} {p : List (Int × Int)} (hv : IsSl v (Dq p)) (hl : (p.length : Int) <= 9223372036854775807) (H : Hp) : Gives G 65 [.m v] H (.m (.b (BO p))) H:=by
 have hr0:=hv.rules
 simp only [AY] at hr0
 refine Ak rfl rfl rfl rfl rfl ?_
 by_cases h1 : 1 <= p.length /\ p.length <= 25
 rotate_left
 ·have e : BO p = false:=by unfold BO; rw [AaO h1]; rfl
  by_cases h2 : (p.length : Int) < 1
  ·simp (maxSteps:=2000000) (disch:=omega) [Ad,Ab,Aa,hr0,h2,e]
  ·have h3 : (25 : Int) < p.length:=by omega
   simp (maxSteps:=2000000) (disch:=omega) [Ad,Ab,Aa,hr0,h2,h3,e]
 have h2 : ¬ (p.length : Int) < 1:=by omega
 have h3 : ¬ (25 : Int) < p.length:=by omega
 have hR : BO p = Jd none p:=by unfold BO; rw [AaP h1]; rfl
 rw [hR]
 simp (maxSteps:=2000000) (disch:=omega) [Ad,Ab,Aa,hr0,h2,h3]
 refine (?key : ∀ (i : Nat) (B : List (Nat × List V)),i <= p.length -> Jd none p = Jd (DW p i) (p.drop i) -> Run G c65_B0 (S65_0 (.m v) (.m (.i .i64 i)) B []) _) 0 [] (AaT _) rfl
 refine Bd (fun i : Nat=>p.length - i) fun i ih B hi hr=>?_
 unfold c65_B0
 cases hx : p[i]? with
 | none =>
  have : i = p.length:=by have:=AaM.1 hx; omega
  subst this
  have : Jd (DW p p.length) [] = true:=by cases DW p p.length <;> rfl
  simp [hr0,hr,this]
 | some c =>
  have hlt:=(Aj hx).1
  have hn:=BQ hx
  rw [(Aj hx).2,KA hx,Ko] at hr
  cases i with
  | zero =>
   simp (contextual:=true) (maxSteps:=2000000) (disch:=omega) [Ae,Af,Ac,Ag,-Int.not_lt,-Int.not_le,-Nat.not_lt,-Nat.not_le,-List.map_take,hr0,hn,hlt,Aa]
   repeat' first | with_reducible apply And.intro | intro _
   all_goals first
    | (refine ih 1 (by omega) _ (by omega) ?_; grind [DW])
    | grind [DW]
  | succ j =>
   obtain ⟨c0,hx0⟩ : ∃ c0,p[j]? = some c0:=⟨p[j],AaK (by omega)⟩
   have hn0:=BQ hx0
   have e3 : (j : Int) + 1 < p.length:=by omega
   have e4 : (j : Int) < p.length:=by omega
   have e6 : (0 : Int) <= j + 1:=by omega
   have e7 : ((j : Int) + 1).toNat = j + 1:=by omega
   have hp0 : DW p (j + 1) = some c0:=hx0
   simp only [hp0] at hr
   simp (contextual:=true) (maxSteps:=2000000) (disch:=omega) [Ae,Af,Ac,Ag,-Int.not_lt,-Int.not_le,-Nat.not_lt,-Nat.not_le,-List.map_take,hr0,hn,hn0,e3,e4,e6,e7,hlt,cl (RX _ _ _),Aa]
   repeat' first | with_reducible apply And.intro | intro _
   all_goals first
    | (refine ih (j + 2) (by omega) _ (by omega) ?_; grind)
    | grind
theorem UD {t : TreeC} {h n : I} {es : List (List I)} (hT : TreeV t h n es) (H : Hp) : Gives G 24 [.m (.ag [.i .i64 t.states,h,n])] H (.m (.b (Bk t))) H:=by
 have hrh:=hT.hd.rules
 simp only [AY] at hrh
 have hrn:=hT.nd.rules
 have hln:=Dj hT
 have gh:=fun H=>Aad hT.hd (by have:=hT.hl; omega) H
 have hl1:=hT.hl
 have hl2:=hT.nl
 refine Ak rfl rfl rfl rfl rfl ?_
 have eO : Bk t = (decide (2 <= t.states /\ t.states <= 8) && (BO t.hood && (decide (1 <= t.nodes.length /\ t.nodes.length <= 4096) && (decide (levAt t.nodes (t.nodes.length - 1) = t.hood.length) && nodesOk t 0 t.nodes)))):=rfl
 by_cases s2 : t.states < 2
 ·have : Bk t = false:=by rw [eO,AaO (by omega)]; rfl
  simp (maxSteps:=2000000) (disch:=omega) [Ad,Ab,Aa,Ac,hrh,hrn,s2,this]
 by_cases s8 : 8 < t.states
 ·have : Bk t = false:=by rw [eO,AaO (by omega)]; rfl
  simp (maxSteps:=2000000) (disch:=omega) [Ad,Ab,Aa,Ac,hrh,hrn,s2,s8,this]
 cases hh : BO t.hood with
 | false =>
  have : Bk t = false:=by rw [eO,hh]; simp
  rw [hh] at gh
  simp (maxSteps:=2000000) (disch:=omega) [Ad,Ab,Aa,Ac,hrh,hrn,s2,s8,cl (gh _),this]
 | true =>
  rw [hh] at gh
  by_cases n1 : (es.length : Int) < 1
  ·have : Bk t = false:=by rw [eO,AaO (by rw [hln]; omega : ¬ (1 <= t.nodes.length /\ t.nodes.length <= 4096))]; simp
   simp (maxSteps:=2000000) (disch:=omega) [Ad,Ab,Aa,Ac,hrh,hrn,s2,s8,cl (gh _),n1,this]
  by_cases n2 : (4096 : Int) < es.length
  ·have : Bk t = false:=by rw [eO,AaO (by rw [hln]; omega : ¬ (1 <= t.nodes.length /\ t.nodes.length <= 4096))]; simp
   simp (maxSteps:=2000000) (disch:=omega) [Ad,Ab,Aa,Ac,hrh,hrn,s2,s8,cl (gh _),n1,n2,this]
  have hlt1 : es.length - 1 < t.nodes.length:=by omega
  obtain ⟨z0,hz0,_⟩:=Cl hT (AaK hlt1)
  have hle1 : es.length - 1 < es.length:=by omega
  have hle2 : ((es.length - 1 : Nat) : Int) < es.length:=by omega
  have w1 : wr .i64 ((es.length : Int) - 1) = ((es.length - 1 : Nat) : Int):=by rw [Aa (by omega) (by omega)]; omega
  have hlev:=Gs (AaK hlt1)
  have eroot : levAt t.nodes (t.nodes.length - 1) = t.nodes[es.length - 1].1:=by
   rw [<- hlev,hln]
   congr 1
   omega
  have hR : Bk t = (decide (t.nodes[es.length - 1].1 = t.hood.length) && nodesOk t 0 t.nodes):=by
   rw [eO,hh,AaP (by omega : 2 <= t.states /\ t.states <= 8),AaP (by omega : 1 <= t.nodes.length /\ t.nodes.length <= 4096),eroot]
   simp
  have hF : nodesOk t 0 t.nodes = false -> Bk t = false:=fun h=>by rw [hR,h,Bool.and_false]
  simp (maxSteps:=2000000) (disch:=omega) [Ad,Ab,Aa,Ac,hrh,hrn,s2,s8,cl (gh _),n1,n2]
  refine (?key : ∀ (i : Nat) (B : List (Nat × List V)),i <= t.nodes.length -> getB B 1 = some [.m (.i .i64 t.states),.m h,.m n] -> nodesOk t 0 t.nodes = nodesOk t i (t.nodes.drop i) -> Run G c24_B1 (S24_1 (.fa 1 0) (.m (.i .i64 es.length)) (.m (.i .i64 (i : Int))) B []) _) 0 _ (AaT _) rfl rfl
  refine Bd (fun i : Nat=>t.nodes.length - i) fun i ih B hi hB hI=>?_
  unfold c24_B1
  cases hx : t.nodes[i]? with
  | none =>
   have : i = es.length:=by have:=AaM.1 hx; omega
   subst this
   rw [<- hln,Abj] at hI
   have hI : nodesOk t 0 t.nodes = true:=hI
   rw [hI,Bool.and_true] at hR
   rw [hR]
   simp (maxSteps:=2000000) (disch:=omega) [Ad,Ab,Aa,hrn,hrh,hB,w1,hle1,hle2,hz0]
  | some nd =>
   have hlt:=(Aj hx).1
   have hlt1 : i < es.length:=by omega
   have hlt2 : (i : Int) < es.length:=by omega
   obtain ⟨z,hz,hzs,hzl,hzb⟩:=Cl hT hx
   have hrz:=hzs.rules
   have hz1:=Ao hzs
   simp only [Ck] at hrz
   have wi : wr .i64 ((i : Int) + 1) = ((i + 1 : Nat) : Int):=Aa (by omega) (by omega)
   rw [(Aj hx).2,FV] at hI
   have eN : Ez t i nd = (decide (1 <= nd.1 /\ nd.1 <= t.hood.length /\ (nd.2.length : Int) = t.states) && nd.2.all (OX t i nd.1)):=rfl
   by_cases m1 : nd.1 < 1
   ·have:=hF (by rw [hI,eN,AaO (by omega)]; rfl)
    simp (maxSteps:=2000000) (disch:=omega) [Ad,Ab,Aa,hrn,hrh,hlt1,hlt2,hz,hz1,hrz,hB,m1,this]
   by_cases m2 : (t.hood.length : Int) < nd.1
   ·have:=hF (by rw [hI,eN,AaO (by omega)]; rfl)
    simp (maxSteps:=2000000) (disch:=omega) [Ad,Ab,Aa,hrn,hrh,hlt1,hlt2,hz,hz1,hrz,hB,m1,m2,this]
   by_cases m3 : (nd.2.length : Int) = t.states
   rotate_left
   ·have:=hF (by rw [hI,eN,AaO (by omega)]; rfl)
    simp (maxSteps:=2000000) (disch:=omega) [Ad,Ab,Aa,hrn,hrh,hlt1,hlt2,hz,hz1,hrz,hB,m1,m2,m3,this]
   rw [eN,AaP (by omega : 1 <= nd.1 /\ nd.1 <= t.hood.length /\ (nd.2.length : Int) = t.states),Abl] at hI
   simp (maxSteps:=2000000) (disch:=omega) [Ad,Ab,Aa,hrn,hrh,hlt1,hlt2,hz,hz1,hrz,hB,m1,m2,m3]
   refine (?key2 : ∀ (j : Nat) (B : List (Nat × List V)),j <= nd.2.length -> getB B 1 = some [.m (.i .i64 t.states),.m h,.m n] -> getB B 5 = some [.m (.i .i64 nd.1),.m z] -> nodesOk t 0 t.nodes = ((nd.2.drop j).all (OX t i nd.1) && nodesOk t (i + 1) (t.nodes.drop (i + 1))) -> Run G c24_B0 (S24_0 (.fa 1 0) (.m (.i .i64 es.length)) (.m (.i .i64 (i : Int))) (.fa 5 0) (.m (.i .i64 (j : Int))) B []) _) 0 _ (AaT _) (by simpa using hB) (by simp) hI
   clear hI
   refine Bd (fun j : Nat=>nd.2.length - j) fun j ihj B hj hB h5 hI=>?_
   unfold c24_B0
   cases hy : nd.2[j]? with
   | none =>
    have : j = nd.2.length:=by have:=AaM.1 hy; omega
    subst this
    rw [Abj] at hI
    have k:=ih (i + 1) (by omega) B (by omega) hB hI
    have hjs : ¬ (nd.2.length : Int) < t.states:=by omega
    have hjs2 : ¬ ((nd.2.length : Nat) : Int) < t.states:=hjs
    simp (maxSteps:=2000000) (disch:=omega) [Ad,Ab,Aa,hrz,hB,h5,hjs,wi,-Int.natCast_add]
    exact k
   | some k =>
    have hjl:=(Aj hy).1
    have hjl2 : (j : Int) < nd.2.length:=by omega
    have hjs : (j : Int) < t.states:=by omega
    have hk : nth (DU nd.2) j = some [.i .i64 k]:=Cy hy
    have wj : wr .i64 ((j : Int) + 1) = ((j + 1 : Nat) : Int):=Aa (by omega) (by omega)
    have hkb:=hzb k (AaS hy)
    rw [(Aj hy).2,List.all_cons] at hI
    have eE : OX t i nd.1 k = decide (¬ k < 0 /\ ¬ (nd.1 = 1 /\ t.states <= k) /\ ¬ (1 < nd.1 /\ ((i : Int) <= k \/ ¬ levAt t.nodes k = nd.1 - 1))):=rfl
    have go:=fun (h : OX t i nd.1 k = true)=>ihj (j + 1) (by omega) B (by omega) hB h5 (by rw [hI,h,Abl])
    have no:=fun (h : OX t i nd.1 k = false)=>hF (by rw [hI,h]; rfl)
    have wl : wr .i64 (nd.1 - 1) = nd.1 - 1:=Aa (by omega) (by omega)
    by_cases k0 : k < 0
    ·have:=no (by rw [eE]; exact AaO fun h=>h.1 k0)
     simp (maxSteps:=2000000) (disch:=omega) [Ad,Ab,Aa,hrz,hjs,hjl,hjl2,hk,hB,h5,k0,this]
    by_cases l1 : nd.1 = 1
    ·have l2 : ¬ 1 < nd.1:=by omega
     by_cases ks : t.states <= k
     ·have:=no (by rw [eE]; exact AaO fun h=>h.2.1 ⟨l1,ks⟩)
      simp (maxSteps:=2000000) (disch:=omega) [Ad,Ab,Aa,hrz,hjs,hjl,hjl2,hk,hB,h5,k0,l1,ks,this]
     ·have kk:=go (by rw [eE]; exact AaP ⟨k0,fun h=>ks h.2,fun h=>l2 h.1⟩)
      rw [l1] at h5
      simp (maxSteps:=2000000) (disch:=omega) [Ad,Ab,Aa,hrz,hjs,hjl,hjl2,hk,hB,h5,k0,ks,wj,-Int.natCast_add]
      exact kk
    ·have l2 : 1 < nd.1:=by omega
     by_cases ki : (i : Int) <= k
     ·have:=no (by rw [eE]; exact AaO fun h=>h.2.2 ⟨l2,.inl ki⟩)
      simp (maxSteps:=2000000) (disch:=omega) [Ad,Ab,Aa,hrz,hjs,hjl,hjl2,hk,hB,h5,k0,l1,l2,ki,this]
     ·obtain ⟨kn,rfl⟩:=Abs (show 0 <= k by omega)
      have hkn : kn < t.nodes.length:=by omega
      have hkn1 : kn < es.length:=by omega
      have hkn2 : (kn : Int) < es.length:=by omega
      obtain ⟨z',hz',_⟩:=Cl hT (AaK hkn)
      have hlv:=Gs (AaK hkn)
      have ki2 : ¬ i <= kn:=by omega
      by_cases hle : t.nodes[kn].1 = nd.1 - 1
      ·have kk:=go (by rw [eE]; exact AaP ⟨k0,fun h=>l1 h.1,fun h=>h.2.elim ki fun h2=>h2 (hlv.trans hle)⟩)
       simp (maxSteps:=2000000) (disch:=omega) [Ad,Ab,Aa,hrz,hrn,hjs,hjl,hjl2,hk,hB,h5,k0,l1,l2,ki,ki2,hkn1,hkn2,hz',wl,hle,wj,-Int.natCast_add]
       exact kk
      ·have:=no (by rw [eE]; exact AaO fun h=>h.2.2 ⟨l2,.inr fun h2=>hle (hlv.symm.trans h2)⟩)
       simp (maxSteps:=2000000) (disch:=omega) [Ad,Ab,Aa,hrz,hrn,hjs,hjl,hjl2,hk,hB,h5,k0,l1,l2,ki,ki2,hkn1,hkn2,hz',wl,hle,this]
set_option maxHeartbeats 4000000 in
theorem Zy {t : TreeC} {h n : I} {es : List (List I)} (hT : TreeV t h n es) (H : Hp) : Gives G 45 [.m (.ag [.i .i64 t.states,h,n])] H (.m (.b (Bk t))) H:=by
 have hrh:=hT.hd.rules
 simp only [AY] at hrh
 have hrn:=hT.nd.rules
 have hln:=Dj hT
 have gh:=fun H=>Aac hT.hd (by have:=hT.hl; omega) H
 have hl1:=hT.hl
 have hl2:=hT.nl
 refine Ak rfl rfl rfl rfl rfl ?_
 have eO : Bk t = (decide (2 <= t.states /\ t.states <= 8) && (BO t.hood && (decide (1 <= t.nodes.length /\ t.nodes.length <= 4096) && (decide (levAt t.nodes (t.nodes.length - 1) = t.hood.length) && nodesOk t 0 t.nodes)))):=rfl
 by_cases s2 : t.states < 2
 ·have : Bk t = false:=by rw [eO,AaO (by omega)]; rfl
  simp (maxSteps:=2000000) (disch:=omega) [Ad,Ab,Aa,Ac,hrh,hrn,s2,this]
 by_cases s8 : 8 < t.states
 ·have : Bk t = false:=by rw [eO,AaO (by omega)]; rfl
  simp (maxSteps:=2000000) (disch:=omega) [Ad,Ab,Aa,Ac,hrh,hrn,s2,s8,this]
 cases hh : BO t.hood with
 | false =>
  have : Bk t = false:=by rw [eO,hh]; simp
  rw [hh] at gh
  simp (maxSteps:=2000000) (disch:=omega) [Ad,Ab,Aa,Ac,hrh,hrn,s2,s8,cl (gh _),this]
 | true =>
  rw [hh] at gh
  by_cases n1 : (es.length : Int) < 1
  ·have : Bk t = false:=by rw [eO,AaO (by rw [hln]; omega : ¬ (1 <= t.nodes.length /\ t.nodes.length <= 4096))]; simp
   simp (maxSteps:=2000000) (disch:=omega) [Ad,Ab,Aa,Ac,hrh,hrn,s2,s8,cl (gh _),n1,this]
  by_cases n2 : (4096 : Int) < es.length
  ·have : Bk t = false:=by rw [eO,AaO (by rw [hln]; omega : ¬ (1 <= t.nodes.length /\ t.nodes.length <= 4096))]; simp
   simp (maxSteps:=2000000) (disch:=omega) [Ad,Ab,Aa,Ac,hrh,hrn,s2,s8,cl (gh _),n1,n2,this]
  have hlt1 : es.length - 1 < t.nodes.length:=by omega
  obtain ⟨z0,hz0,_⟩:=Cl hT (AaK hlt1)
  have hle1 : es.length - 1 < es.length:=by omega
  have hle2 : ((es.length - 1 : Nat) : Int) < es.length:=by omega
  have w1 : wr .i64 ((es.length : Int) - 1) = ((es.length - 1 : Nat) : Int):=by rw [Aa (by omega) (by omega)]; omega
  have hlev:=Gs (AaK hlt1)
  have eroot : levAt t.nodes (t.nodes.length - 1) = t.nodes[es.length - 1].1:=by
   rw [<- hlev,hln]
   congr 1
   omega
  by_cases hroot : t.nodes[es.length - 1].1 = t.hood.length
  rotate_left
  ·have : Bk t = false:=by rw [eO,AaO (by rw [eroot]; exact hroot : ¬ levAt t.nodes (t.nodes.length - 1) = t.hood.length)]; simp
   simp (maxSteps:=2000000) (disch:=omega) [Ad,Ab,Aa,Ac,hrh,hrn,s2,s8,cl (gh _),n1,n2,w1,hle1,hle2,hz0,hroot,this]
  have hR : Bk t = nodesOk t 0 t.nodes:=by
   rw [eO,hh,AaP (by omega : 2 <= t.states /\ t.states <= 8),AaP (by omega : 1 <= t.nodes.length /\ t.nodes.length <= 4096),AaP (by rw [eroot]; exact hroot : levAt t.nodes (t.nodes.length - 1) = t.hood.length)]
   simp
  rw [hR]
  simp (maxSteps:=2000000) (disch:=omega) [Ad,Ab,Aa,Ac,hrh,hrn,s2,s8,cl (gh _),n1,n2,w1,hle1,hle2,hz0,hroot]
  refine (?key : ∀ (i : Nat) (B : List (Nat × List V)),i <= t.nodes.length -> getB B 1 = some [.m (.i .i64 t.states),.m h,.m n] -> nodesOk t 0 t.nodes = nodesOk t i (t.nodes.drop i) -> Run G c45_B1 (S45_1 (.fa 1 0) (.m n) (.m (.i .i64 es.length)) (.m (.i .i64 (i : Int))) B []) _) 0 _ (AaT _) rfl rfl
  refine Bd (fun i : Nat=>t.nodes.length - i) fun i ih B hi hB hI=>?_
  unfold c45_B1
  cases hx : t.nodes[i]? with
  | none =>
   have : i = es.length:=by have:=AaM.1 hx; omega
   subst this
   rw [<- hln,Abj] at hI
   have hI : nodesOk t 0 t.nodes = true:=hI
   simp (maxSteps:=2000000) (disch:=omega) [Ad,Ab,Aa,hrn,hI]
  | some nd =>
   have hlt:=(Aj hx).1
   have hlt1 : i < es.length:=by omega
   have hlt2 : (i : Int) < es.length:=by omega
   obtain ⟨z,hz,hzs,hzl,hzb⟩:=Cl hT hx
   have hrz:=hzs.rules
   have hz1:=Ao hzs
   simp only [Ck] at hrz
   have wi : wr .i64 ((i : Int) + 1) = ((i + 1 : Nat) : Int):=Aa (by omega) (by omega)
   rw [(Aj hx).2,FV] at hI
   have eN : Ez t i nd = (decide (1 <= nd.1 /\ nd.1 <= t.hood.length /\ (nd.2.length : Int) = t.states) && nd.2.all (OX t i nd.1)):=rfl
   by_cases m1 : nd.1 < 1
   ·have : nodesOk t 0 t.nodes = false:=by rw [hI,eN,AaO (by omega)]; rfl
    simp (maxSteps:=2000000) (disch:=omega) [Ad,Ab,Aa,hrn,hrh,hlt1,hlt2,hz,hz1,hrz,hB,m1,this]
   by_cases m2 : (t.hood.length : Int) < nd.1
   ·have : nodesOk t 0 t.nodes = false:=by rw [hI,eN,AaO (by omega)]; rfl
    simp (maxSteps:=2000000) (disch:=omega) [Ad,Ab,Aa,hrn,hrh,hlt1,hlt2,hz,hz1,hrz,hB,m1,m2,this]
   by_cases m3 : (nd.2.length : Int) = t.states
   rotate_left
   ·have : nodesOk t 0 t.nodes = false:=by rw [hI,eN,AaO (by omega)]; rfl
    simp (maxSteps:=2000000) (disch:=omega) [Ad,Ab,Aa,hrn,hrh,hlt1,hlt2,hz,hz1,hrz,hB,m1,m2,m3,this]
   rw [eN,AaP (by omega : 1 <= nd.1 /\ nd.1 <= t.hood.length /\ (nd.2.length : Int) = t.states),Abl] at hI
   simp (maxSteps:=2000000) (disch:=omega) [Ad,Ab,Aa,hrn,hrh,hlt1,hlt2,hz,hz1,hrz,hB,m1,m2,m3]
   rw [<- m3]
   refine (?key2 : ∀ (j : Nat) (B : List (Nat × List V)),j <= nd.2.length -> getB B 1 = some [.m (.i .i64 t.states),.m h,.m n] -> getB B 5 = some [.m (.i .i64 nd.1),.m z] -> nodesOk t 0 t.nodes = ((nd.2.drop j).all (OX t i nd.1) && nodesOk t (i + 1) (t.nodes.drop (i + 1))) -> Run G c45_B0 (S45_0 (.fa 1 0) (.m (.i .i64 (i : Int))) (.fa 5 0) (.m n) (.m (.i .i64 es.length)) (.m (.i .i64 (i : Int))) (.m z) (.m (.i .i64 nd.2.length)) (.m (.i .i64 (j : Int))) B []) _) 0 _ (AaT _) (by simpa using hB) (by simp) hI
   clear hI
   refine Bd (fun j : Nat=>nd.2.length - j) fun j ihj B hj hB h5 hI=>?_
   unfold c45_B0
   cases hy : nd.2[j]? with
   | none =>
    have : j = nd.2.length:=by have:=AaM.1 hy; omega
    subst this
    rw [Abj] at hI
    have k:=ih (i + 1) (by omega) B (by omega) hB hI
    simp (maxSteps:=2000000) (disch:=omega) [Ad,Ab,Aa,hrz,wi,-Int.natCast_add]
    exact k
   | some k =>
    have hjl:=(Aj hy).1
    have hjl2 : (j : Int) < nd.2.length:=by omega
    have hk : nth (DU nd.2) j = some [.i .i64 k]:=Cy hy
    have wj : wr .i64 ((j : Int) + 1) = ((j + 1 : Nat) : Int):=Aa (by omega) (by omega)
    have hkb:=hzb k (AaS hy)
    rw [(Aj hy).2,List.all_cons] at hI
    have eE : OX t i nd.1 k = decide (¬ k < 0 /\ ¬ (nd.1 = 1 /\ t.states <= k) /\ ¬ (1 < nd.1 /\ ((i : Int) <= k \/ ¬ levAt t.nodes k = nd.1 - 1))):=rfl
    have go:=fun (h : OX t i nd.1 k = true)=>ihj (j + 1) (by omega) B (by omega) hB h5 (by rw [hI,h,Abl])
    have no:=fun (h : OX t i nd.1 k = false)=>(by rw [hI,h]; rfl : nodesOk t 0 t.nodes = false)
    have wl : wr .i64 (nd.1 - 1) = nd.1 - 1:=Aa (by omega) (by omega)
    by_cases k0 : k < 0
    ·have:=no (by rw [eE]; exact AaO fun h=>h.1 k0)
     simp (maxSteps:=2000000) (disch:=omega) [Ad,Ab,Aa,hrz,hjl,hjl2,hk,hB,h5,k0,this]
    by_cases l1 : nd.1 = 1
    ·have l2 : ¬ 1 < nd.1:=by omega
     by_cases ks : t.states <= k
     ·have:=no (by rw [eE]; exact AaO fun h=>h.2.1 ⟨l1,ks⟩)
      simp (maxSteps:=2000000) (disch:=omega) [Ad,Ab,Aa,hrz,hjl,hjl2,hk,hB,h5,k0,l1,ks,this]
     ·have kk:=go (by rw [eE]; exact AaP ⟨k0,fun h=>ks h.2,fun h=>l2 h.1⟩)
      rw [l1] at h5
      simp (maxSteps:=2000000) (disch:=omega) [Ad,Ab,Aa,hrz,hjl,hjl2,hk,hB,h5,k0,ks,wj,-Int.natCast_add]
      exact kk
    ·have l2 : 1 < nd.1:=by omega
     by_cases ki : (i : Int) <= k
     ·have:=no (by rw [eE]; exact AaO fun h=>h.2.2 ⟨l2,.inl ki⟩)
      simp (maxSteps:=2000000) (disch:=omega) [Ad,Ab,Aa,hrz,hjl,hjl2,hk,hB,h5,k0,l1,l2,ki,this]
     ·obtain ⟨kn,rfl⟩:=Abs (show 0 <= k by omega)
      have hkn : kn < t.nodes.length:=by omega
      have hkn1 : kn < es.length:=by omega
      have hkn2 : (kn : Int) < es.length:=by omega
      obtain ⟨z',hz',_⟩:=Cl hT (AaK hkn)
      have hlv:=Gs (AaK hkn)
      have ki2 : ¬ i <= kn:=by omega
      by_cases hle : t.nodes[kn].1 = nd.1 - 1
      ·have kk:=go (by rw [eE]; exact AaP ⟨k0,fun h=>l1 h.1,fun h=>h.2.elim ki fun h2=>h2 (hlv.trans hle)⟩)
       simp (maxSteps:=2000000) (disch:=omega) [Ad,Ab,Aa,hrz,hrn,hjl,hjl2,hk,hB,h5,k0,l1,l2,ki,ki2,hkn1,hkn2,hz',wl,hle,wj,-Int.natCast_add]
       exact kk
      ·have:=no (by rw [eE]; exact AaO fun h=>h.2.2 ⟨l2,.inr fun h2=>hle (hlv.symm.trans h2)⟩)
       simp (maxSteps:=2000000) (disch:=omega) [Ad,Ab,Aa,hrz,hrn,hjl,hjl2,hk,hB,h5,k0,l1,l2,ki,ki2,hkn1,hkn2,hz',wl,hle,this]
theorem IT {nodes : List (Int × List Int)} {j : Nat} {nd : Int × List Int} (h : nodes[j]? = some nd) {s : Nat} {k : Int} (hk : nd.2[s]? = some k) : Fp nodes (j : Int) (s : Int) = k:=by
 unfold Fp
 rw [show ((j : Int)).toNat = j from rfl,h]
 dsimp only
 rw [show ((s : Int)).toNat = s from rfl,hk]
 rfl
set_option maxHeartbeats 2000000 in
theorem Wx {t : TreeC} {h n w : I} {es : List (List I)} (hT : TreeV t h n es) (hR : TreeR t) {ins : List Int} (hw : IsSl w (DU ins)) (hl : ins.length <= t.hood.length) (hs : ∀ s,s ∈ ins -> 0 <= s /\ s < t.states) (H : Hp) : Gives G 46 [.m (.ag [.i .i64 t.states,h,n]),.m w] H (.m (.i .i64 (IK t ins))) H:=by
 have hrn:=hT.nd.rules
 have hln:=Dj hT
 have hl2:=hT.nl
 have hrw:=hw.rules
 simp only [Ck] at hrw
 have hh:=BC hR.hood
 have n1:=hR.n1
 have n2:=hR.n2
 have w1 : wr .i64 ((es.length : Int) - 1) = (t.nodes.length : Int) - 1:=by rw [Aa (by omega) (by omega)]; omega
 refine Ak rfl rfl rfl rfl rfl ?_
 simp (maxSteps:=2000000) (disch:=omega) [Ad,Ab,Aa,hrn,hrw,w1]
 refine (?key : ∀ (i : Nat) (k : Int) (B : List (Nat × List V)),i <= ins.length -> getB B 2 = some [.m (.i .i64 t.states),.m h,.m n] -> k = IK t (ins.take i) -> Run G c46_B0 (S46_0 (.fa 2 0) (.m (.i .i64 k)) (.m w) (.m (.i .i64 ins.length)) (.m (.i .i64 (i : Int))) B []) _) 0 _ _ (AaT _) rfl rfl
 refine Bd (fun i : Nat=>ins.length - i) fun i ih k B hi hB hk=>?_
 unfold c46_B0
 cases hx : ins[i]? with
 | none =>
  have : i = ins.length:=by have:=AaM.1 hx; omega
  subst this
  rw [Aby] at hk
  simp (maxSteps:=2000000) (disch:=omega) [Ad,Ab,Aa,hrw,hk]
 | some s =>
  have hlt:=(Aj hx).1
  have hlt2 : (i : Int) < ins.length:=by omega
  have hsv:=hs s (AaS hx)
  have hsx : nth (DU ins) i = some [.i .i64 s]:=Cy hx
  have htl : (ins.take i).length = i:=by rw [AaW]; omega
  obtain ⟨j,nd,hkj,hnd,hlev,hlen⟩:=Kb hR i (ins.take i) htl (by omega) fun x hx=>hs x (AbZ hx)
  rw [<- hk] at hkj
  obtain ⟨z,hz,hzs,hzl,_⟩:=Cl hT hnd
  have hrz:=hzs.rules
  simp only [Ck] at hrz
  have hjl:=(Aj hnd).1
  have hjl1 : j < es.length:=by omega
  have hjl2 : (j : Int) < es.length:=by omega
  obtain ⟨sn,rfl⟩:=Abs hsv.1
  have hsn : sn < nd.2.length:=by omega
  have hsn2 : (sn : Int) < nd.2.length:=by omega
  obtain ⟨k2,hk2⟩ : ∃ k2,nd.2[sn]? = some k2:=⟨_,AaK hsn⟩
  have hk3 : nth (DU nd.2) sn = some [.i .i64 k2]:=Cy hk2
  have wi : wr .i64 ((i : Int) + 1) = ((i + 1 : Nat) : Int):=Aa (by omega) (by omega)
  have e1 : IK t (ins.take (i + 1)) = k2:=by
   rw [Au hx,DV,<- hk,hkj]
   exact IT hnd hk2
  have kk:=ih (i + 1) (by omega) k2 B (by omega) hB e1.symm
  rw [hkj]
  simp (maxSteps:=2000000) (disch:=omega) [Ad,Ab,Aa,hrw,hrn,hlt,hlt2,hsx,hB,hjl1,hjl2,hz,hrz,hsn,hsn2,hk3,wi,-Int.natCast_add]
  exact kk
theorem Lu {t : TreeC} {h n : I} {es : List (List I)} (hT : TreeV t h n es) (H : Hp) : Gives G 15 [.m (.ag [.i .i64 t.states,h,n])] H (.m (.b (AS t))) H:=by
 have g1:=fun H=>Zy hT H
 have hrh:=hT.hd.rules
 simp only [AY] at hrh
 refine Ak rfl rfl rfl rfl rfl ?_
 have eQ : AS t = (Bk t && decide (IK t (List.replicate t.hood.length 0) = 0)):=rfl
 cases ht : Bk t with
 | false =>
  rw [ht] at g1 eQ
  have eQ : AS t = false:=eQ
  simp (maxSteps:=2000000) (disch:=omega) [Ad,Ab,Aa,Ac,cl (g1 _),eQ]
 | true =>
  rw [ht] at g1 eQ
  rw [Abl] at eQ
  have hR:=Gq ht
  have hh:=BC hR.hood
  have hz : ∀ s,s ∈ List.replicate t.hood.length (0 : Int) -> 0 <= s /\ s < t.states:=fun s hs=>by
   have:=(List.mem_replicate.1 hs).2
   have:=hR.s2
   omega
  have hrow : (List.replicate t.hood.length ([V.m (.i .i64 0)] : List V)) = Bf (List.replicate t.hood.length 0):=by unfold Bf; rw [List.map_replicate]
  have gv0:=Wx hT hR (BF (DU (List.replicate t.hood.length 0))) (by simp) hz []
  have gv:=AX (H:=[Row.cs 3 1 (Bf (List.replicate t.hood.length 0)) 0 false]) (vs:=[.m (.ag [.i .i64 t.states,h,n]),.sl 0 t.hood.length 1 0 t.hood.length true]) (is:=[.ag [.i .i64 t.states,h,n],.sl (DU (List.replicate t.hood.length 0))]) rfl rfl gv0 (by
   have:=Tv (r:=0) (ver:=t.hood.length) (st:=0) (len:=t.hood.length) (lim:=true) (base:=0) (fz:=false) (l:=List.replicate t.hood.length 0) (H:=[Row.cs 3 1 (Bf (List.replicate t.hood.length 0)) 0 false]) rfl (AaT _) 18
   rw [AbV,Abc (by simp)] at this
   show Option.bind (some _) (fun _=>Option.bind (Option.bind (view 20 _ _) _) _) = _
   rw [this]
   rfl) (.inr ⟨by simp [DG,Fy],rfl⟩)
  rw [eQ]
  have hb : (t.hood.length : Int) <= 17592186044416:=by omega
  simp (maxSteps:=2000000) (disch:=omega) [Ad,Ab,Aa,Ac,cl (g1 _),hrh,hb,hrow,cl gv]
def EI (p : List Ce) : Int:=p.foldl (fun m c=>max m c.s) 0
theorem Hg (p : List Ce) (c : Ce) : EI (p ++ [c]) = max (EI p) c.s:=by simp [EI]
theorem Hh {k : Int} (hk : 0 < k) : ∀ n (p : List Ce),p.length = n -> (EI p < k ↔ ∀ c,c ∈ p -> c.s < k)
 | 0,p,h=>by
  rw [Abf h]
  simp [EI,hk]
 | n + 1,p,h=>by
  obtain ⟨q,c,rfl⟩ : ∃ q c,p = q ++ [c]:=⟨p.dropLast,p.getLast (by intro e; rw [e] at h; simp at h),(List.dropLast_concat_getLast _).symm⟩
  have ih:=Hh hk n q (by simpa using h)
  rw [Hg]
  constructor
  ·intro h1 d hd
   rcases AbC.1 hd with hd | hd
   ·exact ih.1 (by omega) d hd
   ·rw [Abn.1 hd]; omega
  ·intro h1
   have:=ih.2 fun d hd=>h1 d (by simp [hd])
   have:=h1 c (by simp)
   omega
theorem Zz {v : I} {p : List Ce} (hv : IsSl v (Al p)) (hl : (p.length : Int) <= 9223372036854775806) (H : Hp) : Gives G 54 [.m v] H (.m (.i .i64 (EI p))) H:=by
 have hr:=hv.rules
 simp only [show (Al p).length = p.length from by simp [Al]] at hr
 refine Ak rfl rfl rfl rfl rfl ?_
 simp (maxSteps:=2000000) (disch:=omega) [Ad,Ab,Aa,hr]
 refine (?key : ∀ (i : Nat) (m : Int) (B : List (Nat × List V)),i <= p.length -> m = EI (p.take i) -> Run G c54_B0 (S54_0 (.m v) (.m (.i .i64 m)) (.m (.i .i64 p.length)) (.m (.i .i64 (i : Int))) B []) _) 0 0 _ (AaT _) rfl
 refine Bd (fun i : Nat=>p.length - i) fun i ih m B hi hm=>?_
 unfold c54_B0
 cases hx : p[i]? with
 | none =>
  have : i = p.length:=by have:=AaM.1 hx; omega
  subst this
  rw [Aby] at hm
  simp (maxSteps:=2000000) (disch:=omega) [Ad,Ab,Aa,hr,hm]
 | some c =>
  have hlt:=(Aj hx).1
  have hlt' : (i : Int) < p.length:=by omega
  have hn:=Aq hx
  have wi : wr .i64 ((i : Int) + 1) = ((i + 1 : Nat) : Int):=Aa (by omega) (by omega)
  have k:=ih (i + 1) (by omega) (max m c.s) B (by omega) (by rw [Au hx,Hg,<- hm])
  simp (maxSteps:=2000000) (disch:=omega) [Ad,Ab,Aa,hr,hlt,hlt',hn,wi,-Int.natCast_add]
  exact k
def DI (t : TreeC) (p : List Ce) : Int:=if AS t = true then if Bo p = true then if EI p < t.states then 0 else 10 else 2 else 11
theorem Xk {t : TreeC} {h n v : I} {es : List (List I)} {p : List Ce} (hT : TreeV t h n es) (hv : IsSl v (Al p)) (hl : (p.length : Int) <= 9223372036854775806) (H : Hp) : Gives G 92 [.m (.ag [.i .i64 t.states,h,n]),.m v] H (.m (.i .i64 (DI t p))) H:=by
 have g1:=fun H=>Lu hT H
 have g2:=fun H=>IN hv (by omega) H
 have g3:=fun H=>Zz hv hl H
 refine Ak rfl rfl rfl rfl rfl ?_
 unfold DI
 cases hq : AS t with
 | false =>
  rw [hq] at g1
  simp (maxSteps:=2000000) (disch:=omega) [Ad,Ab,Aa,cl (g1 _)]
 | true =>
  rw [hq] at g1
  cases hr : Bo p with
  | false =>
   rw [hr] at g2
   simp (maxSteps:=2000000) (disch:=omega) [Ad,Ab,Aa,cl (g1 _),cl (g2 _)]
  | true =>
   rw [hr] at g2
   by_cases ht : EI p < t.states
   ·have ht2 : ¬ t.states <= EI p:=by omega
    simp (maxSteps:=2000000) (disch:=omega) [Ad,Ab,Aa,cl (g1 _),cl (g2 _),cl (g3 _),ht,ht2]
   ·have ht2 : t.states <= EI p:=by omega
    simp (maxSteps:=2000000) (disch:=omega) [Ad,Ab,Aa,cl (g1 _),cl (g2 _),cl (g3 _),ht,ht2]
theorem FR {t : TreeC} {p : List Ce} (h : DI t p = 0) : AS t = true /\ Bo p = true /\ Gd t p:=by
 unfold DI at h
 split at h
 ·rename_i hq
  split at h
  ·rename_i hr
   split at h
   ·rename_i ht
    have:=(Hh (by have:=(Dz hq).s2; omega) _ p rfl).1 ht
    refine ⟨hq,hr,fun c hc=>⟨?_,this c hc⟩⟩
    have:=(Bh hr).2.1 c hc
    unfold Co at this
    simp only [AaJ,AaU] at this
    omega
   ·cases h
  ·cases h
 ·cases h
theorem WS (x y : Int) (H : Hp) : Gives G 118 [.m (.ag [.i .i64 x,.i .i64 y])] H (.m (.b (AG x y))) H:=by
 refine Ak rfl rfl rfl rfl rfl ?_
 have e : AG x y = (decide (max x y <= 1048576) && decide (-1048576 <= min x y)):=by
  unfold AG
  rw [Abu]
  simp only [AaJ,AaU]
  omega
 rw [e]
 by_cases h1 : max x y <= 1048576
 ·simp (maxSteps:=2000000) (disch:=omega) [Ad,Ab,Aa,h1]
 ·simp (maxSteps:=2000000) (disch:=omega) [Ad,Ab,Aa,h1]
def fzm (m : List ((Int × Int) × Int)) : I:=.mp (m.map fun e=>[ekP e.1,.i .i64 e.2])
theorem Wv {H : Hp} {r : Nat} {m : List ((Int × Int) × Int)} (h : nth H r = some (mPI m)) (k : Nat) : view (k + 2) H (.mp r) = some (fzm m):=by
 show Option.bind (nth H r) _ = _
 rw [h]
 show Option.bind (Ai (fun (p : I × V)=>(view (k + 1) H p.2).bind fun x=>some [p.1,x]) (m.map fun p=>(ekP p.1,evI p.2))) _ = _
 have e : Ai (fun (p : I × V)=>(view (k + 1) H p.2).bind fun x=>some [p.1,x]) (m.map fun p=>(ekP p.1,evI p.2)) = some (m.map fun e=>[ekP e.1,.i .i64 e.2]):=by
  clear h
  induction m with
  | nil=>rfl
  | cons a r ih =>
   show Option.bind (some [ekP a.1,I.i .i64 a.2]) _ = _
   simp only [AaR,Abr]
   show Option.bind (Ai _ (r.map fun p=>(ekP p.1,evI p.2))) _ = _
   rw [ih]
   rfl
 rw [e]
 rfl
theorem Ng : ∀ m : List ((Int × Int) × Int),pairs (m.map fun e=>[ekP e.1,I.i .i64 e.2]) = some (m.map fun p=>(ekP p.1,evI p.2))
 | []=>rfl
 | a :: r=>by
  show Option.bind (pairs (r.map fun e=>[ekP e.1,I.i .i64 e.2])) _ = _
  rw [Ng r]
  rfl
theorem Aai (M : Mem) (m : List ((Int × Int) × Int)) (x y : Int) : readX M (.lkp ⟨true,[1,1]⟩ [.m (.i .i64 0)] false false) [.m (fzm m),.m (.ag [.i .i64 x,.i .i64 y])] = some (.m (.i .i64 ((Dc m (x,y)).getD 0))):=by
 have h1:=Wc m x y false
 have h2 : readX M (.lkp ⟨true,[1,1]⟩ [.m (.i .i64 0)] false false) [.m (fzm m),.m (.ag [.i .i64 x,.i .i64 y])] = (pairs (m.map fun e=>[ekP e.1,I.i .i64 e.2])).bind fun es=>GN ⟨true,[1,1]⟩ [.m (.i .i64 0)] false false (.mp es false) (.ag [.i .i64 x,.i .i64 y]):=rfl
 rw [h2,Ng]
 exact h1
theorem of_m {v : I} {p : List Ce} (hv : IsSl v (Al p)) (hr : Bo p = true) (H : Hp) : Gives G 116 [.m v] H (.m (fzm (CW p))) H:=by
 obtain ⟨pw,hg,hl⟩:=Bh hr
 have hrv:=hv.rules
 simp only [show (Al p).length = p.length from by simp [Al]] at hrv
 refine Ak rfl rfl rfl rfl rfl ?_
 simp (maxSteps:=2000000) (disch:=omega) [Ad,Ab,Aa,hrv]
 refine (?key : ∀ (i : Nat) (B : List (Nat × List V)),i <= p.length -> Run G c116_B0 (S116_0 (.mp 0) (.m v) (.m (.i .i64 p.length)) (.m (.i .i64 (i : Int))) B [mPI (CW (p.take i))]) _) 0 _ (AaT _)
 refine Bd (fun i : Nat=>p.length - i) fun i ih B hi=>?_
 unfold c116_B0
 cases hx : p[i]? with
 | none =>
  have : i = p.length:=by have:=AaM.1 hx; omega
  subst this
  rw [Aby]
  have hvw : DK [mPI (CW p)] (.mp 0) = some (.m (fzm (CW p))):=by
   show (view 20 _ _).bind _ = _
   rw [Wv (H:=[mPI (CW p)]) (r:=0) (m:=CW p) rfl 18]
   rfl
  simp (maxSteps:=2000000) (disch:=omega) [Ad,Ab,Aa,hvw]
 | some c =>
  have hlt:=(Aj hx).1
  have hlt' : (i : Int) < p.length:=by omega
  have hn:=Aq hx
  have wi : wr .i64 ((i : Int) + 1) = ((i + 1 : Nat) : Int):=Aa (by omega) (by omega)
  have pw':=pw
  rw [<- List.take_append_drop i p,(Aj hx).2] at pw'
  have hm:=Ks pw'
  rw [<- Au hx] at hm
  have k:=ih (i + 1) (by omega)
  simp (maxSteps:=2000000) (disch:=omega) [Ad,Ab,Aa,hrv,hlt,hlt',hn,wi,hm,-Int.natCast_add]
  exact k _ (by omega)
set_option maxHeartbeats 2000000 in
theorem ZZ {t : TreeC} {h n : I} {es : List (List I)} (hT : TreeV t h n es) (hR : TreeR t) {p : List Ce} (hp : Gd t p) (x y : Int) (hx : -10000000 <= x /\ x <= 10000000) (hy : -10000000 <= y /\ y <= 10000000) (H : Hp) : Gives G 117 [.m (fzm (CW p)),.m (.ag [.i .i64 t.states,h,n]),.m (.ag [.i .i64 x,.i .i64 y])] H (.m (.i .i64 (Bj t p x y))) H:=by
 have hrn:=hT.nd.rules
 have hln:=Dj hT
 have hl2:=hT.nl
 have hrh:=hT.hd.rules
 simp only [AY] at hrh
 have hh:=BC hR.hood
 have n1:=hR.n1
 have n2:=hR.n2
 have w1 : wr .i64 ((es.length : Int) - 1) = (t.nodes.length : Int) - 1:=by rw [Aa (by omega) (by omega)]; omega
 refine Ak rfl rfl rfl rfl rfl ?_
 simp (maxSteps:=2000000) (disch:=omega) [Ad,Ab,Aa,hrn,hrh,w1]
 refine (?key : ∀ (i : Nat) (k : Int) (B : List (Nat × List V)),i <= t.hood.length -> getB B 4 = some [.m (.i .i64 t.states),.m h,.m n] -> getB B 5 = some [.m (.i .i64 x),.m (.i .i64 y)] -> k = IK t ((Kr t p x y).take i) -> Run G c117_B0 (S117_0 (.m (fzm (CW p))) (.fa 4 0) (.fa 5 0) (.m (.i .i64 k)) (.m h) (.m (.i .i64 t.hood.length)) (.m (.i .i64 (i : Int))) B []) _) 0 _ _ (AaT _) rfl rfl rfl
 refine Bd (fun i : Nat=>t.hood.length - i) fun i ih k B hi hB h5 hk=>?_
 unfold c117_B0
 cases ho : t.hood[i]? with
 | none =>
  have : i = t.hood.length:=by have:=AaM.1 ho; omega
  subst this
  rw [Abc (by rw [Fq]; exact AaQ _)] at hk
  have hk : k = Bj t p x y:=hk
  simp (maxSteps:=2000000) (disch:=omega) [Ad,Ab,Aa,hrh,hk]
 | some o =>
  have hlt:=(Aj ho).1
  have hlt2 : (i : Int) < t.hood.length:=by omega
  have hox:=BQ ho
  have hob:=El hR.hood o (AaS ho)
  have hs : (Kr t p x y)[i]? = some (By p (x + o.1) (y + o.2)):=by unfold Kr; rw [Abb,ho]; rfl
  have hsv:=IX hR hp (x + o.1) (y + o.2)
  have htl : ((Kr t p x y).take i).length = i:=by rw [AaW,Fq]; omega
  obtain ⟨j,nd,hkj,hnd,hlev,hlen⟩:=Kb hR i ((Kr t p x y).take i) htl (by omega) fun z hz=>IU hR hp z (AbZ hz)
  rw [<- hk] at hkj
  obtain ⟨z,hz,hzs,hzl,_⟩:=Cl hT hnd
  have hrz:=hzs.rules
  simp only [Ck] at hrz
  have hjl:=(Aj hnd).1
  have hjl1 : j < es.length:=by omega
  have hjl2 : (j : Int) < es.length:=by omega
  have hmf:=Oy p (x + o.1) (y + o.2)
  have hfz:=fun M=>Aai M (CW p) (x + o.1) (y + o.2)
  rw [hmf] at hfz
  obtain ⟨sn,hsn0⟩:=Abs hsv.1
  rw [hsn0] at hs hsv hfz
  have hsn : sn < nd.2.length:=by omega
  have hsn2 : (sn : Int) < nd.2.length:=by omega
  obtain ⟨k2,hk2⟩ : ∃ k2,nd.2[sn]? = some k2:=⟨_,AaK hsn⟩
  have hk3 : nth (DU nd.2) sn = some [.i .i64 k2]:=Cy hk2
  have wi : wr .i64 ((i : Int) + 1) = ((i + 1 : Nat) : Int):=Aa (by omega) (by omega)
  have wx : wr .i64 (x + o.1) = x + o.1:=Aa (by omega) (by omega)
  have wy : wr .i64 (y + o.2) = y + o.2:=Aa (by omega) (by omega)
  have e1 : IK t ((Kr t p x y).take (i + 1)) = k2:=by
   rw [Au hs,DV,<- hk,hkj]
   exact IT hnd hk2
  have kk:=fun B'=>ih (i + 1) (by omega) k2 B' (by omega)
  rw [hkj]
  simp (maxSteps:=2000000) (disch:=omega) [Ad,Ab,Aa,hrh,hrn,hlt,hlt2,hox,hB,h5,hjl1,hjl2,hz,hrz,wx,wy,hfz,hsn,hsn2,hk3,wi,-Int.natCast_add]
  exact kk _ (by simpa using hB) (by simpa using h5) e1.symm
set_option maxHeartbeats 2000000 in
theorem QJ {t : TreeC} {h n w : I} {es : List (List I)} (hT : TreeV t h n es) (hR : TreeR t) {ins : List Int} (hw : IsSl w (DU ins)) (hl : ins.length <= t.hood.length) (hs : ∀ s,s ∈ ins -> 0 <= s /\ s < t.states) (H : Hp) : Gives G 66 [.m (.ag [.i .i64 t.states,h,n]),.m w] H (.m (.i .i64 (IK t ins))) H:=by
 have hrn:=hT.nd.rules
 have hln:=Dj hT
 have hl2:=hT.nl
 have hrw:=hw.rules
 simp only [Ck] at hrw
 have hh:=BC hR.hood
 have n1:=hR.n1
 have n2:=hR.n2
 have w1 : wr .i64 ((es.length : Int) - 1) = (t.nodes.length : Int) - 1:=by rw [Aa (by omega) (by omega)]; omega
 refine Ak rfl rfl rfl rfl rfl ?_
 simp (maxSteps:=2000000) (disch:=omega) [Ad,Ab,Aa,hrn,hrw,w1]
 refine (?key : ∀ (i : Nat) (k : Int) (B : List (Nat × List V)),i <= ins.length -> getB B 2 = some [.m (.i .i64 t.states),.m h,.m n] -> k = IK t (ins.take i) -> Run G c66_B0 (S66_0 (.m w) (.fa 2 0) (.m (.i .i64 k)) (.m (.i .i64 (i : Int))) B []) _) 0 _ _ (AaT _) rfl rfl
 refine Bd (fun i : Nat=>ins.length - i) fun i ih k B hi hB hk=>?_
 unfold c66_B0
 cases hx : ins[i]? with
 | none =>
  have : i = ins.length:=by have:=AaM.1 hx; omega
  subst this
  rw [Aby] at hk
  simp (maxSteps:=2000000) (disch:=omega) [Ad,Ab,Aa,hrw,hk]
 | some s =>
  have hlt:=(Aj hx).1
  have hlt2 : (i : Int) < ins.length:=by omega
  have hsv:=hs s (AaS hx)
  have hsx : nth (DU ins) i = some [.i .i64 s]:=Cy hx
  have htl : (ins.take i).length = i:=by rw [AaW]; omega
  obtain ⟨j,nd,hkj,hnd,hlev,hlen⟩:=Kb hR i (ins.take i) htl (by omega) fun x hx=>hs x (AbZ hx)
  rw [<- hk] at hkj
  obtain ⟨z,hz,hzs,hzl,_⟩:=Cl hT hnd
  have hrz:=hzs.rules
  simp only [Ck] at hrz
  have hjl:=(Aj hnd).1
  have hjl1 : j < es.length:=by omega
  have hjl2 : (j : Int) < es.length:=by omega
  obtain ⟨sn,rfl⟩:=Abs hsv.1
  have hsn : sn < nd.2.length:=by omega
  have hsn2 : (sn : Int) < nd.2.length:=by omega
  obtain ⟨k2,hk2⟩ : ∃ k2,nd.2[sn]? = some k2:=⟨_,AaK hsn⟩
  have hk3 : nth (DU nd.2) sn = some [.i .i64 k2]:=Cy hk2
  have wi : wr .i64 ((i : Int) + 1) = ((i + 1 : Nat) : Int):=Aa (by omega) (by omega)
  have e1 : IK t (ins.take (i + 1)) = k2:=by
   rw [Au hx,DV,<- hk,hkj]
   exact IT hnd hk2
  have kk:=ih (i + 1) (by omega) k2 B (by omega) hB e1.symm
  rw [hkj]
  simp (maxSteps:=2000000) (disch:=omega) [Ad,Ab,Aa,hrw,hrn,hlt,hlt2,hsx,hB,hjl1,hjl2,hz,hrz,hsn,hsn2,hk3,wi,-Int.natCast_add]
  exact kk
theorem Aar {t : TreeC} {h n w : I} {es : List (List I)} (hT : TreeV t h n es) (hO : Bk t = true) {ins : List Int} (hw : IsSl w (DU ins)) (hl : ins.length = t.hood.length) (hs : ∀ s,s ∈ ins -> 0 <= s /\ s < t.states) (H : Hp) : Gives G 25 [.m (.ag [.i .i64 t.states,h,n]),.m w] H (.tu [.m (.i .i64 (IK t ins)),.m (.i .i64 0)]) H:=by
 have hR:=Gq hO
 have g1:=fun H=>UD hT H
 rw [hO] at g1
 have g2:=fun H=>QJ hT hR hw (by omega) hs H
 have hh:=BC hR.hood
 have hrw:=hw.rules
 simp only [Ck] at hrw
 have hrh:=hT.hd.rules
 simp only [AY] at hrh
 have hl2 : (ins.length : Int) = t.hood.length:=by omega
 refine Ak rfl rfl rfl rfl rfl ?_
 simp (maxSteps:=2000000) (disch:=omega) [Ad,Ab,Aa,cl (g1 _),hrw,hrh,hl]
 refine (?key : ∀ (i : Nat) (B : List (Nat × List V)),i <= ins.length -> getB B 2 = some [.m (.i .i64 t.states),.m h,.m n] -> Run G c25_B0 (S25_0 (.m w) (.fa 2 0) (.m (.i .i64 (i : Int))) B []) _) 0 _ (AaT _) rfl
 refine Bd (fun i : Nat=>ins.length - i) fun i ih B hi hB=>?_
 unfold c25_B0
 cases hx : ins[i]? with
 | none =>
  have : i = ins.length:=by have:=AaM.1 hx; omega
  subst this
  simp (maxSteps:=2000000) (disch:=omega) [Ad,Ab,Aa,hrw,hB,cl (g2 _)]
 | some s =>
  have hlt:=(Aj hx).1
  have hlt2 : (i : Int) < ins.length:=by omega
  have hsv:=hs s (AaS hx)
  have h1 : ¬ s < 0:=by omega
  have h2 : ¬ t.states <= s:=by omega
  have hsx : nth (DU ins) i = some [.i .i64 s]:=Cy hx
  have wi : wr .i64 ((i : Int) + 1) = ((i + 1 : Nat) : Int):=Aa (by omega) (by omega)
  have kk:=ih (i + 1) (by omega) B (by omega) hB
  simp (maxSteps:=2000000) (disch:=omega) [Ad,Ab,Aa,hrw,hlt,hlt2,hsx,hB,h1,h2,wi,-Int.natCast_add]
  exact kk
theorem IP {t : TreeC} {h n : I} {es : List (List I)} (hT : TreeV t h n es) (H : Hp) : Gives G 9 [.m (.ag [.i .i64 t.states,h,n])] H (.m (.b (AS t))) H:=by
 have g1:=fun H=>UD hT H
 have hrh:=hT.hd.rules
 simp only [AY] at hrh
 refine Ak rfl rfl rfl rfl rfl ?_
 have eQ : AS t = (Bk t && decide (IK t (List.replicate t.hood.length 0) = 0)):=rfl
 cases ht : Bk t with
 | false =>
  rw [ht] at g1 eQ
  have eQ : AS t = false:=eQ
  simp (maxSteps:=2000000) (disch:=omega) [Ad,Ab,Aa,Ac,cl (g1 _),eQ]
 | true =>
  rw [ht] at g1 eQ
  rw [Abl] at eQ
  have hR:=Gq ht
  have hh:=BC hR.hood
  have hz : ∀ s,s ∈ List.replicate t.hood.length (0 : Int) -> 0 <= s /\ s < t.states:=fun s hs=>by
   have:=(List.mem_replicate.1 hs).2
   have:=hR.s2
   omega
  have hrow : (List.replicate t.hood.length ([V.m (.i .i64 0)] : List V)) = Bf (List.replicate t.hood.length 0):=by unfold Bf; rw [List.map_replicate]
  have gv0:=Aar hT ht (BF (DU (List.replicate t.hood.length 0))) (by simp) hz []
  have gv:=AX (H:=[Row.cs 3 1 (Bf (List.replicate t.hood.length 0)) 0 false]) (vs:=[.m (.ag [.i .i64 t.states,h,n]),.sl 0 t.hood.length 1 0 t.hood.length true]) (is:=[.ag [.i .i64 t.states,h,n],.sl (DU (List.replicate t.hood.length 0))]) rfl rfl gv0 (by
   have:=Tv (r:=0) (ver:=t.hood.length) (st:=0) (len:=t.hood.length) (lim:=true) (base:=0) (fz:=false) (l:=List.replicate t.hood.length 0) (H:=[Row.cs 3 1 (Bf (List.replicate t.hood.length 0)) 0 false]) rfl (AaT _) 18
   rw [AbV,Abc (by simp)] at this
   show Option.bind (some _) (fun _=>Option.bind (Option.bind (view 20 _ _) _) _) = _
   rw [this]
   rfl) (.inr ⟨by simp [DG,Fy],rfl⟩)
  rw [eQ]
  have hb : (t.hood.length : Int) <= 17592186044416:=by omega
  simp (maxSteps:=2000000) (disch:=omega) [Ad,Ab,Aa,Ac,cl (g1 _),hrh,hb,hrow,cl gv]
theorem Nv {t : TreeC} {h n v : I} {es : List (List I)} {p : List Ce} (hT : TreeV t h n es) (hv : IsSl v (Al p)) (hl : (p.length : Int) <= 9223372036854775806) (H : Hp) : Gives G 97 [.m (.ag [.i .i64 t.states,h,n]),.m v] H (.m (.i .i64 (DI t p))) H:=by
 have g1:=fun H=>IP hT H
 have g2:=fun H=>Hl hv (by omega) H
 have hrv:=hv.rules
 simp only [show (Al p).length = p.length from by simp [Al]] at hrv
 refine Ak rfl rfl rfl rfl rfl ?_
 have eC : DI t p = if AS t = true then if Bo p = true then if EI p < t.states then 0 else 10 else 2 else 11:=rfl
 cases hq : AS t with
 | false =>
  rw [hq] at g1 eC
  have eC : DI t p = 11:=eC
  simp (maxSteps:=2000000) (disch:=omega) [Ad,Ab,Aa,cl (g1 _),eC]
 | true =>
  rw [hq] at g1 eC
  cases hr : Bo p with
  | false =>
   rw [hr] at g2 eC
   have eC : DI t p = 2:=eC
   simp (maxSteps:=2000000) (disch:=omega) [Ad,Ab,Aa,cl (g1 _),cl (g2 _),eC]
  | true =>
   rw [hr] at g2 eC
   have eC : DI t p = if EI p < t.states then 0 else 10:=eC
   have hs2:=(Dz hq).s2
   have htop:=Hh (k:=t.states) (by omega) _ p rfl
   simp (maxSteps:=2000000) (disch:=omega) [Ad,Ab,Aa,cl (g1 _),cl (g2 _)]
   refine (?key : ∀ (i : Nat) (B : List (Nat × List V)),i <= p.length -> getB B 2 = some [.m (.i .i64 t.states),.m h,.m n] -> (∀ (j : Nat) c,j < i -> p[j]? = some c -> c.s < t.states) -> Run G c97_B0 (S97_0 (.m v) (.fa 2 0) (.m (.i .i64 (i : Int))) B []) _) 0 _ (AaT _) rfl (fun j c h=>by omega)
   refine Bd (fun i : Nat=>p.length - i) fun i ih B hi hB hall=>?_
   unfold c97_B0
   cases hx : p[i]? with
   | none =>
    have : i = p.length:=by have:=AaM.1 hx; omega
    subst this
    have e0 : DI t p = 0:=by
     rw [eC,AaN (htop.2 fun c hc=>by
      obtain ⟨j,hj⟩:=AbW.1 hc
      exact hall j c (Aj hj).1 hj)]
    simp (maxSteps:=2000000) (disch:=omega) [Ad,Ab,Aa,hrv,e0]
   | some c =>
    have hlt:=(Aj hx).1
    have hlt' : (i : Int) < p.length:=by omega
    have hn:=Aq hx
    have wi : wr .i64 ((i : Int) + 1) = ((i + 1 : Nat) : Int):=Aa (by omega) (by omega)
    by_cases hc : t.states <= c.s
    ·have e1 : DI t p = 10:=by rw [eC,AaL (fun h=>by have:=htop.1 h c (AaS hx); omega)]
     simp (maxSteps:=2000000) (disch:=omega) [Ad,Ab,Aa,hrv,hlt,hlt',hn,hB,hc,e1]
    ·have kk:=ih (i + 1) (by omega) B (by omega) hB (fun j d hj hd=>by
      by_cases e : j < i
      ·exact hall j d e hd
      ·have : j = i:=by omega
       subst this
       rw [hx] at hd
       cases hd
       omega)
     simp (maxSteps:=2000000) (disch:=omega) [Ad,Ab,Aa,hrv,hlt,hlt',hn,hB,hc,wi,-Int.natCast_add]
     exact kk
theorem Aab {y : I} {es : List (List I)} (h : IsSl y es) : Av (.m y) = some [.m y]:=by
 rcases h with rfl | ⟨rfl,_⟩ <;> rfl
theorem box_f {p : List Ce} (hr : Bo p = true) : ∃ (bx by_ : Int) (w h : Nat),Xl p = [bx,by_,(w : Int),(h : Int)] /\ (w <= 2097153 /\ h <= 2097153) /\ (-1048576 <= bx /\ bx <= 1048576) /\ (-1048576 <= by_ /\ by_ <= 1048576) /\ (∀ c,c ∈ p -> (bx <= c.x /\ c.x < bx + w) /\ (by_ <= c.y /\ c.y < by_ + h)) /\ ((1 <= w /\ 1 <= h) \/ (w = 0 /\ h = 0)):=by
 cases p with
 | nil=>exact ⟨0,0,0,0,rfl,by omega,by omega,by omega,fun c hc=>(by cases hc),.inr ⟨rfl,rfl⟩⟩
 | cons a r =>
  obtain ⟨_,hg,_⟩:=Bh hr
  have hb : ∀ c,c ∈ a :: r -> (-1048576 <= c.x /\ c.x <= 1048576) /\ (-1048576 <= c.y /\ c.y <= 1048576):=fun c hc=>by
   have:=hg c hc
   unfold Co AG at this
   simp only [AaJ,AaU] at this
   omega
  obtain ⟨l,hl⟩ : ∃ d,(a :: r)[(a :: r).length - 1]? = some d:=⟨_,AaK (by simp)⟩
  obtain ⟨y1,y2⟩:=MZ hr hl
  have hla : ∀ h,(a :: r).getLast h = l:=fun h=>by
   rw [List.getLast_eq_getElem,<- AaG,<- hl,AaK]
  have mx:=fun (e : Ce) (he : e ∈ a :: r)=>(Nk ((a :: r).map Ce.x) a.x).2 _ (List.mem_map_of_mem he)
  have mn:=fun (e : Ce) (he : e ∈ a :: r)=>(Nm ((a :: r).map Ce.x) a.x).2 _ (List.mem_map_of_mem he)
  have my:=fun (e : Ce) (he : e ∈ a :: r)=>(Nk ((a :: r).map Ce.y) a.y).2 _ (List.mem_map_of_mem he)
  have ny:=fun (e : Ce) (he : e ∈ a :: r)=>(Nm ((a :: r).map Ce.y) a.y).2 _ (List.mem_map_of_mem he)
  rw [y2] at my
  rw [y1] at ny
  have bX : mxF a.x ((a :: r).map Ce.x) <= 1048576:=Rz _ _ _ ⟨(hb a (Abq ..)).1.2,fun y hy=>by
   obtain ⟨e,he,rfl⟩:=Abz.1 hy
   exact (hb e he).1.2⟩
  have bN : -1048576 <= mnF a.x ((a :: r).map Ce.x):=RA _ _ _ ⟨(hb a (Abq ..)).1.1,fun y hy=>by
   obtain ⟨e,he,rfl⟩:=Abz.1 hy
   exact (hb e he).1.1⟩
  have hlb:=hb l (AaS hl)
  have hab:=hb a (Abq ..)
  have m5:=mn a (Abq ..)
  have m6:=mx a (Abq ..)
  have m7:=my a (Abq ..)
  have e : Xl (a :: r) = [mnF a.x ((a :: r).map Ce.x),a.y,wr .i64 (wr .i64 (mxF a.x ((a :: r).map Ce.x) - mnF a.x ((a :: r).map Ce.x)) + 1),wr .i64 (wr .i64 (l.y - a.y) + 1)]:=by
   unfold Xl
   dsimp only
   rw [AaN hr,hla]
  generalize mnF a.x ((a :: r).map Ce.x) = n at *
  generalize mxF a.x ((a :: r).map Ce.x) = m at *
  rw [Aa (x:=m - n) (by omega) (by omega),Aa (x:=m - n + 1) (by omega) (by omega),Aa (x:=l.y - a.y) (by omega) (by omega),Aa (x:=l.y - a.y + 1) (by omega) (by omega)] at e
  obtain ⟨w,hw⟩:=Abs (show 0 <= m - n + 1 by omega)
  obtain ⟨k,hk⟩:=Abs (show 0 <= l.y - a.y + 1 by omega)
  rw [hw,hk] at e
  refine ⟨n,a.y,w,k,e,by omega,by omega,by omega,fun c hc=>?_,.inl ⟨by omega,by omega⟩⟩
  have h1:=mx c hc
  have h2:=mn c hc
  have h3:=my c hc
  have h4:=ny c hc
  omega
theorem RG {q : List Ce} {c : Ce} (h : ∀ d,d ∈ q -> ¬ (d.x = c.x /\ d.y = c.y)) (x y : Int) : By (q ++ [c]) x y = if c.x = x /\ c.y = y then c.s else By q x y:=by
 induction q with
 | nil=>rfl
 | cons d r ih =>
  have ih:=ih fun e he=>h e (List.mem_cons_of_mem _ he)
  have hd:=h d (Abq ..)
  have e1 : By (d :: r ++ [c]) x y = if d.x = x /\ d.y = y then d.s else By (r ++ [c]) x y:=rfl
  have e2 : By (d :: r) x y = if d.x = x /\ d.y = y then d.s else By r x y:=rfl
  rw [e1,e2,ih]
  by_cases h1 : d.x = x /\ d.y = y
  ·rw [AaN h1,AaN h1,AaL]
   intro h2
   exact hd ⟨by omega,by omega⟩
  ·rw [AaL h1,AaL h1]
theorem IY {p : List Ce} {x y : Int} (h : ∀ c,c ∈ p -> ¬ (c.x = x /\ c.y = y)) : By p x y = 0:=Classical.byContradiction fun hn=>by
 obtain ⟨c,hc,h1,h2,_⟩:=Ns hn
 exact h c hc ⟨h1,h2⟩
def Cz (p : List Ce) (bx by_ : Int) (w n : Nat) : List Int:=(List.range n).map fun k=>By p (bx + ((k % w : Nat) : Int)) (by_ + ((k / w : Nat) : Int))
theorem Dp (p : List Ce) (bx by_ : Int) (w n : Nat) : (Cz p bx by_ w n).length = n:=by simp [Cz]
theorem UP {a b w : Nat} (h : a < w) : (b * w + a) / w = b /\ (b * w + a) % w = a:=by
 constructor
 ·rw [Aca,Nat.mul_add_div (by omega),Nat.div_eq_of_lt h]; rfl
 ·rw [Aca,Nat.mul_add_mod,Nat.mod_eq_of_lt h]
theorem TS (p : List Ce) (bx by_ : Int) {w n a b : Nat} (ha : a < w) (hn : b * w + a < n) : (Cz p bx by_ w n)[b * w + a]? = some (By p (bx + a) (by_ + b)):=by
 unfold Cz
 rw [Abb,List.getElem?_range hn]
 obtain ⟨h1,h2⟩:=UP (b:=b) ha
 show some (By p (bx + (((b * w + a) % w : Nat) : Int)) (by_ + (((b * w + a) / w : Nat) : Int))) = _
 rw [h1,h2]
theorem TQ {q : List Ce} {c : Ce} (bx by_ : Int) {w n a b : Nat} (ha : a < w) (hn : b * w + a < n) (hx : c.x = bx + a) (hy : c.y = by_ + b) (h : ∀ d,d ∈ q -> ¬ (d.x = c.x /\ d.y = c.y)) : Cz (q ++ [c]) bx by_ w n = (Cz q bx by_ w n).set (b * w + a) c.s:=by
 refine List.ext_getElem? fun k=>?_
 rw [List.getElem?_set]
 by_cases hk : k < n
 ·have e : ∀ p,(Cz p bx by_ w n)[k]? = some (By p (bx + ((k % w : Nat) : Int)) (by_ + ((k / w : Nat) : Int))):=fun p=>by
   unfold Cz
   rw [Abb,List.getElem?_range hk]
   rfl
  rw [e,e,Dp,RG h]
  by_cases hk0 : b * w + a = k
  ·subst hk0
   obtain ⟨h1,h2⟩:=UP (b:=b) ha
   rw [h1,h2,AaN rfl,AaN hn,AaN ⟨hx,hy⟩]
  ·rw [AaL hk0,AaL]
   intro ⟨h1,h2⟩
   have e1 : k % w = a:=by omega
   have e2 : k / w = b:=by omega
   have:=Nat.div_add_mod k w
   rw [e1,e2,Aca] at this
   exact hk0 this
 ·have e : ∀ p,(Cz p bx by_ w n)[k]? = none:=fun p=>AaM.2 (by rw [Dp]; omega)
  rw [e,e,AaL (by omega)]
theorem TR (bx by_ : Int) (w n : Nat) : Cz [] bx by_ w n = List.replicate n 0:=by
 unfold Cz
 rw [show (fun k : Nat=>By [] (bx + ((k % w : Nat) : Int)) (by_ + ((k / w : Nat) : Int))) = fun _=>0 from rfl,List.map_const',List.length_range]
theorem w1_x {l : List Int} {j : Nat} (h : j < l.length) (x : Int) : EN 1 (Bf l) j 0 [.m (.i .i64 x)] = some (Bf (l.set j x)):=by
 have hx : l[j]? = some l[j]:=AaK h
 have hn : nth (Bf l) j = some [.m (.i .i64 l[j])]:=by rw [Bb]; simp [Bf,h]
 show (nth (Bf l) j).bind _ = _
 rw [hn]
 show Bw (Bf l) j [.m (.i .i64 x)] = _
 rw [BX _ _ _ (by rw [EU]; exact h)]
 simp [Bf,List.map_set]
def Kz (fl : Bool) (bx by_ w h : Int) (cs li : I) : I:=.ag [.b fl,.i .i64 bx,.i .i64 by_,.i .i64 w,.i .i64 h,cs,li]
structure FldV (p : List Ce) (v x : I) : Prop where
 ex : ∃ (bx by_ : Int) (w h : Nat) (fl : Bool) (cs : I),x = Kz fl bx by_ w h cs v /\ (w <= 2097153 /\ h <= 2097153) /\ (-1048576 <= bx /\ bx <= 1048576) /\ (-1048576 <= by_ /\ by_ <= 1048576) /\ (∀ c,c ∈ p -> (bx <= c.x /\ c.x < bx + w) /\ (by_ <= c.y /\ c.y < by_ + h)) /\ ((1 <= w /\ 1 <= h) \/ (w = 0 /\ h = 0)) /\ (fl = true -> w * h <= 40000 /\ IsSl cs (DU (Cz p bx by_ w (w * h)))) /\ CS (.m cs) = true
set_option maxHeartbeats 4000000 in
theorem Tw {v : I} {p : List Ce} (hv : IsSl v (Al p)) (hr : Bo p = true) (H : Hp) : ∃ x,FldV p v x /\ Gives G 119 [.m v] H (.m x) H:=by
 obtain ⟨pw,hg,hl⟩:=Bh hr
 have hrv:=hv.rules
 simp only [show (Al p).length = p.length from by simp [Al]] at hrv
 have hv1:=Ao hv
 have hvc:=Aab hv
 obtain ⟨bx,by_,w,h,hbx,hwh,hbx1,hby1,hin,hne⟩:=box_f hr
 have g1:=fun H=>box_r hv (by omega) H
 unfold Aax at g1
 rw [hbx] at g1
 simp only [Abr,List.map_nil] at g1
 obtain ⟨P,hP⟩ : ∃ P,P = w * h:=⟨_,rfl⟩
 have hPb : P <= 2097153 * 2097153:=by rw [hP]; exact Nat.mul_le_mul hwh.1 hwh.2
 have hPi : (w : Int) * (h : Int) = (P : Int):=by rw [hP]; simp
 have wP : wr .i64 ((w : Int) * (h : Int)) = (P : Int):=by rw [hPi]; exact Aa (by omega) (by omega)
 have key : ∃ x H',Gives G 119 [.m v] H x H' /\ (H' = H /\ ∃ y,FldV p v y /\ x = .m y):=by
  refine Ba ?_
  refine Dv rfl rfl rfl rfl rfl ?_
  generalize hQ : (fun (x : V) (H' : Hp)=>H' = H /\ ∃ y,FldV p v y /\ x = .m y) = Q
  have qk : ∀ y,FldV p v y -> Q (.m y) H:=fun y hy=>by rw [<- hQ]; exact ⟨rfl,y,hy,rfl⟩
  clear hQ
  by_cases hf : P <= 40000
  ·have hf2 : (P : Int) <= 40000:=by omega
   have hrow : (List.replicate P ([V.m (.i .i64 0)] : List V)) = Bf (Cz (p.take 0) bx by_ w P):=by rw [List.take_zero,TR]; unfold Bf; rw [List.map_replicate]
   have hb : (P : Int) <= 17592186044416:=by omega
   simp (maxSteps:=2000000) (disch:=omega) [Ad,Ab,Aa,cl (g1 _),wP,hf,hf2,hv1,hvc,hb,hrow]
   refine (?key : ∀ (i b0 : Nat) (B : List (Nat × List V)),i <= p.length -> b0 <= P -> getB B 2 = some [.m (.b false),.m (.i .i64 0),.m (.i .i64 0),.m (.i .i64 0),.m (.i .i64 0),.m (.nl 4),.m (.nl 4)] -> getB B 3 = some [.m (.i .i64 bx),.m (.i .i64 by_),.m (.i .i64 w),.m (.i .i64 h)] -> getB B 5 = some [.m (.b true),.m (.i .i64 bx),.m (.i .i64 by_),.m (.i .i64 w),.m (.i .i64 h),.sl 0 P 1 0 P true,.m v] -> Run G c119_B0 (S119_0 (.m v) (.fa 2 0) (.fa 3 0) (.fa 5 0) (.m (.i .i64 (i : Int))) B [Row.cs 3 1 (Bf (Cz (p.take i) bx by_ w P)) b0 false]) _) 0 0 _ (AaT _) (AaT _) rfl rfl rfl
   refine Bd (fun i : Nat=>p.length - i) fun i ih b0 B hi hb0 hB2 hB3 hB5=>?_
   unfold c119_B0
   cases hx : p[i]? with
   | none =>
    have : i = p.length:=by have:=AaM.1 hx; omega
    subst this
    rw [Aby]
    have hvw : view 19 [Row.cs 3 1 (Bf (Cz p bx by_ w P)) b0 false] (.sl 0 P 1 0 P true) = some (.sl (DU (Cz p bx by_ w P))):=by
     have:=Tv (r:=0) (ver:=P) (st:=0) (len:=P) (lim:=true) (base:=b0) (fz:=false) (l:=Cz p bx by_ w P) (H:=[Row.cs 3 1 (Bf (Cz p bx by_ w P)) b0 false]) rfl hb0 17
     rw [AbV,Abc (by rw [Dp]; exact AaQ _)] at this
     exact this
    have k:=qk (Kz true bx by_ w h (.sl (DU (Cz p bx by_ w P))) v) ⟨bx,by_,w,h,true,_,rfl,hwh,hbx1,hby1,hin,hne,fun _=>⟨by omega,by rw [<- hP]; exact BF _⟩,rfl⟩
    unfold Kz at k
    have hvw2 : DK [Row.cs 3 1 (Bf (Cz p bx by_ w P)) b0 false] (.ag [.m (.b true),.m (.i .i64 bx),.m (.i .i64 by_),.m (.i .i64 w),.m (.i .i64 h),.sl 0 P 1 0 P true,.m v]) = some (.m (.ag [.b true,.i .i64 bx,.i .i64 by_,.i .i64 w,.i .i64 h,.sl (DU (Cz p bx by_ w P)),v])):=by
     show Option.bind (Option.bind (Ai (view 19 _) _) _) _ = _
     simp only [Ai,hvw,AaR]
     rfl
    simp (maxSteps:=2000000) (disch:=omega) [Ad,Ab,Aa,hrv,hB2,hB5,hv1,hvw2]
    exact k
   | some c =>
    have hlt:=(Aj hx).1
    have hlt' : (i : Int) < p.length:=by omega
    have hn:=Aq hx
    have wi : wr .i64 ((i : Int) + 1) = ((i + 1 : Nat) : Int):=Aa (by omega) (by omega)
    have hci:=hin c (AaS hx)
    obtain ⟨a,ha⟩:=Abs (show 0 <= c.x - bx by omega)
    obtain ⟨b,hb⟩:=Abs (show 0 <= c.y - by_ by omega)
    have haw : a < w:=by omega
    have hbh : b < h:=by omega
    have hk : b * w + a < P:=by
     rw [hP]
     have h1 : (b + 1) * w <= h * w:=Abg _ hbh
     rw [Abm,Nat.one_mul,Aca h w] at h1
     omega
    obtain ⟨M,hM⟩ : ∃ M,M = b * w:=⟨_,rfl⟩
    have hMi : (b : Int) * (w : Int) = (M : Int):=by rw [hM]; simp
    rw [<- hM] at hk
    have w47 : wr .i64 (c.y - by_) = (b : Int):=by rw [hb]; exact Aa (by omega) (by omega)
    have w50 : wr .i64 ((b : Int) * (w : Int)) = (M : Int):=by rw [hMi]; exact Aa (by omega) (by omega)
    have w56 : wr .i64 ((M : Int) + c.x) = (M : Int) + c.x:=Aa (by omega) (by omega)
    obtain ⟨k0,hk0⟩ : ∃ k0,k0 = M + a:=⟨_,rfl⟩
    have w59 : wr .i64 ((M : Int) + c.x - bx) = (k0 : Int):=by rw [Aa (by omega) (by omega)]; omega
    have hk1 : k0 < P:=by omega
    have hk2 : (k0 : Int) < P:=by omega
    have hdis : ∀ d,d ∈ p.take i -> ¬ (d.x = c.x /\ d.y = c.y):=fun d hd=>by
     have pw':=pw
     rw [<- List.take_append_drop i p,(Aj hx).2] at pw'
     have:=(AbN.1 pw').2.2 d hd c (Abq ..)
     unfold Bm at this
     simp only [AaU] at this
     omega
    have hgs:=TQ (q:=p.take i) (c:=c) bx by_ (w:=w) (n:=P) (a:=a) (b:=b) haw (by omega) (by omega) (by omega) hdis
    rw [<- Au hx,<- hM,<- hk0] at hgs
    have hw1:=w1_x (l:=Cz (p.take i) bx by_ w P) (j:=k0) (by rw [Dp]; exact hk1) c.s
    rw [<- hgs] at hw1
    have kk:=ih (i + 1) (by omega) P B (by omega) (AaQ _) hB2 hB3 hB5
    have hrl : (Bf (Cz (p.take i) bx by_ w P)).length = P:=by rw [EU,Dp]
    simp (maxSteps:=2000000) (disch:=omega) [Ad,Ab,Aa,hrv,hlt,hlt',hn,hB3,hB5,w47,w50,w56,w59,hk1,hk2,hw1,hrl,hb0,wi,-Int.natCast_add]
    exact kk
  ·have hf2 : ¬ (P : Int) <= 40000:=by omega
   have k:=qk (Kz false bx by_ w h (.nl 4) v) ⟨bx,by_,w,h,false,.nl 4,rfl,hwh,hbx1,hby1,hin,hne,fun h=>(by cases h),rfl⟩
   unfold Kz at k
   simp (maxSteps:=2000000) (disch:=omega) [Ad,Ab,Aa,cl (g1 _),wP,hf,hf2,hv1,hvc]
   exact k
 obtain ⟨x,H',h1,rfl,y,h2,rfl⟩:=key
 exact ⟨y,h2,h1⟩
end Go.Mx.Tryz
namespace Go.Mx.Tryz
open Go.Lib
instance : DecidableEq Ce:=fun a b=>if h : a.x = b.x /\ a.y = b.y /\ a.s = b.s then isTrue (by cases a; cases b; obtain ⟨h1,h2,h3⟩:=h; dsimp only at h1 h2 h3; rw [h1,h2,h3]) else isFalse fun e=>h (by rw [e]; exact ⟨rfl,rfl,rfl⟩)
noncomputable def stp (t : TreeC) (p : List Ce) : List Ce × Int:=@Classical.epsilon _ ⟨([],0)⟩ (Dr t p)
theorem MU {t : TreeC} {p : List Ce} {r : List Ce × Int} (h : Dr t p r) : stp t p = r:=HZ (@Classical.epsilon_spec_aux _ ⟨([],0)⟩ (Dr t p) ⟨r,h⟩) h
def Ih (t : TreeC) : Prop:=∀ p,DI t p = 0 -> Dr t p (stp t p)
theorem Xj {t : TreeC} {q : List Ce} (hq : AS t = true) (h1 : q.Pairwise (fun a b=>Bm a b = true)) (h2 : ∀ c,c ∈ q -> Co c = true) (h3 : q.length <= 5000) (ht : Gd t q) : DI t q = 0:=by
  unfold DI
  rw [AaN hq,AaN (Na h1 h2 h3),AaN ((Hh (by have:=(Dz hq).s2; omega) _ q rfl).2 fun c hc=>(ht c hc).2)]
theorem QK {t : TreeC} {p : List Ce} (hc : DI t p = 0) (hs : Dr t p (stp t p)) (he : (stp t p).2 = 0) : DI t (stp t p).1 = 0:=by
  obtain ⟨hq,hr,ht⟩:=FR hc
  have hs' : Dr t p ((stp t p).1,0):=by rw [<- he]; exact hs
  obtain ⟨k1,k2,k3,k4⟩:=MV (Dz hq) ht hs'
  exact Xj hq k1 k2 k3 k4
theorem QL {t : TreeC} {p : List Ce} (hs : Dr t p (stp t p)) (he : ¬ (stp t p).2 = 0) : (stp t p).1 = []:=by
  generalize stp t p = r at *
  rcases hs with ⟨rfl,_⟩ | ⟨_,q,_,_,rfl⟩
  · rfl
  · split
    · rfl
    · rename_i h5
      rw [AaL h5] at he
      exact absurd rfl he
noncomputable def EJ (t : TreeC) : Nat -> List Ce -> List Ce × Int
  | 0,p=>(p,0)
  | n + 1,p=>if (stp t p).2 = 0 then EJ t n (stp t p).1 else ([],(stp t p).2)
theorem UI {t : TreeC} : ∀ (n : Nat) (p : List Ce),¬ (EJ t n p).2 = 0 -> (EJ t n p).1 = []
  | 0,p,h=>absurd rfl h
  | n + 1,p,h=>by
    unfold EJ at *
    by_cases he : (stp t p).2 = 0
    · rw [AaN he] at *
      exact UI n _ h
    · rw [AaL he]
noncomputable def rnE (t : TreeC) (p : List Ce) (n : Int) : List Ce × Int:=if DI t p = 0 then if 0 <= n /\ n <= 10000 then EJ t n.toNat p else ([],2) else ([],DI t p)
theorem UH {t : TreeC} (hS : Ih t) : ∀ (n : Nat) (p : List Ce),DI t p = 0 -> (EJ t n p).2 = 0 -> DI t (EJ t n p).1 = 0
  | 0,p,hc,_=>hc
  | n + 1,p,hc,h=>by
    unfold EJ at *
    by_cases he : (stp t p).2 = 0
    · rw [AaN he] at *
      exact UH hS n _ (QK hc (hS p hc) he) h
    · rw [AaL he] at h
      exact absurd h he
open Go.Proofs
theorem at_r {p : List Ce} {v f : I} (hv : IsSl v (Al p)) (hl : p.length <= 5000) (hF : FldV p v f) (x y : Int) (hx : -10000000 <= x /\ x <= 10000000) (hy : -10000000 <= y /\ y <= 10000000) (H : Hp) : Gives G 133 [.m f,.m (.i .i64 x),.m (.i .i64 y)] H (.m (.i .i64 (By p x y))) H:=by
 obtain ⟨bx,by_,w,h,fl,cs,rfl,hwh,hbx,hby,hin,hne,hfl,_⟩:=hF.ex
 have gg:=fun H=>Aah hv (by omega) x y H
 unfold Kz
 refine Ak rfl rfl rfl rfl rfl ?_
 cases fl with
 | false=>simp (maxSteps:=2000000) (disch:=omega) [Ad,Ab,Aa,cl (gg _)]
 | true =>
  obtain ⟨hP,hcs⟩:=hfl rfl
  have hrc:=hcs.rules
  simp only [Ck,Dp] at hrc
  have wx : wr .i64 (bx + (w : Int)) = bx + w:=Aa (by omega) (by omega)
  have wy : wr .i64 (by_ + (h : Int)) = by_ + h:=Aa (by omega) (by omega)
  by_cases x1 : x < bx
  ·have e : By p x y = 0:=IY fun c hc=>by have:=hin c hc; omega
   simp (maxSteps:=2000000) (disch:=omega) [Ad,Ab,Aa,x1,e]
  by_cases x2 : bx + (w : Int) <= x
  ·have e : By p x y = 0:=IY fun c hc=>by have:=hin c hc; omega
   simp (maxSteps:=2000000) (disch:=omega) [Ad,Ab,Aa,x1,wx,x2,e]
  by_cases y1 : y < by_
  ·have e : By p x y = 0:=IY fun c hc=>by have:=hin c hc; omega
   simp (maxSteps:=2000000) (disch:=omega) [Ad,Ab,Aa,x1,wx,x2,y1,e]
  by_cases y2 : by_ + (h : Int) <= y
  ·have e : By p x y = 0:=IY fun c hc=>by have:=hin c hc; omega
   simp (maxSteps:=2000000) (disch:=omega) [Ad,Ab,Aa,x1,wx,x2,y1,wy,y2,e]
  obtain ⟨a,ha⟩:=Abs (show 0 <= x - bx by omega)
  obtain ⟨b,hb⟩:=Abs (show 0 <= y - by_ by omega)
  have haw : a < w:=by omega
  have hbh : b < h:=by omega
  have hk : b * w + a < w * h:=by
   have h1 : (b + 1) * w <= h * w:=Abg _ hbh
   rw [Abm,Nat.one_mul,Aca h w] at h1
   omega
  have hg:=TS p bx by_ (w:=w) (n:=w * h) (a:=a) (b:=b) haw hk
  rw [show bx + (a : Int) = x from by omega,show by_ + (b : Int) = y from by omega] at hg
  obtain ⟨M,hM⟩ : ∃ M,M = b * w:=⟨_,rfl⟩
  have hMi : (b : Int) * (w : Int) = (M : Int):=by rw [hM]; simp
  obtain ⟨P,hPe⟩ : ∃ P,P = w * h:=⟨_,rfl⟩
  rw [<- hM] at hk hg
  rw [<- hPe] at hk hg hP hrc
  obtain ⟨k0,hk0⟩ : ∃ k0,k0 = M + a:=⟨_,rfl⟩
  rw [<- hk0] at hg hk
  have hn : nth (DU (Cz p bx by_ w P)) k0 = some [.i .i64 (By p x y)]:=Cy hg
  have w55 : wr .i64 (y - by_) = (b : Int):=by rw [hb]; exact Aa (by omega) (by omega)
  have w59 : wr .i64 ((b : Int) * (w : Int)) = (M : Int):=by rw [hMi]; exact Aa (by omega) (by omega)
  have w61 : wr .i64 ((M : Int) + x) = (M : Int) + x:=Aa (by omega) (by omega)
  have w65 : wr .i64 ((M : Int) + x - bx) = (k0 : Int):=by rw [Aa (by omega) (by omega)]; omega
  have hk2 : (k0 : Int) < P:=by omega
  generalize By p x y = g at *
  simp (maxSteps:=2000000) (disch:=omega) [Ad,Ab,Aa,x1,wx,x2,y1,wy,y2,w55,w59,w61,w65,hrc,hk,hk2,hn]
theorem ZY {t : TreeC} {h n v f : I} {es : List (List I)} (hT : TreeV t h n es) (hR : TreeR t) {p : List Ce} (hv : IsSl v (Al p)) (hl : p.length <= 5000) (hF : FldV p v f) (hp : Gd t p) (x y : Int) (hx : -9000000 <= x /\ x <= 9000000) (hy : -9000000 <= y /\ y <= 9000000) (H : Hp) : Gives G 121 [.m (.ag [.i .i64 t.states,h,n]),.m f,.m (.i .i64 x),.m (.i .i64 y)] H (.m (.i .i64 (Bj t p x y))) H:=by
 have hrh:=hT.hd.rules
 simp only [AY] at hrh
 have hh:=BC hR.hood
 have ga:=fun x y hx hy H=>at_r hv hl hF x y hx hy H
 have hF2:=hF
 obtain ⟨bx,by_,w,k,fl,cs,rfl,_⟩:=hF2.ex
 have gv:=fun w H hw=>QJ hT hR (w:=w) (ins:=Kr t p x y) hw (by rw [Fq]; exact AaQ _) (IU hR hp) H
 clear hF hF2
 unfold Kz at ga ⊢
 refine Ak rfl rfl rfl rfl rfl ?_
 simp (maxSteps:=2000000) (disch:=omega) [Ad,Ab,Aa]
 refine (?key : ∀ (i : Nat) (o : V) (B : List (Nat × List V)) (H1 : Hp),i <= t.hood.length -> getB B 4 = some [.m (.i .i64 t.states),.m h,.m n] -> getB B 5 = some [.m (.b fl),.m (.i .i64 bx),.m (.i .i64 by_),.m (.i .i64 w),.m (.i .i64 k),.m cs,.m v] -> AaB ((Kr t p x y).take i) o H1 -> Run G c121_B0 (S121_0 (.m (.i .i64 x)) (.m (.i .i64 y)) (.fa 4 0) (.fa 5 0) o (.m (.i .i64 (i : Int))) B H1) _) 0 _ _ _ (AaT _) rfl rfl (.inl ⟨rfl,rfl,rfl⟩)
 refine Bd (fun i : Nat=>t.hood.length - i) fun i ih o B H1 hi hB4 hB5 ho=>?_
 unfold c121_B0
 have hnf:=WT ho
 cases hy2 : t.hood[i]? with
 | none =>
  have : i = t.hood.length:=by have:=AaM.1 hy2; omega
  subst this
  rw [Abc (by rw [Fq]; exact AaQ _)] at ho
  have gc:=Ru (F:=66) (t0:=.ag [.i .i64 t.states,h,n]) rfl rfl ho gv rfl
  have e : IK t (Kr t p x y) = Bj t p x y:=rfl
  rw [e] at gc
  simp (maxSteps:=2000000) (disch:=omega) [Ad,Ab,Aa,hrh,hB4,hB5,cl gc]
 | some o2 =>
  have hlt:=(Aj hy2).1
  have hlt' : (i : Int) < t.hood.length:=by omega
  have hox:=BQ hy2
  have hob:=El hR.hood o2 (AaS hy2)
  have wi : wr .i64 ((i : Int) + 1) = ((i + 1 : Nat) : Int):=Aa (by omega) (by omega)
  have wx : wr .i64 (x + o2.1) = x + o2.1:=Aa (by omega) (by omega)
  have wy : wr .i64 (y + o2.2) = y + o2.2:=Aa (by omega) (by omega)
  have g1:=fun H=>ga (x + o2.1) (y + o2.2) (by omega) (by omega) H
  have hs : (Kr t p x y)[i]? = some (By p (x + o2.1) (y + o2.2)):=by unfold Kr; rw [Abb,hy2]; rfl
  obtain ⟨o1,H2,hap,hn1,ho1⟩:=Rt ho (by rw [AaW]; omega) (By p (x + o2.1) (y + o2.2))
  rw [<- Au hs] at ho1
  have kk:=ih (i + 1) (by omega) o1 B H2 (by omega) hB4 hB5 ho1
  generalize By p (x + o2.1) (y + o2.2) = g at *
  simp (maxSteps:=2000000) (disch:=omega) [Ad,Ab,Aa,hrh,hlt,hlt',hox,hB4,hB5,wx,wy,cl (g1 _),hap,wi,AC hnf,AC hn1,-Int.natCast_add]
  exact kk
theorem MX {α : Type} (l : List α) (x y : α) : Bw (l ++ [x]) l.length y = some (l ++ [y]):=by
 rw [BX _ _ _ (by simp)]
 simp
theorem UN {α : Type} (l : List α) (x : α) : nth (l ++ [x]) l.length = some x:=by rw [Bb]; simp
def FP (l : List (Int × Int)) : List (List V):=l.map fun p=>[.m (.i .i64 p.1),.m (.i .i64 p.2)]
@[simp] theorem QS (l : List (Int × Int)) : (FP l).length = l.length:=by simp [FP]
def z2 (l : List (Int × Int)) : I:=if l = [] then .nl 4 else .sl (Dq l)
theorem z2_sl (l : List (Int × Int)) : IsSl (z2 l) (Dq l):=by
 unfold z2
 split
 ·rename_i h; subst h; exact AR
 ·exact BF _
def RZ (acc : List (Int × Int)) (o : V) (H : Hp) : Prop:=(acc = [] /\ o = .m (.nl 4)) \/ (acc ≠ [] /\ ∃ r,o = .sl r acc.length 2 0 acc.length false /\ nth H r = some (.cs 46 2 (FP acc) 0 false))
theorem Kn {acc : List (Int × Int)} {o : V} {H : Hp} (h : RZ acc o H) (hl : acc.length <= 1000000) (x y : Int) : ∃ o1 H1,(∀ B,EG ⟨B,H⟩ 46 2 16 o [[.m (.i .i64 x),.m (.i .i64 y)]] = some (o1,⟨B,H1⟩)) /\ AE o1 = true /\ RZ (acc ++ [(x,y)]) o1 H1:=by
 rcases h with ⟨rfl,rfl⟩ | ⟨hne,r,rfl,h1⟩
 ·refine ⟨.sl H.length 1 2 0 1 false,H ++ [.cs 46 2 (FP [(x,y)]) 0 false],fun B=>rfl,rfl,.inr ⟨by simp,H.length,rfl,ZV H _ 0⟩⟩
 ·have ha:=fun B=>Hu (M:=⟨B,H⟩) (r:=r) (bytes:=16) (xs:=[[.m (.i .i64 x),.m (.i .i64 y)]]) h1 (by simp) (by simp; omega) rfl
  have es : FP acc ++ [[V.m (.i .i64 x),.m (.i .i64 y)]] = FP (acc ++ [(x,y)]):=by simp [FP]
  simp only [QS,AbD,AbP,Nat.zero_add,es] at ha
  refine ⟨_,_,ha,rfl,.inr ⟨by simp,r,by simp,?_⟩⟩
  exact Rv (Rx h1)
theorem Ro {acc : List (Int × Int)} {o : V} {H : Hp} (h : RZ acc o H) (x : Row) : RZ acc o (H ++ [x]):=by
 rcases h with h | ⟨hne,r,h1,h2⟩
 ·exact .inl h
 ·exact .inr ⟨hne,r,h1,by rw [ZW _ _ _ (Rx h2)]; exact h2⟩
theorem opt2 (k : Nat) (H : Hp) : ∀ l : List (Int × Int),Ai (fun e=>Ai (view (k + 1) H) e) (FP l) = some (Dq l)
 | []=>rfl
 | x :: r=>by
  show Option.bind (some [I.i .i64 x.1,.i .i64 x.2]) _ = _
  simp only [AaR]
  have:=opt2 k H r
  show Option.bind (Ai _ (FP r)) _ = _
  rw [this]
  rfl
theorem view2 {H : Hp} {r : Nat} {f : List (Int × Int)} (h : nth H r = some (.cs 46 2 (FP f) 0 false)) (k : Nat) : view (k + 2) H (.sl r f.length 2 0 f.length false) = some (.sl (Dq f)):=by
 have e : elems H (.sl r f.length 2 0 f.length false) = some (FP f):=by
  show Option.bind (nth H r) _ = _
  rw [h]
  show gd (Nat.ble 0 f.length && Nat.beq 2 2) (some (((FP f).drop 0).take f.length)) = _
  rw [Cr,AaP (AaT _),AbV,Abc (by simp)]
  rfl
 show Option.bind (elems H (.sl r f.length 2 0 f.length false)) _ = _
 rw [e]
 show Option.bind (Ai _ (FP f)) _ = _
 rw [opt2]
 rfl
theorem Dn {acc : List (Int × Int)} {o : V} {H : Hp} (h : RZ acc o H) : view 20 H o = some (z2 acc) /\ AE o = true:=by
 rcases h with ⟨rfl,rfl⟩ | ⟨hne,r,rfl,h1⟩
 ·exact ⟨rfl,rfl⟩
 ·refine ⟨?_,rfl⟩
  unfold z2
  rw [AaL hne]
  exact view2 h1 18
theorem Rn {acc : List (Int × Int)} {o : V} {H : Hp} (h : RZ acc o H) : DK H o = some (.m (z2 acc)):=by
 have hv:=(Dn h).1
 rcases h with ⟨rfl,rfl⟩ | ⟨hne,r,rfl,h1⟩
 ·rfl
 ·show (view 20 _ _).bind _ = _
  rw [hv]
  rfl
def nr (c : Ce) (k : Int × Int) : Prop:=(-2 <= k.1 - c.x /\ k.1 - c.x <= 2) /\ (-2 <= k.2 - c.y /\ k.2 - c.y <= 2)
instance (c : Ce) (k : Int × Int) : Decidable (nr c k):=by unfold nr; infer_instance
def nrs (p : List Ce) (i : Nat) (k : Int × Int) : Prop:=∃ c,c ∈ p.take i /\ nr c k
theorem Nh {p : List Ce} {i : Nat} {c : Ce} (hx : p[i]? = some c) (k : Int × Int) : nrs p (i + 1) k ↔ nrs p i k \/ nr c k:=by
 unfold nrs
 rw [Au hx]
 constructor
 ·rintro ⟨d,hd,h⟩
  rcases AbC.1 hd with hd | hd
  ·exact .inl ⟨d,hd,h⟩
  ·rw [Abn.1 hd] at h; exact .inr h
 ·rintro (⟨d,hd,h⟩ | h)
  ·exact ⟨d,by simp [hd],h⟩
  ·exact ⟨c,by simp,h⟩
structure NearQ (p : List Ce) (acc : List (Int × Int)) : Prop where
 nd : acc.Nodup
 all : ∀ c k,c ∈ p -> nr c k -> k ∈ acc
 len : acc.length <= 1000000
 bnd : ∀ k,k ∈ acc -> (-4000000 <= k.1 /\ k.1 <= 4000000) /\ (-4000000 <= k.2 /\ k.2 <= 4000000)
theorem RO {p : List Ce} {v : I} {fl : Bool} {bx by_ w h : Int} {cs : I} (hv : IsSl v (Al p)) (hl : p.length <= 5000) (hg : ∀ c,c ∈ p -> Co c = true) (i : Nat) (hi : i <= p.length) (k : Int × Int) (hk : (-4000000 <= k.1 /\ k.1 <= 4000000) /\ (-4000000 <= k.2 /\ k.2 <= 4000000)) (H : Hp) : ∃ b,(b = true ↔ nrs p i k) /\ Gives G 132 [.m (Kz fl bx by_ w h cs v),.m (.i .i64 (i : Int)),.m (.ag [.i .i64 k.1,.i .i64 k.2])] H (.m (.b b)) H:=by
 have hrv:=hv.rules
 simp only [show (Al p).length = p.length from by simp [Al]] at hrv
 have key : ∃ x H',Gives G 132 [.m (Kz fl bx by_ w h cs v),.m (.i .i64 (i : Int)),.m (.ag [.i .i64 k.1,.i .i64 k.2])] H x H' /\ (H' = H /\ ∃ b,(b = true ↔ nrs p i k) /\ x = .m (.b b)):=by
  refine Ba ?_
  refine Dv rfl rfl rfl rfl rfl ?_
  generalize hQ : (fun (x : V) (H' : Hp)=>H' = H /\ ∃ b,(b = true ↔ nrs p i k) /\ x = .m (.b b)) = Q
  have qt : nrs p i k -> Q (.m (.b true)) H:=fun hh=>by rw [<- hQ]; exact ⟨rfl,true,⟨fun _=>hh,fun _=>rfl⟩,rfl⟩
  have qf : ¬ nrs p i k -> Q (.m (.b false)) H:=fun hh=>by rw [<- hQ]; exact ⟨rfl,false,⟨fun h=>(by cases h),fun h=>absurd h hh⟩,rfl⟩
  clear hQ
  unfold Kz
  simp (maxSteps:=2000000) (disch:=omega) [Ad,Ab,Aa]
  refine (?key : ∀ (j : Nat) (B : List (Nat × List V)),j <= i -> getB B 3 = some [.m (.b fl),.m (.i .i64 bx),.m (.i .i64 by_),.m (.i .i64 w),.m (.i .i64 h),.m cs,.m v] -> getB B 5 = some [.m (.i .i64 k.1),.m (.i .i64 k.2)] -> ¬ nrs p j k -> Run G c132_B0 (S132_0 (.m (.i .i64 (i : Int))) (.fa 3 0) (.fa 5 0) (.m (.i .i64 (j : Int))) B []) _) 0 _ (AaT _) rfl rfl (fun ⟨c,hc,_⟩=>by simp at hc)
  refine Bd (fun j : Nat=>i - j) fun j ih B hj hB3 hB5 hno=>?_
  unfold c132_B0
  by_cases hji : j < i
  ·have hji2 : (j : Int) < i:=by omega
   obtain ⟨c,hx⟩ : ∃ c,p[j]? = some c:=⟨_,AaK (by omega)⟩
   have hlt:=(Aj hx).1
   have hlt' : (j : Int) < p.length:=by omega
   have hn:=Aq hx
   have hcb : (-1048576 <= c.x /\ c.x <= 1048576) /\ (-1048576 <= c.y /\ c.y <= 1048576):=by
    have:=hg c (AaS hx)
    unfold Co AG at this
    simp only [AaJ,AaU] at this
    omega
   obtain ⟨dx,hdx⟩ : ∃ dx,dx = k.1 - c.x:=⟨_,rfl⟩
   obtain ⟨dy,hdy⟩ : ∃ dy,dy = k.2 - c.y:=⟨_,rfl⟩
   have w1 : wr .i64 (k.1 - c.x) = dx:=by rw [hdx]; exact Aa (by omega) (by omega)
   have w2 : wr .i64 (k.2 - c.y) = dy:=by rw [hdy]; exact Aa (by omega) (by omega)
   have w3 : wr .i64 (-dx) = -dx:=Aa (by omega) (by omega)
   have w4 : wr .i64 (-dy) = -dy:=Aa (by omega) (by omega)
   have wj : wr .i64 ((j : Int) + 1) = ((j + 1 : Nat) : Int):=Aa (by omega) (by omega)
   have hnr : nr c k ↔ max dx (-dx) <= 2 /\ max dy (-dy) <= 2:=by
    unfold nr
    rw [<- hdx,<- hdy]
    omega
   have hsn:=Nh hx k
   by_cases h1 : max dx (-dx) <= 2
   ·by_cases h2 : max dy (-dy) <= 2
    ·have k1:=qt (by
      obtain ⟨d,hd,hh⟩:=hsn.2 (.inr (hnr.2 ⟨h1,h2⟩))
      refine ⟨d,?_,hh⟩
      obtain ⟨m,hm⟩:=AbW.1 hd
      have hml:=(Aj hm).1
      rw [AaW] at hml
      rw [Abx] at hm
      split at hm
      ·exact AbW.2 ⟨m,by rw [Abx,AaN (by omega)]; exact hm⟩
      ·cases hm)
     simp (maxSteps:=2000000) (disch:=omega) [Ad,Ab,Aa,hrv,hji2,hlt,hlt',hn,hB3,hB5,w1,w2,w3,w4,h1,h2]
     exact k1
    ·have k1:=ih (j + 1) (by omega) B (by omega) hB3 hB5 (fun hh=>(hsn.1 hh).elim hno fun h=>h2 (hnr.1 h).2)
     simp (maxSteps:=2000000) (disch:=omega) [Ad,Ab,Aa,hrv,hji2,hlt,hlt',hn,hB3,hB5,w1,w2,w3,w4,h1,h2,wj,-Int.natCast_add]
     exact k1
   ·have k1:=ih (j + 1) (by omega) B (by omega) hB3 hB5 (fun hh=>(hsn.1 hh).elim hno fun h=>h1 (hnr.1 h).1)
    simp (maxSteps:=2000000) (disch:=omega) [Ad,Ab,Aa,hrv,hji2,hlt,hlt',hn,hB3,hB5,w1,w2,w3,w4,h1,wj,-Int.natCast_add]
    exact k1
  ·have : j = i:=by omega
   subst this
   have k1:=qf hno
   simp (maxSteps:=2000000) (disch:=omega) [Ad,Ab,Aa]
   exact k1
 obtain ⟨x,H',h1,rfl,b,h2,rfl⟩:=key
 exact ⟨b,h2,h1⟩
theorem WV {p : List Ce} {v : I} {bx by_ : Int} {w h : Nat} {cs : I} (hwh : (w + 4) * (h + 4) <= 1000000) (hw4 : w <= 1000000 /\ h <= 1000000) (hbx : -1048576 <= bx /\ bx <= 1048576) (hby : -1048576 <= by_ /\ by_ <= 1048576) (hin : ∀ c,c ∈ p -> (bx <= c.x /\ c.x < bx + w) /\ (by_ <= c.y /\ c.y < by_ + h)) (H : Hp) :
  ∃ acc,NearQ p acc /\ Gives G 120 [.m (Kz true bx by_ w h cs v)] H (.m (z2 acc)) H:=by
 have key : ∃ x H',Gives G 120 [.m (Kz true bx by_ w h cs v)] H x H' /\ (H' = H /\ ∃ acc,NearQ p acc /\ x = .m (z2 acc)):=by
  refine Ba ?_
  refine Dv rfl rfl rfl rfl rfl ?_
  generalize hQ : (fun (x : V) (H' : Hp)=>H' = H /\ ∃ acc,NearQ p acc /\ x = .m (z2 acc)) = Q
  have qk : ∀ acc,NearQ p acc -> Q (.m (z2 acc)) H:=fun acc hh=>by rw [<- hQ]; exact ⟨rfl,acc,hh,rfl⟩
  clear hQ
  have y0 : wr .i64 (by_ - 2) = by_ - 2:=Aa (by omega) (by omega)
  have x0 : wr .i64 (bx - 2) = bx - 2:=Aa (by omega) (by omega)
  have yh : wr .i64 (by_ + (h : Int)) = by_ + h:=Aa (by omega) (by omega)
  have yh2 : wr .i64 (by_ + (h : Int) + 2) = by_ + h + 2:=Aa (by omega) (by omega)
  have xw : wr .i64 (bx + (w : Int)) = bx + w:=Aa (by omega) (by omega)
  have xw2 : wr .i64 (bx + (w : Int) + 2) = bx + w + 2:=Aa (by omega) (by omega)
  unfold Kz
  simp (maxSteps:=2000000) (disch:=omega) [Ad,Ab,Aa,y0]
  refine (?key : ∀ (r : Nat) (yy : Int) (acc : List (Int × Int)) (o : V) (B : List (Nat × List V)) (H1 : Hp),r <= h + 4 -> yy = by_ - 2 + (r : Int) -> getB B 1 = some [.m (.b true),.m (.i .i64 bx),.m (.i .i64 by_),.m (.i .i64 w),.m (.i .i64 h),.m cs,.m v] -> acc.Nodup -> (∀ u z,(u,z) ∈ acc ↔ (bx - 2 <= u /\ u < bx + w + 2) /\ (by_ - 2 <= z /\ z < by_ - 2 + r)) -> acc.length = r * (w + 4) -> RZ acc o H1 -> Run G c120_B1 (S120_1 (.fa 1 0) o (.m (.i .i64 yy)) B H1) _) 0 (by_ - 2) [] _ _ _ (AaT _) (by simp) rfl .nil (fun u z=>⟨fun h=>by simp at h,fun h=>by omega⟩) (by simp) (.inl ⟨rfl,rfl⟩)
  refine Bd (fun r : Nat=>h + 4 - r) fun r ih yy acc o B H1 hr hyy hB hnd hmem hlen ho=>?_
  unfold c120_B1
  obtain ⟨hvw,hnf⟩:=Dn ho
  by_cases hrh : r < h + 4
  ·have t1 : yy < by_ + h + 2:=by omega
   have wr1 : wr .i64 (yy + 1) = yy + 1:=Aa (by omega) (by omega)
   simp (maxSteps:=2000000) (disch:=omega) [Ad,Ab,Aa,hB,yh,yh2,t1,x0]
   refine (?key2 : ∀ (q : Nat) (xx : Int) (acc : List (Int × Int)) (o : V) (B : List (Nat × List V)) (H1 : Hp),q <= w + 4 -> xx = bx - 2 + (q : Int) -> getB B 1 = some [.m (.b true),.m (.i .i64 bx),.m (.i .i64 by_),.m (.i .i64 w),.m (.i .i64 h),.m cs,.m v] -> acc.Nodup -> (∀ u z,(u,z) ∈ acc ↔ ((bx - 2 <= u /\ u < bx + w + 2) /\ (by_ - 2 <= z /\ z < by_ - 2 + r)) \/ (z = by_ - 2 + r /\ (bx - 2 <= u /\ u < bx - 2 + q))) -> acc.length = r * (w + 4) + q -> RZ acc o H1 -> Run G c120_B0 (S120_0 (.fa 1 0) o (.m (.i .i64 yy)) (.m (.i .i64 xx)) B H1) _) 0 (bx - 2) acc o _ H1 (AaT _) (by simp) hB hnd (fun u z=>(hmem u z).trans ⟨fun h=>.inl h,fun h=>h.elim id fun h=>by omega⟩) (by omega) ho
   clear hvw hnf hmem hnd hlen ho hB acc o B H1
   refine Bd (fun q : Nat=>w + 4 - q) fun q ihq xx acc o B H1 hq hxx hB hnd hmem hlen ho=>?_
   unfold c120_B0
   obtain ⟨hvw,hnf⟩:=Dn ho
   by_cases hqw : q < w + 4
   ·have t2 : xx < bx + w + 2:=by omega
    have wq1 : wr .i64 (xx + 1) = xx + 1:=Aa (by omega) (by omega)
    have hlb : acc.length <= 1000000:=by
     have h1 : r * (w + 4) + (w + 4) <= (w + 4) * (h + 4):=by
      rw [Aca (w + 4) (h + 4),<- Nat.succ_mul]
      exact Abg _ hrh
     omega
    obtain ⟨o1,H2,hap,hn1,ho1⟩:=Kn ho hlb xx yy
    have k:=ihq (q + 1) (by omega) (xx + 1) (acc ++ [(xx,yy)]) o1 B H2 (by omega) (by omega) hB (by
     rw [List.nodup_append]
     refine ⟨hnd,by simp,fun a ha b hb=>?_⟩
     rw [Abn.1 hb]
     intro e
     subst e
     have:=(hmem _ _).1 ha
     omega) (fun u z=>by
     rw [AbC,Abn,hmem,AaH]
     constructor
     ·rintro ((h1 | h1) | h1)
      ·exact .inl h1
      ·exact .inr (by omega)
      ·exact .inr (by omega)
     ·rintro (h1 | h1)
      ·exact .inl (.inl h1)
      ·by_cases hu : u < bx - 2 + q
       ·exact .inl (.inr (by omega))
       ·exact .inr (by omega)) (by simp; omega) ho1
    simp (maxSteps:=2000000) (disch:=omega) [Ad,Ab,Aa,hB,xw,xw2,t2,hap,wq1,AC hnf,AC hn1,-Int.natCast_add]
    exact k
   ·have : q = w + 4:=by omega
    subst this
    have t2 : ¬ xx < bx + w + 2:=by omega
    have k:=ih (r + 1) (by omega) (yy + 1) acc o B H1 (by omega) (by omega) hB hnd (fun u z=>(hmem u z).trans (by
     constructor
     ·rintro (h1 | h1)
      ·omega
      ·omega
     ·intro h1
      by_cases hz : z < by_ - 2 + r
      ·exact .inl (by omega)
      ·exact .inr (by omega))) (by rw [hlen,Nat.succ_mul]) ho
    simp (maxSteps:=2000000) (disch:=omega) [Ad,Ab,Aa,hB,xw,xw2,t2,wr1,AC hnf,-Int.natCast_add]
    exact k
  ·have : r = h + 4:=by omega
   subst this
   have t1 : ¬ yy < by_ + h + 2:=by omega
   have k:=qk acc ⟨hnd,fun c k hc hk=>by
    have:=hin c hc
    obtain ⟨a,b⟩:=k
    unfold nr at hk
    dsimp only at hk
    exact (hmem a b).2 (by omega),by rw [hlen,Aca]; omega,fun k hk=>by
    obtain ⟨a,b⟩:=k
    have:=(hmem a b).1 hk
    dsimp only
    omega⟩
   have hvr:=Rn ho
   simp (maxSteps:=2000000) (disch:=omega) [Ad,Ab,Aa,hB,yh,yh2,t1,AC hnf,hvw,hvr,-Int.natCast_add]
   first | exact k | exact ⟨hnf,k⟩
 obtain ⟨x,H',h1,rfl,acc,h2,rfl⟩:=key
 exact ⟨acc,h2,h1⟩
theorem WU {p : List Ce} {v : I} {bx by_ w h : Int} {cs : I} (hv : IsSl v (Al p)) (hl : p.length <= 5000) (hg : ∀ c,c ∈ p -> Co c = true) (H : Hp) :
  ∃ acc,NearQ p acc /\ Gives G 120 [.m (Kz false bx by_ w h cs v)] H (.m (z2 acc)) H:=by
 have hrv:=hv.rules
 simp only [show (Al p).length = p.length from by simp [Al]] at hrv
 have ge:=fun i hi k hk H=>RO (fl:=false) (bx:=bx) (by_:=by_) (w:=w) (h:=h) (cs:=cs) hv hl hg i hi k hk H
 have key : ∃ x H',Gives G 120 [.m (Kz false bx by_ w h cs v)] H x H' /\ (H' = H /\ ∃ acc,NearQ p acc /\ x = .m (z2 acc)):=by
  refine Ba ?_
  refine Dv rfl rfl rfl rfl rfl ?_
  generalize hQ : (fun (x : V) (H' : Hp)=>H' = H /\ ∃ acc,NearQ p acc /\ x = .m (z2 acc)) = Q
  have qk : ∀ acc,NearQ p acc -> Q (.m (z2 acc)) H:=fun acc hh=>by rw [<- hQ]; exact ⟨rfl,acc,hh,rfl⟩
  clear hQ
  unfold Kz at ge ⊢
  simp (maxSteps:=2000000) (disch:=omega) [Ad,Ab,Aa]
  refine (?key : ∀ (i : Nat) (acc : List (Int × Int)) (o : V) (B : List (Nat × List V)) (H1 : Hp),i <= p.length -> getB B 1 = some [.m (.b false),.m (.i .i64 bx),.m (.i .i64 by_),.m (.i .i64 w),.m (.i .i64 h),.m cs,.m v] -> acc.Nodup -> (∀ k,k ∈ acc ↔ nrs p i k) -> acc.length <= 25 * i -> RZ acc o H1 -> Run G c120_B4 (S120_4 (.fa 1 0) o (.m (.i .i64 (i : Int))) B H1) _) 0 [] _ _ _ (AaT _) rfl .nil (fun k=>⟨fun h=>by simp at h,fun ⟨c,hc,_⟩=>by simp at hc⟩) (by simp) (.inl ⟨rfl,rfl⟩)
  refine Bd (fun i : Nat=>p.length - i) fun i ih acc o B H1 hi hB hnd hmem hlen ho=>?_
  unfold c120_B4
  obtain ⟨hvw,hnf⟩:=Dn ho
  cases hx : p[i]? with
  | none =>
   have : i = p.length:=by have:=AaM.1 hx; omega
   subst this
   have hvr:=Rn ho
   have k:=qk acc ⟨hnd,fun c k hc hk=>(hmem k).2 ⟨c,by rw [Aby]; exact hc,hk⟩,by omega,fun k hk=>by
    obtain ⟨c,hc,hn⟩:=(hmem k).1 hk
    rw [Aby] at hc
    have:=hg c hc
    unfold Co AG at this
    simp only [AaJ,AaU] at this
    unfold nr at hn
    omega⟩
   simp (maxSteps:=2000000) (disch:=omega) [Ad,Ab,Aa,hrv,hB,AC hnf,hvw,hvr]
   first | exact k | exact ⟨hnf,k⟩
  | some c =>
   have hlt:=(Aj hx).1
   have hlt' : (i : Int) < p.length:=by omega
   have hn:=Aq hx
   have wi : wr .i64 ((i : Int) + 1) = ((i + 1 : Nat) : Int):=Aa (by omega) (by omega)
   have hcb : (-1048576 <= c.x /\ c.x <= 1048576) /\ (-1048576 <= c.y /\ c.y <= 1048576):=by
    have:=hg c (AaS hx)
    unfold Co AG at this
    simp only [AaJ,AaU] at this
    omega
   simp (maxSteps:=2000000) (disch:=omega) [Ad,Ab,Aa,hrv,hlt,hlt',hB]
   refine (?key2 : ∀ (r : Nat) (yy : Int) (acc : List (Int × Int)) (o : V) (B : List (Nat × List V)) (H1 : Hp),r <= 5 -> yy = -2 + (r : Int) -> getB B 1 = some [.m (.b false),.m (.i .i64 bx),.m (.i .i64 by_),.m (.i .i64 w),.m (.i .i64 h),.m cs,.m v] -> acc.Nodup -> (∀ k,k ∈ acc ↔ nrs p i k \/ (nr c k /\ k.2 - c.y < yy)) -> acc.length <= 25 * i + 5 * r -> RZ acc o H1 -> Run G c120_B3 (S120_3 (.fa 1 0) o (.m (.i .i64 (i : Int))) (.m (.i .i64 yy)) B H1) _) 0 (-2) acc o _ H1 (AaT _) (by simp) hB hnd (fun k=>(hmem k).trans ⟨fun h=>.inl h,fun h=>h.elim id fun h=>by unfold nr at h; omega⟩) (by omega) ho
   clear hvw hnf hmem hnd hlen ho hB acc o B H1
   refine Bd (fun r : Nat=>5 - r) fun r ihr yy acc o B H1 hr hyy hB hnd hmem hlen ho=>?_
   unfold c120_B3
   obtain ⟨hvw,hnf⟩:=Dn ho
   by_cases hr5 : r < 5
   ·have t1 : yy <= 2:=by omega
    have wy1 : wr .i64 (yy + 1) = yy + 1:=Aa (by omega) (by omega)
    simp (maxSteps:=2000000) (disch:=omega) [Ad,Ab,Aa,t1]
    refine (?key3 : ∀ (q : Nat) (xx : Int) (acc : List (Int × Int)) (o : V) (B : List (Nat × List V)) (H1 : Hp),q <= 5 -> xx = -2 + (q : Int) -> getB B 1 = some [.m (.b false),.m (.i .i64 bx),.m (.i .i64 by_),.m (.i .i64 w),.m (.i .i64 h),.m cs,.m v] -> acc.Nodup -> (∀ k,k ∈ acc ↔ nrs p i k \/ (nr c k /\ (k.2 - c.y < yy \/ (k.2 - c.y = yy /\ k.1 - c.x < xx)))) -> acc.length <= 25 * i + 5 * r + q -> RZ acc o H1 -> Run G c120_B2 (S120_2 (.fa 1 0) o (.m (.i .i64 (i : Int))) (.m (.i .i64 yy)) (.m (.i .i64 xx)) B H1) _) 0 (-2) acc o _ H1 (AaT _) (by simp) hB hnd (fun k=>(hmem k).trans ⟨fun h=>h.elim .inl fun h=>.inr ⟨h.1,.inl h.2⟩,fun h=>h.elim .inl fun h=>.inr ⟨h.1,by have:=h.1; unfold nr at this; omega⟩⟩) (by omega) ho
    clear hvw hnf hmem hnd hlen ho hB acc o B H1
    refine Bd (fun q : Nat=>5 - q) fun q ihq xx acc o B H1 hq hxx hB hnd hmem hlen ho=>?_
    unfold c120_B2
    obtain ⟨hvw,hnf⟩:=Dn ho
    by_cases hq5 : q < 5
    ·have t2 : xx <= 2:=by omega
     have wx1 : wr .i64 (xx + 1) = xx + 1:=Aa (by omega) (by omega)
     obtain ⟨X,hX⟩ : ∃ X,X = c.x + xx:=⟨_,rfl⟩
     obtain ⟨Y,hY⟩ : ∃ Y,Y = c.y + yy:=⟨_,rfl⟩
     have wX : wr .i64 (c.x + xx) = X:=by rw [hX]; exact Aa (by omega) (by omega)
     have wY : wr .i64 (c.y + yy) = Y:=by rw [hY]; exact Aa (by omega) (by omega)
     have hnrk : nr c (X,Y):=by unfold nr; dsimp only; omega
     have ho':=Ro ho (.cs 46 2 [[.m (.i .i64 X),.m (.i .i64 Y)]] 1 false)
     obtain ⟨b,hb,gE⟩:=ge i (by omega) (X,Y) (by dsimp only; omega) (H1 ++ [.cs 46 2 [[.m (.i .i64 X),.m (.i .i64 Y)]] 1 false])
     dsimp only at gE
     have w22 : ∀ a b c d : V,EN 2 [[a,b]] 0 0 [c,d] = some [[c,d]]:=fun _ _ _ _=>rfl
     have r22 : ∀ a b : V,DF 2 [[a,b]] 0 0 2 = some [a,b]:=fun _ _=>rfl
     cases b with
     | true =>
      have hold:=hb.1 rfl
      have k:=ihq (q + 1) (by omega) (xx + 1) acc o B (H1 ++ [.cs 46 2 [[.m (.i .i64 X),.m (.i .i64 Y)]] 1 false]) (by omega) (by omega) hB hnd (fun k=>(hmem k).trans (by
       constructor
       ·rintro (h1 | ⟨h1,h2⟩)
        ·exact .inl h1
        ·exact .inr ⟨h1,by omega⟩
       ·rintro (h1 | ⟨h1,h2⟩)
        ·exact .inl h1
        ·by_cases e : k = (X,Y)
         ·subst e; exact .inl hold
         ·refine .inr ⟨h1,?_⟩
          have : ¬ (k.1 = X /\ k.2 = Y):=fun h=>e (Prod.ext h.1 h.2)
          omega)) (by omega) ho'
      simp (maxSteps:=2000000) (disch:=omega) [Ad,Ab,Aa,t2,hB,hrv,hlt,hlt',hn,wX,wY,MX,UN,w22,r22,cl gE,wx1,AC hnf]
      exact k
     | false =>
      have hnew : ¬ nrs p i (X,Y):=fun h=>by have:=hb.2 h; cases this
      obtain ⟨o1,H2,hap,hn1,ho1⟩:=Kn ho' (by omega) X Y
      have k:=ihq (q + 1) (by omega) (xx + 1) (acc ++ [(X,Y)]) o1 B H2 (by omega) (by omega) hB (by
       rw [List.nodup_append]
       refine ⟨hnd,by simp,fun a ha b hb=>?_⟩
       rw [Abn.1 hb]
       intro e
       subst e
       rcases (hmem _).1 ha with h1 | ⟨_,h2⟩
       ·exact hnew h1
       ·dsimp only at h2; omega) (fun k=>by
       rw [AbC,Abn,hmem]
       constructor
       ·rintro ((h1 | ⟨h1,h2⟩) | rfl)
        ·exact .inl h1
        ·exact .inr ⟨h1,by omega⟩
        ·exact .inr ⟨hnrk,by dsimp only; omega⟩
       ·rintro (h1 | ⟨h1,h2⟩)
        ·exact .inl (.inl h1)
        ·by_cases e : k = (X,Y)
         ·exact .inr e
         ·refine .inl (.inr ⟨h1,?_⟩)
          have : ¬ (k.1 = X /\ k.2 = Y):=fun h=>e (Prod.ext h.1 h.2)
          omega) (by simp; omega) ho1
      simp (maxSteps:=2000000) (disch:=omega) [Ad,Ab,Aa,t2,hB,hrv,hlt,hlt',hn,wX,wY,MX,UN,w22,r22,cl gE,hap,wx1,AC hnf,AC hn1]
      exact k
    ·have : q = 5:=by omega
     subst this
     have t2 : ¬ xx <= 2:=by omega
     have k:=ihr (r + 1) (by omega) (yy + 1) acc o B H1 (by omega) (by omega) hB hnd (fun k=>(hmem k).trans (by
      constructor
      ·rintro (h1 | ⟨h1,h2⟩)
       ·exact .inl h1
       ·exact .inr ⟨h1,by omega⟩
      ·rintro (h1 | ⟨h1,h2⟩)
       ·exact .inl h1
       ·refine .inr ⟨h1,?_⟩
        unfold nr at h1
        omega)) (by omega) ho
     simp (maxSteps:=2000000) (disch:=omega) [Ad,Ab,Aa,t2,wy1,AC hnf]
     exact k
   ·have : r = 5:=by omega
    subst this
    have t1 : ¬ yy <= 2:=by omega
    have k:=ih (i + 1) (by omega) acc o B H1 (by omega) hB hnd (fun k=>(hmem k).trans (by
     rw [Nh hx]
     constructor
     ·rintro (h1 | ⟨h1,h2⟩)
      ·exact .inl h1
      ·exact .inr h1
     ·rintro (h1 | h1)
      ·exact .inl h1
      ·exact .inr ⟨h1,by unfold nr at h1; omega⟩)) (by omega) ho
    simp (maxSteps:=2000000) (disch:=omega) [Ad,Ab,Aa,t1,wi,AC hnf,-Int.natCast_add]
    exact k
 obtain ⟨x,H',h1,rfl,acc,h2,rfl⟩:=key
 exact ⟨acc,h2,h1⟩
def dmp (D : List (Int × Int)) : Row:=mPB (D.map fun k=>(k,true))
theorem TK (D : List (Int × Int)) (k : Int × Int) : (Dc (D.map fun k=>(k,true)) k).getD false = decide (k ∈ D):=by
 induction D with
 | nil=>rfl
 | cons a r ih =>
  by_cases h : a = k
  ·subst h; simp [Dc]
  ·have h2 : ¬ k = a:=fun e=>h e.symm
   simp only [Abr,Dc,AaL h,ih,Abd,h2,false_or]
theorem Xh (D : List (Int × Int)) (x y : Int) : GN ⟨true,[1,1]⟩ [.m (.b false)] false false (dmp D) (.ag [.i .i64 x,.i .i64 y]) = some (.m (.b (decide ((x,y) ∈ D)))):=by
 have:=Wd (D.map fun k=>(k,true)) x y false
 rw [TK] at this
 exact this
theorem Aat {D : List (Int × Int)} {x y : Int} (h : (x,y) ∉ D) : VZ ⟨true,[1,1]⟩ (dmp D) (.ag [.i .i64 x,.i .i64 y]) (.m (.b true)) = some (dmp (D ++ [(x,y)])):=by
 have:=YD (D.map fun k=>(k,true)) x y true
 rw [Ml] at this
 ·rw [show dmp (D ++ [(x,y)]) = mPB (D.map (fun k=>(k,true)) ++ [((x,y),true)]) from by unfold dmp; rw [List.map_append]; rfl]
  exact this
 ·rw [List.map_map]
  intro hm
  obtain ⟨k,hk,e⟩:=Abz.1 hm
  have e : k = (x,y):=e
  exact h (e ▸ hk)
def Xq (D : List (Int × Int)) (f : List Ce) (o : V) (H : Hp) : Prop:=(f = [] /\ o = .m (.nl 4) /\ H = [dmp D]) \/ (f ≠ [] /\ o = .sl 1 f.length 3 0 f.length false /\ H = [dmp D,.cs 90 3 (AJ f) 0 false])
theorem UM {D : List (Int × Int)} {f : List Ce} {o : V} {H : Hp} (h : Xq D f o H) : nth H 0 = some (dmp D) /\ AE o = true /\ ∀ D',Bw H 0 (dmp D') = some (H.set 0 (dmp D')) /\ Xq D' f o (H.set 0 (dmp D')):=by
 rcases h with ⟨rfl,rfl,rfl⟩ | ⟨hne,rfl,rfl⟩
 ·exact ⟨rfl,rfl,fun D'=>⟨rfl,.inl ⟨rfl,rfl,rfl⟩⟩⟩
 ·exact ⟨rfl,rfl,fun D'=>⟨rfl,.inr ⟨hne,rfl,rfl⟩⟩⟩
theorem Rl {D : List (Int × Int)} {f : List Ce} {o : V} {H : Hp} (h : Xq D f o H) (hl : f.length <= 1000000) (c : Ce) : ∃ o1 H1,(∀ B,EG ⟨B,H⟩ 90 3 24 o [[.m (.i .i64 c.x),.m (.i .i64 c.y),.m (.i .i64 c.s)]] = some (o1,⟨B,H1⟩)) /\ AE o1 = true /\ Xq D (f ++ [c]) o1 H1:=by
 rcases h with ⟨rfl,rfl,rfl⟩ | ⟨hne,rfl,rfl⟩
 ·exact ⟨_,_,fun B=>rfl,rfl,.inr ⟨by simp,rfl,rfl⟩⟩
 ·have ha:=fun B=>Hu (M:=⟨B,[dmp D,.cs 90 3 (AJ f) 0 false]⟩) (r:=1) (bytes:=24) (xs:=[[.m (.i .i64 c.x),.m (.i .i64 c.y),.m (.i .i64 c.s)]]) rfl (by simp) (by simp; omega) rfl
  simp only [Kf,AbD,AbP,Nat.zero_add,List.set_cons_succ,List.set_cons_zero] at ha
  have e : AJ f ++ [[.m (.i .i64 c.x),.m (.i .i64 c.y),.m (.i .i64 c.s)]] = AJ (f ++ [c]):=by simp [AJ,US,Ce.i]
  rw [e] at ha
  exact ⟨_,_,ha,rfl,.inr ⟨by simp,by simp,rfl⟩⟩
theorem Rm {F : Nat} {D : List (Int × Int)} {f : List Ce} {o x : V} {H : Hp} (hp : G.prim F = none) (hs : G.sh F = false) (ho : Xq D f o H) (h : ∀ H,Gives G F [.m (zP f)] H x H) : ∃ H2,Gives G F [o] H x H2:=by
 rcases ho with ⟨rfl,rfl,rfl⟩ | ⟨hne,rfl,rfl⟩
 ·exact ⟨_,h _⟩
 ·have hz : zP f = .sl (Al f):=by unfold zP; rw [AaL hne]
  rw [hz] at h
  have hv : Ai (view 20 [dmp D,Row.cs 90 3 (AJ f) 0 false]) [V.sl 1 f.length 3 0 f.length false] = some [.sl (Al f)]:=by
   have:=QI (H:=[dmp D,Row.cs 90 3 (AJ f) 0 false]) (r:=1) (b:=0) (q:=f) rfl (AaT _) 18
   show (view 20 _ _).bind _ = _
   rw [this]
   rfl
  cases hf : Hy x with
  | true=>exact ⟨_,AX (is:=[.sl (Al f)]) hp hs (h []) hv (.inr ⟨by simp [DG,Fy],hf⟩)⟩
  | false =>
   have hfz : AO ([V.sl 1 f.length 3 0 f.length false].flatMap DG) [dmp D,Row.cs 90 3 (AJ f) 0 false] = some [dmp D,Row.cs 90 3 (AJ f) 0 true]:=by
    show Option.bind (gd ((AJ f).all fun e=>e.all isM) (some (Row.cs 90 3 (AJ f) 0 true))) _ = _
    rw [Fm]
    rfl
   exact ⟨_,Cv (is:=[.sl (Al f)]) hp hs (h []) hv (by simp [DG,Fy]) hf rfl hfz⟩
def OI (t : TreeC) (p : List Ce) (x : V) : Prop:=∃ q e,Dr t p (q,e) /\ x = .tu [.m (zP q),.m (.i .i64 e)]
set_option maxHeartbeats 4000000 in
theorem UF {t : TreeC} {h n v : I} {es : List (List I)} {p : List Ce} (hT : TreeV t h n es) (hv : IsSl v (Al p)) (hc : DI t p = 0) (H : Hp) : ∃ x,OI t p x /\ Gives G 93 [.m (.ag [.i .i64 t.states,h,n]),.m v] H x H:=by
 obtain ⟨hq,hr,ht⟩:=FR hc
 have hR:=Dz hq
 obtain ⟨pw,hg,hl⟩:=Bh hr
 have hrv:=hv.rules
 simp only [show (Al p).length = p.length from by simp [Al]] at hrv
 have hrh:=hT.hd.rules
 simp only [AY] at hrh
 have hh:=BC hR.hood
 have key : ∃ x H',Gives G 93 [.m (.ag [.i .i64 t.states,h,n]),.m v] H x H' /\ (H' = H /\ OI t p x):=by
  refine Ba ?_
  refine Dv rfl rfl rfl rfl rfl ?_
  generalize hQ : (fun (x : V) (H' : Hp)=>H' = H /\ OI t p x) = Q
  have q5 : Dr t p ([],5) -> Q (.tu [.m (.nl 4),.m (.i .i64 5)]) H:=fun hs=>by rw [<- hQ]; exact ⟨rfl,[],5,hs,rfl⟩
  have qa : ∀ q e,Dr t p (q,e) -> Q (.tu [.m (zP q),.m (.i .i64 e)]) H:=fun q e hs=>by rw [<- hQ]; exact ⟨rfl,q,e,hs,rfl⟩
  clear hQ
  have g1:=fun H=>of_m hv hr H
  simp (maxSteps:=2000000) (disch:=omega) [Ad,Ab,Aa,cl (g1 _),hrv]
  refine (?key : ∀ (i : Nat) (D : List (Int × Int)) (l : List Ce) (o : V) (B : List (Nat × List V)) (H1 : Hp),i <= p.length -> getB B 2 = some [.m (.i .i64 t.states),.m h,.m n] -> StI t p D l -> (∀ (a : Nat) c o,a < i -> p[a]? = some c -> o ∈ t.hood -> (c.x - o.1,c.y - o.2) ∈ D) -> l.length <= 25 * i -> Xq D l o H1 -> Run G c93_B1 (S93_1 (.fa 2 0) (.m (fzm (CW p))) (.mp 0) o (.m v) (.m (.i .i64 p.length)) (.m (.i .i64 (i : Int))) B H1) _) 0 [] [] _ _ _ (AaT _) rfl (WF t p) (fun a c o h=>by omega) (by simp) (.inl ⟨rfl,rfl,rfl⟩)
  refine Bd (fun i : Nat=>p.length - i) fun i ih D l o B H1 hi hB hI hall hll ho=>?_
  unfold c93_B1
  obtain ⟨n0,hnf,hset0⟩:=UM ho
  cases hx : p[i]? with
  | none =>
   have : i = p.length:=by have:=AaM.1 hx; omega
   subst this
   have hall2 : ∀ c o,c ∈ p -> o ∈ t.hood -> (c.x - o.1,c.y - o.2) ∈ D:=fun c o hc ho2=>by
    obtain ⟨a,ha⟩:=AbW.1 hc
    exact hall a c o (Aj ha).1 ha ho2
   have hgl:=Ty hR ht hI
   rcases UO (Eo l) (by omega) [] with ⟨e,he,_⟩ | ⟨he,q,hqp,hasc,g0⟩
   ·rw [Gu hgl] at he
    cases he
   ·obtain ⟨_,k1,k2,k3⟩:=Tz hR ht hI hqp hasc
    have hst:=WG hq hI hall2 k1 k2
    have gA:=fun H=>AX (H:=H) (vs:=[.m (zP l)]) (is:=[zP l]) rfl rfl g0 rfl (.inl ⟨rfl,rfl⟩)
    obtain ⟨H2,gF⟩:=Rm rfl rfl ho gA
    rw [k3] at gF
    by_cases h5 : 5000 < q.length
    ·rw [AaN h5] at gF hst
     have k:=qa [] 6 hst
     simp (maxSteps:=2000000) (disch:=omega) [Ad,Ab,Aa,hrv,cl gF]
     exact k
    ·rw [AaL h5] at gF hst
     have k:=qa q 0 hst
     generalize zP q = zz at *
     simp (maxSteps:=2000000) (disch:=omega) [Ad,Ab,Aa,hrv,cl gF]
     exact k
  | some c =>
   have hlt:=(Aj hx).1
   have hlt' : (i : Int) < p.length:=by omega
   have hn:=Aq hx
   have wi : wr .i64 ((i : Int) + 1) = ((i + 1 : Nat) : Int):=Aa (by omega) (by omega)
   have hcg:=hg c (AaS hx)
   have hcb : (-1048576 <= c.x /\ c.x <= 1048576) /\ (-1048576 <= c.y /\ c.y <= 1048576):=by
    unfold Co AG at hcg
    simp only [AaJ,AaU] at hcg
    omega
   simp (maxSteps:=2000000) (disch:=omega) [Ad,Ab,Aa,hrv,hlt,hlt',hn,hB,hrh]
   refine (?key2 : ∀ (j : Nat) (D : List (Int × Int)) (l : List Ce) (o : V) (B : List (Nat × List V)) (H1 : Hp),j <= t.hood.length -> getB B 2 = some [.m (.i .i64 t.states),.m h,.m n] -> getB B 10 = some [.m (.i .i64 c.x),.m (.i .i64 c.y),.m (.i .i64 c.s)] -> StI t p D l -> (∀ (a : Nat) c o,a < i -> p[a]? = some c -> o ∈ t.hood -> (c.x - o.1,c.y - o.2) ∈ D) -> (∀ (b : Nat) o,b < j -> t.hood[b]? = some o -> (c.x - o.1,c.y - o.2) ∈ D) -> l.length <= 25 * i + j -> Xq D l o H1 -> Run G c93_B0 (S93_0 (.fa 2 0) (.m (fzm (CW p))) (.mp 0) o (.fa 10 0) (.m v) (.m (.i .i64 p.length)) (.m (.i .i64 (i : Int))) (.m h) (.m (.i .i64 t.hood.length)) (.m (.i .i64 (j : Int))) B H1) _) 0 D l o _ H1 (AaT _) (by simpa using hB) (by simp) hI hall (fun b o h=>by omega) (by omega) ho
   clear hset0 hI hall hll ho n0 hnf hB B H1 o l D
   refine Bd (fun j : Nat=>t.hood.length - j) fun j ihj D l o B H1 hj hB hA hI hall hbj hll ho=>?_
   unfold c93_B0
   obtain ⟨n0,hnf,hset⟩:=UM ho
   cases hy : t.hood[j]? with
   | none =>
    have : j = t.hood.length:=by have:=AaM.1 hy; omega
    subst this
    have k:=ih (i + 1) (by omega) D l o B H1 (by omega) hB hI (fun a c' o' ha hc' ho'=>by
     by_cases e : a < i
     ·exact hall a c' o' e hc' ho'
     ·have : a = i:=by omega
      subst this
      rw [hx] at hc'
      cases hc'
      obtain ⟨b,hb⟩:=AbW.1 ho'
      exact hbj b o' (Aj hb).1 hb) (by omega) ho
    simp (maxSteps:=2000000) (disch:=omega) [Ad,Ab,Aa,hrh,wi,AC hnf,-Int.natCast_add]
    exact k
   | some o2 =>
    have hjl:=(Aj hy).1
    have hjl2 : (j : Int) < t.hood.length:=by omega
    have hox:=BQ hy
    have hob:=El hR.hood o2 (AaS hy)
    have wj : wr .i64 ((j : Int) + 1) = ((j + 1 : Nat) : Int):=Aa (by omega) (by omega)
    obtain ⟨qx,hqx⟩ : ∃ qx,qx = c.x - o2.1:=⟨_,rfl⟩
    obtain ⟨qy,hqy⟩ : ∃ qy,qy = c.y - o2.2:=⟨_,rfl⟩
    have wx : wr .i64 (c.x - o2.1) = qx:=by rw [hqx]; exact Aa (by omega) (by omega)
    have wy : wr .i64 (c.y - o2.2) = qy:=by rw [hqy]; exact Aa (by omega) (by omega)
    have hdg:=Xh D qx qy
    have hbj2 : ∀ D' : List (Int × Int),(∀ k,k ∈ D -> k ∈ D') -> (qx,qy) ∈ D' -> ∀ (b : Nat) o,b < j + 1 -> t.hood[b]? = some o -> (c.x - o.1,c.y - o.2) ∈ D':=fun D' h1 h2 b o' hb ho'=>by
     by_cases e : b < j
     ·exact h1 _ (hbj b o' e ho')
     ·have : b = j:=by omega
      subst this
      rw [hy] at ho'
      cases ho'
      rw [<- hqx,<- hqy]
      exact h2
    by_cases hD : (qx,qy) ∈ D
    ·rw [AaP hD] at hdg
     have k:=fun B'=>ihj (j + 1) (by omega) D l o B' H1 (by omega)
     simp (maxSteps:=2000000) (disch:=omega) [Ad,Ab,Aa,hrh,hjl,hjl2,hox,hA,hB,wx,wy,n0,hdg,wj,AC hnf,-Int.natCast_add]
     exact k _ (by simpa using hB) (by simpa using hA) hI hall (hbj2 D (fun _ h=>h) hD) (by omega) ho
    ·rw [AaO hD] at hdg
     have hup:=Aat hD
     obtain ⟨hs1,ho1⟩:=hset (D ++ [(qx,qy)])
     have gn:=fun H=>ZZ hT hR ht qx qy (by omega) (by omega) H
     have hrg:=Ek hR ht qx qy
     have hsub : ∀ k,k ∈ D -> k ∈ D ++ [(qx,qy)]:=fun k hk=>by simp [hk]
     have hall3 : ∀ (a : Nat) c o,a < i -> p[a]? = some c -> o ∈ t.hood -> (c.x - o.1,c.y - o.2) ∈ D ++ [(qx,qy)]:=fun a c o h1 h2 h3=>hsub _ (hall a c o h1 h2 h3)
     by_cases hz : Bj t p qx qy = 0
     ·rw [hz] at gn
      have k:=fun B'=>ihj (j + 1) (by omega) (D ++ [(qx,qy)]) l o B' (H1.set 0 (dmp (D ++ [(qx,qy)]))) (by omega)
      simp (maxSteps:=2000000) (disch:=omega) [Ad,Ab,Aa,hrh,hjl,hjl2,hox,hA,hB,wx,wy,n0,hdg,hup,hs1,cl (gn _),wj,AC hnf,-Int.natCast_add]
      exact k _ (by simpa using hB) (by simpa using hA) (Tx hI hz) hall3 (hbj2 _ hsub (by simp)) (by omega) ho1
     ·have hpos : 0 < Bj t p qx qy:=by omega
      have gp:=fun H=>WS qx qy H
      cases hpl : AG qx qy with
      | false =>
       rw [hpl] at gp
       have k:=q5 (QO hz hpl)
       generalize Bj t p qx qy = nx at *
       simp (maxSteps:=2000000) (disch:=omega) [Ad,Ab,Aa,hrh,hjl,hjl2,hox,hA,hB,wx,wy,n0,hdg,hup,hs1,cl (gn _),hpos,cl (gp _),AC hnf,-Int.natCast_add]
       exact k
      | true =>
       rw [hpl] at gp
       obtain ⟨o3,H3,ha,hn3,ho3⟩:=Rl ho1 (by omega) ⟨qx,qy,Bj t p qx qy⟩
       dsimp only at ha
       have hI3:=WH hI hD hz hpl
       have k:=fun B'=>ihj (j + 1) (by omega) (D ++ [(qx,qy)]) (l ++ [⟨qx,qy,Bj t p qx qy⟩]) o3 B' H3 (by omega)
       generalize Bj t p qx qy = nx at *
       simp (maxSteps:=2000000) (disch:=omega) [Ad,Ab,Aa,hrh,hjl,hjl2,hox,hA,hB,wx,wy,n0,hdg,hup,hs1,cl (gn _),hpos,cl (gp _),ha,wj,AC hnf,AC hn3,-Int.natCast_add]
       exact k _ (by simpa using hB) (by simpa using hA) hI3 hall3 (hbj2 _ hsub (by simp)) (by simp; omega) ho3
 obtain ⟨x,H',h1,rfl,h2⟩:=key
 exact ⟨x,h2,h1⟩
def CX (vs : List I) : List (List I):=vs.map fun v=>[v]
def CK (vs : List I) : List (List V):=vs.map fun v=>[.m v]
@[simp] theorem Do (vs : List I) : (CX vs).length = vs.length:=by simp [CX]
@[simp] theorem Hk (vs : List I) : (CK vs).length = vs.length:=by simp [CK]
theorem DY {vs : List I} {i : Nat} {u : I} (h : vs[i]? = some u) : nth (CX vs) i = some [u]:=by rw [Bb]; simp [CX,h]
theorem QQ {vs : List I} {i : Nat} {u : I} (h : vs[i]? = some u) : nth (CK vs) i = some [.m u]:=by rw [Bb]; simp [CK,h]
theorem RD (vs : List I) : Et (CX vs) = CK vs:=by
 unfold Et CX CK
 rw [List.map_map]
 rfl
def AaA (vs : List I) (ps : List (List Ce)) : Prop:=vs.length = ps.length /\ ∀ (i : Nat) u q,vs[i]? = some u -> ps[i]? = some q -> IsSl u (Al q)
theorem Re {vs : List I} {ps : List (List Ce)} (h : AaA vs ps) {u : I} {q : List Ce} (hu : IsSl u (Al q)) : AaA (vs ++ [u]) (ps ++ [q]):=by
 obtain ⟨h1,h2⟩:=h
 refine ⟨by simp [h1],fun i u' q' hi hq=>?_⟩
 by_cases hl : i < vs.length
 ·rw [Aba hl] at hi
  rw [Aba (by omega)] at hq
  exact h2 i u' q' hi hq
 ·have hi2:=(AaI.1 hi).1
  have : i = vs.length:=by simp at hi2; omega
  subst this
  simp at hi
  rw [h1] at hq
  simp at hq
  subst hi hq
  exact hu
def Uh (vs : List I) (o : V) (H : Hp) : Prop:=vs ≠ [] /\ ((o = .ls (CX vs) /\ H = []) \/ (o = .sl 0 vs.length 1 0 vs.length false /\ H = [.cs 41 1 (CK vs) 0 false]))
theorem Rj {vs : List I} {o : V} {H : Hp} (h : Uh vs o H) : AE o = true /\ Ap (.len false) [o] = some (.m (.i .i64 vs.length)):=by
 rcases h with ⟨_,⟨rfl,rfl⟩ | ⟨rfl,rfl⟩⟩
 ·exact ⟨rfl,by show some (V.m (.i .i64 ((CX vs).length : Nat))) = _; rw [Do]⟩
 ·exact ⟨rfl,rfl⟩
theorem Ly {vs : List I} {o : V} {H : Hp} (h : Uh vs o H) {i : Nat} {u : I} (hx : vs[i]? = some u) (hl : vs.length <= 1000000) : ∃ p,Ap (.ixa 1) [o,.m (.i .i64 (i : Int))] = some p /\ ∀ B,readX ⟨B,H⟩ (.ld false 1) [p] = some (.m u):=by
 have hlt:=(Aj hx).1
 rcases h with ⟨_,⟨rfl,rfl⟩ | ⟨rfl,rfl⟩⟩
 ·have hn:=DY hx
  refine ⟨.m (.pt [u]),?_,fun B=>rfl⟩
  simp (maxSteps:=2000000) (disch:=omega) [Ad,Ab,Aa,hn,Do,hlt,show (i : Int) < vs.length from by omega]
 ·have hn:=QQ hx
  refine ⟨.pt 0 vs.length i 0,?_,fun B=>?_⟩
  ·simp (maxSteps:=2000000) (disch:=omega) [Ad,Ab,Aa,hlt,show (i : Int) < vs.length from by omega]
  ·simp (maxSteps:=2000000) (disch:=omega) [Ad,Ab,Aa,hn]
theorem TB (vs : List I) (h : ∀ u,u ∈ vs -> CS (.m u) = true) : ((CK vs).all fun e=>Nat.beq e.length 1 && e.all CS) = true:=by
 unfold CK
 rw [List.all_map,AaZ]
 intro u hu
 show (Nat.beq 1 1 && (CS (.m u) && true)) = true
 rw [h u hu]
 rfl
theorem Kl {vs : List I} {o : V} {H : Hp} (h : Uh vs o H) (hl : vs.length <= 1000000) (ho : ∀ u,u ∈ vs -> CS (.m u) = true) {u : I} (hu : CS (.m u) = true) : ∃ o1 H1,(∀ B,EG ⟨B,H⟩ 41 1 24 o [[.m u]] = some (o1,⟨B,H1⟩)) /\ AE o1 = true /\ Uh (vs ++ [u]) o1 H1:=by
 have hall : ∀ x,x ∈ vs ++ [u] -> CS (.m x) = true:=fun x hx=>by
  rcases AbC.1 hx with hx | hx
  ·exact ho x hx
  ·rw [Abn.1 hx]; exact hu
 have es : CK vs ++ [[V.m u]] = CK (vs ++ [u]):=by simp [CK]
 rcases h with ⟨hne,⟨rfl,rfl⟩ | ⟨rfl,rfl⟩⟩
 ·refine ⟨.sl 0 (vs ++ [u]).length 1 0 (vs ++ [u]).length false,[.cs 41 1 (CK (vs ++ [u])) 0 false],fun B=>?_,rfl,by simp,.inr ⟨rfl,rfl⟩⟩
  show BI ⟨B,[]⟩ 41 1 24 (Et (CX vs) ++ [[V.m u]]) = _
  rw [RD,es]
  have h1 : Nat.ble ((CK (vs ++ [u])).length * 24) 140737488355328 = true:=by
   rw [Cr]
   refine AaP ?_
   rw [Hk,AaX,List.length_singleton]
   omega
  unfold BI
  rw [h1,TB _ hall,Hk]
  rfl
 ·have ha:=fun B=>Hu (M:=⟨B,[.cs 41 1 (CK vs) 0 false]⟩) (r:=0) (bytes:=24) (xs:=[[.m u]]) rfl (by simp) (by simp; omega) (by simp [hu])
  simp only [Hk,AbD,AbP,Nat.zero_add,es,List.set_cons_zero] at ha
  exact ⟨_,_,ha,rfl,by simp,.inr ⟨by simp,rfl⟩⟩
theorem optP (k : Nat) (H : Hp) : ∀ vs : List I,Ai (fun e=>Ai (view (k + 1) H) e) (CK vs) = some (CX vs)
 | []=>rfl
 | x :: r=>by
  show Option.bind (some [x]) _ = _
  simp only [AaR]
  have:=optP k H r
  show Option.bind (Ai _ (CK r)) _ = _
  rw [this]
  rfl
theorem Zw {H : Hp} {r : Nat} {vs : List I} (h : nth H r = some (.cs 41 1 (CK vs) 0 false)) (k : Nat) : view (k + 2) H (.sl r vs.length 1 0 vs.length false) = some (.sl (CX vs)):=by
 have e : elems H (.sl r vs.length 1 0 vs.length false) = some (CK vs):=by
  show Option.bind (nth H r) _ = _
  rw [h]
  show gd (Nat.ble 0 vs.length && Nat.beq 1 1) (some (((CK vs).drop 0).take vs.length)) = _
  rw [Cr,AaP (AaT _),AbV,Abc (by simp)]
  rfl
 show Option.bind (elems H (.sl r vs.length 1 0 vs.length false)) _ = _
 rw [e]
 show Option.bind (Ai _ (CK vs)) _ = _
 rw [optP]
 rfl
theorem Kk {vs : List I} {o : V} {H : Hp} (h : Uh vs o H) (k : Nat) : view (k + 2) H o = some (.sl (CX vs)):=by
 rcases h with ⟨_,⟨rfl,rfl⟩ | ⟨rfl,rfl⟩⟩
 ·rfl
 ·exact Zw rfl k
theorem OF {u : I} {es : List (List I)} (h : IsSl u es) (c : Bp) (B : List (Nat × List V)) (H : Hp) : Am c ⟨B,H⟩ (.bsf 1 [.m (.nl 4)] 1 [0]) [.m u] = some (.ls [[u]],⟨B,H⟩):=by
 rcases h with rfl | ⟨rfl,_⟩ <;> rfl
theorem Aav {t : TreeC} {q : List Ce} (hq : AS t = true) (h1 : q.Pairwise (fun a b=>Bm a b = true)) (h2 : ∀ c,c ∈ q -> Co c = true) (h3 : q.length <= 5000) (ht : Gd t q) : DI t q = 0:=by
 unfold DI
 rw [AaN hq,AaN (Na h1 h2 h3),AaN ((Hh (by have:=(Dz hq).s2; omega) _ q rfl).2 fun c hc=>(ht c hc).2)]
def HisV (t : TreeC) (p : List Ce) (n : Nat) (x : V) : Prop:=∃ ps e,HisQ t p n (ps,e) /\ ((¬ e = 0 /\ x = .tu [.m (.nl 4),.m (.i .i64 e)]) \/ (e = 0 /\ ∃ vs,AaA vs ps /\ x = .tu [.m (.sl (CX vs)),.m (.i .i64 0)]))
theorem Wy (x y : Int) (H : Hp) : Gives G 122 [.m (.i .i64 x),.m (.i .i64 y)] H (.m (.b (AG x y))) H:=by
 refine Ak rfl rfl rfl rfl rfl ?_
 simp (contextual:=true) [Ae,Af,Ac,Ag,-Int.not_lt,-Int.not_le,-Nat.not_lt,-Nat.not_le,-List.map_take,AG]
theorem Aaa {p : List Ce} {v f : I} (hv : IsSl v (Al p)) (hl : p.length <= 5000) (hg : ∀ c,c ∈ p -> Co c = true) (hF : FldV p v f) (H : Hp) : ∃ acc,NearQ p acc /\ Gives G 120 [.m f] H (.m (z2 acc)) H:=by
 obtain ⟨bx,by_,w,h,fl,cs,rfl,hwh,hbx,hby,hin,hne,hfl,_⟩:=hF.ex
 cases fl with
 | false=>exact WU hv hl hg H
 | true =>
  have hP:=(hfl rfl).1
  have h4 : (w + 4) * (h + 4) <= 1000000 /\ w <= 1000000 /\ h <= 1000000:=by
   have e : (w + 4) * (h + 4) = w * h + w * 4 + 4 * h + 16:=by rw [Abm,Nat.mul_add,Nat.mul_add]; omega
   rw [e]
   rcases hne with ⟨h1,h2⟩ | ⟨rfl,rfl⟩
   ·have a1:=Nat.le_mul_of_pos_right w h2
    have a2:=Nat.le_mul_of_pos_left h h1
    generalize w * h = P at *
    omega
   ·omega
  exact WV h4.1 h4.2 hbx hby hin H
theorem TH {F : Nat} {f : List Ce} {o x : V} {H : Hp} (hp : G.prim F = none) (hs : G.sh F = false) (ho : RY f o H) (h : ∀ H,Gives G F [.m (zP f)] H x H) : ∃ H2,Gives G F [o] H x H2:=by
 rcases ho with ⟨rfl,rfl,rfl⟩ | ⟨hne,rfl,rfl⟩
 ·exact ⟨_,h _⟩
 ·have hz : zP f = .sl (Al f):=by unfold zP; rw [AaL hne]
  rw [hz] at h
  have hv : Ai (view 20 [Row.cs 90 3 (AJ f) 0 false]) [V.sl 0 f.length 3 0 f.length false] = some [.sl (Al f)]:=by
   have:=Ww (r:=0) (b:=0) (X:=[]) (A:=[]) (q:=f) (n:=f.length) rfl (AaT _) 18
   show (view 20 _ _).bind _ = _
   rw [this]
   rfl
  cases hf : Hy x with
  | true=>exact ⟨_,AX (is:=[.sl (Al f)]) hp hs (h []) hv (.inr ⟨by simp [DG,Fy],hf⟩)⟩
  | false =>
   have hfz : AO ([V.sl 0 f.length 3 0 f.length false].flatMap DG) [Row.cs 90 3 (AJ f) 0 false] = some [Row.cs 90 3 (AJ f) 0 true]:=by
    show Option.bind (gd ((AJ f).all fun e=>e.all isM) (some (Row.cs 90 3 (AJ f) 0 true))) _ = _
    rw [Fm]
    rfl
   exact ⟨_,Cv (is:=[.sl (Al f)]) hp hs (h []) hv (by simp [DG,Fy]) hf rfl hfz⟩
theorem Ri {f : List Ce} {o : V} {H : Hp} (h : RY f o H) : Ap (.len false) [o] = some (.m (.i .i64 (f.length : Nat))):=by
 rcases h with ⟨rfl,rfl,rfl⟩ | ⟨_,rfl,_⟩ <;> rfl
def stepL (t : TreeC) (p : List Ce) (acc : List (Int × Int)) : List Ce:=(acc.filter fun k=>!decide (Bj t p k.1 k.2 = 0)).map fun k=>⟨k.1,k.2,Bj t p k.1 k.2⟩
def Ls (t : TreeC) (p : List Ce) (acc : List (Int × Int)) : Bool:=acc.any fun k=>!decide (Bj t p k.1 k.2 = 0) && !AG k.1 k.2
theorem Ou (t : TreeC) (p : List Ce) (acc : List (Int × Int)) (k : Int × Int) : stepL t p (acc ++ [k]) = stepL t p acc ++ if Bj t p k.1 k.2 = 0 then [] else [⟨k.1,k.2,Bj t p k.1 k.2⟩]:=by
 unfold stepL
 rw [AbT]
 by_cases h : Bj t p k.1 k.2 = 0 <;> simp [h]
theorem Ot (t : TreeC) (p : List Ce) (acc : List (Int × Int)) (k : Int × Int) : Ls t p (acc ++ [k]) = (Ls t p acc || (!decide (Bj t p k.1 k.2 = 0) && !AG k.1 k.2)):=by
 unfold Ls
 simp
theorem QM {t : TreeC} {p : List Ce} {acc : List (Int × Int)} {c : Ce} : c ∈ stepL t p acc ↔ (c.x,c.y) ∈ acc /\ c.s = Bj t p c.x c.y /\ ¬ c.s = 0:=by
 unfold stepL
 rw [Abz]
 constructor
 ·rintro ⟨k,hk,rfl⟩
  obtain ⟨h1,h2⟩:=AbS.1 hk
  exact ⟨h1,rfl,by simpa using h2⟩
 ·rintro ⟨h1,h2,h3⟩
  refine ⟨(c.x,c.y),AbS.2 ⟨h1,?_⟩,?_⟩
  ·dsimp only
   rw [<- h2]
   simpa using h3
  ·obtain ⟨a,b,s⟩:=c
   dsimp only at h2 ⊢
   rw [<- h2]
theorem Lt {t : TreeC} {p : List Ce} {acc : List (Int × Int)} (h : acc.Nodup) : (stepL t p acc).Pairwise apart:=by
 unfold stepL
 rw [List.pairwise_map]
 exact (h.sublist List.filter_sublist).imp fun {a b} hab ⟨h1,h2⟩=>hab (Prod.ext h1 h2)
theorem Nj {t : TreeC} (hq : AS t = true) {p : List Ce} {acc : List (Int × Int)} (hN : NearQ p acc) {x y : Int} (h : ¬ Bj t p x y = 0) : (x,y) ∈ acc:=by
 obtain ⟨c,o,hc,ho,rfl,rfl⟩:=Ni hq h
 have:=El (Dz hq).hood o ho
 refine hN.all c _ hc ?_
 unfold nr
 dsimp only
 omega
theorem QN (t : TreeC) (p : List Ce) (acc : List (Int × Int)) : (stepL t p acc).length <= acc.length:=by
 unfold stepL
 rw [Abe]
 exact AbX _ _
set_option maxHeartbeats 4000000 in
theorem UE {t : TreeC} {h n v : I} {es : List (List I)} {p : List Ce} (hT : TreeV t h n es) (hv : IsSl v (Al p)) (hc : DI t p = 0) (H : Hp) : ∃ x,OI t p x /\ Gives G 98 [.m (.ag [.i .i64 t.states,h,n]),.m v] H x H:=by
 obtain ⟨hq,hr,ht⟩:=FR hc
 have hR:=Dz hq
 obtain ⟨pw,hg,hl⟩:=Bh hr
 have g1:=fun H=>Nv hT hv (by omega) H
 rw [hc] at g1
 obtain ⟨f,hF,g2⟩:=Tw hv hr []
 have g4:=fun x y hx hy H=>ZY hT hR hv hl hF ht x y hx hy H
 obtain ⟨acc,hN,g3⟩:=Aaa hv hl hg hF []
 obtain ⟨bx,by_,w,k,fl,cs,rfl,_,_,_,_,_,_,hcs⟩:=hF.ex
 have hv1:=Ao hv
 have key : ∃ x H',Gives G 98 [.m (.ag [.i .i64 t.states,h,n]),.m v] H x H' /\ (H' = H /\ OI t p x):=by
  refine Ba ?_
  refine Dv rfl rfl rfl rfl rfl ?_
  generalize hQ : (fun (x : V) (H' : Hp)=>H' = H /\ OI t p x) = Q
  have qn : ∀ e,Dr t p ([],e) -> Q (.tu [.m (.nl 4),.m (.i .i64 e)]) H:=fun e hs=>by rw [<- hQ]; exact ⟨rfl,[],e,hs,rfl⟩
  have qa : ∀ q,Dr t p (q,0) -> Q (.tu [.m (zP q),.m (.i .i64 0)]) H:=fun q hs=>by rw [<- hQ]; exact ⟨rfl,q,0,hs,rfl⟩
  clear hQ
  have hra:=(z2_sl acc).rules
  simp only [AY] at hra
  unfold Kz at g2 g3 g4
  simp (maxSteps:=2000000) (disch:=omega) [Ad,Ab,Aa,cl (g1 _),cl g2,cl g3,hcs,hv1]
  refine (?key : ∀ (i : Nat) (b : Bool) (o : V) (B : List (Nat × List V)) (H1 : Hp),i <= acc.length -> getB B 2 = some [.m (.i .i64 t.states),.m h,.m n] -> getB B 7 = some [.m (.b fl),.m (.i .i64 bx),.m (.i .i64 by_),.m (.i .i64 w),.m (.i .i64 k),.m cs,.m v] -> b = Ls t p (acc.take i) -> RY (stepL t p (acc.take i)) o H1 -> Run G c98_B0 (S98_0 (.fa 2 0) (.fa 7 0) (.m (z2 acc)) o (.m (.b b)) (.m (.i .i64 (i : Int))) B H1) _) 0 false _ _ _ (AaT _) rfl rfl rfl (.inl ⟨rfl,rfl,rfl⟩)
  refine Bd (fun i : Nat=>acc.length - i) fun i ih b o B H1 hi hB2 hB7 hb ho=>?_
  unfold c98_B0
  have hnf:=(DX ho).2
  have hol:=Ri ho
  have hlen:=hN.len
  have hsl:=QN t p (acc.take i)
  cases hx : acc[i]? with
  | none =>
   have : i = acc.length:=by have:=AaM.1 hx; omega
   subst this
   rw [Aby] at hb ho hol hsl
   cases b with
   | true =>
    have hb:=hb.symm
    unfold Ls at hb
    obtain ⟨k,hk,hk2⟩:=List.any_eq_true.1 hb
    rw [AaJ,Abi,decide_eq_false_iff_not,Abi] at hk2
    have k1:=qn 5 (QO hk2.1 hk2.2)
    simp (maxSteps:=2000000) (disch:=omega) [Ad,Ab,Aa,hra]
    exact k1
   | false =>
    have hpl : ∀ x y,¬ Bj t p x y = 0 -> AG x y = true:=fun x y hn=>by
     have hm:=Nj hq hN hn
     cases hpp : AG x y with
     | true=>rfl
     | false =>
      exfalso
      have : Ls t p acc = true:=by
       unfold Ls
       refine List.any_eq_true.2 ⟨(x,y),hm,?_⟩
       dsimp only
       rw [hpp,AaO hn]
       rfl
      rw [this] at hb
      cases hb
    have hmem : ∀ c,c ∈ stepL t p acc ↔ c.s = Bj t p c.x c.y /\ ¬ c.s = 0:=fun c=>QM.trans ⟨fun h=>h.2,fun h=>⟨Nj hq hN (by rw [<- h.1]; exact h.2),h⟩⟩
    have hap:=Lt (t:=t) (p:=p) hN.nd
    have hgood : ∀ c,c ∈ stepL t p acc -> Co c = true:=fun c hc=>by
     obtain ⟨h1,h2⟩:=(hmem c).1 hc
     have h3:=hpl c.x c.y (by rw [<- h1]; exact h2)
     have h4:=Ek hR ht c.x c.y
     rw [<- h1] at h4
     have:=hR.s8
     unfold Co
     rw [h3]
     simp only [Abl,AaJ,AaU]
     omega
    have hst : Dr t p (if 5000 < (CJ (stepL t p acc)).length then ([],6) else (CJ (stepL t p acc),0)):=.inr ⟨hpl,_,Ej hap,fun c=>((Dl _).mem_iff).trans (hmem c),rfl⟩
    rw [Dm] at hst
    by_cases h5 : 5000 < (stepL t p acc).length
    ·have h5' : (5000 : Int) < (stepL t p acc).length:=by omega
     rw [AaN h5] at hst
     have k1:=qn 6 hst
     simp (maxSteps:=2000000) (disch:=omega) [Ad,Ab,Aa,hra,hol,h5,h5']
     exact k1
    ·have h5' : ¬ (5000 : Int) < (stepL t p acc).length:=by omega
     rw [AaL h5] at hst
     have k1:=qa _ hst
     have gF:=fun H=>QW (Eo (stepL t p acc)) (by omega) hgood hap H
     obtain ⟨H2,gG⟩:=TH rfl rfl ho gF
     generalize zP (CJ (stepL t p acc)) = zz at *
     simp (maxSteps:=2000000) (disch:=omega) [Ad,Ab,Aa,hra,hol,h5,h5',cl gG]
     exact k1
  | some k0 =>
   obtain ⟨x,y⟩:=k0
   have hlt:=(Aj hx).1
   have hlt' : (i : Int) < acc.length:=by omega
   have hox:=BQ hx
   have hbk:=hN.bnd _ (AaS hx)
   have wi : wr .i64 ((i : Int) + 1) = ((i + 1 : Nat) : Int):=Aa (by omega) (by omega)
   dsimp only at hox hbk
   have gn:=fun H=>g4 x y (by omega) (by omega) H
   have gp:=fun H=>Wy x y H
   have hrg:=Ek hR ht x y
   have eL:=Ou t p (acc.take i) (x,y)
   have eO:=Ot t p (acc.take i) (x,y)
   rw [<- Au hx] at eL eO
   dsimp only at eL eO
   by_cases hz : Bj t p x y = 0
   ·rw [AaN hz,AbI] at eL
    rw [AaP hz,Bool.not_true,Abo,Bool.or_false] at eO
    rw [hz] at gn
    have kk:=fun B'=>ih (i + 1) (by omega) b o B' H1 (by omega)
    simp (maxSteps:=2000000) (disch:=omega) [Ad,Ab,Aa,hra,hlt,hlt',hox,hB2,hB7,cl (gn _),wi,AC hnf,-Int.natCast_add]
    exact kk _ (by simpa using hB2) (by simpa using hB7) (by rw [eO]; exact hb) (by rw [eL]; exact ho)
   ·rw [AaL hz] at eL
    rw [AaO hz,Bool.not_false,Abl,<- hb] at eO
    obtain ⟨o1,H2,hap,hn1,ho1⟩:=Ca ho (by rw [AaW] at hsl; omega) ⟨x,y,Bj t p x y⟩
    dsimp only at hap
    rw [<- eL] at ho1
    have kk:=fun b' B'=>ih (i + 1) (by omega) b' o1 B' H2 (by omega)
    generalize Bj t p x y = nx at *
    cases b with
    | true =>
     simp (maxSteps:=2000000) (disch:=omega) [Ad,Ab,Aa,Ac,hra,hlt,hlt',hox,hB2,hB7,cl (gn _),hz,hap,wi,AC hnf,AC hn1,-Int.natCast_add]
     exact kk true _ (by simpa using hB2) (by simpa using hB7) (by rw [eO]; rfl) ho1
    | false =>
     cases hpp : AG x y with
     | true =>
      rw [hpp] at gp eO
      simp (maxSteps:=2000000) (disch:=omega) [Ad,Ab,Aa,Ac,hra,hlt,hlt',hox,hB2,hB7,cl (gn _),hz,hap,cl (gp _),wi,AC hnf,AC hn1,-Int.natCast_add]
      exact kk false _ (by simpa using hB2) (by simpa using hB7) (by rw [eO]; rfl) ho1
     | false =>
      rw [hpp] at gp eO
      simp (maxSteps:=2000000) (disch:=omega) [Ad,Ab,Aa,Ac,hra,hlt,hlt',hox,hB2,hB7,cl (gn _),hz,hap,cl (gp _),wi,AC hnf,AC hn1,-Int.natCast_add]
      exact kk true _ (by simpa using hB2) (by simpa using hB7) (by rw [eO]; rfl) ho1
 obtain ⟨x,H',h1,rfl,h2⟩:=key
 exact ⟨x,h2,h1⟩
end Go.Mx.Tryz
