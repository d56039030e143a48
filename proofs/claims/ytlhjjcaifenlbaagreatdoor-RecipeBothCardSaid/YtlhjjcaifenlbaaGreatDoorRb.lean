/- Fields of the reference: the grid of a pattern. -/
import Derived.Test.YtlhjjcaifenlbaaGreatDoorSeav
import Derived.Test.YtlhjjcaifenlbaaGreatDoorVn
import Derived.Test.YtlhjjcaifenlbaaGreatDoorStr
set_option linter.unusedSimpArgs false
set_option linter.unusedVariables false
set_option linter.unusedSectionVars false
set_option maxRecDepth 100000
namespace Go.Mx.Tryz
open Go.Lib Go.Proofs
def Adk (acc : List Int) (o : V) (H : Hp) : Prop:=(acc = [] /\ o = .m (.nl 4) /\ H = []) \/ (acc ≠ [] /\ o = .sl 0 acc.length 1 0 acc.length false /\ H = [.cs 3 1 (Bo acc) 0 false])
theorem ST {acc : List Int} {o : V} {H : Hp} (h : Adk acc o H) (hl : acc.length <= 1000000) (x : Int) : ∃ o1 H1,(∀ B,Ea ⟨B,H⟩ 3 1 8 o [[.m (.i .i64 x)]] = some (o1,⟨B,H1⟩)) /\ AA o1 = true /\ Adk (acc ++ [x]) o1 H1:=by
 rcases h with ⟨rfl,rfl,rfl⟩ | ⟨hne,rfl,rfl⟩
 ·exact ⟨_,_,fun B=>rfl,rfl,.inr ⟨by simp,rfl,rfl⟩⟩
 ·have ha:=fun B=>CJ (M:=⟨B,[.cs 3 1 (Bo acc) 0 false]⟩) (r:=0) (bytes:=8) (xs:=[[.m (.i .i64 x)]]) rfl (by simp) (by simp [Fs]; omega) (by simp [])
  simp only [Fs,AdZ,Aeh,Aey,Pi,AeE] at ha
  exact ⟨_,_,ha,rfl,.inr ⟨by simp,by simp,rfl⟩⟩
theorem Zk {acc : List Int} {o : V} {H : Hp} (h : Adk acc o H) : AA o = true:=by
 rcases h with ⟨_,rfl,_⟩ | ⟨_,rfl,_⟩ <;> rfl
theorem SU {F : Nat} {acc : List Int} {o x : V} {t0 : I} {H : Hp} (hp : G.prim F = none) (hs : G.sh F = false) (ho : Adk acc o H) (h : ∀ w H,IsSl w (Es acc) -> Gives G F [.m t0,.m w] H x H) (hf : Fy x = true) : Gives G F [.m t0,o] H x H:=by
 rcases ho with ⟨rfl,rfl,rfl⟩ | ⟨hne,rfl,rfl⟩
 ·exact h _ [] AC
 ·refine AT (is:=[t0,.sl (Es acc)]) hp hs (h _ [] (Ba _)) ?_ (.inr ⟨by simp [DH,GH],hf⟩)
  have:=Va (r:=0) (ver:=acc.length) (st:=0) (len:=acc.length) (lim:=false) (base:=0) (fz:=false) (l:=acc) (H:=[Row.cs 3 1 (Bo acc) 0 false]) rfl (Adz _) 18
  rw [AeC,AdI (Adw _)] at this
  show Option.bind (some _) (fun _=>Option.bind (Option.bind (view 20 _ _) _) _) = _
  rw [this]
  rfl
end Go.Mx.Tryz
set_option maxHeartbeats 4000000
namespace Go.Mx.Tryz
open Go.Lib Go.Proofs
theorem Ty (a b : Int × Int) (H : Hp) : Gives G 150 [.m (.ag [.i .i64 a.1,.i .i64 a.2]),.m (.ag [.i .i64 b.1,.i .i64 b.2])] H (.m (.b (Lw a b))) H:=by
 refine Ae rfl rfl rfl rfl rfl ?_
 simp (contextual:=true) [Aj,-Int.not_lt,-Int.not_le,-Nat.not_lt,-Nat.not_le,-List.map_take,Lw]
theorem AcM {v : I} {p : List (Int × Int)} (hv : IsSl v (DF p)) (hl : (p.length : Int) <= 9223372036854775807) (H : Hp) : Gives G 111 [.m v] H (.m (.b (Cf p))) H:=by
 have hr0:=hv.rules
 simp only [Be] at hr0
 refine Ae rfl rfl rfl rfl rfl ?_
 by_cases h1 : 1 <= p.length /\ p.length <= 25
 rotate_left
 ·have e : Cf p = false:=by unfold Cf; rw [AdB h1]; rfl
  by_cases h2 : (p.length : Int) < 1
  ·simp (maxSteps:=2000000) (disch:=omega) [hr0,h2,e]
  ·have h3 : (25 : Int) < p.length:=by omega
   simp (maxSteps:=2000000) (disch:=omega) [hr0,h2,h3,e]
 have h2 : ¬ (p.length : Int) < 1:=by omega
 have h3 : ¬ (25 : Int) < p.length:=by omega
 have hR : Cf p = Kd none p:=by unfold Cf; rw [AdA h1]; rfl
 rw [hR]
 simp (maxSteps:=2000000) (disch:=omega) [hr0,h2,h3]
 refine (?key : ∀ (i : Nat) (B : List (Nat × List V)),i <= p.length -> Kd none p = Kd (Ew p i) (p.drop i) -> Run G c111_B0 (S111_0 (.m v) (.m (.i .i64 i)) B []) _) 0 [] (Adz _) rfl
 refine Bi (fun i : Nat=>p.length - i) fun i ih B hi hr=>?_
 unfold c111_B0
 cases hx : p[i]? with
 | none =>
  have : i = p.length:=by have:=Adv.1 hx; omega
  subst this
  have : Kd (Ew p p.length) [] = true:=by cases Ew p p.length <;> rfl
  simp [hr0,hr,this]
 | some c =>
  have hlt:=(Al hx).1
  have hn:=Cg hx
  rw [(Al hx).2,LD hx,Lq] at hr
  cases i with
  | zero =>
   simp (contextual:=true) (maxSteps:=2000000) (disch:=omega) [Ai,Aj,Ad,-Int.not_lt,-Int.not_le,-Nat.not_lt,-Nat.not_le,-List.map_take,hr0,hn,hlt,Aa]
   repeat' first | with_reducible apply And.intro | intro _
   all_goals first
    | (refine ih 1 (by omega) _ (by omega) ?_; grind [Ew])
    | grind [Ew]
  | succ j =>
   obtain ⟨c0,hx0⟩ : ∃ c0,p[j]? = some c0:=⟨p[j],Adt (by omega)⟩
   have hn0:=Cg hx0
   have e3 : (j : Int) + 1 < p.length:=by omega
   have e4 : (j : Int) < p.length:=by omega
   have e6 : (0 : Int) <= j + 1:=by omega
   have e7 : ((j : Int) + 1).toNat = j + 1:=by omega
   have hp0 : Ew p (j + 1) = some c0:=hx0
   simp only [hp0] at hr
   simp (contextual:=true) (maxSteps:=2000000) (disch:=omega) [Ai,Aj,Ad,-Int.not_lt,-Int.not_le,-Nat.not_lt,-Nat.not_le,-List.map_take,hr0,hn,hn0,e3,e7,cl (Ty _ _ _),Aa]
   repeat' first | with_reducible apply And.intro | intro _
   all_goals first
    | (refine ih (j + 2) (by omega) _ (by omega) ?_; grind)
    | grind
theorem Wo {t : TreeC} {h n : I} {es : List (List I)} (hT : TreeV t h n es) (H : Hp) : Gives G 70 [.m (.ag [.i .i64 t.states,h,n])] H (.m (.b (Bu t))) H:=by
 have hrh:=hT.hd.rules
 simp only [Be] at hrh
 have hrn:=hT.nd.rules
 have hln:=Dz hT
 have gh:=fun H=>AcM hT.hd (by have:=hT.hl; omega) H
 have hl1:=hT.hl
 have hl2:=hT.nl
 refine Ae rfl rfl rfl rfl rfl ?_
 have eO : Bu t = (decide (2 <= t.states /\ t.states <= 8) && (Cf t.hood && (decide (1 <= t.nodes.length /\ t.nodes.length <= 4096) && (decide (levAt t.nodes (t.nodes.length - 1) = t.hood.length) && nodesOk t 0 t.nodes)))):=rfl
 by_cases s2 : t.states < 2
 ·have : Bu t = false:=by rw [eO,AdB (by omega)]; rfl
  simp (maxSteps:=2000000) (disch:=omega) [Ad,hrn,s2,this]
 by_cases s8 : 8 < t.states
 ·have : Bu t = false:=by rw [eO,AdB (by omega)]; rfl
  simp (maxSteps:=2000000) (disch:=omega) [Ad,hrn,s2,s8,this]
 cases hh : Cf t.hood with
 | false =>
  have : Bu t = false:=by rw [eO,hh]; simp
  rw [hh] at gh
  simp (maxSteps:=2000000) (disch:=omega) [Ad,hrn,s2,s8,cl (gh _),this]
 | true =>
  rw [hh] at gh
  by_cases n1 : (es.length : Int) < 1
  ·have : Bu t = false:=by rw [eO,AdB (by rw [hln]; omega : ¬ (1 <= t.nodes.length /\ t.nodes.length <= 4096))]; simp
   simp (maxSteps:=2000000) (disch:=omega) [Ad,hrn,s2,s8,cl (gh _),n1,this]
  by_cases n2 : (4096 : Int) < es.length
  ·have : Bu t = false:=by rw [eO,AdB (by rw [hln]; omega : ¬ (1 <= t.nodes.length /\ t.nodes.length <= 4096))]; simp
   simp (maxSteps:=2000000) (disch:=omega) [Ad,hrn,s2,s8,cl (gh _),n1,n2,this]
  have hlt1 : es.length - 1 < t.nodes.length:=by omega
  obtain ⟨z0,hz0,_⟩:=Cx hT (Adt hlt1)
  have hle1 : es.length - 1 < es.length:=by omega
  have hle2 : ((es.length - 1 : Nat) : Int) < es.length:=by omega
  have w1 : wr .i64 ((es.length : Int) - 1) = ((es.length - 1 : Nat) : Int):=by rw [Aa (by omega) (by omega)]; omega
  have hlev:=Ha (Adt hlt1)
  have eroot : levAt t.nodes (t.nodes.length - 1) = t.nodes[es.length - 1].1:=by
   rw [<- hlev,hln]
   congr 1
   omega
  have hR : Bu t = (decide (t.nodes[es.length - 1].1 = t.hood.length) && nodesOk t 0 t.nodes):=by
   rw [eO,hh,AdA (by omega : 2 <= t.states /\ t.states <= 8),AdA (by omega : 1 <= t.nodes.length /\ t.nodes.length <= 4096),eroot]
   simp
  have hF : nodesOk t 0 t.nodes = false -> Bu t = false:=fun h=>by rw [hR,h,Bool.and_false]
  simp (maxSteps:=2000000) (disch:=omega) [Ad,hrn,s2,s8,cl (gh _),n1,n2]
  refine (?key : ∀ (i : Nat) (B : List (Nat × List V)),i <= t.nodes.length -> getB B 1 = some [.m (.i .i64 t.states),.m h,.m n] -> nodesOk t 0 t.nodes = nodesOk t i (t.nodes.drop i) -> Run G c70_B1 (S70_1 (.fa 1 0) (.m (.i .i64 es.length)) (.m (.i .i64 (i : Int))) B []) _) 0 _ (Adz _) rfl rfl
  refine Bi (fun i : Nat=>t.nodes.length - i) fun i ih B hi hB hI=>?_
  unfold c70_B1
  cases hx : t.nodes[i]? with
  | none =>
   have : i = es.length:=by have:=Adv.1 hx; omega
   subst this
   rw [<- hln,Aeg] at hI
   have hI : nodesOk t 0 t.nodes = true:=hI
   rw [hI,Bool.and_true] at hR
   rw [hR]
   simp (maxSteps:=2000000) (disch:=omega) [hrn,hrh,hB,w1,hz0]
  | some nd =>
   have hlt:=(Al hx).1
   have hlt1 : i < es.length:=by omega
   have hlt2 : (i : Int) < es.length:=by omega
   obtain ⟨z,hz,hzs,hzl,hzb⟩:=Cx hT hx
   have hrz:=hzs.rules
   have hz1:=CF hzs
   simp only [Cw] at hrz
   have wi : wr .i64 ((i : Int) + 1) = ((i + 1 : Nat) : Int):=Aa (by omega) (by omega)
   rw [(Al hx).2,Gz] at hI
   have eN : EZ t i nd = (decide (1 <= nd.1 /\ nd.1 <= t.hood.length /\ (nd.2.length : Int) = t.states) && nd.2.all (Qe t i nd.1)):=rfl
   by_cases m1 : nd.1 < 1
   ·have:=hF (by rw [hI,eN,AdB (by omega)]; rfl)
    simp (maxSteps:=2000000) (disch:=omega) [Ab,hrn,hlt2,hz,hz1,hB,m1,this]
   by_cases m2 : (t.hood.length : Int) < nd.1
   ·have:=hF (by rw [hI,eN,AdB (by omega)]; rfl)
    simp (maxSteps:=2000000) (disch:=omega) [Ab,hrn,hrh,hlt2,hz,hz1,hB,m1,m2,this]
   by_cases m3 : (nd.2.length : Int) = t.states
   rotate_left
   ·have:=hF (by rw [hI,eN,AdB (by omega)]; rfl)
    simp (maxSteps:=2000000) (disch:=omega) [Ab,hrn,hrh,hlt2,hz,hz1,hrz,hB,m1,m2,m3,this]
   rw [eN,AdA (by omega : 1 <= nd.1 /\ nd.1 <= t.hood.length /\ (nd.2.length : Int) = t.states),Aev] at hI
   simp (maxSteps:=2000000) (disch:=omega) [Ab,hrn,hrh,hlt2,hz,hz1,hrz,hB,m1,m2,m3]
   refine (?key2 : ∀ (j : Nat) (B : List (Nat × List V)),j <= nd.2.length -> getB B 1 = some [.m (.i .i64 t.states),.m h,.m n] -> getB B 5 = some [.m (.i .i64 nd.1),.m z] -> nodesOk t 0 t.nodes = ((nd.2.drop j).all (Qe t i nd.1) && nodesOk t (i + 1) (t.nodes.drop (i + 1))) -> Run G c70_B0 (S70_0 (.fa 1 0) (.m (.i .i64 es.length)) (.m (.i .i64 (i : Int))) (.fa 5 0) (.m (.i .i64 (j : Int))) B []) _) 0 _ (Adz _) (by simpa using hB) (by simp) hI
   clear hI
   refine Bi (fun j : Nat=>nd.2.length - j) fun j ihj B hj hB h5 hI=>?_
   unfold c70_B0
   cases hy : nd.2[j]? with
   | none =>
    have : j = nd.2.length:=by have:=Adv.1 hy; omega
    subst this
    rw [Aeg] at hI
    have k:=ih (i + 1) (by omega) B (by omega) hB hI
    have hjs : ¬ (nd.2.length : Int) < t.states:=by omega
    have hjs2 : ¬ ((nd.2.length : Nat) : Int) < t.states:=hjs
    simp (maxSteps:=2000000) (disch:=omega) [hB,hjs,wi,-Int.natCast_add]
    exact k
   | some k =>
    have hjl:=(Al hy).1
    have hjl2 : (j : Int) < nd.2.length:=by omega
    have hjs : (j : Int) < t.states:=by omega
    have hk : nth (Es nd.2) j = some [.i .i64 k]:=CP hy
    have wj : wr .i64 ((j : Int) + 1) = ((j + 1 : Nat) : Int):=Aa (by omega) (by omega)
    have hkb:=hzb k (Ady hy)
    rw [(Al hy).2,List.all_cons] at hI
    have eE : Qe t i nd.1 k = decide (¬ k < 0 /\ ¬ (nd.1 = 1 /\ t.states <= k) /\ ¬ (1 < nd.1 /\ ((i : Int) <= k \/ ¬ levAt t.nodes k = nd.1 - 1))):=rfl
    have go:=fun (h : Qe t i nd.1 k = true)=>ihj (j + 1) (by omega) B (by omega) hB h5 (by rw [hI,h,Aev])
    have no:=fun (h : Qe t i nd.1 k = false)=>hF (by rw [hI,h]; rfl)
    have wl : wr .i64 (nd.1 - 1) = nd.1 - 1:=Aa (by omega) (by omega)
    by_cases k0 : k < 0
    ·have:=no (by rw [eE]; exact AdB fun h=>h.1 k0)
     simp (maxSteps:=2000000) (disch:=omega) [hrz,hjs,hk,hB,h5,k0,this]
    by_cases l1 : nd.1 = 1
    ·have l2 : ¬ 1 < nd.1:=by omega
     by_cases ks : t.states <= k
     ·have:=no (by rw [eE]; exact AdB fun h=>h.2.1 ⟨l1,ks⟩)
      simp (maxSteps:=2000000) (disch:=omega) [hrz,hjs,hk,hB,h5,k0,l1,ks,this]
     ·have kk:=go (by rw [eE]; exact AdA ⟨k0,fun h=>ks h.2,fun h=>l2 h.1⟩)
      rw [l1] at h5
      simp (maxSteps:=2000000) (disch:=omega) [hrz,hjs,hk,hB,h5,k0,ks,wj,-Int.natCast_add]
      exact kk
    ·have l2 : 1 < nd.1:=by omega
     by_cases ki : (i : Int) <= k
     ·have:=no (by rw [eE]; exact AdB fun h=>h.2.2 ⟨l2,.inl ki⟩)
      simp (maxSteps:=2000000) (disch:=omega) [hrz,hjs,hk,hB,h5,k0,l1,l2,ki,this]
     ·obtain ⟨kn,rfl⟩:=AdM (show 0 <= k by omega)
      have hkn : kn < t.nodes.length:=by omega
      have hkn1 : kn < es.length:=by omega
      have hkn2 : (kn : Int) < es.length:=by omega
      obtain ⟨z',hz',_⟩:=Cx hT (Adt hkn)
      have hlv:=Ha (Adt hkn)
      have ki2 : ¬ i <= kn:=by omega
      by_cases hle : t.nodes[kn].1 = nd.1 - 1
      ·have kk:=go (by rw [eE]; exact AdA ⟨k0,fun h=>l1 h.1,fun h=>h.2.elim ki fun h2=>h2 (hlv.trans hle)⟩)
       simp (maxSteps:=2000000) (disch:=omega) [hrz,hrn,hjs,hk,hB,h5,k0,l1,l2,ki,hz',wl,hle,wj,-Int.natCast_add]
       exact kk
      ·have:=no (by rw [eE]; exact AdB fun h=>h.2.2 ⟨l2,.inr fun h2=>hle (hlv.symm.trans h2)⟩)
       simp (maxSteps:=2000000) (disch:=omega) [hrz,hrn,hjs,hk,hB,h5,k0,l1,l2,ki,hz',wl,hle,this]
set_option maxHeartbeats 4000000 in
theorem Aca {t : TreeC} {h n : I} {es : List (List I)} (hT : TreeV t h n es) (H : Hp) : Gives G 104 [.m (.ag [.i .i64 t.states,h,n])] H (.m (.b (Bu t))) H:=by
 have hrh:=hT.hd.rules
 simp only [Be] at hrh
 have hrn:=hT.nd.rules
 have hln:=Dz hT
 have gh:=fun H=>AcL hT.hd (by have:=hT.hl; omega) H
 have hl1:=hT.hl
 have hl2:=hT.nl
 refine Ae rfl rfl rfl rfl rfl ?_
 have eO : Bu t = (decide (2 <= t.states /\ t.states <= 8) && (Cf t.hood && (decide (1 <= t.nodes.length /\ t.nodes.length <= 4096) && (decide (levAt t.nodes (t.nodes.length - 1) = t.hood.length) && nodesOk t 0 t.nodes)))):=rfl
 by_cases s2 : t.states < 2
 ·have : Bu t = false:=by rw [eO,AdB (by omega)]; rfl
  simp (maxSteps:=2000000) (disch:=omega) [Ad,hrn,s2,this]
 by_cases s8 : 8 < t.states
 ·have : Bu t = false:=by rw [eO,AdB (by omega)]; rfl
  simp (maxSteps:=2000000) (disch:=omega) [Ad,hrn,s2,s8,this]
 cases hh : Cf t.hood with
 | false =>
  have : Bu t = false:=by rw [eO,hh]; simp
  rw [hh] at gh
  simp (maxSteps:=2000000) (disch:=omega) [Ad,hrn,s2,s8,cl (gh _),this]
 | true =>
  rw [hh] at gh
  by_cases n1 : (es.length : Int) < 1
  ·have : Bu t = false:=by rw [eO,AdB (by rw [hln]; omega : ¬ (1 <= t.nodes.length /\ t.nodes.length <= 4096))]; simp
   simp (maxSteps:=2000000) (disch:=omega) [Ad,hrn,s2,s8,cl (gh _),n1,this]
  by_cases n2 : (4096 : Int) < es.length
  ·have : Bu t = false:=by rw [eO,AdB (by rw [hln]; omega : ¬ (1 <= t.nodes.length /\ t.nodes.length <= 4096))]; simp
   simp (maxSteps:=2000000) (disch:=omega) [Ad,hrn,s2,s8,cl (gh _),n1,n2,this]
  have hlt1 : es.length - 1 < t.nodes.length:=by omega
  obtain ⟨z0,hz0,_⟩:=Cx hT (Adt hlt1)
  have hle1 : es.length - 1 < es.length:=by omega
  have hle2 : ((es.length - 1 : Nat) : Int) < es.length:=by omega
  have w1 : wr .i64 ((es.length : Int) - 1) = ((es.length - 1 : Nat) : Int):=by rw [Aa (by omega) (by omega)]; omega
  have hlev:=Ha (Adt hlt1)
  have eroot : levAt t.nodes (t.nodes.length - 1) = t.nodes[es.length - 1].1:=by
   rw [<- hlev,hln]
   congr 1
   omega
  by_cases hroot : t.nodes[es.length - 1].1 = t.hood.length
  rotate_left
  ·have : Bu t = false:=by rw [eO,AdB (by rw [eroot]; exact hroot : ¬ levAt t.nodes (t.nodes.length - 1) = t.hood.length)]; simp
   simp (maxSteps:=2000000) (disch:=omega) [Ad,hrh,hrn,s2,s8,cl (gh _),n1,n2,w1,hz0,hroot,this]
  have hR : Bu t = nodesOk t 0 t.nodes:=by
   rw [eO,hh,AdA (by omega : 2 <= t.states /\ t.states <= 8),AdA (by omega : 1 <= t.nodes.length /\ t.nodes.length <= 4096),AdA (by rw [eroot]; exact hroot : levAt t.nodes (t.nodes.length - 1) = t.hood.length)]
   simp
  rw [hR]
  simp (maxSteps:=2000000) (disch:=omega) [Ad,hrh,hrn,s2,s8,cl (gh _),n1,n2,w1,hz0,hroot]
  refine (?key : ∀ (i : Nat) (B : List (Nat × List V)),i <= t.nodes.length -> getB B 1 = some [.m (.i .i64 t.states),.m h,.m n] -> nodesOk t 0 t.nodes = nodesOk t i (t.nodes.drop i) -> Run G c104_B1 (S104_1 (.fa 1 0) (.m n) (.m (.i .i64 es.length)) (.m (.i .i64 (i : Int))) B []) _) 0 _ (Adz _) rfl rfl
  refine Bi (fun i : Nat=>t.nodes.length - i) fun i ih B hi hB hI=>?_
  unfold c104_B1
  cases hx : t.nodes[i]? with
  | none =>
   have : i = es.length:=by have:=Adv.1 hx; omega
   subst this
   rw [<- hln,Aeg] at hI
   have hI : nodesOk t 0 t.nodes = true:=hI
   simp (maxSteps:=2000000) (disch:=omega) [hI]
  | some nd =>
   have hlt:=(Al hx).1
   have hlt1 : i < es.length:=by omega
   have hlt2 : (i : Int) < es.length:=by omega
   obtain ⟨z,hz,hzs,hzl,hzb⟩:=Cx hT hx
   have hrz:=hzs.rules
   have hz1:=CF hzs
   simp only [Cw] at hrz
   have wi : wr .i64 ((i : Int) + 1) = ((i + 1 : Nat) : Int):=Aa (by omega) (by omega)
   rw [(Al hx).2,Gz] at hI
   have eN : EZ t i nd = (decide (1 <= nd.1 /\ nd.1 <= t.hood.length /\ (nd.2.length : Int) = t.states) && nd.2.all (Qe t i nd.1)):=rfl
   by_cases m1 : nd.1 < 1
   ·have : nodesOk t 0 t.nodes = false:=by rw [hI,eN,AdB (by omega)]; rfl
    simp (maxSteps:=2000000) (disch:=omega) [Ab,hrn,hlt2,hz,hz1,m1,this]
   by_cases m2 : (t.hood.length : Int) < nd.1
   ·have : nodesOk t 0 t.nodes = false:=by rw [hI,eN,AdB (by omega)]; rfl
    simp (maxSteps:=2000000) (disch:=omega) [Ab,hrn,hrh,hlt2,hz,hz1,hB,m1,m2,this]
   by_cases m3 : (nd.2.length : Int) = t.states
   rotate_left
   ·have : nodesOk t 0 t.nodes = false:=by rw [hI,eN,AdB (by omega)]; rfl
    simp (maxSteps:=2000000) (disch:=omega) [Ab,hrn,hrh,hlt2,hz,hz1,hrz,hB,m1,m2,m3,this]
   rw [eN,AdA (by omega : 1 <= nd.1 /\ nd.1 <= t.hood.length /\ (nd.2.length : Int) = t.states),Aev] at hI
   simp (maxSteps:=2000000) (disch:=omega) [Ab,hrn,hrh,hlt2,hz,hz1,hrz,hB,m1,m2,m3]
   rw [<- m3]
   refine (?key2 : ∀ (j : Nat) (B : List (Nat × List V)),j <= nd.2.length -> getB B 1 = some [.m (.i .i64 t.states),.m h,.m n] -> getB B 5 = some [.m (.i .i64 nd.1),.m z] -> nodesOk t 0 t.nodes = ((nd.2.drop j).all (Qe t i nd.1) && nodesOk t (i + 1) (t.nodes.drop (i + 1))) -> Run G c104_B0 (S104_0 (.fa 1 0) (.m (.i .i64 (i : Int))) (.fa 5 0) (.m n) (.m (.i .i64 es.length)) (.m (.i .i64 (i : Int))) (.m z) (.m (.i .i64 nd.2.length)) (.m (.i .i64 (j : Int))) B []) _) 0 _ (Adz _) (by simpa using hB) (by simp) hI
   clear hI
   refine Bi (fun j : Nat=>nd.2.length - j) fun j ihj B hj hB h5 hI=>?_
   unfold c104_B0
   cases hy : nd.2[j]? with
   | none =>
    have : j = nd.2.length:=by have:=Adv.1 hy; omega
    subst this
    rw [Aeg] at hI
    have k:=ih (i + 1) (by omega) B (by omega) hB hI
    simp (maxSteps:=2000000) (disch:=omega) [wi,-Int.natCast_add]
    exact k
   | some k =>
    have hjl:=(Al hy).1
    have hjl2 : (j : Int) < nd.2.length:=by omega
    have hk : nth (Es nd.2) j = some [.i .i64 k]:=CP hy
    have wj : wr .i64 ((j : Int) + 1) = ((j + 1 : Nat) : Int):=Aa (by omega) (by omega)
    have hkb:=hzb k (Ady hy)
    rw [(Al hy).2,List.all_cons] at hI
    have eE : Qe t i nd.1 k = decide (¬ k < 0 /\ ¬ (nd.1 = 1 /\ t.states <= k) /\ ¬ (1 < nd.1 /\ ((i : Int) <= k \/ ¬ levAt t.nodes k = nd.1 - 1))):=rfl
    have go:=fun (h : Qe t i nd.1 k = true)=>ihj (j + 1) (by omega) B (by omega) hB h5 (by rw [hI,h,Aev])
    have no:=fun (h : Qe t i nd.1 k = false)=>(by rw [hI,h]; rfl : nodesOk t 0 t.nodes = false)
    have wl : wr .i64 (nd.1 - 1) = nd.1 - 1:=Aa (by omega) (by omega)
    by_cases k0 : k < 0
    ·have:=no (by rw [eE]; exact AdB fun h=>h.1 k0)
     simp (maxSteps:=2000000) (disch:=omega) [hrz,hjl2,hk,k0,this]
    by_cases l1 : nd.1 = 1
    ·have l2 : ¬ 1 < nd.1:=by omega
     by_cases ks : t.states <= k
     ·have:=no (by rw [eE]; exact AdB fun h=>h.2.1 ⟨l1,ks⟩)
      simp (maxSteps:=2000000) (disch:=omega) [hrz,hjl2,hk,hB,h5,k0,l1,ks,this]
     ·have kk:=go (by rw [eE]; exact AdA ⟨k0,fun h=>ks h.2,fun h=>l2 h.1⟩)
      rw [l1] at h5
      simp (maxSteps:=2000000) (disch:=omega) [hrz,hjl2,hk,hB,h5,k0,ks,wj,-Int.natCast_add]
      exact kk
    ·have l2 : 1 < nd.1:=by omega
     by_cases ki : (i : Int) <= k
     ·have:=no (by rw [eE]; exact AdB fun h=>h.2.2 ⟨l2,.inl ki⟩)
      simp (maxSteps:=2000000) (disch:=omega) [hrz,hjl2,hk,h5,k0,l1,l2,ki,this]
     ·obtain ⟨kn,rfl⟩:=AdM (show 0 <= k by omega)
      have hkn : kn < t.nodes.length:=by omega
      have hkn1 : kn < es.length:=by omega
      have hkn2 : (kn : Int) < es.length:=by omega
      obtain ⟨z',hz',_⟩:=Cx hT (Adt hkn)
      have hlv:=Ha (Adt hkn)
      have ki2 : ¬ i <= kn:=by omega
      by_cases hle : t.nodes[kn].1 = nd.1 - 1
      ·have kk:=go (by rw [eE]; exact AdA ⟨k0,fun h=>l1 h.1,fun h=>h.2.elim ki fun h2=>h2 (hlv.trans hle)⟩)
       simp (maxSteps:=2000000) (disch:=omega) [hrz,hrn,hjl2,hk,hB,h5,k0,l1,l2,ki,hz',wl,hle,wj,-Int.natCast_add]
       exact kk
      ·have:=no (by rw [eE]; exact AdB fun h=>h.2.2 ⟨l2,.inr fun h2=>hle (hlv.symm.trans h2)⟩)
       simp (maxSteps:=2000000) (disch:=omega) [hrz,hrn,hjl2,hk,hB,h5,k0,l1,l2,ki,hz',wl,hle,this]
theorem JT {nodes : List (Int × List Int)} {j : Nat} {nd : Int × List Int} (h : nodes[j]? = some nd) {s : Nat} {k : Int} (hk : nd.2[s]? = some k) : FL nodes (j : Int) (s : Int) = k:=by
 unfold FL
 rw [show ((j : Int)).toNat = j from rfl,h]
 dsimp only
 rw [show ((s : Int)).toNat = s from rfl,hk]
 rfl
set_option maxHeartbeats 2000000 in
theorem Yt {t : TreeC} {h n w : I} {es : List (List I)} (hT : TreeV t h n es) (hR : TreeR t) {ins : List Int} (hw : IsSl w (Es ins)) (hl : ins.length <= t.hood.length) (hs : ∀ s,s ∈ ins -> 0 <= s /\ s < t.states) (H : Hp) : Gives G 105 [.m (.ag [.i .i64 t.states,h,n]),.m w] H (.m (.i .i64 (JM t ins))) H:=by
 have hrn:=hT.nd.rules
 have hln:=Dz hT
 have hl2:=hT.nl
 have hrw:=hw.rules
 simp only [Cw] at hrw
 have hh:=BS hR.hood
 have n1:=hR.n1
 have n2:=hR.n2
 have w1 : wr .i64 ((es.length : Int) - 1) = (t.nodes.length : Int) - 1:=by rw [Aa (by omega) (by omega)]; omega
 refine Ae rfl rfl rfl rfl rfl ?_
 simp (maxSteps:=2000000) (disch:=omega) [hrn,hrw,w1]
 refine (?key : ∀ (i : Nat) (k : Int) (B : List (Nat × List V)),i <= ins.length -> getB B 2 = some [.m (.i .i64 t.states),.m h,.m n] -> k = JM t (ins.take i) -> Run G c105_B0 (S105_0 (.fa 2 0) (.m (.i .i64 k)) (.m w) (.m (.i .i64 ins.length)) (.m (.i .i64 (i : Int))) B []) _) 0 _ _ (Adz _) rfl rfl
 refine Bi (fun i : Nat=>ins.length - i) fun i ih k B hi hB hk=>?_
 unfold c105_B0
 cases hx : ins[i]? with
 | none =>
  have : i = ins.length:=by have:=Adv.1 hx; omega
  subst this
  rw [AdQ] at hk
  simp (maxSteps:=2000000) (disch:=omega) [hk]
 | some s =>
  have hlt:=(Al hx).1
  have hlt2 : (i : Int) < ins.length:=by omega
  have hsv:=hs s (Ady hx)
  have hsx : nth (Es ins) i = some [.i .i64 s]:=CP hx
  have htl : (ins.take i).length = i:=by rw [AdE]; omega
  obtain ⟨j,nd,hkj,hnd,hlev,hlen⟩:=Lh hR i (ins.take i) htl (by omega) fun x hx=>hs x (AeF hx)
  rw [<- hk] at hkj
  obtain ⟨z,hz,hzs,hzl,_⟩:=Cx hT hnd
  have hrz:=hzs.rules
  simp only [Cw] at hrz
  have hjl:=(Al hnd).1
  have hjl1 : j < es.length:=by omega
  have hjl2 : (j : Int) < es.length:=by omega
  obtain ⟨sn,rfl⟩:=AdM hsv.1
  have hsn : sn < nd.2.length:=by omega
  have hsn2 : (sn : Int) < nd.2.length:=by omega
  obtain ⟨k2,hk2⟩ : ∃ k2,nd.2[sn]? = some k2:=⟨_,Adt hsn⟩
  have hk3 : nth (Es nd.2) sn = some [.i .i64 k2]:=CP hk2
  have wi : wr .i64 ((i : Int) + 1) = ((i + 1 : Nat) : Int):=Aa (by omega) (by omega)
  have e1 : JM t (ins.take (i + 1)) = k2:=by
   rw [Ao hx,Eu,<- hk,hkj]
   exact JT hnd hk2
  have kk:=ih (i + 1) (by omega) k2 B (by omega) hB e1.symm
  rw [hkj]
  simp (maxSteps:=2000000) (disch:=omega) [hrw,hrn,hlt2,hsx,hB,hz,hrz,hk3,wi,-Int.natCast_add]
  exact kk
theorem JQ {t : TreeC} {h n : I} {es : List (List I)} (hT : TreeV t h n es) (H : Hp) : Gives G 61 [.m (.ag [.i .i64 t.states,h,n])] H (.m (.b (AJ t))) H:=by
 have g1:=fun H=>Aca hT H
 have hrh:=hT.hd.rules
 simp only [Be] at hrh
 refine Ae rfl rfl rfl rfl rfl ?_
 have eQ : AJ t = (Bu t && decide (JM t (List.replicate t.hood.length 0) = 0)):=rfl
 cases ht : Bu t with
 | false =>
  rw [ht] at g1 eQ
  have eQ : AJ t = false:=eQ
  simp (maxSteps:=2000000) (disch:=omega) [Ad,cl (g1 _),eQ]
 | true =>
  rw [ht] at g1 eQ
  rw [Aev] at eQ
  have hR:=GT ht
  have hh:=BS hR.hood
  have hz : ∀ s,s ∈ List.replicate t.hood.length (0 : Int) -> 0 <= s /\ s < t.states:=fun s hs=>by
   have:=(List.mem_replicate.1 hs).2
   have:=hR.s2
   omega
  have hrow : (List.replicate t.hood.length ([V.m (.i .i64 0)] : List V)) = Bo (List.replicate t.hood.length 0):=by unfold Bo; rw [List.map_replicate]
  have gv0:=Yt hT hR (Ba (Es (List.replicate t.hood.length 0))) (by simp) hz []
  have gv:=AT (H:=[Row.cs 3 1 (Bo (List.replicate t.hood.length 0)) 0 false]) (vs:=[.m (.ag [.i .i64 t.states,h,n]),.sl 0 t.hood.length 1 0 t.hood.length true]) (is:=[.ag [.i .i64 t.states,h,n],.sl (Es (List.replicate t.hood.length 0))]) rfl rfl gv0 (by
   have:=Va (r:=0) (ver:=t.hood.length) (st:=0) (len:=t.hood.length) (lim:=true) (base:=0) (fz:=false) (l:=List.replicate t.hood.length 0) (H:=[Row.cs 3 1 (Bo (List.replicate t.hood.length 0)) 0 false]) rfl (Adz _) 18
   rw [AeC,AdI (by simp)] at this
   show Option.bind (some _) (fun _=>Option.bind (Option.bind (view 20 _ _) _) _) = _
   rw [this]
   rfl) (.inr ⟨by simp [DH,GH],rfl⟩)
  rw [eQ]
  have hb : (t.hood.length : Int) <= 17592186044416:=by omega
  simp (maxSteps:=2000000) (disch:=omega) [Ac,Ab,Ad,cl (g1 _),hrh,hrow,cl gv]
def LL (p : List Ce) : Int:=p.foldl (fun m c=>max m c.s) 0
theorem Lj (p : List Ce) (c : Ce) : LL (p ++ [c]) = max (LL p) c.s:=by simp [LL]
theorem HX {k : Int} (hk : 0 < k) : ∀ n (p : List Ce),p.length = n -> (LL p < k ↔ ∀ c,c ∈ p -> c.s < k)
 | 0,p,h=>by
  rw [AdN h]
  simp [LL,hk]
 | n + 1,p,h=>by
  obtain ⟨q,c,rfl⟩ : ∃ q c,p = q ++ [c]:=⟨p.dropLast,p.getLast (by intro e; rw [e] at h; simp at h),(List.dropLast_concat_getLast _).symm⟩
  have ih:=HX hk n q (by simpa using h)
  rw [Lj]
  constructor
  ·intro h1 d hd
   rcases AdX.1 hd with hd | hd
   ·exact ih.1 (by omega) d hd
   ·rw [AdO.1 hd]; omega
  ·intro h1
   have:=ih.2 fun d hd=>h1 d (by simp [hd])
   have:=h1 c (by simp)
   omega
theorem Acb {v : I} {p : List Ce} (hv : IsSl v (Af p)) (hl : (p.length : Int) <= 9223372036854775806) (H : Hp) : Gives G 63 [.m v] H (.m (.i .i64 (LL p))) H:=by
 have hr:=hv.rules
 simp only [show (Af p).length = p.length from by simp [Af]] at hr
 refine Ae rfl rfl rfl rfl rfl ?_
 simp (maxSteps:=2000000) (disch:=omega) [hr]
 refine (?key : ∀ (i : Nat) (m : Int) (B : List (Nat × List V)),i <= p.length -> m = LL (p.take i) -> Run G c63_B0 (S63_0 (.m v) (.m (.i .i64 m)) (.m (.i .i64 p.length)) (.m (.i .i64 (i : Int))) B []) _) 0 0 _ (Adz _) rfl
 refine Bi (fun i : Nat=>p.length - i) fun i ih m B hi hm=>?_
 unfold c63_B0
 cases hx : p[i]? with
 | none =>
  have : i = p.length:=by have:=Adv.1 hx; omega
  subst this
  rw [AdQ] at hm
  simp (maxSteps:=2000000) (disch:=omega) [hm]
 | some c =>
  have hlt:=(Al hx).1
  have hlt' : (i : Int) < p.length:=by omega
  have hn:=An hx
  have wi : wr .i64 ((i : Int) + 1) = ((i + 1 : Nat) : Int):=Aa (by omega) (by omega)
  have k:=ih (i + 1) (by omega) (max m c.s) B (by omega) (by rw [Ao hx,Lj,<- hm])
  simp (maxSteps:=2000000) (disch:=omega) [hr,hlt',hn,wi,-Int.natCast_add]
  exact k
def BY (t : TreeC) (p : List Ce) : Int:=if AJ t = true then if AL p = true then if LL p < t.states then 0 else 10 else 2 else 11
theorem Tu {t : TreeC} {h n v : I} {es : List (List I)} {p : List Ce} (hT : TreeV t h n es) (hv : IsSl v (Af p)) (hl : (p.length : Int) <= 9223372036854775806) (H : Hp) : Gives G 81 [.m (.ag [.i .i64 t.states,h,n]),.m v] H (.m (.i .i64 (BY t p))) H:=by
 have g1:=fun H=>JQ hT H
 have g2:=fun H=>CI hv (by omega) H
 have g3:=fun H=>Acb hv hl H
 refine Ae rfl rfl rfl rfl rfl ?_
 unfold BY
 cases hq : AJ t with
 | false =>
  rw [hq] at g1
  simp (maxSteps:=2000000) (disch:=omega) [cl (g1 _)]
 | true =>
  rw [hq] at g1
  cases hr : AL p with
  | false =>
   rw [hr] at g2
   simp (maxSteps:=2000000) (disch:=omega) [cl (g1 _),cl (g2 _)]
  | true =>
   rw [hr] at g2
   by_cases ht : LL p < t.states
   ·have ht2 : ¬ t.states <= LL p:=by omega
    simp (maxSteps:=2000000) (disch:=omega) [cl (g1 _),cl (g2 _),cl (g3 _),ht,ht2]
   ·have ht2 : t.states <= LL p:=by omega
    simp (maxSteps:=2000000) (disch:=omega) [cl (g1 _),cl (g2 _),cl (g3 _),ht,ht2]
theorem Bd {t : TreeC} {p : List Ce} (h : BY t p = 0) : AJ t = true /\ AL p = true /\ GK t p:=by
 unfold BY at h
 split at h
 ·rename_i hq
  split at h
  ·rename_i hr
   split at h
   ·rename_i ht
    have:=(HX (by have:=(Dn hq).s2; omega) _ p rfl).1 ht
    refine ⟨hq,hr,fun c hc=>⟨?_,this c hc⟩⟩
    have:=(CE hr).2.1 c hc
    unfold Cr at this
    simp only [Adr,AdF] at this
    omega
   ·cases h
  ·cases h
 ·cases h
theorem YR (x y : Int) (H : Hp) : Gives G 119 [.m (.ag [.i .i64 x,.i .i64 y])] H (.m (.b (AF x y))) H:=by
 refine Ae rfl rfl rfl rfl rfl ?_
 have e : AF x y = (decide (max x y <= 1048576) && decide (-1048576 <= min x y)):=by
  unfold AF
  rw [Aec]
  simp only [Adr,AdF]
  omega
 rw [e]
 by_cases h1 : max x y <= 1048576
 ·simp (maxSteps:=2000000) (disch:=omega) [h1]
 ·simp (maxSteps:=2000000) (disch:=omega) [h1]
def fzm (m : List ((Int × Int) × Int)) : I:=.mp (m.map fun e=>[ekP e.1,.i .i64 e.2])
theorem Ys {H : Hp} {r : Nat} {m : List ((Int × Int) × Int)} (h : nth H r = some (mPI m)) (k : Nat) : view (k + 2) H (.mp r) = some (fzm m):=by
 show Option.bind (nth H r) _ = _
 rw [h]
 show Option.bind (Ah (fun (p : I × V)=>(view (k + 1) H p.2).bind fun x=>some [p.1,x]) (m.map fun p=>(ekP p.1,evI p.2))) _ = _
 have e : Ah (fun (p : I × V)=>(view (k + 1) H p.2).bind fun x=>some [p.1,x]) (m.map fun p=>(ekP p.1,evI p.2)) = some (m.map fun e=>[ekP e.1,.i .i64 e.2]):=by
  clear h
  induction m with
  | nil=>rfl
  | cons a r ih =>
   show Option.bind (some [ekP a.1,I.i .i64 a.2]) _ = _
   simp only [Adx,Aee]
   show Option.bind (Ah _ (r.map fun p=>(ekP p.1,evI p.2))) _ = _
   rw [ih]
   rfl
 rw [e]
 rfl
theorem Oq : ∀ m : List ((Int × Int) × Int),pairs (m.map fun e=>[ekP e.1,I.i .i64 e.2]) = some (m.map fun p=>(ekP p.1,evI p.2))
 | []=>rfl
 | a :: r=>by
  show Option.bind (pairs (r.map fun e=>[ekP e.1,I.i .i64 e.2])) _ = _
  rw [Oq r]
  rfl
theorem AcR (M : Mem) (m : List ((Int × Int) × Int)) (x y : Int) : readX M (.lkp ⟨true,[1,1]⟩ [.m (.i .i64 0)] false false) [.m (fzm m),.m (.ag [.i .i64 x,.i .i64 y])] = some (.m (.i .i64 ((Dj m (x,y)).getD 0))):=by
 have h1:=XO m x y false
 have h2 : readX M (.lkp ⟨true,[1,1]⟩ [.m (.i .i64 0)] false false) [.m (fzm m),.m (.ag [.i .i64 x,.i .i64 y])] = (pairs (m.map fun e=>[ekP e.1,I.i .i64 e.2])).bind fun es=>Fw ⟨true,[1,1]⟩ [.m (.i .i64 0)] false false (.mp es false) (.ag [.i .i64 x,.i .i64 y]):=rfl
 rw [h2,Oq]
 exact h1
theorem of_m {v : I} {p : List Ce} (hv : IsSl v (Af p)) (hr : AL p = true) (H : Hp) : Gives G 117 [.m v] H (.m (fzm (JS p))) H:=by
 obtain ⟨pw,hg,hl⟩:=CE hr
 have hrv:=hv.rules
 simp only [show (Af p).length = p.length from by simp [Af]] at hrv
 refine Ae rfl rfl rfl rfl rfl ?_
 simp (maxSteps:=2000000) (disch:=omega) [hrv]
 refine (?key : ∀ (i : Nat) (B : List (Nat × List V)),i <= p.length -> Run G c117_B0 (S117_0 (.mp 0) (.m v) (.m (.i .i64 p.length)) (.m (.i .i64 (i : Int))) B [mPI (JS (p.take i))]) _) 0 _ (Adz _)
 refine Bi (fun i : Nat=>p.length - i) fun i ih B hi=>?_
 unfold c117_B0
 cases hx : p[i]? with
 | none =>
  have : i = p.length:=by have:=Adv.1 hx; omega
  subst this
  rw [AdQ]
  have hvw : viewR [mPI (JS p)] (.mp 0) = some (.m (fzm (JS p))):=by
   show (view 20 _ _).bind _ = _
   rw [Ys (H:=[mPI (JS p)]) (r:=0) (m:=JS p) rfl 18]
   rfl
  simp (maxSteps:=2000000) (disch:=omega) [hvw]
 | some c =>
  have hlt:=(Al hx).1
  have hlt' : (i : Int) < p.length:=by omega
  have hn:=An hx
  have wi : wr .i64 ((i : Int) + 1) = ((i + 1 : Nat) : Int):=Aa (by omega) (by omega)
  have pw':=pw
  rw [<- List.take_append_drop i p,(Al hx).2] at pw'
  have hm:=SY pw'
  rw [<- Ao hx] at hm
  have k:=ih (i + 1) (by omega)
  simp (maxSteps:=2000000) (disch:=omega) [Ab,hrv,hlt',hn,wi,hm,-Int.natCast_add]
  exact k _ (by omega)
set_option maxHeartbeats 2000000 in
theorem AcH {t : TreeC} {h n : I} {es : List (List I)} (hT : TreeV t h n es) (hR : TreeR t) {p : List Ce} (hp : GK t p) (x y : Int) (hx : -10000000 <= x /\ x <= 10000000) (hy : -10000000 <= y /\ y <= 10000000) (H : Hp) : Gives G 118 [.m (fzm (JS p)),.m (.ag [.i .i64 t.states,h,n]),.m (.ag [.i .i64 x,.i .i64 y])] H (.m (.i .i64 (Bl t p x y))) H:=by
 have hrn:=hT.nd.rules
 have hln:=Dz hT
 have hl2:=hT.nl
 have hrh:=hT.hd.rules
 simp only [Be] at hrh
 have hh:=BS hR.hood
 have n1:=hR.n1
 have n2:=hR.n2
 have w1 : wr .i64 ((es.length : Int) - 1) = (t.nodes.length : Int) - 1:=by rw [Aa (by omega) (by omega)]; omega
 refine Ae rfl rfl rfl rfl rfl ?_
 simp (maxSteps:=2000000) (disch:=omega) [hrn,hrh,w1]
 refine (?key : ∀ (i : Nat) (k : Int) (B : List (Nat × List V)),i <= t.hood.length -> getB B 4 = some [.m (.i .i64 t.states),.m h,.m n] -> getB B 5 = some [.m (.i .i64 x),.m (.i .i64 y)] -> k = JM t ((Lv t p x y).take i) -> Run G c118_B0 (S118_0 (.m (fzm (JS p))) (.fa 4 0) (.fa 5 0) (.m (.i .i64 k)) (.m h) (.m (.i .i64 t.hood.length)) (.m (.i .i64 (i : Int))) B []) _) 0 _ _ (Adz _) rfl rfl rfl
 refine Bi (fun i : Nat=>t.hood.length - i) fun i ih k B hi hB h5 hk=>?_
 unfold c118_B0
 cases ho : t.hood[i]? with
 | none =>
  have : i = t.hood.length:=by have:=Adv.1 ho; omega
  subst this
  rw [AdI (by rw [FN]; exact Adw _)] at hk
  have hk : k = Bl t p x y:=hk
  simp (maxSteps:=2000000) (disch:=omega) [hk]
 | some o =>
  have hlt:=(Al ho).1
  have hlt2 : (i : Int) < t.hood.length:=by omega
  have hox:=Cg ho
  have hob:=DC hR.hood o (Ady ho)
  have hs : (Lv t p x y)[i]? = some (Dc p (x + o.1) (y + o.2)):=by unfold Lv; rw [AdT,ho]; rfl
  have hsv:=JV hR hp (x + o.1) (y + o.2)
  have htl : ((Lv t p x y).take i).length = i:=by rw [AdE,FN]; omega
  obtain ⟨j,nd,hkj,hnd,hlev,hlen⟩:=Lh hR i ((Lv t p x y).take i) htl (by omega) fun z hz=>JU hR hp z (AeF hz)
  rw [<- hk] at hkj
  obtain ⟨z,hz,hzs,hzl,_⟩:=Cx hT hnd
  have hrz:=hzs.rules
  simp only [Cw] at hrz
  have hjl:=(Al hnd).1
  have hjl1 : j < es.length:=by omega
  have hjl2 : (j : Int) < es.length:=by omega
  have hmf:=PK p (x + o.1) (y + o.2)
  have hfz:=fun M=>AcR M (JS p) (x + o.1) (y + o.2)
  rw [hmf] at hfz
  obtain ⟨sn,hsn0⟩:=AdM hsv.1
  rw [hsn0] at hs hsv hfz
  have hsn : sn < nd.2.length:=by omega
  have hsn2 : (sn : Int) < nd.2.length:=by omega
  obtain ⟨k2,hk2⟩ : ∃ k2,nd.2[sn]? = some k2:=⟨_,Adt hsn⟩
  have hk3 : nth (Es nd.2) sn = some [.i .i64 k2]:=CP hk2
  have wi : wr .i64 ((i : Int) + 1) = ((i + 1 : Nat) : Int):=Aa (by omega) (by omega)
  have wx : wr .i64 (x + o.1) = x + o.1:=Aa (by omega) (by omega)
  have wy : wr .i64 (y + o.2) = y + o.2:=Aa (by omega) (by omega)
  have e1 : JM t ((Lv t p x y).take (i + 1)) = k2:=by
   rw [Ao hs,Eu,<- hk,hkj]
   exact JT hnd hk2
  have kk:=fun B'=>ih (i + 1) (by omega) k2 B' (by omega)
  rw [hkj]
  simp (maxSteps:=2000000) (disch:=omega) [Ab,hrh,hrn,hlt2,hox,hB,h5,hz,hrz,wx,wy,hfz,hk3,wi,-Int.natCast_add]
  exact kk _ (by simpa using hB) (by simpa using h5) e1.symm
set_option maxHeartbeats 2000000 in
theorem RY {t : TreeC} {h n w : I} {es : List (List I)} (hT : TreeV t h n es) (hR : TreeR t) {ins : List Int} (hw : IsSl w (Es ins)) (hl : ins.length <= t.hood.length) (hs : ∀ s,s ∈ ins -> 0 <= s /\ s < t.states) (H : Hp) : Gives G 112 [.m (.ag [.i .i64 t.states,h,n]),.m w] H (.m (.i .i64 (JM t ins))) H:=by
 have hrn:=hT.nd.rules
 have hln:=Dz hT
 have hl2:=hT.nl
 have hrw:=hw.rules
 simp only [Cw] at hrw
 have hh:=BS hR.hood
 have n1:=hR.n1
 have n2:=hR.n2
 have w1 : wr .i64 ((es.length : Int) - 1) = (t.nodes.length : Int) - 1:=by rw [Aa (by omega) (by omega)]; omega
 refine Ae rfl rfl rfl rfl rfl ?_
 simp (maxSteps:=2000000) (disch:=omega) [hrn,w1]
 refine (?key : ∀ (i : Nat) (k : Int) (B : List (Nat × List V)),i <= ins.length -> getB B 2 = some [.m (.i .i64 t.states),.m h,.m n] -> k = JM t (ins.take i) -> Run G c112_B0 (S112_0 (.m w) (.fa 2 0) (.m (.i .i64 k)) (.m (.i .i64 (i : Int))) B []) _) 0 _ _ (Adz _) rfl rfl
 refine Bi (fun i : Nat=>ins.length - i) fun i ih k B hi hB hk=>?_
 unfold c112_B0
 cases hx : ins[i]? with
 | none =>
  have : i = ins.length:=by have:=Adv.1 hx; omega
  subst this
  rw [AdQ] at hk
  simp (maxSteps:=2000000) (disch:=omega) [hrw,hk]
 | some s =>
  have hlt:=(Al hx).1
  have hlt2 : (i : Int) < ins.length:=by omega
  have hsv:=hs s (Ady hx)
  have hsx : nth (Es ins) i = some [.i .i64 s]:=CP hx
  have htl : (ins.take i).length = i:=by rw [AdE]; omega
  obtain ⟨j,nd,hkj,hnd,hlev,hlen⟩:=Lh hR i (ins.take i) htl (by omega) fun x hx=>hs x (AeF hx)
  rw [<- hk] at hkj
  obtain ⟨z,hz,hzs,hzl,_⟩:=Cx hT hnd
  have hrz:=hzs.rules
  simp only [Cw] at hrz
  have hjl:=(Al hnd).1
  have hjl1 : j < es.length:=by omega
  have hjl2 : (j : Int) < es.length:=by omega
  obtain ⟨sn,rfl⟩:=AdM hsv.1
  have hsn : sn < nd.2.length:=by omega
  have hsn2 : (sn : Int) < nd.2.length:=by omega
  obtain ⟨k2,hk2⟩ : ∃ k2,nd.2[sn]? = some k2:=⟨_,Adt hsn⟩
  have hk3 : nth (Es nd.2) sn = some [.i .i64 k2]:=CP hk2
  have wi : wr .i64 ((i : Int) + 1) = ((i + 1 : Nat) : Int):=Aa (by omega) (by omega)
  have e1 : JM t (ins.take (i + 1)) = k2:=by
   rw [Ao hx,Eu,<- hk,hkj]
   exact JT hnd hk2
  have kk:=ih (i + 1) (by omega) k2 B (by omega) hB e1.symm
  rw [hkj]
  simp (maxSteps:=2000000) (disch:=omega) [hrw,hrn,hlt2,hsx,hB,hz,hrz,hk3,wi,-Int.natCast_add]
  exact kk
theorem AcW {t : TreeC} {h n w : I} {es : List (List I)} (hT : TreeV t h n es) (hO : Bu t = true) {ins : List Int} (hw : IsSl w (Es ins)) (hl : ins.length = t.hood.length) (hs : ∀ s,s ∈ ins -> 0 <= s /\ s < t.states) (H : Hp) : Gives G 71 [.m (.ag [.i .i64 t.states,h,n]),.m w] H (.tu [.m (.i .i64 (JM t ins)),.m (.i .i64 0)]) H:=by
 have hR:=GT hO
 have g1:=fun H=>Wo hT H
 rw [hO] at g1
 have g2:=fun H=>RY hT hR hw (by omega) hs H
 have hh:=BS hR.hood
 have hrw:=hw.rules
 simp only [Cw] at hrw
 have hrh:=hT.hd.rules
 simp only [Be] at hrh
 have hl2 : (ins.length : Int) = t.hood.length:=by omega
 refine Ae rfl rfl rfl rfl rfl ?_
 simp (maxSteps:=2000000) (disch:=omega) [cl (g1 _),hrw,hrh,hl]
 refine (?key : ∀ (i : Nat) (B : List (Nat × List V)),i <= ins.length -> getB B 2 = some [.m (.i .i64 t.states),.m h,.m n] -> Run G c71_B0 (S71_0 (.m w) (.fa 2 0) (.m (.i .i64 (i : Int))) B []) _) 0 _ (Adz _) rfl
 refine Bi (fun i : Nat=>ins.length - i) fun i ih B hi hB=>?_
 unfold c71_B0
 cases hx : ins[i]? with
 | none =>
  have : i = ins.length:=by have:=Adv.1 hx; omega
  subst this
  simp (maxSteps:=2000000) (disch:=omega) [hrw,hB,cl (g2 _)]
 | some s =>
  have hlt:=(Al hx).1
  have hlt2 : (i : Int) < ins.length:=by omega
  have hsv:=hs s (Ady hx)
  have h1 : ¬ s < 0:=by omega
  have h2 : ¬ t.states <= s:=by omega
  have hsx : nth (Es ins) i = some [.i .i64 s]:=CP hx
  have wi : wr .i64 ((i : Int) + 1) = ((i + 1 : Nat) : Int):=Aa (by omega) (by omega)
  have kk:=ih (i + 1) (by omega) B (by omega) hB
  simp (maxSteps:=2000000) (disch:=omega) [hrw,hlt2,hsx,hB,h1,h2,wi,-Int.natCast_add]
  exact kk
theorem JR {t : TreeC} {h n : I} {es : List (List I)} (hT : TreeV t h n es) (H : Hp) : Gives G 36 [.m (.ag [.i .i64 t.states,h,n])] H (.m (.b (AJ t))) H:=by
 have g1:=fun H=>Wo hT H
 have hrh:=hT.hd.rules
 simp only [Be] at hrh
 refine Ae rfl rfl rfl rfl rfl ?_
 have eQ : AJ t = (Bu t && decide (JM t (List.replicate t.hood.length 0) = 0)):=rfl
 cases ht : Bu t with
 | false =>
  rw [ht] at g1 eQ
  have eQ : AJ t = false:=eQ
  simp (maxSteps:=2000000) (disch:=omega) [cl (g1 _),eQ]
 | true =>
  rw [ht] at g1 eQ
  rw [Aev] at eQ
  have hR:=GT ht
  have hh:=BS hR.hood
  have hz : ∀ s,s ∈ List.replicate t.hood.length (0 : Int) -> 0 <= s /\ s < t.states:=fun s hs=>by
   have:=(List.mem_replicate.1 hs).2
   have:=hR.s2
   omega
  have hrow : (List.replicate t.hood.length ([V.m (.i .i64 0)] : List V)) = Bo (List.replicate t.hood.length 0):=by unfold Bo; rw [List.map_replicate]
  have gv0:=AcW hT ht (Ba (Es (List.replicate t.hood.length 0))) (by simp) hz []
  have gv:=AT (H:=[Row.cs 3 1 (Bo (List.replicate t.hood.length 0)) 0 false]) (vs:=[.m (.ag [.i .i64 t.states,h,n]),.sl 0 t.hood.length 1 0 t.hood.length true]) (is:=[.ag [.i .i64 t.states,h,n],.sl (Es (List.replicate t.hood.length 0))]) rfl rfl gv0 (by
   have:=Va (r:=0) (ver:=t.hood.length) (st:=0) (len:=t.hood.length) (lim:=true) (base:=0) (fz:=false) (l:=List.replicate t.hood.length 0) (H:=[Row.cs 3 1 (Bo (List.replicate t.hood.length 0)) 0 false]) rfl (Adz _) 18
   rw [AeC,AdI (by simp)] at this
   show Option.bind (some _) (fun _=>Option.bind (Option.bind (view 20 _ _) _) _) = _
   rw [this]
   rfl) (.inr ⟨by simp [DH,GH],rfl⟩)
  rw [eQ]
  have hb : (t.hood.length : Int) <= 17592186044416:=by omega
  simp (maxSteps:=2000000) (disch:=omega) [Ac,Ab,cl (g1 _),hrh,hrow,cl gv]
theorem Jh {t : TreeC} {h n v : I} {es : List (List I)} {p : List Ce} (hT : TreeV t h n es) (hv : IsSl v (Af p)) (hl : (p.length : Int) <= 9223372036854775806) (H : Hp) : Gives G 37 [.m (.ag [.i .i64 t.states,h,n]),.m v] H (.m (.i .i64 (BY t p))) H:=by
 have g1:=fun H=>JR hT H
 have g2:=fun H=>Fj hv (by omega) H
 have hrv:=hv.rules
 simp only [show (Af p).length = p.length from by simp [Af]] at hrv
 refine Ae rfl rfl rfl rfl rfl ?_
 have eC : BY t p = if AJ t = true then if AL p = true then if LL p < t.states then 0 else 10 else 2 else 11:=rfl
 cases hq : AJ t with
 | false =>
  rw [hq] at g1 eC
  have eC : BY t p = 11:=eC
  simp (maxSteps:=2000000) (disch:=omega) [cl (g1 _),eC]
 | true =>
  rw [hq] at g1 eC
  cases hr : AL p with
  | false =>
   rw [hr] at g2 eC
   have eC : BY t p = 2:=eC
   simp (maxSteps:=2000000) (disch:=omega) [cl (g1 _),cl (g2 _),eC]
  | true =>
   rw [hr] at g2 eC
   have eC : BY t p = if LL p < t.states then 0 else 10:=eC
   have hs2:=(Dn hq).s2
   have htop:=HX (k:=t.states) (by omega) _ p rfl
   simp (maxSteps:=2000000) (disch:=omega) [cl (g1 _),cl (g2 _)]
   refine (?key : ∀ (i : Nat) (B : List (Nat × List V)),i <= p.length -> getB B 2 = some [.m (.i .i64 t.states),.m h,.m n] -> (∀ (j : Nat) c,j < i -> p[j]? = some c -> c.s < t.states) -> Run G c37_B0 (S37_0 (.m v) (.fa 2 0) (.m (.i .i64 (i : Int))) B []) _) 0 _ (Adz _) rfl (fun j c h=>by omega)
   refine Bi (fun i : Nat=>p.length - i) fun i ih B hi hB hall=>?_
   unfold c37_B0
   cases hx : p[i]? with
   | none =>
    have : i = p.length:=by have:=Adv.1 hx; omega
    subst this
    have e0 : BY t p = 0:=by
     rw [eC,Adu (htop.2 fun c hc=>by
      obtain ⟨j,hj⟩:=Aet.1 hc
      exact hall j c (Al hj).1 hj)]
    simp (maxSteps:=2000000) (disch:=omega) [hrv,e0]
   | some c =>
    have hlt:=(Al hx).1
    have hlt' : (i : Int) < p.length:=by omega
    have hn:=An hx
    have wi : wr .i64 ((i : Int) + 1) = ((i + 1 : Nat) : Int):=Aa (by omega) (by omega)
    by_cases hc : t.states <= c.s
    ·have e1 : BY t p = 10:=by rw [eC,Ads (fun h=>by have:=htop.1 h c (Ady hx); omega)]
     simp (maxSteps:=2000000) (disch:=omega) [hrv,hlt',hn,hB,hc,e1]
    ·have kk:=ih (i + 1) (by omega) B (by omega) hB (fun j d hj hd=>by
      by_cases e : j < i
      ·exact hall j d e hd
      ·have : j = i:=by omega
       subst this
       rw [hx] at hd
       cases hd
       omega)
     simp (maxSteps:=2000000) (disch:=omega) [hrv,hlt',hn,hB,hc,wi,-Int.natCast_add]
     exact kk
theorem FO {y : I} {es : List (List I)} (h : IsSl y es) : Au (.m y) = some [.m y]:=by
 rcases h with rfl | ⟨rfl,_⟩ <;> rfl
theorem Adg {p : List Ce} (hr : AL p = true) : ∃ (bx by_ : Int) (w h : Nat),LG p = [bx,by_,(w : Int),(h : Int)] /\ (w <= 2097153 /\ h <= 2097153) /\ (-1048576 <= bx /\ bx <= 1048576) /\ (-1048576 <= by_ /\ by_ <= 1048576) /\ (∀ c,c ∈ p -> (bx <= c.x /\ c.x < bx + w) /\ (by_ <= c.y /\ c.y < by_ + h)) /\ ((1 <= w /\ 1 <= h) \/ (w = 0 /\ h = 0)):=by
 cases p with
 | nil=>exact ⟨0,0,0,0,rfl,by omega,by omega,by omega,fun c hc=>(by cases hc),.inr ⟨rfl,rfl⟩⟩
 | cons a r =>
  obtain ⟨_,hg,_⟩:=CE hr
  have hb : ∀ c,c ∈ a :: r -> (-1048576 <= c.x /\ c.x <= 1048576) /\ (-1048576 <= c.y /\ c.y <= 1048576):=fun c hc=>by
   have:=hg c hc
   unfold Cr AF at this
   simp only [Adr,AdF] at this
   omega
  obtain ⟨l,hl⟩ : ∃ d,(a :: r)[(a :: r).length - 1]? = some d:=⟨_,Adt (by simp)⟩
  obtain ⟨y1,y2⟩:=JP hr hl
  have hla : ∀ h,(a :: r).getLast h = l:=fun h=>by
   rw [List.getLast_eq_getElem,<- Ado,<- hl,Adt]
  have mx:=fun (e : Ce) (he : e ∈ a :: r)=>(OB ((a :: r).map Ce.x) a.x).2 _ (List.mem_map_of_mem he)
  have mn:=fun (e : Ce) (he : e ∈ a :: r)=>(Ij ((a :: r).map Ce.x) a.x).2 _ (List.mem_map_of_mem he)
  have my:=fun (e : Ce) (he : e ∈ a :: r)=>(OB ((a :: r).map Ce.y) a.y).2 _ (List.mem_map_of_mem he)
  have ny:=fun (e : Ce) (he : e ∈ a :: r)=>(Ij ((a :: r).map Ce.y) a.y).2 _ (List.mem_map_of_mem he)
  rw [y2] at my
  rw [y1] at ny
  have bX : mxF a.x ((a :: r).map Ce.x) <= 1048576:=SW _ _ _ ⟨(hb a (AdL ..)).1.2,fun y hy=>by
   obtain ⟨e,he,rfl⟩:=AdU.1 hy
   exact (hb e he).1.2⟩
  have bN : -1048576 <= mnF a.x ((a :: r).map Ce.x):=Je _ _ _ ⟨(hb a (AdL ..)).1.1,fun y hy=>by
   obtain ⟨e,he,rfl⟩:=AdU.1 hy
   exact (hb e he).1.1⟩
  have hlb:=hb l (Ady hl)
  have hab:=hb a (AdL ..)
  have m5:=mn a (AdL ..)
  have m6:=mx a (AdL ..)
  have m7:=my a (AdL ..)
  have e : LG (a :: r) = [mnF a.x ((a :: r).map Ce.x),a.y,wr .i64 (wr .i64 (mxF a.x ((a :: r).map Ce.x) - mnF a.x ((a :: r).map Ce.x)) + 1),wr .i64 (wr .i64 (l.y - a.y) + 1)]:=by
   unfold LG
   dsimp only
   rw [Adu hr,hla]
  generalize mnF a.x ((a :: r).map Ce.x) = n at *
  generalize mxF a.x ((a :: r).map Ce.x) = m at *
  rw [Aa (x:=m - n) (by omega) (by omega),Aa (x:=m - n + 1) (by omega) (by omega),Aa (x:=l.y - a.y) (by omega) (by omega),Aa (x:=l.y - a.y + 1) (by omega) (by omega)] at e
  obtain ⟨w,hw⟩:=AdM (show 0 <= m - n + 1 by omega)
  obtain ⟨k,hk⟩:=AdM (show 0 <= l.y - a.y + 1 by omega)
  rw [hw,hk] at e
  refine ⟨n,a.y,w,k,e,by omega,by omega,by omega,fun c hc=>?_,.inl ⟨by omega,by omega⟩⟩
  have h1:=mx c hc
  have h2:=mn c hc
  have h3:=my c hc
  have h4:=ny c hc
  omega
theorem Ti {q : List Ce} {c : Ce} (h : ∀ d,d ∈ q -> ¬ (d.x = c.x /\ d.y = c.y)) (x y : Int) : Dc (q ++ [c]) x y = if c.x = x /\ c.y = y then c.s else Dc q x y:=by
 induction q with
 | nil=>rfl
 | cons d r ih =>
  have ih:=ih fun e he=>h e (Aek _ he)
  have hd:=h d (AdL ..)
  have e1 : Dc (d :: r ++ [c]) x y = if d.x = x /\ d.y = y then d.s else Dc (r ++ [c]) x y:=rfl
  have e2 : Dc (d :: r) x y = if d.x = x /\ d.y = y then d.s else Dc r x y:=rfl
  rw [e1,e2,ih]
  by_cases h1 : d.x = x /\ d.y = y
  ·rw [Adu h1,Adu h1,Ads]
   intro h2
   exact hd ⟨by omega,by omega⟩
  ·rw [Ads h1,Ads h1]
theorem JW {p : List Ce} {x y : Int} (h : ∀ c,c ∈ p -> ¬ (c.x = x /\ c.y = y)) : Dc p x y = 0:=Aer fun hn=>by
 obtain ⟨c,hc,h1,h2,_⟩:=OO hn
 exact h c hc ⟨h1,h2⟩
def CR (p : List Ce) (bx by_ : Int) (w n : Nat) : List Int:=(List.range n).map fun k=>Dc p (bx + ((k % w : Nat) : Int)) (by_ + ((k / w : Nat) : Int))
theorem DD (p : List Ce) (bx by_ : Int) (w n : Nat) : (CR p bx by_ w n).length = n:=by simp [CR]
theorem WE {a b w : Nat} (h : a < w) : (b * w + a) / w = b /\ (b * w + a) % w = a:=by
 constructor
 ·rw [AeH,Nat.mul_add_div (by omega),Nat.div_eq_of_lt h]; rfl
 ·rw [AeH,Nat.mul_add_mod,Nat.mod_eq_of_lt h]
theorem VE (p : List Ce) (bx by_ : Int) {w n a b : Nat} (ha : a < w) (hn : b * w + a < n) : (CR p bx by_ w n)[b * w + a]? = some (Dc p (bx + a) (by_ + b)):=by
 unfold CR
 rw [AdT,List.getElem?_range hn]
 obtain ⟨h1,h2⟩:=WE (b:=b) ha
 show some (Dc p (bx + (((b * w + a) % w : Nat) : Int)) (by_ + (((b * w + a) / w : Nat) : Int))) = _
 rw [h1,h2]
theorem VC {q : List Ce} {c : Ce} (bx by_ : Int) {w n a b : Nat} (ha : a < w) (hn : b * w + a < n) (hx : c.x = bx + a) (hy : c.y = by_ + b) (h : ∀ d,d ∈ q -> ¬ (d.x = c.x /\ d.y = c.y)) : CR (q ++ [c]) bx by_ w n = (CR q bx by_ w n).set (b * w + a) c.s:=by
 refine List.ext_getElem? fun k=>?_
 rw [List.getElem?_set]
 by_cases hk : k < n
 ·have e : ∀ p,(CR p bx by_ w n)[k]? = some (Dc p (bx + ((k % w : Nat) : Int)) (by_ + ((k / w : Nat) : Int))):=fun p=>by
   unfold CR
   rw [AdT,List.getElem?_range hk]
   rfl
  rw [e,e,DD,Ti h]
  by_cases hk0 : b * w + a = k
  ·subst hk0
   obtain ⟨h1,h2⟩:=WE (b:=b) ha
   rw [h1,h2,Adu rfl,Adu hn,Adu ⟨hx,hy⟩]
  ·rw [Ads hk0,Ads]
   intro ⟨h1,h2⟩
   have e1 : k % w = a:=by omega
   have e2 : k / w = b:=by omega
   have:=Nat.div_add_mod k w
   rw [e1,e2,AeH] at this
   exact hk0 this
 ·have e : ∀ p,(CR p bx by_ w n)[k]? = none:=fun p=>Adv.2 (by rw [DD]; omega)
  rw [e,e,Ads (by omega)]
theorem VD (bx by_ : Int) (w n : Nat) : CR [] bx by_ w n = List.replicate n 0:=by
 unfold CR
 rw [show (fun k : Nat=>Dc [] (bx + ((k % w : Nat) : Int)) (by_ + ((k / w : Nat) : Int))) = fun _=>0 from rfl,List.map_const',List.length_range]
theorem w1_x {l : List Int} {j : Nat} (h : j < l.length) (x : Int) : DS 1 (Bo l) j 0 [.m (.i .i64 x)] = some (Bo (l.set j x)):=by
 have hx : l[j]? = some l[j]:=Adt h
 have hn : nth (Bo l) j = some [.m (.i .i64 l[j])]:=by rw [AS]; simp [Bo,h]
 show (nth (Bo l) j).bind _ = _
 rw [hn]
 show Bk (Bo l) j [.m (.i .i64 x)] = _
 rw [BA _ _ _ (by rw [Fs]; exact h)]
 simp [Bo,List.map_set]
def LA (fl : Bool) (bx by_ w h : Int) (cs li : I) : I:=.ag [.b fl,.i .i64 bx,.i .i64 by_,.i .i64 w,.i .i64 h,cs,li]
structure FldV (p : List Ce) (v x : I) : Prop where
 ex : ∃ (bx by_ : Int) (w h : Nat) (fl : Bool) (cs : I),x = LA fl bx by_ w h cs v /\ (w <= 2097153 /\ h <= 2097153) /\ (-1048576 <= bx /\ bx <= 1048576) /\ (-1048576 <= by_ /\ by_ <= 1048576) /\ (∀ c,c ∈ p -> (bx <= c.x /\ c.x < bx + w) /\ (by_ <= c.y /\ c.y < by_ + h)) /\ ((1 <= w /\ 1 <= h) \/ (w = 0 /\ h = 0)) /\ (fl = true -> w * h <= 40000 /\ IsSl cs (Es (CR p bx by_ w (w * h)))) /\ Cv (.m cs) = true
set_option maxHeartbeats 4000000 in
theorem Vc {v : I} {p : List Ce} (hv : IsSl v (Af p)) (hr : AL p = true) (H : Hp) : ∃ x,FldV p v x /\ Gives G 98 [.m v] H (.m x) H:=by
 obtain ⟨pw,hg,hl⟩:=CE hr
 have hrv:=hv.rules
 simp only [show (Af p).length = p.length from by simp [Af]] at hrv
 have hv1:=CF hv
 have hvc:=FO hv
 obtain ⟨bx,by_,w,h,hbx,hwh,hbx1,hby1,hin,hne⟩:=Adg hr
 have g1:=fun H=>Adf hv (by omega) H
 unfold OY at g1
 rw [hbx] at g1
 simp only [Aee,List.map_nil] at g1
 obtain ⟨P,hP⟩ : ∃ P,P = w * h:=⟨_,rfl⟩
 have hPb : P <= 2097153 * 2097153:=by rw [hP]; exact Nat.mul_le_mul hwh.1 hwh.2
 have hPi : (w : Int) * (h : Int) = (P : Int):=by rw [hP]; simp
 have wP : wr .i64 ((w : Int) * (h : Int)) = (P : Int):=by rw [hPi]; exact Aa (by omega) (by omega)
 have key : ∃ x H',Gives G 98 [.m v] H x H' /\ (H' = H /\ ∃ y,FldV p v y /\ x = .m y):=by
  refine AI ?_
  refine Cl rfl rfl rfl rfl rfl ?_
  generalize hQ : (fun (x : V) (H' : Hp)=>H' = H /\ ∃ y,FldV p v y /\ x = .m y) = Q
  have qk : ∀ y,FldV p v y -> Q (.m y) H:=fun y hy=>by rw [<- hQ]; exact ⟨rfl,y,hy,rfl⟩
  clear hQ
  by_cases hf : P <= 40000
  ·have hf2 : (P : Int) <= 40000:=by omega
   have hrow : (List.replicate P ([V.m (.i .i64 0)] : List V)) = Bo (CR (p.take 0) bx by_ w P):=by rw [List.take_zero,VD]; unfold Bo; rw [List.map_replicate]
   have hb : (P : Int) <= 17592186044416:=by omega
   simp (maxSteps:=2000000) (disch:=omega) [Ac,Ab,cl (g1 _),wP,hf2,hv1,hvc,hrow]
   refine (?key : ∀ (i b0 : Nat) (B : List (Nat × List V)),i <= p.length -> b0 <= P -> getB B 2 = some [.m (.b false),.m (.i .i64 0),.m (.i .i64 0),.m (.i .i64 0),.m (.i .i64 0),.m (.nl 4),.m (.nl 4)] -> getB B 3 = some [.m (.i .i64 bx),.m (.i .i64 by_),.m (.i .i64 w),.m (.i .i64 h)] -> getB B 5 = some [.m (.b true),.m (.i .i64 bx),.m (.i .i64 by_),.m (.i .i64 w),.m (.i .i64 h),.sl 0 P 1 0 P true,.m v] -> Run G c98_B0 (S98_0 (.m v) (.fa 2 0) (.fa 3 0) (.fa 5 0) (.m (.i .i64 (i : Int))) B [Row.cs 3 1 (Bo (CR (p.take i) bx by_ w P)) b0 false]) _) 0 0 _ (Adz _) (Adz _) rfl rfl rfl
   refine Bi (fun i : Nat=>p.length - i) fun i ih b0 B hi hb0 hB2 hB3 hB5=>?_
   unfold c98_B0
   cases hx : p[i]? with
   | none =>
    have : i = p.length:=by have:=Adv.1 hx; omega
    subst this
    rw [AdQ]
    have hvw : view 19 [Row.cs 3 1 (Bo (CR p bx by_ w P)) b0 false] (.sl 0 P 1 0 P true) = some (.sl (Es (CR p bx by_ w P))):=by
     have:=Va (r:=0) (ver:=P) (st:=0) (len:=P) (lim:=true) (base:=b0) (fz:=false) (l:=CR p bx by_ w P) (H:=[Row.cs 3 1 (Bo (CR p bx by_ w P)) b0 false]) rfl hb0 17
     rw [AeC,AdI (by rw [DD]; exact Adw _)] at this
     exact this
    have k:=qk (LA true bx by_ w h (.sl (Es (CR p bx by_ w P))) v) ⟨bx,by_,w,h,true,_,rfl,hwh,hbx1,hby1,hin,hne,fun _=>⟨by omega,by rw [<- hP]; exact Ba _⟩,rfl⟩
    unfold LA at k
    have hvw2 : viewR [Row.cs 3 1 (Bo (CR p bx by_ w P)) b0 false] (.ag [.m (.b true),.m (.i .i64 bx),.m (.i .i64 by_),.m (.i .i64 w),.m (.i .i64 h),.sl 0 P 1 0 P true,.m v]) = some (.m (.ag [.b true,.i .i64 bx,.i .i64 by_,.i .i64 w,.i .i64 h,.sl (Es (CR p bx by_ w P)),v])):=by
     show Option.bind (Option.bind (Ah (view 19 _) _) _) _ = _
     simp only [Ah,hvw,Adx]
     rfl
    simp (maxSteps:=2000000) (disch:=omega) [Ab,hrv,hB2,hB5,hv1,hvw2]
    exact k
   | some c =>
    have hlt:=(Al hx).1
    have hlt' : (i : Int) < p.length:=by omega
    have hn:=An hx
    have wi : wr .i64 ((i : Int) + 1) = ((i + 1 : Nat) : Int):=Aa (by omega) (by omega)
    have hci:=hin c (Ady hx)
    obtain ⟨a,ha⟩:=AdM (show 0 <= c.x - bx by omega)
    obtain ⟨b,hb⟩:=AdM (show 0 <= c.y - by_ by omega)
    have haw : a < w:=by omega
    have hbh : b < h:=by omega
    have hk : b * w + a < P:=by
     rw [hP]
     have h1 : (b + 1) * w <= h * w:=Aed _ hbh
     rw [AdY,Nat.one_mul,AeH h w] at h1
     omega
    obtain ⟨M,hM⟩ : ∃ M,M = b * w:=⟨_,rfl⟩
    have hMi : (b : Int) * (w : Int) = (M : Int):=by rw [hM]; simp
    rw [<- hM] at hk
    have w47 : wr .i64 (c.y - by_) = (b : Int):=by rw [hb]; exact Aa (by omega) (by omega)
    have w50 : wr .i64 ((b : Int) * (w : Int)) = (M : Int):=by rw [hMi]; exact Aa (by omega) (by omega)
    have w56 : wr .i64 ((M : Int) + c.x) = (M : Int) + c.x:=Aa (by omega) (by omega)
    obtain ⟨k0,hk0⟩ : ∃ k0,k0 = M + a:=⟨_,rfl⟩
    have w59 : wr .i64 ((M : Int) + c.x - bx) = (k0 : Int):=by rw [Aa (by omega) (by omega)]; omega
    have hk1 : k0 < P:=by omega
    have hk2 : (k0 : Int) < P:=by omega
    have hdis : ∀ d,d ∈ p.take i -> ¬ (d.x = c.x /\ d.y = c.y):=fun d hd=>by
     have pw':=pw
     rw [<- List.take_append_drop i p,(Al hx).2] at pw'
     have:=(Aen.1 pw').2.2 d hd c (AdL ..)
     unfold AO at this
     simp only [AdF] at this
     omega
    have hgs:=VC (q:=p.take i) (c:=c) bx by_ (w:=w) (n:=P) (a:=a) (b:=b) haw (by omega) (by omega) (by omega) hdis
    rw [<- Ao hx,<- hM,<- hk0] at hgs
    have hw1:=w1_x (l:=CR (p.take i) bx by_ w P) (j:=k0) (by rw [DD]; exact hk1) c.s
    rw [<- hgs] at hw1
    have kk:=ih (i + 1) (by omega) P B (by omega) (Adw _) hB2 hB3 hB5
    have hrl : (Bo (CR (p.take i) bx by_ w P)).length = P:=by rw [Fs,DD]
    simp (maxSteps:=2000000) (disch:=omega) [Ab,hrv,hlt',hn,hB3,hB5,w47,w50,w56,w59,hw1,hrl,wi,-Int.natCast_add]
    exact kk
  ·have hf2 : ¬ (P : Int) <= 40000:=by omega
   have k:=qk (LA false bx by_ w h (.nl 4) v) ⟨bx,by_,w,h,false,.nl 4,rfl,hwh,hbx1,hby1,hin,hne,fun h=>(by cases h),rfl⟩
   unfold LA at k
   simp (maxSteps:=2000000) (disch:=omega) [Ab,cl (g1 _),wP,hf2,hv1,hvc]
   exact k
 obtain ⟨x,H',h1,rfl,y,h2,rfl⟩:=key
 exact ⟨y,h2,h1⟩
end Go.Mx.Tryz
