/- Both of the program. -/
import Derived.Test.YtlhjjcaifenlbaaGreatDoorLs
import Derived.Test.YtlhjjcaifenlbaaGreatDoorStr
import Derived.Test.YtlhjjcaifenlbaaGreatDoorLy
set_option linter.unusedSimpArgs false
set_option linter.unusedVariables false
set_option linter.unusedSectionVars false
set_option maxRecDepth 100000
namespace Go.Mx.Tryz
open Go.Lib Go.Proofs
theorem PT {L : List Ce} {i : Nat} {c : Ce} (h : L[i]? = some c) : (L.take (i + 1)).Pairwise apart ↔ (L.take i).Pairwise apart /\ ∀ (k : Nat) d,k < i -> L[k]? = some d -> apart d c:=by
 rw [Ao h,Aen]
 refine ⟨fun hh=>⟨hh.1,fun k p hk hp=>hh.2.2 p (Aet.2 ⟨k,by rw [AdS,Adu hk]; exact hp⟩) c (AdO.2 rfl)⟩,fun hh=>⟨hh.1,List.pairwise_singleton _ _,fun p hp d hd=>?_⟩⟩
 rw [AdO.1 hd]
 obtain ⟨k,hk⟩:=Aet.1 hp
 rw [AdS] at hk
 split at hk
 ·rename_i hlt
  exact hh.2 k p hlt hk
 ·cases hk
theorem VR {L : List Ce} {i k : Nat} {c d : Ce} (hk : k < i) (hd : L[k]? = some d) (hc : L[i]? = some c) (hx : c.x = d.x) (hy : c.y = d.y) : ¬ L.Pairwise apart:=fun hh=>by
 have h1:=Aes.1 hh
 obtain ⟨l1,e1⟩:=Adq.1 hd
 obtain ⟨l2,e2⟩:=Adq.1 hc
 have:=h1 k i l1 l2 hk
 rw [e1,e2] at this
 exact this ⟨hx.symm,hy.symm⟩
theorem SD {f : List Ce} {o : V} {H : Hp} (h : Jl f o H) {i : Nat} {c : Ce} (hc : f[i]? = some c) : o = .sl 0 f.length 3 0 f.length false /\ H = [.cs 73 3 (Ax f) 0 false] /\ Ej 3 (Ax f) i 0 1 = some [.m (.i .i64 c.x)] /\ Ej 3 (Ax f) i 1 1 = some [.m (.i .i64 c.y)]:=by
 rcases h with ⟨rfl,rfl,rfl⟩ | ⟨hne,rfl,rfl⟩
 ·simp at hc
 ·exact ⟨rfl,rfl,r3_x hc,r3_y hc⟩
theorem SE {f : List Ce} {o : V} {H : Hp} (h : Jl f o H) : Aq (.len false) [o] = some (.m (.i .i64 (f.length : Nat))):=by
 rcases h with ⟨rfl,rfl,rfl⟩ | ⟨hne,rfl,rfl⟩ <;> rfl
set_option maxHeartbeats 8000000 in
theorem Vd {t : TreeC} {h n zs zx vr : I} {es fs : List (List I)} {l : List Sh} {xs : List St5} {gens : Int} {res : List Ce} (hT : TreeV t h n es) (hA : RecA zs zx vr fs l xs gens res) (H : Hp) : Gives G 14 [.m (.ag [.i .i64 t.states,h,n]),.m (.ag [zs,zx,.i .i64 gens,vr])] H (.tu [.m (zP (Bh t l xs gens res).1),.m (.i .i64 (Bh t l xs gens res).2)]) H:=by
 have hS:=Ca hT
 have gq:=fun H=>JR hT H
 have hrs:=hA.s.rules
 rw [hA.sv.1] at hrs
 have hrx:=hA.x.rules
 rw [BE] at hrx
 have gc:=fun H=>Jh hT hA.r (by have:=hA.lr; omega) H
 rw [EJ]
 generalize hE : MG t l xs gens res = E
 unfold MG at hE
 by_cases hq : AJ t = true
 rotate_left
 ·rw [Ads hq] at hE
  subst hE
  rw [Bool.not_eq_true] at hq
  rw [hq] at gq
  refine Ae rfl rfl rfl rfl rfl ?_
  simp (maxSteps:=2000000) (disch:=omega) [cl (gq _),zP]
 rw [Adu hq] at hE
 rw [hq] at gq
 by_cases hsz : l.length <= 8 /\ xs.length <= 16
 rotate_left
 ·rw [Ads hsz] at hE
  subst hE
  refine Ae rfl rfl rfl rfl rfl ?_
  by_cases h1 : 8 < l.length
  ·simp (maxSteps:=2000000) (disch:=omega) [cl (gq _),hrs,show (8 : Int) < l.length from by omega,zP]
  ·have h2 : 16 < xs.length:=by omega
   simp (maxSteps:=2000000) (disch:=omega) [cl (gq _),hrs,hrx,show ¬ (8 : Int) < l.length from by omega,show (16 : Int) < xs.length from by omega,zP]
 rw [Adu hsz] at hE
 have s1 : ¬ 8 < l.length:=by omega
 have s2 : ¬ (8 : Int) < l.length:=by omega
 have s3 : ¬ 16 < xs.length:=by omega
 have s4 : ¬ (16 : Int) < xs.length:=by omega
 by_cases hg : 0 <= gens /\ gens <= 10000
 rotate_left
 ·rw [Ads hg] at hE
  subst hE
  refine Ae rfl rfl rfl rfl rfl ?_
  by_cases h1 : gens < 0
  ·simp (maxSteps:=2000000) (disch:=omega) [cl (gq _),hrs,hrx,s2,s4,h1,zP]
  ·have h2 : 10000 < gens:=by omega
   simp (maxSteps:=2000000) (disch:=omega) [cl (gq _),hrs,hrx,s2,s4,h1,h2,zP]
 rw [Adu hg] at hE
 have g1 : ¬ gens < 0:=by omega
 have g2 : ¬ 10000 < gens:=by omega
 by_cases hc : BY t res = 0
 rotate_left
 ·rw [Ads hc] at hE
  subst hE
  rw [Ads hc]
  generalize BY t res = e at *
  refine Ae rfl rfl rfl rfl rfl ?_
  simp (maxSteps:=2000000) (disch:=omega) [cl (gq _),hrs,hrx,s2,s4,g1,g2,cl (gc _),hc,zP]
 rw [Adu hc] at hE
 rw [hc] at gc
 refine Ae rfl rfl rfl rfl rfl ?_
 generalize hR : (if E = 0 then jnF (plP t l xs).flatten else ([],E)) = R
 generalize hQ : (fun (v' : V) (x : Hp)=>v' = .tu [.m (zP R.1),.m (.i .i64 R.2)]) = Q
 have qe : ∀ e H',E = e -> ¬ e = 0 -> Q (.tu [.m (.nl 4),.m (.i .i64 e)]) H':=fun e H' h1 h2=>by rw [<- hQ,<- hR,h1,Ads h2]; rfl
 have qk : ∀ r H',E = 0 -> jnF (plP t l xs).flatten = r -> Q (.tu [.m (zP r.1),.m (.i .i64 r.2)]) H':=fun r H' h1 h2=>by rw [<- hQ,<- hR,Adu h1,h2]
 clear hQ hR
 simp (maxSteps:=2000000) (disch:=omega) [cl (gq _),hrs,hrx,s2,s4,g1,g2,cl (gc _)]
 refine (?key : ∀ (i : Nat) (B : List (Nat × List V)),i <= l.length -> (l.all (AU t)) = ((l.drop i).all (AU t)) -> getB B 2 = some [.m (.i .i64 t.states),.m h,.m n] -> getB B 3 = some [.m zs,.m zx,.m (.i .i64 gens),.m vr] -> Run G c14_B0 (S14_0 (.fa 2 0) (.fa 3 0) (.m (.i .i64 (i : Int))) B []) _) 0 _ (Adz _) rfl rfl rfl
 refine Bi (fun i : Nat=>l.length - i) fun i ih B hi hall hB2 hB3=>?_
 unfold c14_B0
 cases hx : l[i]? with
 | some s =>
  have hlt:=(Adq.1 hx).1
  have hlt' : (i : Int) < l.length:=by omega
  obtain ⟨hsl,v,hn,hv⟩:=hA.sv.2 i s hx
  have gs:=fun H=>MC hT hv hsl H
  have wi : wr .i64 ((i : Int) + 1) = ((i + 1 : Nat) : Int):=Aa (by omega) (by omega)
  have hst : (l.drop i).all (AU t) = (AU t s && (l.drop (i + 1)).all (AU t)):=by rw [(Al hx).2]; rfl
  simp only [shI] at gs hn
  cases hok : AU t s with
  | true =>
   rw [hok] at gs hst
   have k2:=fun B'=>ih (i + 1) (by omega) B' (by omega) (by rw [hall,hst]; rfl)
   simp (maxSteps:=2000000) (disch:=omega) [hrs,hlt',hn,hB2,hB3,cl (gs _),wi,-Int.natCast_add]
   exact k2 _ hB2 hB3
  | false =>
   rw [hok] at gs hst
   have k2:=qe 17 H (by rw [<- hE,Ads (by rw [hall,hst]; simp)]) (by decide)
   simp (maxSteps:=2000000) (disch:=omega) [hrs,hlt',hn,hB2,hB3,cl (gs _)]
   exact k2
 | none =>
  have : i = l.length:=by have:=Adv.1 hx; omega
  subst this
  clear ih hx hi
  have hall2 : (l.all (AU t)) = true:=by rw [hall,Aeg]; rfl
  rw [Adu hall2] at hE
  clear hall
  simp (maxSteps:=2000000) (disch:=omega) [hB3,hrs]
  refine (?key2 : ∀ (i : Nat) (o : V) (B : List (Nat × List V)) (H1 : Hp),i <= xs.length -> plE t l xs = plE t l (xs.drop i) -> Jl (plP t l (xs.take i)).flatten o H1 -> getB B 2 = some [.m (.i .i64 t.states),.m h,.m n] -> getB B 3 = some [.m zs,.m zx,.m (.i .i64 gens),.m vr] -> Run G c14_B1 (S14_1 (.fa 2 0) (.fa 3 0) o (.m (.i .i64 (i : Int))) B H1) _) 0 _ _ [] (Adz _) rfl (.inl ⟨rfl,rfl,rfl⟩) hB2 hB3
  clear hB2 hB3 B
  refine Bi (fun i : Nat=>xs.length - i) fun i ih o B H1 hi hpe ho hB2 hB3=>?_
  unfold c14_B1
  obtain ⟨hvw,hnf⟩:=BW ho
  cases hx : xs[i]? with
  | some x =>
   have hlt:=(Adq.1 hx).1
   have hlt' : (i : Int) < xs.length:=by omega
   have hn:=DG hx
   have gp:=fun H=>Sy hT hA.s hA.sv x H
   have wi : wr .i64 ((i : Int) + 1) = ((i + 1 : Nat) : Int):=Aa (by omega) (by omega)
   have hst:=On (t:=t) (l:=l) hx
   have hru:=(Ch (plF t l x).1).rules
   simp only [EQ] at gp
   by_cases he : (plF t l x).2 = 0
   ·rw [Adu he] at hst
    rw [he] at gp
    have hfi:=Hf (ps:=plP t l (xs.take i)) fun p hp=>(Av (FJ hS p hp)).2.2
    have hpl : (plP t l (xs.take i)).length = i:=by unfold plP; rw [AdJ,AdE]; omega
    rw [hpl] at hfi
    have hql:=(Av (YS (l:=l) (x:=x) hS).1).2.2
    obtain ⟨o1,H2,ha,hn1,ho1⟩:=FK ho (by omega) (g:=(plF t l x).1) (by omega)
    have ef : (plP t l (xs.take i)).flatten ++ (plF t l x).1 = (plP t l (xs.take (i + 1))).flatten:=by rw [Om hx]; simp
    rw [ef] at ho1
    have ha2 : ∀ B,Am (fun _ _ _=>none) ⟨B,H1⟩ (.app 73 3 24) [o,.m (zP (plF t l x).1)] = some (o1,⟨B,H2⟩):=fun B=>by
     rw [Cd (hru.2.2 H1)]
     exact ha B
    have k2:=fun B'=>ih (i + 1) (by omega) o1 B' H2 (by omega) (by rw [hpe,hst]) ho1
    generalize zP (plF t l x).1 = u at *
    simp (maxSteps:=2000000) (disch:=omega) [hrx,hlt',hn,hB2,hB3,cl (gp _),-DM,ha2,wi,Ap hn1,-Int.natCast_add]
    exact k2 _ hB2 hB3
   ·rw [Ads he] at hst
    have k2:=qe (plF t l x).2 H (by rw [<- hE,Ads (by rw [hpe,hst]; exact he),hpe,hst]) he
    generalize zP (plF t l x).1 = u at *
    generalize (plF t l x).2 = e at *
    simp (maxSteps:=2000000) (disch:=omega) [hrx,hlt',hn,hB2,hB3,cl (gp _),he]
    exact k2
  | none =>
   have : i = xs.length:=by have:=Adv.1 hx; omega
   subst this
   clear ih hx hi
   have hpe0 : plE t l xs = 0:=by rw [hpe,Aeg]; rfl
   rw [Adu hpe0] at hE
   clear hpe
   rw [AdQ] at ho
   have hpr:=FJ hS (l:=l) (xs:=xs)
   have hgd:=LB hpr
   have hap:=Jg hpr
   have hfl:=Hf (ps:=plP t l xs) fun p hp=>(Av (hpr p hp)).2.2
   have hpl : (plP t l xs).length <= 16:=by unfold plP; rw [AdJ]; exact hsz.2
   have hFl : (plP t l xs).flatten.length <= 1000000:=by omega
   clear hfl hpl hpr
   have hlen:=SE ho
   have hE2 : ((plP t l xs).flatten.Pairwise apart -> E = 0) /\ (¬ (plP t l xs).flatten.Pairwise apart -> E = 8):=by
    rw [<- hE]
    by_cases hd : PO (plP t l xs)
    ·rw [Adu hd]
     exact ⟨fun _=>rfl,fun hh=>absurd (hap.2 hd) hh⟩
    ·rw [Ads hd]
     exact ⟨fun hh=>absurd (hap.1 hh) hd,fun _=>rfl⟩
   clear hE hap
   generalize (plP t l xs).flatten = L at *
   simp (maxSteps:=2000000) (disch:=omega) [hrx,hB3]
   refine (?key3 : ∀ (i : Nat) (B : List (Nat × List V)),i <= L.length -> (L.take i).Pairwise apart -> Run G c14_B3 (S14_3 o (.m (.i .i64 (i : Int))) B H1) _) 0 _ (Adz _) List.Pairwise.nil
   clear hB2 hB3 B
   refine Bi (fun i : Nat=>L.length - i) fun i ih B hi hd=>?_
   unfold c14_B3
   cases hci : L[i]? with
   | some c =>
    have hil:=(Adq.1 hci).1
    have hil' : (i : Int) < L.length:=by omega
    have wi : wr .i64 ((i : Int) + 1) = ((i + 1 : Nat) : Int):=Aa (by omega) (by omega)
    simp (maxSteps:=2000000) (disch:=omega) [hlen,hil']
    refine (?key4 : ∀ (k : Nat) (B : List (Nat × List V)),k <= i -> (∀ (j : Nat) p,j < k -> L[j]? = some p -> apart p c) -> Run G c14_B2 (S14_2 o (.m (.i .i64 (i : Int))) (.m (.i .i64 (k : Int))) B H1) _) 0 _ (Adz _) (fun j p hj=>by omega)
    clear B
    refine Bi (fun k : Nat=>i - k) fun k ihk B hk hdk=>?_
    unfold c14_B2
    obtain ⟨rfl,rfl,ri,ri2⟩:=SD ho hci
    by_cases hkl : k < i
    ·have hkl' : (k : Int) < i:=by omega
     have wk : wr .i64 ((k : Int) + 1) = ((k + 1 : Nat) : Int):=Aa (by omega) (by omega)
     obtain ⟨d,hdk2⟩ : ∃ d,L[k]? = some d:=⟨_,Adt (by omega)⟩
     obtain ⟨_,_,rk,rk2⟩:=SD ho hdk2
     have hkL : k < L.length:=by omega
     have hkL' : (k : Int) < L.length:=by omega
     have k2:=fun (hap : apart d c) B'=>ihk (k + 1) (by omega) B' (by omega) (fun j p' hj hp'=>by
       by_cases e : j < k
       ·exact hdk j p' e hp'
       ·have : j = k:=by omega
        subst this
        rw [hdk2] at hp'
        cases hp'
        exact hap)
     by_cases hxe : c.x = d.x
     ·by_cases hye : c.y = d.y
      ·have k3:=qe 8 H (hE2.2 (VR hkl hdk2 hci hxe hye)) (by decide)
       simp (maxSteps:=2000000) (disch:=omega) [Ab,hkl',ri,ri2,rk,rk2,hxe,hye]
       exact k3
      ·have k3:=k2 fun hh=>hye hh.2.symm
       simp (maxSteps:=2000000) (disch:=omega) [Ab,hkl',ri,ri2,rk,rk2,hxe,hye,wk,-Int.natCast_add]
       exact k3 _
     ·have k3:=k2 fun hh=>hxe hh.1.symm
      simp (maxSteps:=2000000) (disch:=omega) [Ab,hkl',ri,rk,hxe,wk,-Int.natCast_add]
      exact k3 _
    ·have : k = i:=by omega
     subst this
     have k2:=fun B'=>ih (k + 1) (by omega) B' (by omega) ((PT hci).2 ⟨hd,hdk⟩)
     simp (maxSteps:=2000000) (disch:=omega) [wi,-Int.natCast_add]
     exact k2 _
   | none =>
    have : i = L.length:=by have:=Adv.1 hci; omega
    subst this
    rw [AdQ] at hd
    have hE2:=hE2.1 hd
    by_cases h5 : 5000 < L.length
    ·have k2:=qk ([],6) H hE2 (by unfold jnF; rw [Adu h5])
     simp (maxSteps:=2000000) (disch:=omega) [hlen,show (5000 : Int) < L.length from by omega]
     exact k2
    ·have k2:=qk (Ci L,0) H hE2 (by unfold jnF; rw [Ads h5])
     have gF:=fun H=>Ic (Ch L) (by omega) hgd hd H
     obtain ⟨H2,gG⟩:=GX rfl rfl ho gF
     dsimp only at k2
     generalize zP (Ci L) = zz at *
     simp (maxSteps:=2000000) (disch:=omega) [hlen,show ¬ (5000 : Int) < L.length from by omega,cl gG]
     exact k2
theorem JY {t : TreeC} {h n zs zx vr : I} {es fs : List (List I)} {l : List Sh} {xs : List St5} {gens : Int} {res : List Ce} (hT : TreeV t h n es) (hA : RecA zs zx vr fs l xs gens res) (hsl : (Bh t l xs gens res).1.length <= 1000000) (hrl : (rnE t (Bh t l xs gens res).1 gens).1.length <= 1000000) (H : Hp) : Gives G 16 [.m (.ag [.i .i64 t.states,h,n]),.m (.ag [zs,zx,.i .i64 gens,vr])] H (.m (.i .i64 (Bv t l xs gens res))) H:=by
 have gs:=fun H=>Vd hT hA H
 obtain ⟨x,hx,gr⟩:=YQ hT (Ch (Bh t l xs gens res).1) (by omega) gens
 have ge:=fun H=>FI hx hA.r hrl hA.lr H
 unfold Bv
 generalize rnE t (Bh t l xs gens res).1 gens = r at *
 generalize Bh t l xs gens res = s at *
 generalize zP s.1 = z at *
 refine Ae rfl rfl rfl rfl rfl ?_
 by_cases h1 : s.2 = 0
 ·rw [Adu h1]
  rw [h1] at gs
  by_cases h2 : r.2 = 0
  ·rw [Adu h2]
   rw [h2] at gr
   by_cases h3 : r.1 = res
   ·rw [Adu h3]
    rw [AdA (Fa.2 h3)] at ge
    simp (maxSteps:=2000000) (disch:=omega) [cl (gs _),cl (gr _),cl (ge _)]
   ·rw [Ads h3]
    rw [AdB (fun hh=>h3 (Fa.1 hh))] at ge
    simp (maxSteps:=2000000) (disch:=omega) [cl (gs _),cl (gr _),cl (ge _)]
  ·rw [Ads h2]
   simp (maxSteps:=2000000) (disch:=omega) [cl (gs _),cl (gr _),h2]
 ·rw [Ads h1]
  simp (maxSteps:=2000000) (disch:=omega) [cl (gs _),h1]
theorem Zs (L : List Ce) : (jnF L).1.length <= 5000:=by
 unfold jnF
 split
 ·simp
 ·rw [CD]; omega
theorem Cu (t : TreeC) (l : List Sh) (xs : List St5) (gens : Int) (res : List Ce) : (Bh t l xs gens res).1.length <= 5000:=by
 rw [EJ]
 split
 ·exact Zs _
 ·simp
theorem Vi {t : TreeC} (hS : DX t) {p : List Ce} (hc : BY t p = 0) (n : Nat) : (BK t n p).1.length <= 5000:=by
 by_cases he : (BK t n p).2 = 0
 ·exact (Av (Bd (Sq hS n p hc he)).2.1).2.2
 ·rw [Ws n p he]; simp
theorem Fi {t : TreeC} (hS : DX t) (p : List Ce) (n : Int) : (rnE t p n).1.length <= 5000:=by
 unfold rnE
 split
 ·rename_i hc
  split
  ·exact Vi hS hc _
  ·simp
 ·simp
structure RecW (zs zx vr : I) (fs : List (List I)) (l : List Sh) (xs : List St5) (gens : Int) (res : List Ce) : Prop where
 s : IsSl zs fs
 fl : fs.length = l.length
 sv : ∀ (i : Nat) (s : Sh),l[i]? = some s -> (s.c.length : Int) <= 9223372036854775807 /\ ∃ v,nth fs i = some (shI v s) /\ IsSl v (Af s.c)
 x : IsSl zx (BN xs)
 r : IsSl vr (Af res)
 ll : (l.length : Int) <= 9223372036854775807
 lx : (xs.length : Int) <= 9223372036854775807
 lr : (res.length : Int) <= 9223372036854775807
def Qd (s : Sh) : Bool:=decide (s.c.length <= 20) && !(decide (16 < s.m.1) && decide (s.m.1 <= 10000))
def TG (x : St5) : Bool:=!(decide (40 < x.n) && decide (x.n <= 10000))
def Zw (l : List Sh) (xs : List St5) (gens : Int) (res : List Ce) : Bool:=(decide (l.length <= 4) && (decide (xs.length <= 5) && (!(decide (30 < gens) && decide (gens <= 10000)) && decide (res.length <= 60)))) && (l.all Qd && xs.all TG)
theorem WC {zs zx vr : I} {fs : List (List I)} {l : List Sh} {xs : List St5} {gens : Int} {res : List Ce} (hW : RecW zs zx vr fs l xs gens res) (h : Zw l xs gens res = true) : RecA zs zx vr fs l xs gens res:=by
 unfold Zw at h
 simp only [Adr,AdF] at h
 obtain ⟨⟨h1,h2,_,h3⟩,h4,_⟩:=h
 refine ⟨hW.s,⟨hW.fl,fun i s hi=>?_⟩,hW.x,hW.r,by omega,by omega,by omega⟩
 have:=AdH.1 h4 s (Ady hi)
 unfold Qd at this
 simp only [Adr,AdF] at this
 exact ⟨by omega,(hW.sv i s hi).2⟩
set_option maxHeartbeats 4000000 in
theorem AcU {zs zx vr : I} {fs : List (List I)} {l : List Sh} {xs : List St5} {gens : Int} {res : List Ce} (hW : RecW zs zx vr fs l xs gens res) (H : Hp) : Gives G 11 [.m (.ag [zs,zx,.i .i64 gens,vr])] H (.m (.b (Zw l xs gens res))) H:=by
 have hrs:=hW.s.rules
 rw [hW.fl] at hrs
 have hrx:=hW.x.rules
 rw [BE] at hrx
 have hrr:=hW.r.rules
 simp only [show (Af res).length = res.length from by simp [Af]] at hrr
 have hll:=hW.ll
 have hlx:=hW.lx
 have hlr:=hW.lr
 refine Ae rfl rfl rfl rfl rfl ?_
 generalize hE : Zw l xs gens res = E
 unfold Zw at hE
 by_cases h1 : l.length <= 4
 rotate_left
 ·rw [AdB h1] at hE
  have : E = false:=by rw [<- hE]; rfl
  subst this
  simp (maxSteps:=2000000) (disch:=omega) [hrs,show (4 : Int) < l.length from by omega]
 by_cases h2 : xs.length <= 5
 rotate_left
 ·rw [AdB h2] at hE
  have : E = false:=by rw [<- hE]; simp
  subst this
  simp (maxSteps:=2000000) (disch:=omega) [hrs,hrx,show ¬ 4 < l.length from by omega,show ¬ (4 : Int) < l.length from by omega,show (5 : Int) < xs.length from by omega]
 have a1 : ¬ 4 < l.length:=by omega
 have a2 : ¬ (4 : Int) < l.length:=by omega
 have a3 : ¬ 5 < xs.length:=by omega
 have a4 : ¬ (5 : Int) < xs.length:=by omega
 rw [AdA h1,AdA h2] at hE
 by_cases h3 : 30 < gens /\ gens <= 10000
 ·rw [AdA h3.1,AdA h3.2] at hE
  have : E = false:=by rw [<- hE]; rfl
  subst this
  simp (maxSteps:=2000000) (disch:=omega) [hrs,hrx,a2,a4,h3.1,h3.2]
 have h3b : (decide (30 < gens) && decide (gens <= 10000)) = false:=by
  rw [Bool.eq_false_iff]
  simp only [ne_eq,Adr,AdF]
  exact h3
 rw [h3b] at hE
 by_cases h4 : res.length <= 60
 rotate_left
 ·rw [AdB h4] at hE
  have : E = false:=by rw [<- hE]; rfl
  subst this
  by_cases h5 : 30 < gens
  ·simp (maxSteps:=2000000) (disch:=omega) [hrs,hrx,hrr,a2,a4,h5,show ¬ gens <= 10000 from by omega,show (60 : Int) < res.length from by omega]
  ·simp (maxSteps:=2000000) (disch:=omega) [hrs,hrx,hrr,a2,a4,h5,show (60 : Int) < res.length from by omega]
 rw [AdA h4] at hE
 have a5 : ¬ 60 < res.length:=by omega
 have a6 : ¬ (60 : Int) < res.length:=by omega
 have hE2 : (l.all Qd && xs.all TG) = E:=by rw [<- hE]; simp
 clear hE
 have f1 : ∀ {i : Nat} {s : Sh},l[i]? = some s -> (l.drop i).all Qd = (Qd s && (l.drop (i + 1)).all Qd):=fun {i s} hx=>by rw [(Al hx).2]; rfl
 have f2 : ∀ {i : Nat} {x : St5},xs[i]? = some x -> (xs.drop i).all TG = (TG x && (xs.drop (i + 1)).all TG):=fun {i x} hx=>by rw [(Al hx).2]; rfl
 rcases (show gens <= 30 \/ 10000 < gens by omega) with h5 | h5
 rotate_left
 simp (maxSteps:=2000000) (disch:=omega) [hrs,hrx,hrr,a2,a4,a6,show 30 < gens from by omega,show ¬ gens <= 10000 from by omega]
 rotate_left
 simp (maxSteps:=2000000) (disch:=omega) [hrs,hrx,hrr,a2,a4,a6,show ¬ 30 < gens from by omega]
 all_goals
  refine (?_ : ∀ (i : Nat) (B : List (Nat × List V)),i <= l.length -> l.all Qd = (l.drop i).all Qd -> getB B 1 = some [.m zs,.m zx,.m (.i .i64 gens),.m vr] -> Run G c11_B0 (S11_0 (.fa 1 0) (.m (.i .i64 (l.length : Int))) (.m (.i .i64 (i : Int))) B []) _) 0 _ (Adz _) rfl rfl
  refine Bi (fun i : Nat=>l.length - i) fun i ih B hi hall hB=>?_
  unfold c11_B0
  cases hx : l[i]? with
  | some s =>
   have hlt:=(Adq.1 hx).1
   have hlt' : (i : Int) < l.length:=by omega
   obtain ⟨hsl,v,hn,hv⟩:=hW.sv i s hx
   have hrv:=hv.rules
   simp only [show (Af s.c).length = s.c.length from by simp [Af]] at hrv
   have wi : wr .i64 ((i : Int) + 1) = ((i + 1 : Nat) : Int):=Aa (by omega) (by omega)
   have hst:=f1 hx
   simp only [shI] at hn
   have kf : Qd s = false -> E = false:=fun h=>by rw [<- hE2,hall,hst,h]; rfl
   have kt : Qd s = true -> ∀ B',getB B' 1 = some [.m zs,.m zx,.m (.i .i64 gens),.m vr] -> _:=fun h B'=>ih (i + 1) (by omega) B' (by omega) (by rw [hall,hst,h]; rfl)
   unfold Qd at kf kt
   by_cases c1 : s.c.length <= 20
   ·by_cases c2 : 16 < s.m.1
    ·by_cases c3 : s.m.1 <= 10000
     ·have:=kf (by rw [AdA c2,AdA c3]; simp)
      subst this
      simp (maxSteps:=2000000) (disch:=omega) [hrs,hlt',hn,hB,hrv,show ¬ 20 < s.c.length from by omega,show ¬ (20 : Int) < s.c.length from by omega,c2,c3]
     ·have k2:=kt (by rw [AdA c1,AdB c3]; simp)
      simp (maxSteps:=2000000) (disch:=omega) [hrs,hlt',hn,hB,hrv,show ¬ 20 < s.c.length from by omega,show ¬ (20 : Int) < s.c.length from by omega,c2,c3,wi,-Int.natCast_add]
      exact k2 _ hB
    ·have k2:=kt (by rw [AdA c1,AdB c2]; simp)
     simp (maxSteps:=2000000) (disch:=omega) [hrs,hlt',hn,hB,hrv,show ¬ 20 < s.c.length from by omega,show ¬ (20 : Int) < s.c.length from by omega,c2,wi,-Int.natCast_add]
     exact k2 _ hB
   ·have:=kf (by rw [AdB c1]; simp)
    subst this
    simp (maxSteps:=2000000) (disch:=omega) [hrs,hlt',hn,hB,hrv,show (20 : Int) < s.c.length from by omega]
  | none =>
   have : i = l.length:=by have:=Adv.1 hx; omega
   subst this
   clear ih hx hi
   have hall2 : l.all Qd = true:=by rw [hall,Aeg]; rfl
   rw [hall2,Aev] at hE2
   simp (maxSteps:=2000000) (disch:=omega) [hB,hrx]
   refine (?_ : ∀ (i : Nat) (B : List (Nat × List V)),i <= xs.length -> xs.all TG = (xs.drop i).all TG -> getB B 1 = some [.m zs,.m zx,.m (.i .i64 gens),.m vr] -> Run G c11_B1 (S11_1 (.fa 1 0) (.m (.i .i64 (xs.length : Int))) (.m (.i .i64 (i : Int))) B []) _) 0 _ (Adz _) rfl hB
   clear hall hB B
   refine Bi (fun i : Nat=>xs.length - i) fun i ih B hi hall hB=>?_
   unfold c11_B1
   cases hx : xs[i]? with
   | some x =>
    have hlt:=(Adq.1 hx).1
    have hlt' : (i : Int) < xs.length:=by omega
    have hn:=DG hx
    have wi : wr .i64 ((i : Int) + 1) = ((i + 1 : Nat) : Int):=Aa (by omega) (by omega)
    have hst:=f2 hx
    have kf : TG x = false -> E = false:=fun h=>by rw [<- hE2,hall,hst,h]; rfl
    have kt : TG x = true -> ∀ B',getB B' 1 = some [.m zs,.m zx,.m (.i .i64 gens),.m vr] -> _:=fun h B'=>ih (i + 1) (by omega) B' (by omega) (by rw [hall,hst,h]; rfl)
    unfold TG at kf kt
    by_cases c2 : 40 < x.n
    ·by_cases c3 : x.n <= 10000
     ·have:=kf (by rw [AdA c2,AdA c3]; rfl)
      subst this
      simp (maxSteps:=2000000) (disch:=omega) [hrx,hlt',hn,hB,c2,c3]
     ·have k2:=kt (by rw [AdB c3]; simp)
      simp (maxSteps:=2000000) (disch:=omega) [hrx,hlt',hn,hB,c2,c3,wi,-Int.natCast_add]
      exact k2 _ hB
    ·have k2:=kt (by rw [AdB c2]; simp)
     simp (maxSteps:=2000000) (disch:=omega) [hrx,hlt',hn,hB,c2,wi,-Int.natCast_add]
     exact k2 _ hB
   | none =>
    have : i = xs.length:=by have:=Adv.1 hx; omega
    subst this
    have : E = true:=by rw [<- hE2,hall,Aeg]; rfl
    subst this
    simp (maxSteps:=2000000) (disch:=omega) []
theorem PN {B n : Nat} {l : List I} (h : Fits Go.Proofs.Tryz.prog B (n + 2) 67 l) : ∃ m : Int × Int × Int,l = [.i .i64 m.1,.i .i64 m.2.1,.i .i64 m.2.2]:=by
 unfold Fits at h
 rw [Go.Proofs.Tryz.underlying67] at h
 simp only [FitsF] at h
 obtain ⟨x1,y1,rfl,k1,x2,y2,rfl,k2,x3,y3,rfl,k3,rfl⟩:=h
 obtain ⟨a,rfl,_⟩:=BH k1
 obtain ⟨b,rfl,_⟩:=BH k2
 obtain ⟨c,rfl,_⟩:=BH k3
 exact ⟨(a,b,c),rfl⟩
theorem VH {B n : Nat} {l : List I} (h : Fits Go.Proofs.Tryz.prog B (n + 4) 69 l) : ∃ (s : Sh) (v : I),l = shI v s /\ IsSl v (Af s.c) /\ s.c.length <= B:=by
 unfold Fits at h
 rw [Go.Proofs.Tryz.underlying69] at h
 simp only [FitsF] at h
 obtain ⟨x1,y1,rfl,k1,x2,y2,rfl,k2,rfl⟩:=h
 obtain ⟨p,v,rfl,hv,hp⟩:=Tm k1
 obtain ⟨m,rfl⟩:=PN k2
 exact ⟨⟨p,m⟩,v,rfl,hv,hp⟩
theorem VG {B n : Nat} {l : List I} (h : Fits Go.Proofs.Tryz.prog B (n + 2) 57 l) : ∃ x : St5,l = EQ x:=by
 unfold Fits at h
 rw [Go.Proofs.Tryz.underlying57] at h
 simp only [FitsF] at h
 obtain ⟨x1,y1,rfl,k1,x2,y2,rfl,k2,x3,y3,rfl,k3,x4,y4,rfl,k4,x5,y5,rfl,k5,rfl⟩:=h
 obtain ⟨a,rfl,_⟩:=BH k1
 obtain ⟨b,rfl,_⟩:=BH k2
 obtain ⟨c,rfl,_⟩:=BH k3
 obtain ⟨d,rfl,_⟩:=BH k4
 obtain ⟨e,rfl,_⟩:=BH k5
 exact ⟨⟨a,b,c,d,e⟩,rfl⟩
theorem Tk {es : List (List I)} (h : ∀ x,x ∈ es -> ∃ d : St5,x = EQ d) : ∃ p : List St5,es = BN p:=by
 induction es with
 | nil=>exact ⟨[],rfl⟩
 | cons x r ih =>
  obtain ⟨d,rfl⟩:=h x (by simp)
  obtain ⟨p,rfl⟩:=ih fun x hx=>h x (by simp [hx])
  exact ⟨d :: p,rfl⟩
theorem Tl {B : Nat} {es : List (List I)} (h : ∀ x,x ∈ es -> ∃ (s : Sh) (v : I),x = shI v s /\ IsSl v (Af s.c) /\ s.c.length <= B) : ∃ l : List Sh,es.length = l.length /\ ∀ (i : Nat) (s : Sh),l[i]? = some s -> s.c.length <= B /\ ∃ v,nth es i = some (shI v s) /\ IsSl v (Af s.c):=by
 induction es with
 | nil=>exact ⟨[],rfl,fun i s hi=>by simp at hi⟩
 | cons x r ih =>
  obtain ⟨s,v,rfl,hv,hl⟩:=h x (by simp)
  obtain ⟨l,h1,h2⟩:=ih fun x hx=>h x (by simp [hx])
  refine ⟨s :: l,by simp [h1],fun i s' hi=>?_⟩
  cases i with
  | zero=>cases hi; exact ⟨hl,v,rfl,hv⟩
  | succ i=>exact h2 i s' (by simpa using hi)
theorem Ji {B n : Nat} {l : List I} (hB : B <= 9223372036854775807) (h : Fits Go.Proofs.Tryz.prog B (n + 6) 31 l) : ∃ (zs zx vr : I) (fs : List (List I)) (sl : List Sh) (xs : List St5) (gens : Int) (res : List Ce),l = [zs,zx,.i .i64 gens,vr] /\ RecW zs zx vr fs sl xs gens res:=by
 unfold Fits at h
 rw [Go.Proofs.Tryz.underlying31] at h
 simp only [FitsF] at h
 obtain ⟨x1,y1,rfl,k1,x2,y2,rfl,k2,x3,y3,rfl,k3,x4,y4,rfl,k4,rfl⟩:=h
 obtain ⟨g,rfl,_⟩:=BH k3
 obtain ⟨res,vr,rfl,hvr,hlr⟩:=Tm k4
 unfold Fits at k1 k2
 rw [Go.Proofs.Tryz.underlying26] at k1
 rw [Go.Proofs.Tryz.underlying27] at k2
 simp only at k1 k2
 have hs : ∃ (z : I) (fs : List (List I)) (sl : List Sh),x1 = [z] /\ IsSl z fs /\ fs.length <= B /\ fs.length = sl.length /\ ∀ (i : Nat) (s : Sh),sl[i]? = some s -> s.c.length <= B /\ ∃ v,nth fs i = some (shI v s) /\ IsSl v (Af s.c):=by
  rcases k1 with rfl | ⟨es,rfl,hle,hes⟩
  ·exact ⟨_,[],[],rfl,AC,by simp,rfl,fun i s hi=>by simp at hi⟩
  ·obtain ⟨sl,h1,h2⟩:=Tl fun x hx=>VH (hes x hx)
   exact ⟨_,es,sl,rfl,Ba _,hle,h1,h2⟩
 have hx : ∃ (z : I) (xs : List St5),x2 = [z] /\ IsSl z (BN xs) /\ xs.length <= B:=by
  rcases k2 with rfl | ⟨es,rfl,hle,hes⟩
  ·exact ⟨_,[],rfl,AC,by simp⟩
  ·obtain ⟨p,rfl⟩:=Tk fun x hx=>VG (hes x hx)
   exact ⟨_,p,rfl,Ba _,by simpa using hle⟩
 obtain ⟨zs,fs,sl,rfl,b1,b2,b3,b4⟩:=hs
 obtain ⟨zx,xs,rfl,c1,c2⟩:=hx
 exact ⟨zs,zx,vr,fs,sl,xs,g,res,rfl,⟨b1,b3,fun i s hi=>⟨by have:=(b4 i s hi).1; omega,(b4 i s hi).2⟩,c1,hvr,by omega,by omega,by omega⟩⟩
def SK (ty w : Nat) (es : List (List I)) (o : V) (H : Hp) : Prop:=LK ty w es o H \/ o = .ls es
theorem SK.nf {ty w : Nat} {es : List (List I)} {o : V} {H : Hp} (h : SK ty w es o H) : AA o = true /\ Au o = some [o] /\ Cv o = true /\ Bm o = true:=by
 rcases h with h | rfl
 ·obtain ⟨h1,h2,h3,_⟩:=h.nf
  refine ⟨h1,h2,h3,?_⟩
  rcases h with ⟨_,rfl⟩ | ⟨_,r,rfl,_⟩ <;> rfl
 ·exact ⟨rfl,rfl,rfl,rfl⟩
theorem SK.view {ty w : Nat} {es : List (List I)} {o : V} {H : Hp} (h : SK ty w es o H) : ∃ z,IsSl z es /\ Cv (.m z) = true /\ ∀ k,Mx.view (k + 2) H o = some z:=by
 rcases h with h | rfl
 ·exact ⟨zK es,RW es,AbX es,fun k=>h.view k⟩
 ·exact ⟨.sl es,Ba es,rfl,fun k=>rfl⟩
theorem SK.keep {ty w : Nat} {es : List (List I)} {o : V} {H H' : Hp} (h : SK ty w es o H) (hk : ∀ r,Sv o = some r -> nth H' r = nth H r) : SK ty w es o H':=by
 rcases h with h | rfl
 ·exact .inl (h.keep hk)
 ·exact .inr rfl
theorem SK.row {ty w : Nat} {es : List (List I)} {o : V} {H : Hp} (h : SK ty w es o H) {r : Nat} (hr : Sv o = some r) : r < H.length /\ nth H r = some (.cs ty w (Cn es) 0 false):=by
 rcases h with (⟨_,rfl⟩ | ⟨_,q,rfl,h3⟩) | rfl
 ·cases hr
 ·cases hr
  exact ⟨GL h3,h3⟩
 ·cases hr
theorem Zj {w : Nat} {xs ys : List (List I)} (h1 : okE w xs) (h2 : okE w ys) : okE w (xs ++ ys):=fun e he=>by
 rcases AdX.1 he with h | h
 ·exact h1 e h
 ·exact h2 e h
theorem SK.push {ty w b : Nat} {xs : List (List I)} {o : V} {H : Hp} (h : SK ty w xs o H) (hw : 1 <= w) (hb : b <= 1000) {ys : List (List I)} (hl : xs.length + ys.length <= 100000000) (hx : okE w xs) (ha : okE w ys) : ∃ o1 H1,(∀ B,Ea ⟨B,H⟩ ty w b o (Cn ys) = some (o1,⟨B,H1⟩)) /\ SK ty w (xs ++ ys) o1 H1 /\ H.length <= H1.length /\ ∀ r,¬ Sv o = some r -> r < H.length -> nth H1 r = nth H r:=by
 rcases h with h | rfl
 ·obtain ⟨o1,H1,h1,_,h3,h4,h5⟩:=h.push hw hb hl ha
  exact ⟨o1,H1,h1,.inl h3,h4,h5⟩
 ·cases ys with
  | nil=>exact ⟨.ls xs,H,fun B=>rfl,by rw [Ael]; exact .inr rfl,Adw _,fun _ _ _=>rfl⟩
  | cons y t =>
   have hmul : (xs.length + (y :: t).length) * b <= 100000000 * 1000:=Nat.mul_le_mul hl hb
   refine ⟨.sl H.length (xs ++ y :: t).length w 0 (xs ++ y :: t).length false,H ++ [.cs ty w (Cn (xs ++ y :: t)) 0 false],fun B=>?_,.inl (.inr ⟨by simp,H.length,rfl,Lt H _ 0⟩),by simp,fun r _ hr=>Lu _ _ _ hr⟩
   show Bp ⟨B,H⟩ ty w b (Cn xs ++ Cn (y :: t)) = _
   rw [OI,HC,MP (Zj hx ha),Hb]
   have h1 : Nat.ble ((xs ++ y :: t).length * b) 140737488355328 = true:=by
    rw [Bc]
    refine AdA ?_
    rw [AdC]
    omega
   have h2 : Nat.ble 1 w = true:=by rw [Bc]; exact AdA hw
   rw [h1,h2]
   rfl
theorem Sk {w : Nat} {z : I} {es : List (List I)} (hz : IsSl z es) (he : QO w es = true) (h0 : Nat.beq w 0 = false) : ∃ S,Aq (.slc w false true true) [.m z,.m (.i .i64 (es.length : Int)),.m (.i .i64 (es.length : Int))] = some S /\ ∀ ty H,SK ty w es S H:=by
 have hb : GS es.length false true true [.m (.i .i64 (es.length : Int)),.m (.i .i64 (es.length : Int))] = some (0,es.length):=by
  have h1 : bnd es.length (.m (.i .i64 (es.length : Int))) = some es.length:=by
   show gd (Nat.ble es.length es.length) (some es.length) = _
   rw [Bc,AdA (Adw _)]
   rfl
  show (bnd es.length (.m (.i .i64 (es.length : Int)))).bind _ = _
  rw [h1]
  show (bnd es.length (.m (.i .i64 (es.length : Int)))).bind _ = _
  rw [h1]
  show gd (Nat.beq es.length es.length) _ = _
  rw [Nat.beq_refl]
  rfl
 rcases hz with rfl | ⟨rfl,rfl⟩
 ·refine ⟨.ls es,?_,fun _ _=>.inr rfl⟩
  show gd (eqB false (Nat.beq w 0)) (gd (QO w es) ((GS es.length false true true _).bind _)) = _
  rw [h0,he,hb]
  show some (V.ls ((es.drop 0).take (es.length - 0))) = _
  rw [AeC,Nat.sub_zero,AdI (Adw _)]
 ·refine ⟨.m (.nl 4),?_,fun _ _=>.inl (.inl ⟨rfl,rfl⟩)⟩
  show gd (eqB false (Nat.beq w 0)) ((GS 0 false true true _).bind _) = _
  rw [h0]
  rfl
theorem Il : ∀ {cs : List V} {l : List I},Co cs = some l -> cs = l.map .m
 | [],l,h=>by cases h; rfl
 | x :: r,l,h=>by
  cases x with
  | m i =>
   have h : (Co r).bind (fun l=>some (i :: l)) = some l:=h
   cases hr : Co r with
   | none=>rw [hr] at h; cases h
   | some l' =>
    rw [hr] at h
    cases h
    rw [Il hr]
    rfl
  | _=>cases h
theorem Gr (cs : List V) : Au (mkAg cs) = some cs:=by
 rw [AE]
 cases h : Co cs with
 | none=>rfl
 | some l=>rw [Il h]; rfl
theorem MO (cs : List V) : AA (mkAg cs) = true:=by
 rw [AE]
 cases Co cs <;> rfl
theorem Ow (k : Nat) (H : Hp) : ∀ l : List I,Ah (Mx.view (k + 1) H) (l.map V.m) = some l
 | []=>rfl
 | x :: r=>by
  show Option.bind (some x) _ = _
  simp only [Adx]
  show Option.bind (Ah _ (r.map V.m)) _ = _
  rw [Ow k H r]
  rfl
theorem Ik {cs : List V} {l : List I} {k : Nat} {H : Hp} (h : Ah (Mx.view (k + 1) H) cs = some l) : Mx.view (k + 2) H (mkAg cs) = some (.ag l):=by
 rw [AE]
 cases ha : Co cs with
 | none =>
  show (Ah (Mx.view (k + 1) H) cs).bind _ = _
  rw [h]
  rfl
 | some l' =>
  have e:=Il ha
  rw [e,Ow] at h
  cases h
  rfl
theorem Tx {F : Nat} {cs : List V} {l : List I} {u : I} {H : Hp} {v : V} (hp : G.prim F = none) (hs : G.sh F = false) (hv : Ah (Mx.view 19 H) cs = some l) (hsh : cs.all Bm = true) (h : ∀ H,Gives G F [.m u,.m (.ag l)] H v H) (hf : Fy v = true) : Gives G F [.m u,mkAg cs] H v H:=by
 have hvw : Ah (Mx.view 20 H) [.m u,mkAg cs] = some [u,.ag l]:=by
  have:=Ik (k:=18) hv
  simp only [Ah,this,Adx]
  rfl
 refine AT (is:=[u,.ag l]) hp hs (h []) hvw ?_
 cases hr : [V.m u,mkAg cs].flatMap DH with
 | cons a b=>exact .inr ⟨by simp,hf⟩
 | nil =>
  refine .inl ⟨rfl,?_⟩
  have : Bn (mkAg cs) = true:=by
   rw [AE]
   cases Co cs with
   | none=>exact hsh
   | some l=>rfl
  show (Bn (.m u) && (Bn (mkAg cs) && true)) = true
  rw [this]
  rfl
def mv0 (dx dy : Int) (x : St5) : St5:=⟨x.i,x.n,x.k,x.x + dx,x.y + dy⟩
def mvS (n : Nat) (dx dy : Int) (x : St5) : St5:=⟨x.i + n,x.n,x.k,x.x + dx,x.y + dy⟩
noncomputable def okS (t : TreeC) (l : List Sh) (dx dy : Int) (x : St5) : Bool:=decide ((plF t l (mv0 dx dy x)).2 = 0)
noncomputable def GM (t : TreeC) (l1 l2 : List Sh) (xs1 xs2 : List St5) (g1 g2 : Int) (r1 r2 : List Ce) (dx dy : Int) : Int :=
 if Bv t l1 xs1 g1 r1 = 0 then if Bv t l2 xs2 g2 r2 = 0 then if g1 = g2 then if (-2097152 <= dx /\ dx <= 2097152) /\ (-2097152 <= dy /\ dy <= 2097152) then if (xs2.all (okS t l2 dx dy)) = true then if (shF r2 dx dy).2 = 0 then if (BV r1 (shF r2 dx dy).1).2 = 0 then Bv t (l1 ++ l2) (xs1 ++ xs2.map (mvS l1.length dx dy)) g1 (BV r1 (shF r2 dx dy).1).1 else (BV r1 (shF r2 dx dy).1).2 else 5 else 5 else 5 else 2 else Bv t l2 xs2 g2 r2 else Bv t l1 xs1 g1 r1
theorem FQ {t : TreeC} {l : List Sh} {xs : List St5} {g : Int} {r : List Ce} (h : Bv t l xs g r = 0) : MG t l xs g r = 0:=by
 unfold Bv at h
 refine Aer fun hn=>?_
 rw [EJ,Ads hn,Ads hn] at h
 exact hn h
theorem YT {t : TreeC} {l : List Sh} : ∀ {xs : List St5},plE t l xs = 0 -> ∀ x,x ∈ xs -> (plF t l x).2 = 0
 | x :: r,h,y,hy=>by
  unfold plE at h
  by_cases he : (plF t l x).2 = 0
  ·rw [Adu he] at h
   rcases AdP.1 hy with rfl | hy
   ·exact he
   ·exact YT h y hy
  ·rw [Ads he] at h
   exact absurd h he
theorem Sz {t : TreeC} {l : List Sh} {x : St5} (h : (plF t l x).2 = 0) : ((-2097152 <= x.x /\ x.x <= 2097152) /\ (-2097152 <= x.y /\ x.y <= 2097152)) /\ 0 <= x.i /\ x.i < l.length:=by
 unfold plF at h
 by_cases hq : AJ t = true
 rotate_left
 ·rw [Ads hq] at h; cases h
 rw [Adu hq] at h
 by_cases h0 : 0 <= x.i
 rotate_left
 ·rw [Ads h0] at h; cases h
 rw [Adu h0] at h
 cases hx : l[x.i.toNat]? with
 | none=>rw [hx] at h; cases h
 | some s =>
  rw [hx] at h
  dsimp only at h
  have hlt:=(Adq.1 hx).1
  by_cases hc : (0 <= x.k /\ x.k <= 7) /\ ((0 <= x.n /\ x.n <= 10000) /\ AU t s = true)
  rotate_left
  ·rw [Ads hc] at h; cases h
  rw [Adu hc] at h
  refine ⟨Aer fun hn=>?_,h0,by omega⟩
  rw [Ll hn] at h
  cases h
theorem HY {fs1 fs2 : List (List I)} {l1 l2 : List Sh} (h1 : FT fs1 l1) (h2 : FT fs2 l2) : FT (fs1 ++ fs2) (l1 ++ l2):=by
 refine ⟨by rw [AdC,AdC,h1.1,h2.1],fun i s hi=>?_⟩
 by_cases hlt : i < l1.length
 ·rw [AdK hlt] at hi
  obtain ⟨a,v,b,c⟩:=h1.2 i s hi
  refine ⟨a,v,?_,c⟩
  rw [AS] at b ⊢
  rw [AdK (by rw [h1.1]; exact hlt)]
  exact b
 ·rw [Aep (by omega)] at hi
  obtain ⟨a,v,b,c⟩:=h2.2 _ s hi
  refine ⟨a,v,?_,c⟩
  rw [AS] at b ⊢
  rw [Aep (by rw [h1.1]; omega),h1.1]
  exact b
theorem GU {fs : List (List I)} {l : List Sh} (h : FT fs l) : okE 4 fs /\ QO 4 fs = true:=by
 have hall : okE 4 fs:=fun e he=>by
  obtain ⟨i,hi⟩:=Aet.1 he
  have hlt:=(Adq.1 hi).1
  obtain ⟨s,hs⟩ : ∃ s,l[i]? = some s:=⟨_,Adt (by rw [<- h.1]; exact hlt)⟩
  obtain ⟨_,v,hn,hv⟩:=h.2 i s hs
  rw [AS,hi] at hn
  injection hn with hn
  subst hn
  refine ⟨rfl,fun x hx=>?_⟩
  rcases AdP.1 hx with rfl | hx
  ·exact CF hv
  ·simp only [AdP,List.not_mem_nil,or_false] at hx
   rcases hx with rfl | rfl | rfl <;> rfl
 refine ⟨hall,?_⟩
 cases fs with
 | nil=>rfl
 | cons e r =>
  show Nat.beq e.length 4 = true
  rw [(hall e (AdL ..)).1]
  rfl
theorem FR (xs : List St5) : okE 5 (BN xs) /\ QO 5 (BN xs) = true:=by
 refine ⟨fun e he=>?_,by cases xs <;> rfl⟩
 obtain ⟨x,_,rfl⟩:=AdU.1 he
 refine ⟨rfl,fun y hy=>?_⟩
 unfold EQ at hy
 simp only [AdP,List.not_mem_nil,or_false] at hy
 rcases hy with rfl | rfl | rfl | rfl | rfl <;> rfl
def zrI : I:=.ag [.nl 4,.nl 4,.i .i64 0,.nl 4]
def PW (fs : List (List I)) (xs : List St5) (g : Int) (p : List Ce) (E : Int) (x : V) : Prop:=(¬ E = 0 /\ x = .tu [.m zrI,.m (.i .i64 E)]) \/ (E = 0 /\ ∃ z zx vr,IsSl z fs /\ IsSl zx (BN xs) /\ IsSl vr (Af p) /\ x = .tu [.m (.ag [z,zx,.i .i64 g,vr]),.m (.i .i64 0)])
set_option maxHeartbeats 8000000 in
theorem Adh {t : TreeC} {h n zs1 zx1 vr1 zs2 zx2 vr2 : I} {es fs1 fs2 : List (List I)} {l1 l2 : List Sh} {xs1 xs2 : List St5} {g1 g2 : Int} {r1 r2 : List Ce} (hT : TreeV t h n es) (hA : RecA zs1 zx1 vr1 fs1 l1 xs1 g1 r1) (hB : RecA zs2 zx2 vr2 fs2 l2 xs2 g2 r2) (dx dy : Int) : ∃ x,PW (fs1 ++ fs2) (xs1 ++ xs2.map (mvS l1.length dx dy)) g1 (BV r1 (shF r2 dx dy).1).1 (GM t l1 l2 xs1 xs2 g1 g2 r1 r2 dx dy) x /\ ∀ H,Gives G 18 [.m (.ag [.i .i64 t.states,h,n]),.m (.ag [zs1,zx1,.i .i64 g1,vr1]),.m (.ag [zs2,zx2,.i .i64 g2,vr2]),.m (.i .i64 dx),.m (.i .i64 dy)] H x H:=by
 have hS:=Ca hT
 have hca:=fun H=>Hh hT hA (by have:=Cu t l1 xs1 g1 r1; omega) (by have:=Fi hS (Bh t l1 xs1 g1 r1).1 g1; omega) H
 have hcb:=fun H=>Hh hT hB (by have:=Cu t l2 xs2 g2 r2; omega) (by have:=Fi hS (Bh t l2 xs2 g2 r2).1 g2; omega) H
 generalize hE : GM t l1 l2 xs1 xs2 g1 g2 r1 r2 dx dy = E
 unfold GM at hE
 by_cases c1 : Bv t l1 xs1 g1 r1 = 0
 rotate_left
 ·rw [Ads c1] at hE
  subst hE
  generalize Bv t l1 xs1 g1 r1 = e at *
  refine ⟨_,.inl ⟨c1,rfl⟩,fun H=>Ae rfl rfl rfl rfl rfl ?_⟩
  simp (maxSteps:=2000000) (disch:=omega) [Ab,cl (hca _),c1,zrI]
 rw [Adu c1] at hE
 by_cases c2 : Bv t l2 xs2 g2 r2 = 0
 rotate_left
 ·rw [Ads c2] at hE
  subst hE
  rw [c1] at hca
  generalize Bv t l2 xs2 g2 r2 = e at *
  refine ⟨_,.inl ⟨c2,rfl⟩,fun H=>Ae rfl rfl rfl rfl rfl ?_⟩
  simp (maxSteps:=2000000) (disch:=omega) [Ab,cl (hca _),cl (hcb _),c2,zrI]
 rw [Adu c2] at hE
 have p1:=IZ (FQ c1)
 have p2:=IZ (FQ c2)
 rw [c1] at hca
 rw [c2] at hcb
 by_cases hg : g1 = g2
 rotate_left
 ·rw [Ads hg] at hE
  subst hE
  refine ⟨_,.inl ⟨by decide,rfl⟩,fun H=>Ae rfl rfl rfl rfl rfl ?_⟩
  simp (maxSteps:=2000000) (disch:=omega) [Ab,cl (hca _),cl (hcb _),hg,zrI]
 rw [Adu hg] at hE
 subst hg
 by_cases hd : (-2097152 <= dx /\ dx <= 2097152) /\ (-2097152 <= dy /\ dy <= 2097152)
 rotate_left
 ·rw [Ads hd] at hE
  subst hE
  refine ⟨_,.inl ⟨by decide,rfl⟩,fun H=>Ae rfl rfl rfl rfl rfl ?_⟩
  by_cases h1 : 2097152 < max dx dy
  ·simp (maxSteps:=2000000) (disch:=omega) [Ab,cl (hca _),cl (hcb _),h1,zrI]
  ·have h2 : min dx dy < -2097152:=by omega
   simp (maxSteps:=2000000) (disch:=omega) [Ab,cl (hca _),cl (hcb _),h1,h2,zrI]
 rw [Adu hd] at hE
 have d1 : ¬ 2097152 < max dx dy:=by omega
 have d2 : ¬ min dx dy < -2097152:=by omega
 have hrs1:=hA.s.rules
 rw [hA.sv.1] at hrs1
 have hrs2:=hB.s.rules
 rw [hB.sv.1] at hrs2
 have hrx1:=hA.x.rules
 rw [BE] at hrx1
 have hrx2:=hB.x.rules
 rw [BE] at hrx2
 obtain ⟨ok1,el1⟩:=GU hA.sv
 obtain ⟨ok2,el2⟩:=GU hB.sv
 obtain ⟨ok3,el3⟩:=FR xs1
 have hsv:=HY hA.sv hB.sv
 have hrr2:=(Bd p2.2.2.2.1).2.1
 have hrr1:=(Bd p1.2.2.2.1).2.1
 obtain ⟨x3,hx3,gsh⟩:=Oh hB.r hrr2 dx dy
 have hr3:=(Ev hrr2 (dx:=dx) (dy:=dy)).1
 obtain ⟨x4,hx4,gov⟩:=AcB hA.r hx3 hrr1 hr3
 have hl1:=p1.2.1
 have hl2:=p2.2.1
 have key : ∃ x H',Gives G 18 [.m (.ag [.i .i64 t.states,h,n]),.m (.ag [zs1,zx1,.i .i64 g1,vr1]),.m (.ag [zs2,zx2,.i .i64 g1,vr2]),.m (.i .i64 dx),.m (.i .i64 dy)] [] x H' /\ (H' = [] /\ PW (fs1 ++ fs2) (xs1 ++ xs2.map (mvS l1.length dx dy)) g1 (BV r1 (shF r2 dx dy).1).1 E x):=by
  refine AI ?_
  refine Cl rfl rfl rfl rfl rfl ?_
  generalize hQ : (fun (x : V) (H' : Hp)=>H' = [] /\ PW (fs1 ++ fs2) (xs1 ++ xs2.map (mvS l1.length dx dy)) g1 (BV r1 (shF r2 dx dy).1).1 E x) = Q
  have qe : ∀ e,E = e -> ¬ e = 0 -> Q (.tu [.m zrI,.m (.i .i64 e)]) []:=fun e h1 h2=>by rw [<- hQ]; exact ⟨rfl,.inl ⟨by rw [h1]; exact h2,by rw [h1]⟩⟩
  have qk : ∀ z zx,E = 0 -> IsSl z (fs1 ++ fs2) -> IsSl zx (BN (xs1 ++ xs2.map (mvS l1.length dx dy))) -> Q (.tu [.m (.ag [z,zx,.i .i64 g1,x4]),.m (.i .i64 0)]) []:=fun z zx h1 h2 h3=>by rw [<- hQ]; exact ⟨rfl,.inr ⟨h1,z,zx,x4,h2,h3,hx4,rfl⟩⟩
  clear hQ
  simp only [zrI] at qe
  obtain ⟨S1,s1,s2⟩:=Sk hA.s el1 rfl
  rw [hA.sv.1] at s1
  obtain ⟨S2,s3,s4⟩:=Sk hA.x el3 rfl
  rw [BE] at s3
  obtain ⟨o1,H1,a1,a2,_,_⟩:=(s2 69 []).push (by omega) (b:=48) (by omega) (by rw [hA.sv.1,hB.sv.1]; omega) ok1 ok2
  have a1' : ∀ B,Am (fun _ _ _=>none) ⟨B,[]⟩ (.app 69 4 48) [S1,.m zs2] = some (o1,⟨B,H1⟩):=fun B=>by
   rw [Cd (hrs2.2.2 [])]
   exact a1 B
  obtain ⟨n1,n2,n3,n4⟩:=a2.nf
  have hS2:=s4 57 H1
  obtain ⟨m1,m2,m3,m4⟩:=hS2.nf
  obtain ⟨t1,t2,t3,t4⟩:=(s2 69 []).nf
  obtain ⟨W0,hW0⟩ : ∃ W0,W0 = mkAg [o1,S2,.m (.i .i64 g1),.m (.nl 4)]:=⟨_,rfl⟩
  have hW1 : Au W0 = some [o1,S2,.m (.i .i64 g1),.m (.nl 4)]:=by rw [hW0]; exact Gr _
  have hW2 : AA W0 = true:=by rw [hW0]; exact MO _
  have hmT : mkAg [.m (.i .i64 t.states),.m h,.m n] = .m (.ag [.i .i64 t.states,h,n]):=rfl
  have hmA : mkAg [.m zs1,.m zx1,.m (.i .i64 g1),.m vr1] = .m (.ag [zs1,zx1,.i .i64 g1,vr1]):=rfl
  have hmB : mkAg [.m zs2,.m zx2,.m (.i .i64 g1),.m vr2] = .m (.ag [zs2,zx2,.i .i64 g1,vr2]):=rfl
  simp (maxSteps:=2000000) (disch:=omega) [Ab,-AE,hmT,hmA,hmB,cl (hca _),cl (hcb _),d1,d2,hrs1,hrx1,hrx2,s1,s3,-DM,a1',hW0.symm,hW1,Ap hW2,Ap n1,Ap m1,Ap t1,n2,m2,n3,m3]
  have hall0 : xs1 ++ (xs2.take 0).map (mvS l1.length dx dy) = xs1:=by simp
  refine (?key : ∀ (i : Nat) (o2 : V) (B : List (Nat × List V)) (H2 : Hp),i <= xs2.length -> xs2.all (okS t l2 dx dy) = (xs2.drop i).all (okS t l2 dx dy) -> SK 69 4 (fs1 ++ fs2) o1 H2 -> SK 57 5 (BN (xs1 ++ (xs2.take i).map (mvS l1.length dx dy))) o2 H2 -> getB B 5 = some [.m (.i .i64 t.states),.m h,.m n] -> getB B 6 = some [.m zs1,.m zx1,.m (.i .i64 g1),.m vr1] -> getB B 7 = some [.m zs2,.m zx2,.m (.i .i64 g1),.m vr2] -> getB B 10 = some [.m (.nl 4),.m (.nl 4),.m (.i .i64 0),.m (.nl 4)] -> getB B 15 = some [o1,o2,.m (.i .i64 g1),.m (.nl 4)] -> Run G c18_B0 (S18_0 (.m (.i .i64 dx)) (.m (.i .i64 dy)) (.fa 5 0) (.fa 6 0) (.fa 7 0) (.fa 10 0) (.fa 15 0) (.m zx2) (.m (.i .i64 (xs2.length : Int))) (.m (.i .i64 (i : Int))) B H2) _) 0 S2 _ _ (Adz _) rfl a2 (by rw [hall0]; exact hS2) rfl rfl rfl rfl rfl
  refine Bi (fun i : Nat=>xs2.length - i) fun i ih o2 B H2 hi hall hk1 hk2 b5 b6 b7 b10 b15=>?_
  unfold c18_B0
  cases hx : xs2[i]? with
  | some x =>
   have hlt:=(Adq.1 hx).1
   have hlt' : (i : Int) < xs2.length:=by omega
   have hn:=DG hx
   have wi : wr .i64 ((i : Int) + 1) = ((i + 1 : Nat) : Int):=Aa (by omega) (by omega)
   have hpx:=YT p2.2.2.2.2.2.1 x (Ady hx)
   obtain ⟨⟨nx,ny⟩,ni,ni2⟩:=Sz hpx
   have w1 : wr .i64 (x.x + dx) = x.x + dx:=Aa (by omega) (by omega)
   have w2 : wr .i64 (x.y + dy) = x.y + dy:=Aa (by omega) (by omega)
   have w3 : wr .i64 (x.i + (l1.length : Int)) = x.i + (l1.length : Int):=Aa (by omega) (by omega)
   obtain ⟨u,hu,gp⟩:=Sx hT hB.s hB.sv (mv0 dx dy x)
   simp only [EQ,mv0] at gp
   have hst : (xs2.drop i).all (okS t l2 dx dy) = (okS t l2 dx dy x && (xs2.drop (i + 1)).all (okS t l2 dx dy)):=by rw [(Al hx).2]; rfl
   have hoe : okS t l2 dx dy x = decide ((plF t l2 ⟨x.i,x.n,x.k,x.x + dx,x.y + dy⟩).2 = 0):=rfl
   by_cases he : (plF t l2 ⟨x.i,x.n,x.k,x.x + dx,x.y + dy⟩).2 = 0
   ·rw [AdA he] at hoe
    rw [hoe,Aev] at hst
    rw [he] at gp
    have hxl : (BN (xs1 ++ (xs2.take i).map (mvS l1.length dx dy))).length + 1 <= 100000000:=by
     rw [BE,AdC,AdJ,AdE]
     omega
    obtain ⟨o3,H3,a3,h3,hlen3,hk3⟩:=hk2.push (by omega) (b:=40) (by omega) (ys:=BN [mvS l1.length dx dy x]) hxl (FR _).1 (FR _).1
    have a3 : ∀ B,Ea ⟨B,H2⟩ 57 5 40 o2 [[.m (.i .i64 (x.i + (l1.length : Int))),.m (.i .i64 x.n),.m (.i .i64 x.k),.m (.i .i64 (x.x + dx)),.m (.i .i64 (x.y + dy))]] = some (o3,⟨B,H3⟩):=a3
    have e3 : BN (xs1 ++ (xs2.take i).map (mvS l1.length dx dy)) ++ BN [mvS l1.length dx dy x] = BN (xs1 ++ (xs2.take (i + 1)).map (mvS l1.length dx dy)):=by
     rw [Ao hx]
     simp [BN]
    rw [e3] at h3
    have hk1' : SK 69 4 (fs1 ++ fs2) o1 H3:=hk1.keep fun r hr=>by
     obtain ⟨q1,q2⟩:=hk1.row hr
     refine hk3 r (fun hr2=>?_) q1
     obtain ⟨_,q4⟩:=hk2.row hr2
     rw [q2] at q4
     injection q4 with q4
     injection q4 with _ q5
     cases q5
    obtain ⟨u1,u2,u3,u4⟩:=h3.nf
    obtain ⟨v1,v2,v3,v4⟩:=hk2.nf
    have k2:=fun B'=>ih (i + 1) (by omega) o3 B' H3 (by omega) (by rw [hall,hst]) hk1' h3
    simp (maxSteps:=2000000) (disch:=omega) [Ab,hrx2,hlt',hn,w1,w2,w3,b5,b6,b7,b15,hrs1,cl (gp _),a3,u2,u3,wi,-Int.natCast_add]
    exact k2 _ (by simpa using b5) (by simpa using b6) (by simpa using b7) (by simpa using b10) (by simp [])
   ·rw [AdB he] at hoe
    rw [hoe,Bool.false_and] at hst
    have k2:=qe 5 (by rw [<- hE,Ads (by rw [hall,hst]; simp)]) (by decide)
    generalize (plF t l2 ⟨x.i,x.n,x.k,x.x + dx,x.y + dy⟩).2 = e at *
    simp (maxSteps:=2000000) (disch:=omega) [Ab,hrx2,hlt',hn,w1,w2,b5,b7,b10,cl (gp _),he]
    exact k2
  | none =>
   have : i = xs2.length:=by have:=Adv.1 hx; omega
   subst this
   have hall2 : (xs2.all (okS t l2 dx dy)) = true:=by rw [hall,Aeg]; rfl
   rw [Adu hall2] at hE
   rw [AdQ] at hk2
   clear ih hx hi hall
   generalize hov : BV r1 (shF r2 dx dy).1 = ov at *
   generalize hsh : shF r2 dx dy = sh at *
   by_cases e3 : sh.2 = 0
   rotate_left
   ·rw [Ads e3] at hE
    have k2:=qe 5 hE.symm (by decide)
    simp (maxSteps:=2000000) (disch:=omega) [Ab,b7,b10,cl (gsh _),e3]
    exact k2
   rw [Adu e3] at hE
   rw [e3] at gsh
   have ox4 : Cv (.m x4) = true:=CF hx4
   have cx4 : Au (.m x4) = some [.m x4]:=FO hx4
   by_cases e4 : ov.2 = 0
   rotate_left
   ·rw [Ads e4] at hE
    have k2:=qe ov.2 hE.symm e4
    simp (maxSteps:=2000000) (disch:=omega) [Ab,b6,b7,b10,b15,cl (gsh _),cl (gov _),e4,ox4,cx4]
    exact k2
   rw [Adu e4] at hE
   rw [e4] at gov
   obtain ⟨z1,hz1,oz1,vz1⟩:=hk1.view
   obtain ⟨z2,hz2,oz2,vz2⟩:=hk2.view
   obtain ⟨y1,y2,y3,y4⟩:=hk1.nf
   obtain ⟨y5,y6,y7,y8⟩:=hk2.nf
   have ov4 : ov.1.length <= 5000:=by
    rw [<- hov]
    unfold BV
    split
    ·simp
    ·rw [CD]; omega
   have hA3 : RecA z1 z2 x4 (fs1 ++ fs2) (l1 ++ l2) (xs1 ++ xs2.map (mvS l1.length dx dy)) g1 ov.1:=⟨hz1,hsv,hz2,hx4,by rw [AdC]; omega,by rw [AdC,AdJ]; omega,by omega⟩
   have hcc:=fun H=>Hh hT hA3 (by have:=Cu t (l1 ++ l2) (xs1 ++ xs2.map (mvS l1.length dx dy)) g1 ov.1; omega) (by have:=Fi hS (Bh t (l1 ++ l2) (xs1 ++ xs2.map (mvS l1.length dx dy)) g1 ov.1).1 g1; omega) H
   have hvl : Ah (Mx.view 19 H2) [o1,o2,.m (.i .i64 g1),.m x4] = some [z1,z2,.i .i64 g1,x4]:=by
    simp only [Ah,vz1 17,vz2 17,Adx]
    rfl
   have gW:=Tx (F:=15) (H:=H2) rfl rfl hvl (by show (Bm o1 && (Bm o2 && true)) = true; rw [y4,y8]; rfl) hcc rfl
   obtain ⟨W,hW⟩ : ∃ W,W = mkAg [o1,o2,.m (.i .i64 g1),.m x4]:=⟨_,rfl⟩
   have hWc : Au W = some [o1,o2,.m (.i .i64 g1),.m x4]:=by rw [hW]; exact Gr _
   have hWn : AA W = true:=by rw [hW]; exact MO _
   have hWv : view 20 H2 W = some (.ag [z1,z2,.i .i64 g1,x4]):=by rw [hW]; exact Ik (k:=18) hvl
   rw [<- hW] at gW
   by_cases e5 : Bv t (l1 ++ l2) (xs1 ++ xs2.map (mvS l1.length dx dy)) g1 ov.1 = 0
   ·rw [e5] at gW hE
    have k2:=qk z1 z2 hE.symm hz1 hz2
    simp (maxSteps:=2000000) (disch:=omega) [Ab,-AE,hmT,b5,b6,b7,b10,b15,cl (gsh _),cl (gov _),hW.symm,cl gW,hWc,hWv,ox4,cx4,y3,y7]
    exact k2
   ·have k2:=qe _ hE.symm e5
    generalize Bv t (l1 ++ l2) (xs1 ++ xs2.map (mvS l1.length dx dy)) g1 ov.1 = e at *
    have hz0 : mkAg [.m (.nl 4),.m (.nl 4),.m (.i .i64 0),.m (.nl 4)] = .m (.ag [.nl 4,.nl 4,.i .i64 0,.nl 4]):=rfl
    simp (maxSteps:=2000000) (disch:=omega) [Ab,-AE,hmT,hz0,b5,b6,b7,b10,b15,cl (gsh _),cl (gov _),hW.symm,cl gW,e5,ox4,cx4]
    exact k2
 obtain ⟨x,H',g,rfl,hV⟩:=key
 exact ⟨x,hV,fun H=>AT (H:=H) (is:=[.ag [.i .i64 t.states,h,n],.ag [zs1,zx1,.i .i64 g1,vr1],.ag [zs2,zx2,.i .i64 g1,vr2],.i .i64 dx,.i .i64 dy]) rfl rfl g rfl (.inl ⟨by rcases hV with ⟨_,rfl⟩ | ⟨_,z,zx,vr,_,_,_,rfl⟩ <;> rfl,rfl⟩)⟩
end Go.Mx.Tryz
