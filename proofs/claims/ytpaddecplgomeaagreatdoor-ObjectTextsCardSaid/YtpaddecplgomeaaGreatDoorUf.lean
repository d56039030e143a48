/- ordered: walked. -/
import Derived.Test.YtpaddecplgomeaaGreatDoorYk
import Derived.Test.YtpaddecplgomeaaGreatDoorItoa
import Derived.Test.YtpaddecplgomeaaGreatDoorDec
import Derived.Test.YtpaddecplgomeaaGreatDoorStr
set_option linter.unusedSimpArgs false
set_option linter.unusedVariables false
set_option linter.unusedSectionVars false
set_option maxRecDepth 100000
namespace Go.Mx.Tryz
open Go.Lib
def Kp (H : Hp) (o : V) (H1 : Hp) (o1 : V) : Prop:=H.length <= H1.length /\ (∀ r,r < H.length -> AH o ≠ some r -> nth H1 r = nth H r) /\ ∀ r,AH o1 = some r -> AH o = some r \/ H.length <= r
theorem Kp.refl (H : Hp) (o : V) : Kp H o H o:=⟨AeA _,fun _ _ _=>rfl,fun _ h=>.inl h⟩
theorem Kp.trans {H H1 H2 : Hp} {o o1 o2 : V} (h : Kp H o H1 o1) (k : Kp H1 o1 H2 o2) : Kp H o H2 o2:=by
 obtain ⟨a1,a2,a3⟩:=h
 obtain ⟨b1,b2,b3⟩:=k
 refine ⟨by omega,fun r hr hne=>?_,fun r hr=>?_⟩
 ·rw [b2 r (by omega) fun e=>?_,a2 r hr hne]
  rcases a3 r e with h | h
  ·exact hne h
  ·omega
 ·rcases b3 r hr with h | h
  ·exact a3 r h
  ·exact .inr (by omega)
theorem LR.pushN {ty b : Nat} {xs : List I} {o : V} {H : Hp} (h : LR ty xs o H Hc) (hb : b <= 1000) {ys : List I} (hl : xs.length + ys.length <= 100000000) (ha : AaZ ys) : ∃ o1 H1,(∀ B,Gi ⟨B,H⟩ ty 1 b o (onV ys) = some (o1,⟨B,H1⟩)) /\ Ay o1 = true /\ LR ty (xs ++ ys) o1 H1 Hc /\ Kp H o H1 o1:=by
 have hmul : (xs.length + ys.length) * b <= 100000000 * 1000:=Nat.mul_le_mul hl hb
 cases ys with
 | nil =>
  refine ⟨o,H,fun B=>?_,h.nf.1,by rw [AeV]; exact h,.refl _ _⟩
  rcases h with ⟨rfl,rfl⟩ | ⟨hne,r,hr,rfl,h3⟩ <;> rfl
 | cons y t =>
  rcases h with ⟨rfl,rfl⟩ | ⟨hne,r,hr,rfl,h3⟩
  ·refine ⟨.sl H.length (y :: t).length 1 0 (y :: t).length false,H ++ [.cs ty 1 (onV (y :: t)) 0 false],fun B=>?_,rfl,.inr ⟨by simp,H.length,Afv,rfl,Dd H _ 0⟩,by simp,fun r hr _=>BF _ _ _ hr,fun r hr=>.inr (by cases hr; exact AeA _)⟩
   show BA ⟨B,H⟩ ty 1 b (onV (y :: t)) = _
   rw [CJ,Ie ha,Dj]
   have : Nat.ble ((y :: t).length * b) 140737488355328 = true:=by
    rw [Bd]
    refine AeS ?_
    simp only [Afo,AfC] at hmul
    omega
   rw [this]
   rfl
  ·have ha2:=fun B=>Fk (M:=⟨B,H⟩) (bytes:=b) (xs:=onV (y :: t)) h3 (by simp [onV]) (by simp only [Dj]; omega) (Ie ha)
   simp only [Dj,Na] at ha2
   have el : xs.length + (y :: t).length = (xs ++ y :: t).length:=by simp
   rw [el] at ha2
   refine ⟨_,_,ha2,rfl,.inr ⟨by simp,r,Afv,rfl,AO (AJ h3)⟩,by simp,fun q hq hne2=>Ar fun e=>?_,fun q hq=>.inl hq⟩
   subst e
   exact hne2 rfl
def bI (s : List Nat) : List I:=s.map fun c : Nat=>.i .u8 (c : Int)
@[simp] theorem Py (s : List Nat) : (bI s).length = s.length:=by simp [bI]
theorem Pz (s t : List Nat) : bI s ++ bI t = bI (s ++ t):=by simp [bI]
theorem JW (s : List Nat) : AaZ (bI s):=fun x hx=>by
 obtain ⟨y,_,rfl⟩:=AeU.1 hx
 rfl
theorem AdG (s : List Nat) : (s.map fun c : Nat=>[V.m (.i .u8 (c : Int))]) = onV (bI s):=by simp [onV,bI]
theorem Te : ∀ (d : List UInt8),d.map Lq = onV (bI (d.map UInt8.toNat))
 | []=>rfl
 | c :: r=>by
  show Lq c :: r.map Lq = _
  rw [Te r]
  rfl
theorem Pt : ∀ (s : List Nat),(∀ c,c ∈ s -> c < 256) -> Cd (onV (bI s)) = some s
 | [],_=>rfl
 | c :: r,h=>by
  show gd (Nat.blt c 256) ((Cd (onV (bI r))).bind fun l=>some (c :: l)) = _
  rw [Gh,AeS (h c (by simp)),Pt r fun x hx=>h x (by simp [hx])]
  rfl
theorem Adu (nd : Nat) (h : nd <= 24) : ([[V.m (.i .u8 0)],[V.m (.i .u8 0)],[V.m (.i .u8 0)],[V.m (.i .u8 0)],[V.m (.i .u8 0)],[V.m (.i .u8 0)],[V.m (.i .u8 0)],[V.m (.i .u8 0)],[V.m (.i .u8 0)],[V.m (.i .u8 0)],[V.m (.i .u8 0)],[V.m (.i .u8 0)],[V.m (.i .u8 0)],[V.m (.i .u8 0)],[V.m (.i .u8 0)],[V.m (.i .u8 0)],[V.m (.i .u8 0)],[V.m (.i .u8 0)],[V.m (.i .u8 0)],[V.m (.i .u8 0)],[V.m (.i .u8 0)],[V.m (.i .u8 0)],[V.m (.i .u8 0)],[V.m (.i .u8 0)]] : List (List V)) = Er [] (Array.replicate nd 0) (List.replicate (24 - nd) [.m (.i .u8 0)]):=by
 unfold Er
 have : (Array.replicate nd (0 : UInt8)).toList.map Lq = List.replicate nd [.m (.i .u8 0)]:=by simp [Lq]
 rw [this,List.replicate_append_replicate]
 rw [show nd + (24 - nd) = 24 by omega]
 rfl
theorem Aep {H : Hp} {s : List Nat} {o : V} (h : LR 5 (bI s) o H Hc) (hl : s.length <= 1000000) (u : Nat) (hu : u < 18446744073709551616) :
  ∃ o1 H1,Gives G 228 [o,.m (.i .u64 u),.m (.i .i64 10)] H o1 H1 /\ Ay o1 = true /\ LR 5 (bI (s ++ BQ u)) o1 H1 Hc /\ Kp H o H1 o1:=by
 have hd:=GZ u hu
 have hnf:=h.nf
 by_cases h100 : u < 100
 ·have g:=ON u h100
  have h100' : (u : Int) < 100:=by omega
  obtain ⟨o1,H1,ha,n1,l1,k1⟩:=h.pushN (b:=1) (by omega) (ys:=bI (BQ u)) (by simp only [Py]; omega) (JW _)
  rw [Pz] at l1
  refine ⟨o1,H1,?_,n1,l1,k1⟩
  have w : wr .i64 (u : Int) = u:=Xw u (by omega)
  rw [<- AdG] at ha
  refine .of_ret (AR mono rfl rfl rfl ?_ rfl ?_)
  ·simp [hnf.1]
  ·simp [h100',w,cl (g _),ha,Ag n1,n1]
 ·have h100' : ¬ (u : Int) < 100:=by omega
  have hnd:=nDigits_le20 u (by omega)
  have hnp:=nDigits_pos u
  obtain ⟨d',v',hi,g2⟩:=Aea [] (List.replicate (24 - nDigits u) [.m (.i .u8 0)]) (Array.replicate (nDigits u) 0) u 24 202 0 false H [] (by simp; omega) (by simpa using lt_pow_nDigits u) (by omega) (by simpa using hnp) (by simp; omega) (by omega)
  simp only [Array.size_replicate,Afo] at hi g2
  have hf:=Oo hi
  have hsz:=hi.size
  generalize hN : nDigits u = nd at *
  have g1:=fun H=>Xc u (by omega) hu H
  simp only [hN] at g1
  have hrow:=Adu nd (by omega)
  have hb : (Er [] d' (List.replicate (24 - nd) [.m (.i .u8 0)])).take nd = onV (bI (BQ u)):=by
   have:=Ix [] d' (List.replicate (24 - nd) [V.m (.i .u8 0)])
   simp only [Afo,hsz,List.drop_zero] at this
   rw [this,Te,hf]
  have h2 : LR 5 (bI s) o (H ++ [Row.cs 202 1 (Er [] d' (List.replicate (24 - nd) [.m (.i .u8 0)])) 24 false]) Hc:=h.keepR fun r _ hr=>BF _ _ _ hr
  obtain ⟨o1,H1,ha,n1,l1,k1⟩:=h2.pushN (b:=1) (by omega) (ys:=bI (BQ u)) (by simp only [Py]; omega) (JW _)
  rw [Pz] at l1
  refine ⟨o1,H1,?_,n1,l1,?_⟩
  ·have e1 : ¬ nd = 24:=by omega
   have e2 : nd + (24 - nd) = 24:=by omega
   have e3 : (nd : Int) <= 24:=by omega
   refine .of_ret (AR mono rfl rfl rfl ?_ rfl ?_)
   ·simp [hnf.1]
   ·simp [h100',cl (g1 _),hrow,e1,e2,e3,cl g2,hsz,hb,ha,CO,Au,Ag n1,n1]
  ·obtain ⟨a1,a2,a3⟩:=k1
   simp only [AeD,AfE] at a1 a2 a3
   exact ⟨by omega,fun r hr hne=>by rw [a2 r (by omega) hne]; exact BF _ _ _ hr,fun r hr=>(a3 r hr).imp_right fun h=>by omega⟩
theorem Aeq {H : Hp} {s : List Nat} {o : V} (h : LR 5 (bI s) o H Hc) (hl : s.length <= 900000) (n : Int) (h0 : -4611686018427387904 <= n) (h1 : n <= 4611686018427387904) :
  ∃ o1 H1,Gives G 194 [o,.m (.i .i64 n),.m (.i .i64 10)] H o1 H1 /\ Ay o1 = true /\ LR 5 (bI (s ++ AN n)) o1 H1 Hc /\ Kp H o H1 o1:=by
 have hnf:=h.nf
 have key : ∃ o1 H1,Gives G 214 [o,.m (.i .i64 n),.m (.i .i64 10)] H o1 H1 /\ Ay o1 = true /\ LR 5 (bI (s ++ AN n)) o1 H1 Hc /\ Kp H o H1 o1:=by
  by_cases hn : n < 0
  ·have en : AN n = 45 :: BQ n.natAbs:=by
    have:=BO n.natAbs (by omega)
    rwa [show -((n.natAbs : Nat) : Int) = n by omega] at this
   have hneg : wr .u64 (-wr .u64 n) = (n.natAbs : Int):=by rw [CE,CE]; omega
   obtain ⟨o2,H2,ha,n2,l2,k2⟩:=h.pushN (b:=1) (by omega) (ys:=bI [45]) (by simp only [Py,AfE]; omega) (JW _)
   rw [Pz] at l2
   obtain ⟨o1,H1,g,n1,l1,k1⟩:=Aep l2 (by simp; omega) n.natAbs (by omega)
   rw [AeJ,AfK,<- en] at l1
   refine ⟨o1,H1,?_,n1,l1,k2.trans k1⟩
   refine .of_ret (AR mono rfl rfl rfl ?_ rfl ?_)
   ·simp [hnf.1]
   ·have hb : onV (bI [45]) = [[V.m (.i .u8 45)]]:=rfl
    rw [hb] at ha
    simp [hn,hneg,ha,cl g,Ag n2,Ag n1,n1]
  ·have ep : AN n = BQ n.natAbs:=by
    have:=Bg n.natAbs
    rwa [show ((n.natAbs : Nat) : Int) = n by omega] at this
   have hpos : wr .u64 n = (n.natAbs : Int):=by rw [CE]; omega
   obtain ⟨o1,H1,g,n1,l1,k1⟩:=Aep h (by omega) n.natAbs (by omega)
   rw [<- ep] at l1
   refine ⟨o1,H1,?_,n1,l1,k1⟩
   refine .of_ret (AR mono rfl rfl rfl ?_ rfl ?_)
   ·simp [hnf.1]
   ·simp [hn,hpos,cl g,Ag n1,n1]
 obtain ⟨o1,H1,g,n1,l1,k1⟩:=key
 refine ⟨o1,H1,?_,n1,l1,k1⟩
 refine .of_ret (AR mono rfl rfl rfl ?_ rfl ?_)
 ·simp [hnf.1]
 ·simp [cl g,Ag n1,n1]
open Go.Proofs
theorem VL {z y : I} {c d : List Int} (hz : IsSl z (Dk c)) (hy : IsSl y (Dk d)) (hc : c.length <= 9223372036854775807) (H : Hp) : Gives G 175 [.m z,.m y] H (.m (.b (decide (c = d)))) H:=by
 have rx:=hz.rules
 have ry:=hy.rules
 simp only [Db] at rx ry
 refine Ah rfl rfl rfl rfl rfl ?_
 generalize hE : decide (c = d) = E
 have no : c ≠ d -> E = false:=fun h=>by rw [<- hE]; exact Afn h
 by_cases u2 : c.length = d.length
 case neg =>
  have k:=no fun e=>u2 (by rw [e])
  have u2' : ¬ (c.length : Int) = d.length:=by omega
  simp (disch:=omega) [rx,ry,u2',k]
 simp (disch:=omega) [rx,ry,u2]
 refine (?key : ∀ (j : Nat) (B : List (Nat × List V)),j <= d.length -> c.take j = d.take j -> Run G c175_B0 (S175_0 (.m z) (.m y) (.m (.i .i64 (j : Int))) B []) _) 0 _ (AeK _) rfl
 refine BP (fun j : Nat=>d.length - j) fun j ih B hj hX=>?_
 unfold c175_B0
 cases hv : d[j]? with
 | none =>
  have : j = d.length:=by have:=AeM.1 hv; omega
  subst this
  rw [AfF,<- u2,AfF] at hX
  have k : E = true:=by rw [<- hE]; exact AeS hX
  simp (disch:=omega) [rx,u2,k]
 | some w =>
  have hltj:=(Aey.1 hv).1
  have hltj' : (j : Int) < d.length:=by omega
  obtain ⟨v,hp2⟩ : ∃ v,c[j]? = some v:=⟨c[j],AeC (by omega)⟩
  have m1:=JG hp2
  have m2:=JG hv
  have wj : wr .i64 ((j : Int) + 1) = ((j + 1 : Nat) : Int):=wr_i64 (by omega) (by omega)
  by_cases e : v = w
  ·have k:=ih (j + 1) (by omega) B (by omega) (VG hX hp2 hv e)
   subst e
   simp (disch:=omega) [rx,ry,u2,hltj',m1,m2,wj,-Int.natCast_add]
   exact k
  ·have k:=no fun h=>e (by have:=congrArg (fun l=>l[j]?) h; simp only [hp2,hv] at this; exact Afu this)
   simp (disch:=omega) [rx,ry,u2,hltj',m1,m2,e,k,-Int.natCast_add]
end Go.Mx.Tryz
namespace Go.Mx.Tryz
def LW (ty : Nat) (xs : List I) (o : V) (H : Hp) (ok : Nat -> Prop) : Prop:=(xs = [] /\ (o = .m (.nl 4) \/ o = .ls [])) \/
 ∃ (r : Nat) (es : List I) (base : Nat) (lim : Bool),ok r /\ o = .sl r es.length 1 0 xs.length lim /\ nth H r = some (.cs ty 1 (onV es) base false) /\ base <= es.length /\ xs.length <= es.length /\ es.take xs.length = xs
theorem VF {xs es : List I} (h : es.take xs.length = xs) {i : Nat} {x : I} (hx : xs[i]? = some x) : es[i]? = some x:=by
 have hlt:=(Aey.1 hx).1
 have e : (es.take xs.length)[i]? = some x:=by rw [h]; exact hx
 rwa [Afe,AeB hlt] at e
theorem LW.rd {ty : Nat} {xs : List I} {o : V} {H : Hp} {ok : Nat -> Prop} (h : LW ty xs o H ok) {i : Nat} {x : I} (hx : xs[i]? = some x) : ∃ p,Aj (.ixa 1) [o,.m (.i .i64 (i : Int))] = some p /\ Ay p = true /\ ∀ B,readX ⟨B,H⟩ (.ld false 1) [p] = some (.m x):=by
 have hlt:=(Aey.1 hx).1
 rcases h with ⟨rfl,_⟩ | ⟨r,es,base,lim,hr,rfl,h3,h4,h5,h6⟩
 ·simp at hlt
 ·have hge:=VF h6 hx
  refine ⟨.pt r es.length i 0,?_,rfl,fun B=>?_⟩
  ·simp (disch:=omega) []
  ·have e : readX ⟨B,H⟩ (.ld false 1) [V.pt r es.length i 0] = (readA ⟨B,H⟩ 1 (V.pt r es.length i 0)).bind fun cs=>CV false cs:=rfl
   simp (disch:=omega) [gd_and,Ck hge,h3,h4]
theorem LW.elems {ty : Nat} {xs : List I} {o : V} {H : Hp} {ok : Nat -> Prop} (h : LW ty xs o H ok) : Mx.elems H o = some (onV xs):=by
 rcases h with ⟨rfl,rfl | rfl⟩ | ⟨r,es,base,lim,hr,rfl,h3,h4,h5,h6⟩
 ·rfl
 ·rfl
 ·rw [CO,h3]
  show gd (Nat.ble base es.length && Nat.beq 1 1) (some (((onV es).drop 0).take xs.length)) = _
  rw [Bd,AeS h4,ZC,List.drop_zero,h6]
  rfl
theorem LW.view {ty : Nat} {xs : List I} {o : V} {H : Hp} {ok : Nat -> Prop} (h : LW ty xs o H ok) (k : Nat) : ∃ z,Mx.view (k + 2) H o = some z /\ IsSl z (on1 xs) /\ BH (.m z) = true:=by
 have he:=h.elems
 rcases h with ⟨rfl,rfl | rfl⟩ | ⟨r,es,base,lim,hr,rfl,h3,h4,h5,h6⟩
 ·exact ⟨_,rfl,Da,rfl⟩
 ·exact ⟨_,rfl,Cg _,rfl⟩
 ·refine ⟨.sl (on1 xs),?_,Cg _,rfl⟩
  show Option.bind (Mx.elems H (.sl r es.length 1 0 xs.length lim)) _ = _
  rw [he]
  show Option.bind (Af (fun e=>Af (Mx.view (k + 1) H) e) (onV xs)) _ = _
  rw [optV]
  rfl
theorem Wg (xs : List I) : BC (on1 xs) = onV xs:=by
 unfold BC on1 onV
 rw [AfN]
 rfl
open Go.Lib
theorem Kh (u : Nat) : ∀ c,c ∈ BQ u -> 48 <= c /\ c <= 57:=by
 refine BP (P:=fun u=>∀ c,c ∈ BQ u -> 48 <= c /\ c <= 57) (fun u : Nat=>u) (fun u ih c hc=>?_) u
 by_cases h : u < 10
 ·rw [Bc h] at hc
  simp at hc
  omega
 ·rw [BL h] at hc
  rcases AfH.1 hc with h1 | h1
  ·exact ih (u / 10) (by omega) c h1
  ·simp at h1
   omega
def valU (s : List Nat) : Nat:=s.foldl (fun a c=>10 * a + (c - 48)) 0
theorem GY (u : Nat) : valU (BQ u) = u:=by
 refine BP (P:=fun u=>valU (BQ u) = u) (fun u : Nat=>u) (fun u ih=>?_) u
 by_cases h : u < 10
 ·rw [Bc h]
  show 10 * 0 + (48 + u - 48) = u
  omega
 ·rw [BL h]
  have:=ih (u / 10) (by omega)
  unfold valU at this ⊢
  rw [List.foldl_append,this]
  show 10 * (u / 10) + (48 + u % 10 - 48) = u
  omega
theorem LV {x y : Int} (h : AN x = AN y) : x = y:=by
 have hd : ∀ u v : Nat,1 <= v -> BQ u ≠ 45 :: BQ v:=fun u v _ e=>by
  have:=Kh u 45 (by rw [e]; simp)
  omega
 by_cases hx : 0 <= x
 ·obtain ⟨u,rfl⟩:=AeN hx
  rw [Bg] at h
  by_cases hy : 0 <= y
  ·obtain ⟨v,rfl⟩:=AeN hy
   rw [Bg] at h
   rw [<- GY u,h,GY]
  ·obtain ⟨v,hv⟩:=AeN (show 0 <= -y by omega)
   have : y = -(v : Int):=by omega
   subst this
   rw [BO v (by omega)] at h
   exact absurd h (hd u v (by omega))
 ·obtain ⟨u,hu⟩:=AeN (show 0 <= -x by omega)
  have : x = -(u : Int):=by omega
  subst this
  rw [BO u (by omega)] at h
  by_cases hy : 0 <= y
  ·obtain ⟨v,rfl⟩:=AeN hy
   rw [Bg] at h
   exact absurd h.symm (hd v u (by omega))
  ·obtain ⟨v,hv⟩:=AeN (show 0 <= -y by omega)
   have : y = -(v : Int):=by omega
   subst this
   rw [BO v (by omega)] at h
   have h:=(List.cons.inj h).2
   rw [<- GY u,h,GY]
theorem EE (x : Int) : ∀ c,c ∈ AN x -> c ≠ 32 /\ c < 256:=fun c hc=>by
 by_cases h : 0 <= x
 ·obtain ⟨u,rfl⟩:=AeN h
  rw [Bg] at hc
  have:=Kh u c hc
  omega
 ·obtain ⟨u,hu⟩:=AeN (show 0 <= -x by omega)
  have : x = -(u : Int):=by omega
  subst this
  rw [BO u (by omega)] at hc
  rcases AeX.1 hc with h | h
  ·omega
  ·have:=Kh u c h
   omega
def Ci (c : List Int) : List Nat:=c.flatMap fun k=>32 :: AN k
def Is (x : Nd) : List Nat:=AN x.1 ++ Ci x.2
theorem JK : ∀ {a b s t : List Nat},(∀ c,c ∈ a -> c ≠ 32) -> (∀ c,c ∈ b -> c ≠ 32) -> s.take 1 ≠ [] /\ s.take 1 = [32] \/ s = [] -> t.take 1 ≠ [] /\ t.take 1 = [32] \/ t = [] -> a ++ s = b ++ t -> a = b /\ s = t
 | [],[],s,t,_,_,_,_,h=>⟨rfl,h⟩
 | x :: a,y :: b,s,t,ha,hb,hs,ht,h=>by
  simp only [Afh,List.cons.injEq] at h
  obtain ⟨h1,h2⟩:=JK (fun c hc=>ha c (AfB _ hc)) (fun c hc=>hb c (AfB _ hc)) hs ht h.2
  exact ⟨by rw [h.1,h1],h2⟩
 | [],y :: b,s,t,_,hb,hs,_,h=>by
  have hy:=hb y (Afa ..)
  simp only [Afc,Afh] at h
  subst h
  rcases hs with ⟨_,h⟩ | h
  ·simp at h
   exact absurd h hy
  ·cases h
 | x :: a,[],s,t,ha,_,_,ht,h=>by
  have hx:=ha x (Afa ..)
  simp only [Afc,Afh] at h
  subst h
  rcases ht with ⟨_,h⟩ | h
  ·simp at h
   exact absurd h hx
  ·cases h
theorem GQ (c : List Int) : (Ci c).take 1 ≠ [] /\ (Ci c).take 1 = [32] \/ Ci c = []:=by
 cases c with
 | nil=>exact .inr rfl
 | cons k r=>exact .inl ⟨by simp [Ci],by simp [Ci]⟩
theorem LA : ∀ {c d : List Int},Ci c = Ci d -> c = d
 | [],[],_=>rfl
 | [],k :: r,h=>by simp [Ci] at h
 | k :: r,[],h=>by simp [Ci] at h
 | k :: r,j :: s,h=>by
  have h : AN k ++ Ci r = AN j ++ Ci s:=by
   have h : 32 :: (AN k ++ Ci r) = 32 :: (AN j ++ Ci s):=h
   exact (List.cons.inj h).2
  obtain ⟨h1,h2⟩:=JK (fun c hc=>(EE _ c hc).1) (fun c hc=>(EE _ c hc).1) (GQ r) (GQ s) h
  rw [LV h1,LA h2]
theorem Wc {x y : Nd} (h : Is x = Is y) : x = y:=by
 obtain ⟨h1,h2⟩:=JK (fun c hc=>(EE _ c hc).1) (fun c hc=>(EE _ c hc).1) (GQ x.2) (GQ y.2) h
 exact Prod.ext (LV h1) (LA h2)
theorem SC (c : List Int) : ∀ y,y ∈ Ci c -> y < 256:=fun y hy=>by
 obtain ⟨k,_,h⟩:=List.mem_flatMap.1 hy
 rcases AeX.1 h with h | h
 ·omega
 ·exact (EE k y h).2
theorem Wd (x : Nd) : ∀ y,y ∈ Is x -> y < 256:=fun y hy=>by
 rcases AfH.1 hy with h | h
 ·exact (EE x.1 y h).2
 ·exact SC x.2 y h
def knw : List Nd -> Nat -> List (List Nat × Int)
 | [],_=>[]
 | x :: r,i=>(Is x,(i : Int)) :: knw r (i + 1)
theorem Kc : ∀ (l : List Nd) (i : Nat) (x : Nd),Dg (knw l i) (Is x) = ((l.idxOf? x).map fun k=>((i + k : Nat) : Int))
 | [],i,x=>rfl
 | y :: r,i,x=>by
  have e : Dg (knw (y :: r) i) (Is x) = if Is y = Is x then some (i : Int) else Dg (knw r (i + 1)) (Is x):=rfl
  rw [e,List.idxOf?_cons]
  by_cases h : y = x
  ·subst h
   rw [AeB rfl,AeB (by simp)]
   rfl
  ·rw [Aex fun k=>h (Wc k),Aex (by simpa using h),Kc r (i + 1) x]
   cases r.idxOf? x with
   | none=>rfl
   | some k =>
    show some _ = some _
    congr 1
    simp only
    omega
theorem Pd : ∀ (l : List Nd) (i : Nat) (x : Nd),knw (l ++ [x]) i = knw l i ++ [(Is x,((i + l.length : Nat) : Int))]
 | [],i,x=>rfl
 | y :: r,i,x=>by
  show (Is y,(i : Int)) :: knw (r ++ [x]) (i + 1) = _
  rw [Pd r (i + 1) x]
  simp only [AeZ,knw,Afh]
  rw [show i + 1 + r.length = i + (r.length + 1) by omega]
theorem ZR {l : List Nd} {x : Nd} (h : l.idxOf? x = none) : Mw (knw l 0) (Is x) ((l.length : Nat) : Int) = knw (l ++ [x]) 0:=by
 rw [Pd,UU,AfC]
 rw [<- PW,Kc,h]
 rfl
def En (l : List Nd) (x : Nd) : List Nd × Nat:=match l.idxOf? x with
 | some k=>(l,k)
 | none=>(l ++ [x],l.length)
theorem PC (l : List Nd) (x : Nd) : l.length <= (En l x).1.length /\ (En l x).1.length <= l.length + 1:=by
 unfold En
 split <;> simp
def L2 (es : List (List I)) (o : V) (H : Hp) : Prop:=(es = [] /\ o = .m (.nl 4)) \/ (es ≠ [] /\ ∃ r,o = .sl r es.length 2 0 es.length false /\ nth H r = some (.cs 94 2 (BC es) 0 false))
theorem immS_len (es : List (List I)) : (BC es).length = es.length:=by simp [BC]
theorem L2.nf {es : List (List I)} {o : V} {H : Hp} (h : L2 es o H) : Ay o = true /\ Ap o = some [o] /\ BH o = true /\ Aj (.len false) [o] = some (.m (.i .i64 (es.length : Nat))):=by
 rcases h with ⟨rfl,rfl⟩ | ⟨hne,r,rfl,h3⟩
 ·exact ⟨rfl,rfl,rfl,rfl⟩
 ·exact ⟨rfl,rfl,rfl,rfl⟩
theorem L2.keep {es : List (List I)} {o : V} {H H' : Hp} (h : L2 es o H) (hk : ∀ r,AH o = some r -> r < H.length -> nth H' r = nth H r) : L2 es o H':=by
 rcases h with h | ⟨hne,r,rfl,h3⟩
 ·exact .inl h
 ·exact .inr ⟨hne,r,rfl,by rw [hk r rfl (AJ h3)]; exact h3⟩
theorem L2.row_lt {es : List (List I)} {o : V} {H : Hp} (h : L2 es o H) {r : Nat} (e : AH o = some r) : r < H.length:=by
 rcases h with ⟨_,rfl⟩ | ⟨hne,q,rfl,h3⟩
 ·cases e
 ·cases e
  exact AJ h3
theorem L2.row {es : List (List I)} {o : V} {H : Hp} (h : L2 es o H) {r : Nat} (e : AH o = some r) : nth H r = some (.cs 94 2 (BC es) 0 false):=by
 rcases h with ⟨_,rfl⟩ | ⟨hne,q,rfl,h3⟩
 ·cases e
 ·cases e
  exact h3
theorem L2.push {es : List (List I)} {o : V} {H : Hp} (h : L2 es o H) {l : Int} {z : I} (hz : BH (.m z) = true) (hl : es.length <= 100000000) : ∃ o1 H1,(∀ B,Ai (fun _ _ _=>none) ⟨B,H⟩ (.app 94 2 32) [o,.ls [[.i .i64 l,z]]] = some (o1,⟨B,H1⟩)) /\ Ay o1 = true /\ L2 (es ++ [[.i .i64 l,z]]) o1 H1 /\ Kp H o H1 o1:=by
 have hok : ((BC [[.i .i64 l,z]]).all fun e=>Nat.beq e.length 2 && e.all BH) = true:=by
  have h1 : BH (.m (.i .i64 l)) = true:=rfl
  simp [BC,hz,h1]
 rcases h with ⟨rfl,rfl⟩ | ⟨hne,r,rfl,h3⟩
 ·refine ⟨.sl H.length 1 2 0 1 false,H ++ [.cs 94 2 (BC [[.i .i64 l,z]]) 0 false],fun B=>(Cl rfl).trans ?_,rfl,.inr ⟨by simp,H.length,rfl,Dd H _ 0⟩,by simp,fun r hr _=>BF _ _ _ hr,fun r hr=>.inr (by cases hr; exact AeA _)⟩
  show BA ⟨B,H⟩ 94 2 32 (BC [[.i .i64 l,z]]) = _
  rw [CJ,hok]
  rfl
 ·have ha2:=fun B=>Fk (M:=⟨B,H⟩) (bytes:=32) (xs:=BC [[.i .i64 l,z]]) h3 (by simp [BC]) (by simp only [immS_len,AfE]; omega) hok
  have e2 : BC es ++ BC [[.i .i64 l,z]] = BC (es ++ [[.i .i64 l,z]]):=by simp [BC]
  simp only [immS_len,e2] at ha2
  have el : es.length + [[I.i .i64 l,z]].length = (es ++ [[.i .i64 l,z]]).length:=by simp
  rw [el] at ha2
  refine ⟨_,_,fun B=>(Cl rfl).trans (ha2 B),rfl,.inr ⟨by simp,r,rfl,AO (AJ h3)⟩,by simp,fun q hq hne2=>Ar fun e=>?_,fun q hq=>.inl hq⟩
  subst e
  exact hne2 rfl
theorem L2.elems {es : List (List I)} {o : V} {H : Hp} (h : L2 es o H) : Mx.elems H o = some (BC es):=by
 rcases h with ⟨rfl,rfl⟩ | ⟨hne,r,rfl,h3⟩
 ·rfl
 ·rw [CO,h3]
  show gd (Nat.ble 0 es.length && Nat.beq 2 2) (some (((BC es).drop 0).take es.length)) = _
  rw [Bd,AeS (AeK _),List.drop_zero,AeR (by rw [immS_len]; exact AeA _)]
  rfl
theorem rd2 {es : List (List V)} {i : Nat} {a b : V} (h : nth es i = some [a,b]) : CX 2 es i 0 2 = some [a,b] /\ CX 2 es i 0 1 = some [a] /\ CX 2 es i 1 1 = some [b]:=by
 refine ⟨?_,?_,?_⟩ <;>
 ·show Option.bind (nth es (i + 0)) _ = _
  rw [Nat.add_zero,h]
  rfl
theorem L2.rd {es : List (List I)} {o : V} {H : Hp} (h : L2 es o H) {i : Nat} {x : Int} {z : I} (hx : es[i]? = some [.i .i64 x,z]) : ∃ p q,Aj (.ixa 2) [o,.m (.i .i64 (i : Int))] = some p /\ Ay p = true /\ (∀ B,readX ⟨B,H⟩ (.ld true 2) [p] = some (.m (.ag [.i .i64 x,z]))) /\ (∃ p0,Aj (.fad 0) [p] = some p0 /\ Ay p0 = true /\ ∀ B,readX ⟨B,H⟩ (.ld false 1) [p0] = some (.m (.i .i64 x))) /\ Aj (.fad 1) [p] = some q /\ Ay q = true /\ ∀ B,readX ⟨B,H⟩ (.ld false 1) [q] = some (.m z):=by
 have hlt:=(Aey.1 hx).1
 have hn : nth (BC es) i = some [.m (.i .i64 x),.m z]:=by
  rw [AB]
  simp [BC,hx]
 rcases h with ⟨rfl,rfl⟩ | ⟨hne,r,rfl,h3⟩
 ·simp at hlt
 ·refine ⟨.pt r es.length i 0,.pt r es.length i 1,?_,rfl,fun B=>?_,⟨.pt r es.length i 0,rfl,rfl,fun B=>?_⟩,rfl,rfl,fun B=>?_⟩
  ·simp (disch:=omega) []
  ·simp (disch:=omega) [gd_and,rd2 hn,h3,Bp]
  ·simp (disch:=omega) [gd_and,rd2 hn,h3]
  ·simp (disch:=omega) [gd_and,rd2 hn,h3]
def IR (c : List Int) (o : V) (H : Hp) : Prop:=∃ r base lim,o = .sl r c.length 1 0 c.length lim /\ nth H r = some (.cs 3 1 (onV (iI c)) base false) /\ base <= c.length
theorem IR.toLW {c : List Int} {o : V} {H : Hp} (h : IR c o H) : LW 3 (iI c) o H Hc:=by
 obtain ⟨r,base,lim,rfl,h3,h4⟩:=h
 exact .inr ⟨r,iI c,base,lim,Afv,by rw [CR],h3,by rw [CR]; exact h4,AeA _,AfF⟩
theorem IR.keep {c : List Int} {o : V} {H H' : Hp} (h : IR c o H) (hk : ∀ r,AH o = some r -> r < H.length -> nth H' r = nth H r) : IR c o H':=by
 obtain ⟨r,base,lim,rfl,h3,h4⟩:=h
 exact ⟨r,base,lim,rfl,by rw [hk r rfl (AJ h3)]; exact h3,h4⟩
theorem IR.bsf {c : List Int} {o : V} {H : Hp} (h : IR c o H) (l : Int) : ∃ z H2,(∀ B,Ai (fun _ _ _=>none) ⟨B,H⟩ (.bsf 2 [.m (.i .i64 0),.m (.nl 4)] 1 [0]) [.ag [.m (.i .i64 l),o]] = some (.ls [[.i .i64 l,z]],⟨B,H2⟩)) /\ IsSl z (Dk c) /\ BH (.m z) = true /\ H2.length = H.length /\ ∀ r,AH o ≠ some r -> nth H2 r = nth H r:=by
 obtain ⟨z,hv,hz,hz1⟩:=h.toLW.view 18
 obtain ⟨r,base,lim,rfl,h3,h4⟩:=h
 rw [LK] at hz
 refine ⟨z,H.set r (.cs 3 1 (onV (iI c)) base true),fun B=>?_,hz,hz1,by simp,fun q hq=>Ar fun e=>hq (by rw [e]; rfl)⟩
 have e : Ai (fun _ _ _=>none) ⟨B,H⟩ (.bsf 2 [.m (.i .i64 0),.m (.nl 4)] 1 [0]) [.ag [.m (.i .i64 l),.sl r c.length 1 0 c.length lim]] = ((Af (fun e=>Af (Mx.view 20 H) e) [[V.m (.i .i64 l),V.sl r c.length 1 0 c.length lim]]).bind fun l=>(AS [r] H).bind fun H'=>some (.ls l,⟨B,H'⟩)):=rfl
 have hv0 : Mx.view 20 H (.m (.i .i64 l)) = some (.i .i64 l):=rfl
 rw [e,TG h3]
 simp only [Af,hv,hv0,AeE]
theorem IR.nf {c : List Int} {o : V} {H : Hp} (h : IR c o H) : Ay o = true /\ Ap o = some [o] /\ Aj (.len false) [o] = some (.m (.i .i64 (c.length : Nat))):=by
 obtain ⟨r,base,lim,rfl,h3,h4⟩:=h
 exact ⟨rfl,rfl,rfl⟩
theorem IR.row {c : List Int} {o : V} {H : Hp} (h : IR c o H) {r : Nat} (e : AH o = some r) : ∃ base,nth H r = some (.cs 3 1 (onV (iI c)) base false):=by
 obtain ⟨q,base,lim,rfl,h3,h4⟩:=h
 cases e
 exact ⟨base,h3⟩
def Km (es : List (List I)) : Prop:=∀ e,e ∈ es -> ∃ (x : Int) (z : I),e = [.i .i64 x,z] /\ IsSl z (Dk (dIn z))
structure BldQ (rb rm : Nat) (es : List (List I)) (o : V) (H : Hp) : Prop where
 hb : ∃ base,base <= 1 /\ nth H rb = some (.cs 186 2 [[o,.mp rm]] base false)
 hm : nth H rm = some (mpR ekS evI (knw (es.map dNd) 0))
 hn : L2 es o H
 ok : Km es
def KpB (rb rm : Nat) (o : V) (H : Hp) (o' : V) (H' : Hp) (nx : V) : Prop:=H.length <= H'.length /\ (∀ r,r < H.length -> r ≠ rb -> r ≠ rm -> AH o ≠ some r -> AH nx ≠ some r -> nth H' r = nth H r) /\ ∀ r,AH o' = some r -> AH o = some r \/ H.length <= r
theorem BldQ.keep {rb rm : Nat} {es : List (List I)} {o : V} {H H' : Hp} (h : BldQ rb rm es o H) (hk : ∀ r,r < H.length -> nth H' r = nth H r) : BldQ rb rm es o H':=by
 obtain ⟨⟨b,hb0,hb⟩,hm,hn,ok⟩:=h
 exact ⟨⟨b,hb0,by rw [hk _ (AJ hb)]; exact hb⟩,by rw [hk _ (AJ hm)]; exact hm,hn.keep fun r _ hr=>hk r hr,ok⟩
theorem Lz : ∀ (c : List Int),(∀ k,k ∈ c -> -1000000000 <= k /\ k <= 1000000000) -> (Ci c).length <= 22 * c.length
 | [],_=>by simp [Ci]
 | k :: r,h=>by
  have h1:=h k (Afa ..)
  have h2:=Lz r fun x hx=>h x (AfB _ hx)
  have h3:=FK k (by omega) (by omega)
  have e : Ci (k :: r) = (32 :: AN k) ++ Ci r:=rfl
  rw [e,AeD,AeZ,AeZ]
  omega
theorem Qm {c : List Int} {i : Nat} {k : Int} (h : c[i]? = some k) : Ci (c.take (i + 1)) = Ci (c.take i) ++ (32 :: AN k):=by
 have : c.take (i + 1) = c.take i ++ [k]:=by rw [List.take_add_one,h]; rfl
 rw [this]
 unfold Ci
 rw [List.flatMap_append]
 simp
theorem Zy (a b : V) : CX 2 [[a,b]] 0 0 1 = some [a]:=rfl
theorem Adw (a b : V) : CX 2 [[a,b]] 0 1 1 = some [b]:=rfl
theorem TN {x : Int} {z : I} {c : List Int} (h : IsSl z (Dk c)) : dNd [.i .i64 x,z] = (x,c):=by
 have : dIn z = c:=by
  rcases h with rfl | ⟨rfl,h0⟩
  ·show (Dk c).map dEn = c
   unfold Dk
   rw [AfN]
   exact List.map_id'' (fun _=>rfl) c
  ·have : c = []:=by simpa [Dk] using h0
   subst this
   rfl
 show (x,dIn z) = _
 rw [this]
set_option maxHeartbeats 4000000 in
theorem Tj {rb rm : Nat} {es : List (List I)} {o : V} {H : Hp} (hB : BldQ rb rm es o H) {l : Int} {c : List Int} {nx : V} (hx : IR c nx H) (hl : -1000000000 <= l /\ l <= 1000000000) (hc : ∀ k,k ∈ c -> -1000000000 <= k /\ k <= 1000000000) (hcl : c.length <= 100) (hel : es.length <= 100000000)
  (Q : V -> Hp -> Prop) (hQ : ∀ es' o' H',BldQ rb rm es' o' H' -> es'.map dNd = (En (es.map dNd) (l,c)).1 -> KpB rb rm o H o' H' nx -> Q (.m (.i .i64 ((En (es.map dNd) (l,c)).2 : Nat))) H') :
  Ret G 160 [.pt rb 1 0 0,.m (.i .i64 l),nx] H Q:=by
 have hxn:=hx.nf
 refine AR mono rfl rfl rfl (by simp [hxn.1]) rfl ?_
 obtain ⟨o0,H0,g0,n0,l0,k0⟩:=Aeq (H:=H) (s:=[]) (o:=.m (.nl 4)) .nil (by simp) l (by omega) (by omega)
 rw [Afc] at l0
 simp (disch:=omega) [cl g0,Ag n0,Ag hxn.1,hxn.2.2]
 refine (?key : ∀ (i : Nat) (oi : V) (B : List (Nat × List V)) (Hi : Hp),i <= c.length -> LR 5 (bI (AN l ++ Ci (c.take i))) oi Hi Hc -> Kp H (.m (.nl 4)) Hi oi ->
  Run G c160_B0 (S160_0 (.pt rb 1 0 0) (.m (.i .i64 l)) nx oi nx (.m (.i .i64 (c.length : Int))) (.m (.i .i64 (i : Int))) B Hi) _) 0 o0 [] H0 (AeK _) (by simpa [Ci] using l0) k0
 clear g0 n0 l0 k0 o0 H0
 refine BP (fun i : Nat=>c.length - i) fun i ih oi B Hi hi li ki=>?_
 unfold c160_B0
 have hxi : IR c nx Hi:=hx.keep fun r _ hr=>ki.2.1 r hr (by simp [AH])
 have hil:=FK l (by omega) (by omega)
 have htl:=Lz (c.take i) fun k hk=>hc k (List.mem_of_mem_take hk)
 have htk : (c.take i).length <= c.length:=by rw [AeQ]; omega
 have hoi:=li.nf
 cases hk : c[i]? with
 | some k =>
  have hlt : i < c.length:=(Aey.1 hk).1
  have hlt' : (i : Int) < c.length:=by omega
  have hkb:=hc k (AeI hk)
  obtain ⟨p,p1,p2,p3⟩:=hxi.toLW.rd (CS hk)
  obtain ⟨o1,H1,ha,n1,l1,k1⟩:=li.pushN (b:=1) (by omega) (ys:=bI [32]) (by simp only [Py,AeD,AfE]; omega) (JW _)
  rw [Pz] at l1
  obtain ⟨o2,H2,g2,n2,l2,k2⟩:=Aeq l1 (by simp only [AeD,AfE]; omega) k (by omega) (by omega)
  have e2 : AN l ++ Ci (c.take i) ++ [32] ++ AN k = AN l ++ Ci (c.take (i + 1)):=by rw [Qm hk]; simp
  rw [e2] at l2
  have kk:=fun B=>ih (i + 1) (by omega) o2 B H2 (by omega) l2 ((ki.trans k1).trans k2)
  have hb : onV (bI [32]) = [[V.m (.i .u8 32)]]:=rfl
  rw [hb] at ha
  have wi : wr .i64 ((i : Int) + 1) = ((i + 1 : Nat) : Int):=wr_i64 (by omega) (by omega)
  simp (disch:=omega) [hlt',p1,p3,ha,cl g2,Ag n2,wi]
  exact kk _
 | none =>
  have : i = c.length:=by have:=AeM.1 hk; omega
  subst this
  have hlt' : ¬ (c.length : Int) < c.length:=by omega
  rw [AfF] at li
  have ek : AN l ++ Ci c = Is (l,c):=rfl
  rw [ek] at li
  have hB2 : BldQ rb rm es o Hi:=hB.keep fun r hr=>ki.2.1 r hr (by simp [AH])
  have hb2 : ∀ (H : Hp) B,LR 5 (bI (Is (l,c))) oi H Hc -> readX ⟨B,H⟩ .b2s [oi] = some (.m (.s (Is (l,c)))):=fun H B li=>by rw [SK,li.elems]; simp only [AeE]; rw [Pt _ (Wd _)]; rfl
  have hb3:=fun B=>hb2 Hi B li
  obtain ⟨⟨b,hb0,hb⟩,hm,hn,hok⟩:=id hB2
  have hfind:=Kc (es.map dNd) 0 (l,c)
  cases hf : (es.map dNd).idxOf? (l,c) with
  | some k =>
   have ha : En (es.map dNd) (l,c) = (es.map dNd,k):=by unfold En; rw [hf]
   rw [hf] at hfind
   simp only [Afw,AfC] at hfind
   have kk:=hQ es o Hi hB2 (by rw [ha]) ⟨ki.1,fun r hr _ _ _ _=>ki.2.1 r hr (by simp [AH]),fun r hr=>.inl hr⟩
   rw [ha] at kk
   simp (disch:=omega) [gd_and,hlt',hb,hb0,hm,Adw,hb3,hfind]
   exact kk
  | none =>
   have ha : En (es.map dNd) (l,c) = (es.map dNd ++ [(l,c)],es.length):=by unfold En; rw [hf]; simp
   rw [hf] at hfind
   simp only [Option.map_none] at hfind
   have hon:=hn.nf
   have d1 : ∀ r,AH nx = some r -> AH o = some r -> False:=fun r e1 e2=>by
    obtain ⟨_,q1⟩:=hxi.row e1
    have q2:=hn.row e2
    rw [q1] at q2
    simp at q2
   have d2 : AH nx ≠ some rb:=fun e1=>by
    obtain ⟨_,q1⟩:=hxi.row e1
    rw [q1] at hb
    simp at hb
   have d3 : AH nx ≠ some rm:=fun e1=>by
    obtain ⟨_,q1⟩:=hxi.row e1
    rw [q1] at hm
    simp [mpR] at hm
   have d4 : AH o ≠ some rb:=fun e1=>by
    have q2:=hn.row e1
    rw [q2] at hb
    simp at hb
   have d5 : AH o ≠ some rm:=fun e1=>by
    have q2:=hn.row e1
    rw [q2] at hm
    simp [mpR] at hm
   have d6 : rb ≠ rm:=fun e1=>by
    subst e1
    rw [hb] at hm
    simp [mpR] at hm
   have d7 : ∀ r,AH oi = some r -> AH nx ≠ some r /\ AH o ≠ some r /\ r ≠ rb /\ r ≠ rm:=fun r e1=>by
    have q:=li.row e1
    refine ⟨fun e2=>?_,fun e2=>?_,fun e2=>?_,fun e2=>?_⟩
    ·obtain ⟨_,q1⟩:=hxi.row e2
     rw [q1] at q
     simp at q
    ·have q2:=hn.row e2
     rw [q2] at q
     simp at q
    ·subst e2
     rw [hb] at q
     simp at q
    ·subst e2
     rw [hm] at q
     simp [mpR] at q
   obtain ⟨z,H2,f1,f2,f3,f4,f5⟩:=hxi.bsf l
   have hn2 : L2 es o H2:=hn.keep fun r hr _=>f5 r fun e=>d1 r e hr
   obtain ⟨o1,H3,g1,g2,g3,g4⟩:=hn2.push (l:=l) f3 hel
   have hb4 : nth H3 rb = some (.cs 186 2 [[o,.mp rm]] b false):=by
    rw [g4.2.1 rb (by rw [f4]; exact AJ hb) d4,f5 rb d2]
    exact hb
   have hm4 : nth H3 rm = some (mpR ekS evI (knw (es.map dNd) 0)):=by
    rw [g4.2.1 rm (by rw [f4]; exact AJ hm) d5,f5 rm d3]
    exact hm
   have l4 : LR 5 (bI (Is (l,c))) oi H3 Hc:=li.keepR fun r hr hlt=>by
    obtain ⟨q1,q2,_,_⟩:=d7 r hr
    rw [g4.2.1 r (by rw [f4]; exact hlt) q2,f5 r q1]
   generalize hH4 : H3.set rb (.cs 186 2 [[o1,.mp rm]] 1 false) = H4
   have hb5 : nth H4 rb = some (.cs 186 2 [[o1,.mp rm]] 1 false):=by rw [<- hH4]; exact AO (AJ hb4)
   have hm5 : nth H4 rm = some (mpR ekS evI (knw (es.map dNd) 0)):=by rw [<- hH4,Ar d6]; exact hm4
   have l5 : LR 5 (bI (Is (l,c))) oi H4 Hc:=l4.keepR fun r hr _=>by
    obtain ⟨_,_,q3,_⟩:=d7 r hr
    rw [<- hH4,Ar (AfA q3)]
   have hb6:=fun B=>hb2 H4 B l5
   have l4len : H4.length = H3.length:=by rw [<- hH4]; simp
   have hset4 : AG H3 rb (.cs 186 2 [[o1,.mp rm]] 1 false) = some H4:=by rw [Am _ _ _ (AJ hb4),hH4]
   have hset5 : AG H4 rm (mpR ekS evI (Mw (knw (es.map dNd) 0) (Is (l,c)) ((es.length : Nat) : Int))) = some (H4.set rm (mpR ekS evI (Mw (knw (es.map dNd) 0) (Is (l,c)) ((es.length : Nat) : Int)))):=Am _ _ _ (AJ hm5)
   have hwr : BD 2 [[o,.mp rm]] 0 0 [o1] = some [[o1,.mp rm]]:=rfl
   have g3n:=g3.nf
   have e1 : (es ++ [[I.i .i64 l,z]]).length = es.length + 1:=by simp
   rw [e1] at g3n
   have wl : wr .i64 (((es.length + 1 : Nat) : Int) - 1) = ((es.length : Nat) : Int):=by rw [wr_i64 (by omega) (by omega)]; omega
   have hd5 : ∀ r,AH o1 = some r -> r ≠ rb /\ r ≠ rm:=fun r e=>by
    have q:=g3.row e
    refine ⟨fun e2=>?_,fun e2=>?_⟩
    ·subst e2
     rw [hb4] at q
     simp at q
    ·subst e2
     rw [hm4] at q
     simp [mpR] at q
   have kk:=hQ (es ++ [[.i .i64 l,z]]) o1 (H4.set rm (mpR ekS evI (Mw (knw (es.map dNd) 0) (Is (l,c)) ((es.length : Nat) : Int)))) ⟨⟨1,AeA _,by rw [Ar (AfA d6)]; exact hb5⟩,by
     rw [AO (AJ hm5),List.map_append]
     have:=ZR hf
     rw [AeP] at this
     rw [this]
     simp [TN f2],g3.keep fun r hr _=>by
     obtain ⟨q1,q2⟩:=hd5 r hr
     rw [Ar (AfA q2),<- hH4,Ar (AfA q1)],fun e he=>by
     rcases AfH.1 he with h | h
     ·exact hok e h
     ·rw [List.mem_singleton] at h
      subst h
      refine ⟨l,z,rfl,?_⟩
      have:=TN (x:=l) f2
      have : dIn z = c:=(Prod.mk.inj this).2
      rw [this]
      exact f2⟩ (by rw [ha,List.map_append]; simp [TN f2]) ⟨by rw [Afy,l4len]; have:=g4.1; have:=ki.1; omega,fun r hr n1 n2 n3 n4=>by
     rw [Ar (AfA n2),<- hH4,Ar (AfA n1),g4.2.1 r (by rw [f4]; have:=ki.1; omega) n3,f5 r n4]
     exact ki.2.1 r hr (by simp [AH]),fun r hr=>(g4.2.2 r hr).imp_right fun h=>by rw [f4] at h; have:=ki.1; omega⟩
   rw [ha] at kk
   have hb7 : nth (H4.set rm (mpR ekS evI (Mw (knw (es.map dNd) 0) (Is (l,c)) ((es.length : Nat) : Int)))) rb = some (.cs 186 2 [[o1,.mp rm]] 1 false):=by rw [Ar (AfA d6)]; exact hb5
   clear hB2 hQ ih d1 d2 d3 d4 d5 d6 d7 hd5
   obtain ⟨rx,bx,limx,rfl,hrx,hbx⟩:=id hxi
   simp (disch:=omega) [gd_and,wr_i64,hlt',hb,hb0,hm,Zy,Adw,hb3,hfind,Bp,f1,g1,hb4,hset4,hwr,g3n.2.1,g3n.2.2.1,hb5,hm5,hb6,hset5,g3n.2.2.2,hb7]
   exact kk
theorem TS {z : I} {c : List Int} (hz : IsSl z (Dk c)) (hne : c ≠ []) (hc : c.length <= 1000000) (H : Hp) : Gives G 192 [.m z] H (.sl H.length c.length 1 0 c.length false) (H ++ [.cs 3 1 (onV (iI c)) 0 false]):=by
 rcases hz with rfl | ⟨rfl,h0⟩
 ·have he : elems H (.m (.sl (Dk c))) = some (onV (iI c)):=by
   show some (BC (Dk c)) = _
   rw [<- LK,Wg]
  have hnil : DS 4 (.m (.sl (Dk c))) = some false:=rfl
  obtain ⟨x,t,rfl⟩:=Afj hne
  refine .of_ret (AR mono rfl rfl rfl rfl rfl ?_)
  have ha : ∀ B,Ai (fun _ _ _=>none) ⟨B,H⟩ (.app 3 1 8) [.ls [],.m (.sl (Dk (x :: t)))] = some (.sl H.length (x :: t).length 1 0 (x :: t).length false,⟨B,H ++ [.cs 3 1 (onV (iI (x :: t))) 0 false]⟩):=fun B=>by
   rw [Cl he]
   show BA ⟨B,H⟩ 3 1 8 (onV (iI (x :: t))) = _
   rw [CJ,Ie (Tk _),Dj,CR]
   have : Nat.ble ((x :: t).length * 8) 140737488355328 = true:=by rw [Bd]; exact AeS (by omega)
   rw [this]
   rfl
  simp [hnil,-Eu,ha]
 ·exact absurd (by simpa [Dk] using h0) hne
theorem Ek {xs : List I} {i : Nat} {x : I} (h : i < xs.length) : AG (onV xs) i [.m x] = some (onV (xs.set i x)):=by
 rw [Am _ _ _ (by simpa using h)]
 simp [onV,List.map_set]
theorem Gz (c : List Int) (i : Nat) (v : Int) : (iI c).set i (.i .i64 v) = iI (c.set i v):=by simp [iI,List.map_set]
structure RwS where
 r0 : Nat
 r1 : Nat
 r2 : Nat
 r3 : Nat
 r4 : Nat
def fnW (R : RwS) : V:=.fn 195 [.pt R.r2 1 0 0,.pt R.r0 1 0 0,.pt R.r4 1 0 0,.pt R.r3 1 0 0]
structure OrdQ (R : RwS) (es : List (List I)) (o : V) (dn : List Int) (eo : List (List I)) (oo : V) (H : Hp) : Prop where
 h0 : ∃ b,b <= 1 /\ nth H R.r0 = some (.cs 23 1 [[o]] b false)
 hn : L2 es o H
 h2 : ∃ b,b <= 1 /\ nth H R.r2 = some (.cs 41 1 [[.sl R.r1 es.length 1 0 es.length true]] b false)
 h1 : ∃ b,b <= es.length /\ nth H R.r1 = some (.cs 3 1 (onV (iI dn)) b false)
 h3 : ∃ b,b <= 1 /\ nth H R.r3 = some (.cs 23 1 [[oo]] b false)
 ho : L2 eo oo H
 h4 : ∃ b,b <= 1 /\ nth H R.r4 = some (.cs 125 1 [[fnW R]] b false)
 dl : dn.length = es.length
 d1 : R.r0 ≠ R.r3
 d2 : ∀ r,AH o = some r -> AH oo ≠ some r
 oe : Km eo
def KpW (R : RwS) (oo : V) (H : Hp) (oo' : V) (H' : Hp) : Prop:=H.length <= H'.length /\ (∀ r,r < H.length -> r ≠ R.r1 -> r ≠ R.r3 -> AH oo ≠ some r -> nth H' r = nth H r) /\ ∀ r,AH oo' = some r -> AH oo = some r \/ H.length <= r
theorem KpW.refl (R : RwS) (H : Hp) (o : V) : KpW R o H o H:=⟨AeA _,fun _ _ _ _ _=>rfl,fun _ h=>.inl h⟩
theorem KpW.trans {R : RwS} {H H1 H2 : Hp} {o o1 o2 : V} (h : KpW R o H o1 H1) (k : KpW R o1 H1 o2 H2) : KpW R o H o2 H2:=by
 obtain ⟨a1,a2,a3⟩:=h
 obtain ⟨b1,b2,b3⟩:=k
 refine ⟨by omega,fun r hr n1 n3 hne=>?_,fun r hr=>?_⟩
 ·rw [b2 r (by omega) n1 n3 fun e=>?_,a2 r hr n1 n3 hne]
  rcases a3 r e with h | h
  ·exact hne h
  ·omega
 ·rcases b3 r hr with h | h
  ·exact a3 r h
  ·exact .inr (by omega)
theorem OrdQ.keep {R : RwS} {es : List (List I)} {o : V} {dn : List Int} {eo : List (List I)} {oo : V} {H H' : Hp} (h : OrdQ R es o dn eo oo H) (hk : ∀ r,r < H.length -> (r = R.r0 \/ r = R.r1 \/ r = R.r2 \/ r = R.r3 \/ r = R.r4 \/ AH o = some r \/ AH oo = some r) -> nth H' r = nth H r) : OrdQ R es o dn eo oo H':=by
 obtain ⟨⟨b0,x0,y0⟩,hn,⟨b2,x2,y2⟩,⟨b1,x1,y1⟩,⟨b3,x3,y3⟩,ho,⟨b4,x4,y4⟩,dl,d1,d2,oe⟩:=h
 exact ⟨⟨b0,x0,by rw [hk _ (AJ y0) (by simp)]; exact y0⟩,hn.keep fun r e hr=>hk r hr (by simp [e]),⟨b2,x2,by rw [hk _ (AJ y2) (by simp)]; exact y2⟩,⟨b1,x1,by rw [hk _ (AJ y1) (by simp)]; exact y1⟩,⟨b3,x3,by rw [hk _ (AJ y3) (by simp)]; exact y3⟩,ho.keep fun r e hr=>hk r hr (by simp [e]),⟨b4,x4,by rw [hk _ (AJ y4) (by simp)]; exact y4⟩,dl,d1,d2,oe⟩
theorem OrdQ.lt {R : RwS} {es : List (List I)} {o : V} {dn : List Int} {eo : List (List I)} {oo : V} {H : Hp} (h : OrdQ R es o dn eo oo H) : R.r0 < H.length /\ R.r1 < H.length /\ R.r2 < H.length /\ R.r3 < H.length /\ R.r4 < H.length:=by
 obtain ⟨⟨b0,x0,y0⟩,hn,⟨b2,x2,y2⟩,⟨b1,x1,y1⟩,⟨b3,x3,y3⟩,ho,⟨b4,x4,y4⟩,dl,d1,d2,oe⟩:=h
 exact ⟨AJ y0,AJ y1,AJ y2,AJ y3,AJ y4⟩
theorem OO : ∀ (d : List Int) (i : Nat) (v : Int),i < d.length -> (d.set i v).take (i + 1) = d.take i ++ [v]
 | [],_,_,h=>by simp at h
 | a :: r,0,v,_=>by simp
 | a :: r,i + 1,v,h=>by
  have:=OO r i v (by simpa using h)
  simp [this]
theorem OQ : ∀ (d : List Int) (i : Nat) (v : Int),(d.set i v).drop (i + 1) = d.drop (i + 1)
 | [],_,_=>by simp
 | a :: r,0,v=>by simp
 | a :: r,i + 1,v=>by
  have:=OQ r i v
  simpa using this
theorem Qp (a : V) : CX 1 [[a]] 0 0 1 = some [a]:=rfl
set_option maxHeartbeats 4000000 in
theorem WU {R : RwS} {es : List (List I)} {o : V} (hv : Km es) (hk : OkN (es.map dNd)) (hel : es.length <= 10000000) : ∀ (n k : Nat) (dn : List Int) (eo : List (List I)) (oo : V) (H : Hp),OrdQ R es o dn eo oo H -> InvW (es.map dNd) (dn,eo.map dNd) -> k < es.length -> (ndU (es.map dNd) k).1 <= (n : Int) ->
  ∀ Q : V -> Hp -> Prop,(∀ dn' eo' oo' H',OrdQ R es o dn' eo' oo' H' -> (GX (es.map dNd) n k (dn,eo.map dNd)).1 = (dn',eo'.map dNd) -> KpW R oo H oo' H' -> Q (.m (.i .i64 (GX (es.map dNd) n k (dn,eo.map dNd)).2)) H') ->
  Ret G 195 [.m (.i .i64 (k : Int)),.pt R.r2 1 0 0,.pt R.r0 1 0 0,.pt R.r4 1 0 0,.pt R.r3 1 0 0] H Q
 | 0,k,dn,eo,oo,H,_,_,hlt,hn=>by
  have:=(hk k (by simpa using hlt)).1
  omega
 | n + 1,k,dn,eo,oo,H,hO,hI,hlt,hn=>fun Q hQ=>by
  have hlm : (es.map dNd).length = es.length:=AeP ..
  obtain ⟨q1,q2,q3,q4,q5,q6⟩:=hk k (by omega)
  have e0 : GX (es.map dNd) (n + 1) k (dn,eo.map dNd) = if 0 < (dn[k]?).getD 0 then ((dn,eo.map dNd),(dn[k]?).getD 0 - 1)
   else Aba (ndU (es.map dNd) k) k (if 1 < (ndU (es.map dNd) k).1 then FJ (GX (es.map dNd) n) (ndU (es.map dNd) k).2 (dn,eo.map dNd) [] else ((dn,eo.map dNd),(ndU (es.map dNd) k).2)):=rfl
  obtain ⟨v,hv0⟩ : ∃ v,dn[k]? = some v:=⟨dn[k]'(by rw [hO.dl]; exact hlt),AeC (by rw [hO.dl]; exact hlt)⟩
  have hvb:=hI.val v (AeI hv0)
  have hvo:=hI.out_le
  rw [e0,hv0] at hQ
  simp only [Option.getD_some] at hQ
  obtain ⟨b0,hb0,h0⟩:=hO.h0
  obtain ⟨b1,hb1,h1⟩:=hO.h1
  obtain ⟨b2,hb2,h2⟩:=hO.h2
  obtain ⟨b3,hb3,h3⟩:=hO.h3
  obtain ⟨b4,hb4,h4⟩:=hO.h4
  have hlt' : (k : Int) < es.length:=by omega
  have hn1:=Ck (CS hv0)
  refine AR mono rfl rfl rfl rfl rfl ?_
  by_cases hp : 0 < v
  ·rw [AeB hp] at hQ
   have kk:=hQ dn eo oo H hO rfl (.refl ..)
   have wv : wr .i64 (v - 1) = v - 1:=by
    simp only [AeP] at hvo hvb
    exact wr_i64 (by omega) (by omega)
   simp (disch:=omega) [gd_and,h2,hb2,h1,hb1,hn1,hp,wv]
   exact kk
  ·rw [Aex hp] at hQ
   have hp' : ¬ (0 < v):=hp
   obtain ⟨e,he⟩ : ∃ e,es[k]? = some e:=⟨es[k],AeC hlt⟩
   obtain ⟨x,z,rfl,hz⟩:=hv e (AeI he)
   have hnd : ndU (es.map dNd) k = (x,dIn z):=by
    unfold ndU
    rw [AeY,he]
    rfl
   rw [hnd] at hQ q1 q2 q3 q4 q5 q6 hn e0
   simp only at hQ q1 q2 q3 q4 q5 q6 hn
   generalize hc : dIn z = c at *
   obtain ⟨p,pq,p1,p2,p3,⟨p0,p4,p5,p6⟩,p7,p8,p9⟩:=hO.hn.rd he
   have gc:=TS hz q3 (by omega) H
   generalize hRES : (if 1 < x then FJ (GX (es.map dNd) n) c (dn,eo.map dNd) [] else ((dn,eo.map dNd),c)) = RES at hQ
   have hon:=hO.hn.nf
   simp (disch:=omega) [gd_and,h2,hb2,h1,hb1,hn1,hp',h0,hb0,p1,p4,p6,p7,p9,cl gc,Ag hon.1,Ag p2]
   refine (?key : ∀ (i : Nat) (d : List Int) (dn1 : List Int) (eo1 : List (List I)) (oo1 : V) (B : List (Nat × List V)) (Hi : Hp),i <= c.length -> getB B 7 = some [.m (.i .i64 x),.sl H.length c.length 1 0 c.length false] -> OrdQ R es o dn1 eo1 oo1 Hi -> InvW (es.map dNd) (dn1,eo1.map dNd) ->
    KpW R oo H oo1 Hi -> (∃ b,b <= c.length /\ nth Hi H.length = some (.cs 3 1 (onV (iI d)) b false)) -> d.length = c.length -> d.drop i = c.drop i -> (if 1 < x then FJ (GX (es.map dNd) n) (c.drop i) (dn1,eo1.map dNd) (d.take i) else ((dn1,eo1.map dNd),d)) = RES ->
    Run G c195_B0 (S195_0 (.m (.i .i64 (k : Int))) (.pt R.r2 1 0 0) (.pt R.r4 1 0 0) (.pt R.r3 1 0 0) (.fa 7 0) (.sl H.length c.length 1 0 c.length false) (.m (.i .i64 (c.length : Int))) (.m (.i .i64 (i : Int))) B Hi) _) 0 c dn eo oo _ _ (AeK _) rfl ?_ hI ⟨by simp,fun r hr _ _ _=>BF _ _ _ hr,fun r h=>.inl h⟩ ⟨0,AeK _,Dd H _ 0⟩ rfl rfl (by simpa using hRES)
   case key =>
    refine BP (fun i : Nat=>c.length - i) fun i ih d dn1 eo1 oo1 B Hi hi hB hO1 hI1 hK hX hdl hdd hR=>?_
    unfold c195_B0
    obtain ⟨bx,hbx,hX⟩:=hX
    have hlts:=hO.lt
    have hi1:=hO1.lt
    have hgt : H.length < Hi.length:=AJ hX
    have hon1:=hO1.ho.nf
    have hoc : ∀ r,AH oo1 = some r -> r ≠ H.length:=fun r e1 e2=>by
     subst e2
     have q:=hO1.ho.row e1
     rw [hX] at q
     simp at q
    have hoc0 : ∀ r,AH o = some r -> r ≠ H.length:=fun r e1 e2=>by
     subst e2
     have q:=hO1.hn.row e1
     rw [hX] at q
     simp at q
    obtain ⟨a0,ha0,h0⟩:=hO1.h0
    obtain ⟨a1,ha1,h1⟩:=hO1.h1
    obtain ⟨a2,ha2,h2⟩:=hO1.h2
    obtain ⟨a3,ha3,h3⟩:=hO1.h3
    obtain ⟨a4,ha4,h4⟩:=hO1.h4
    by_cases hic : i < c.length
    ·have hic' : (i : Int) < c.length:=by omega
     have hdi : d[i]? = c[i]?:=by
      have:=congrArg (fun l=>l[0]?) hdd
      simpa using this
     obtain ⟨kd,hkd⟩ : ∃ kd,c[i]? = some kd:=⟨c[i],AeC hic⟩
     rw [hkd] at hdi
     have hn2:=Ck (CS hdi)
     have wi : wr .i64 ((i : Int) + 1) = ((i + 1 : Nat) : Int):=wr_i64 (by omega) (by omega)
     have hcd : c.drop i = kd :: c.drop (i + 1):=by
      rw [AfP hic]
      have:=(Aey.1 hkd).2
      rw [this]
     by_cases hx1 : 1 < x
     ·obtain ⟨s1,s2,s3⟩:=q6 hx1 kd (AeI hkd)
      obtain ⟨kn,rfl⟩:=AeN s1
      rw [AeB hx1,hcd] at hR
      have hR : FJ (GX (es.map dNd) n) (c.drop (i + 1)) (GX (es.map dNd) n kn (dn1,eo1.map dNd)).1 (d.take i ++ [(GX (es.map dNd) n kn (dn1,eo1.map dNd)).2]) = RES:=hR
      have hgr:=(TK hk n kn (dn1,eo1.map dNd) hI1 s2 (by simp only [Int.toNat_natCast] at s3; omega))
      simp (disch:=omega) [gd_and,hic',hn2,hX,hbx,hx1,hB,h4,ha4,fnW]
      rw [Ak]
      refine WU hv hk hel n kn dn1 eo1 oo1 Hi hO1 hI1 (by simpa using s2) (by simp only [Int.toNat_natCast] at s3; omega) _ fun dn2 eo2 oo2 H2 hO2 hr2 hK2=>?_
      rw [hr2] at hR hgr
      generalize (GX (es.map dNd) n kn (dn1,eo1.map dNd)).2 = v2 at hR hgr ⊢
      have hX2 : nth H2 H.length = some (.cs 3 1 (onV (iI d)) bx false):=by
       rw [hK2.2.1 H.length hgt (by omega) (by omega) fun e=>hoc _ e rfl]
       exact hX
      have hst : AG (onV (iI d)) i [.m (.i .i64 v2)] = some (onV (iI (d.set i v2))):=by rw [Ek (by simp; omega),Gz]
      have hlen2 : H.length < H2.length:=AJ hX2
      have hoc2 : ∀ r,AH oo2 = some r -> r ≠ H.length:=fun r e1 e2=>by
       subst e2
       have q:=hO2.ho.row e1
       rw [hX2] at q
       simp at q
      have kk:=fun B hB=>ih (i + 1) (by omega) (d.set i v2) dn2 eo2 oo2 B (H2.set H.length (.cs 3 1 (onV (iI (d.set i v2))) c.length false)) (by omega) hB (hO2.keep fun r hr h=>Ar fun e=>by
        subst e
        rcases h with h | h | h | h | h | h | h
        ·omega
        ·omega
        ·omega
        ·omega
        ·omega
        ·exact hoc0 _ h rfl
        ·exact hoc2 _ h rfl) hgr.1.1 (by
        obtain ⟨k1,k2,k3⟩:=hK.trans hK2
        exact ⟨by simpa using k1,fun r hr n1 n2 n3=>by rw [Ar (by omega)]; exact k2 r hr n1 n2 n3,k3⟩) ⟨c.length,AeA _,AO hlen2⟩ (by simpa using hdl) (by rw [OQ,<- AfR,hdd,AfR]) (by rw [AeB hx1,OO _ _ _ (by omega)]; exact hR)
      have hse : AG H2 H.length (.cs 3 1 (onV (iI (d.set i v2))) c.length false) = some (H2.set H.length (.cs 3 1 (onV (iI (d.set i v2))) c.length false)):=Am _ _ _ hlen2
      simp (disch:=omega) [gd_and,hX2,hn2,hst,hse,hdl,wi]
      exact kk _ hB
     ·rw [Aex hx1] at hR
      have kk:=fun B hB=>ih (i + 1) (by omega) d dn1 eo1 oo1 B Hi (by omega) hB hO1 hI1 hK ⟨bx,hbx,hX⟩ hdl (by rw [<- AfR,hdd,AfR]) (by rw [Aex hx1]; exact hR)
      simp (disch:=omega) [gd_and,hic',hn2,hX,hbx,hx1,hB,wi]
      exact kk _ hB
    ·have : i = c.length:=by omega
     subst this
     have hic' : ¬ (c.length : Int) < c.length:=by omega
     have hdt : d.take c.length = d:=AeR (by omega)
     have hRE : RES = ((dn1,eo1.map dNd),d):=by
      rw [<- hR,AfO,hdt]
      by_cases hx1 : 1 < x
      ·rw [AeB hx1]; rfl
      ·rw [Aex hx1]
     rw [hRE] at hQ
     have hIR : IR d (.sl H.length c.length 1 0 c.length false) Hi:=⟨H.length,bx,false,by rw [hdl],hX,by omega⟩
     obtain ⟨z2,H2,f1,f2,f3,f4,f5⟩:=hIR.bsf x
     have f5 : ∀ r,r ≠ H.length -> nth H2 r = nth Hi r:=fun r hr=>f5 r fun e=>hr (by cases e; rfl)
     have hO2 : OrdQ R es o dn1 eo1 oo1 H2:=hO1.keep fun r hr h=>f5 r fun e=>by
      subst e
      rcases h with h | h | h | h | h | h | h
      ·omega
      ·omega
      ·omega
      ·omega
      ·omega
      ·exact hoc0 _ h rfl
      ·exact hoc _ h rfl
     have hout:=hI1.out_le
     simp only [AeP] at hout
     obtain ⟨o3,H3,g1,g2,g3,g4⟩:=hO2.ho.push (l:=x) f3 (by omega)
     have l2:=hO2.lt
     have hoo2 : L2 eo1 oo1 H2:=hO2.ho
     have hon2 : L2 es o H2:=hO2.hn
     obtain ⟨c0,hc0,i0⟩:=hO2.h0
     obtain ⟨c1,hc1,i1⟩:=hO2.h1
     obtain ⟨c2,hc2,i2⟩:=hO2.h2
     obtain ⟨c3,hc3,i3⟩:=hO2.h3
     obtain ⟨c4,hc4,i4⟩:=hO2.h4
     have hno : ∀ r (w : Row),nth H2 r = some w -> (∀ es b fz,w ≠ .cs 94 2 es b fz) -> AH oo1 ≠ some r:=fun r w h1 h2 e1=>by
      have q:=hoo2.row e1
      rw [h1] at q
      exact h2 _ _ _ (Afu q)
     have u0:=hno _ _ i0 (fun _ _ _ h=>by simp at h)
     have u1:=hno _ _ i1 (fun _ _ _ h=>by simp at h)
     have u2:=hno _ _ i2 (fun _ _ _ h=>by simp at h)
     have u3:=hno _ _ i3 (fun _ _ _ h=>by simp at h)
     have u4:=hno _ _ i4 (fun _ _ _ h=>by simp at h)
     have j0:=(g4.2.1 _ l2.1 u0).trans i0
     have j1:=(g4.2.1 _ l2.2.1 u1).trans i1
     have j2:=(g4.2.1 _ l2.2.2.1 u2).trans i2
     have j3:=(g4.2.1 _ l2.2.2.2.1 u3).trans i3
     have j4:=(g4.2.1 _ l2.2.2.2.2 u4).trans i4
     have m3:=g4.1
     have jn : L2 es o H3:=hon2.keep fun r e hr=>g4.2.1 r hr (hO2.d2 r e)
     have df : ∀ {r q : Nat} {a b : Row},nth H3 r = some a -> nth H3 q = some b -> a ≠ b -> r ≠ q:=fun h1 h2 hne e=>by
      subst e
      rw [h1] at h2
      exact hne (Afu h2)
     have n31 : R.r3 ≠ R.r1:=df j3 j1 (fun h=>by simp at h)
     have n32 : R.r3 ≠ R.r2:=df j3 j2 (fun h=>by simp at h)
     have n34 : R.r3 ≠ R.r4:=df j3 j4 (fun h=>by simp at h)
     have n10 : R.r1 ≠ R.r0:=df j1 j0 (fun h=>by simp at h)
     have n12 : R.r1 ≠ R.r2:=df j1 j2 (fun h=>by simp at h)
     have n14 : R.r1 ≠ R.r4:=df j1 j4 (fun h=>by simp at h)
     have n30 : R.r3 ≠ R.r0:=AfA hO2.d1
     have v3 : ∀ r,(AH o = some r \/ AH o3 = some r) -> r ≠ R.r3 /\ r ≠ R.r1:=fun r h=>by
      have q : ∃ q,nth H3 r = some (.cs 94 2 q 0 false):=by
       rcases h with h | h
       ·exact ⟨_,jn.row h⟩
       ·exact ⟨_,g3.row h⟩
      obtain ⟨q,hq⟩:=q
      exact ⟨df hq j3 (fun h=>by simp at h),df hq j1 (fun h=>by simp at h)⟩
     generalize hH4 : H3.set R.r3 (.cs 23 1 [[o3]] 1 false) = H4
     have t4 : ∀ r,r ≠ R.r3 -> nth H4 r = nth H3 r:=fun r hr=>by rw [<- hH4,Ar (AfA hr)]
     have t43 : nth H4 R.r3 = some (.cs 23 1 [[o3]] 1 false):=by rw [<- hH4]; exact AO (AJ j3)
     have t4l : H4.length = H3.length:=by rw [<- hH4]; simp
     have k1:=(t4 _ (AfA n31)).trans j1
     have k2:=(t4 _ (AfA n32)).trans j2
     generalize hH5 : H4.set R.r1 (.cs 3 1 (onV (iI (dn1.set k ((eo1.length + 1 : Nat) : Int)))) es.length false) = H5
     have t5 : ∀ r,r ≠ R.r1 -> nth H5 r = nth H4 r:=fun r hr=>by rw [<- hH5,Ar (AfA hr)]
     have t51 : nth H5 R.r1 = some (.cs 3 1 (onV (iI (dn1.set k ((eo1.length + 1 : Nat) : Int)))) es.length false):=by rw [<- hH5]; exact AO (AJ k1)
     have t5l : H5.length = H3.length:=by rw [<- hH5]; simp [t4l]
     have t53:=(t5 _ n31).trans t43
     have s4 : AG H3 R.r3 (.cs 23 1 [[o3]] 1 false) = some H4:=by rw [Am _ _ _ (AJ j3),hH4]
     have s5 : AG H4 R.r1 (.cs 3 1 (onV (iI (dn1.set k ((eo1.length + 1 : Nat) : Int)))) es.length false) = some H5:=by rw [Am _ _ _ (AJ k1),hH5]
     have hkl : k < (iI dn1).length:=by rw [CR,hO1.dl]; exact hlt
     obtain ⟨v1,hv1⟩ : ∃ v1,dn1[k]? = some v1:=⟨dn1[k]'(by rw [hO1.dl]; exact hlt),AeC (by rw [hO1.dl]; exact hlt)⟩
     have hn3:=Ck (CS hv1)
     have hs1 : AG (onV (iI dn1)) k [.m (.i .i64 ((eo1.length + 1 : Nat) : Int))] = some (onV (iI (dn1.set k ((eo1.length + 1 : Nat) : Int)))):=by rw [Ek hkl,Gz]
     have g3n:=g3.nf
     have e1 : (eo1 ++ [[I.i .i64 x,z2]]).length = eo1.length + 1:=by simp
     rw [e1] at g3n
     have wl : wr .i64 (((eo1.length + 1 : Nat) : Int) - 1) = ((eo1.length : Nat) : Int):=by rw [wr_i64 (by omega) (by omega)]; omega
     have hw1 : BD 1 [[oo1]] 0 0 [o3] = some [[o3]]:=rfl
     have kk:=hQ (dn1.set k ((eo1.length + 1 : Nat) : Int)) (eo1 ++ [[.i .i64 x,z2]]) o3 H5 ⟨⟨c0,hc0,by rw [t5 _ (AfA n10),t4 _ (AfA n30)]; exact j0⟩,jn.keep fun r e _=>by
       obtain ⟨w1,w2⟩:=v3 r (.inl e)
       rw [t5 _ w2,t4 _ w1],⟨c2,hc2,by rw [t5 _ (AfA n12)]; exact k2⟩,⟨es.length,AeA _,t51⟩,⟨1,AeA _,t53⟩,g3.keep fun r e _=>by
       obtain ⟨w1,w2⟩:=v3 r (.inr e)
       rw [t5 _ w2,t4 _ w1],⟨c4,hc4,by rw [t5 _ (AfA n14),t4 _ (AfA n34)]; exact j4⟩,by rw [Afy]; exact hO1.dl,hO1.d1,fun r e1 e2=>by
       rcases g4.2.2 r e2 with h | h
       ·exact hO1.d2 r e1 h
       ·have:=hon2.row_lt e1
        omega,fun e he=>by
       rcases AfH.1 he with h | h
       ·exact hO1.oe e h
       ·rw [List.mem_singleton] at h
        subst h
        refine ⟨x,z2,rfl,?_⟩
        have:=(Prod.mk.inj (TN (x:=x) f2)).2
        rw [this]
        exact f2⟩ (by unfold Aba; simp [TN f2]) ⟨by rw [t5l]; omega,fun r hr n1 n3 n4=>by
       have hrH : r ≠ H.length:=by omega
       have hr1 : AH oo1 ≠ some r:=fun e=>by
        rcases hK.2.2 r e with h | h
        ·exact n4 h
        ·omega
       rw [t5 _ n1,t4 _ n3,g4.2.1 r (by omega) hr1,f5 r hrH]
       exact hK.2.1 r hr n1 n3 n4,fun r hr=>by
       rcases g4.2.2 r hr with h | h
       ·exact hK.2.2 r h
       ·exact .inr (by omega)⟩
     have hfin : (Aba (x,c) k ((dn1,eo1.map dNd),d)).2 = ((eo1.length : Nat) : Int):=by unfold Aba; simp
     rw [hfin] at kk
     clear ih hQ df hno
     simp only [Int.natCast_add,Int.natCast_one] at hs1 s5
     simp (disch:=omega) [gd_and,wr_i64,hic',hO1.dl,h3,ha3,hB,Bp,f1,g1,j3,hw1,s4,k2,hc2,t43,g3n.2.1,g3n.2.2.1,g3n.2.2.2,k1,hn3,hs1,s5,t53]
     exact kk
   exact hO.keep fun r hr _=>BF _ _ _ hr
theorem Tz (n : Nat) : List.replicate n [V.m (.i .i64 0)] = onV (iI (List.replicate n 0)):=by simp [onV,iI]
theorem MU {α : Type} (l m : List α) (j : Nat) (x : α) : (l ++ m).set (l.length + j) x = l ++ m.set j x:=by
 rw [AfS _ _ (by omega)]
 congr 2
 omega
theorem AdT (l : List Nd) : InvW l (List.replicate l.length 0,[]):=⟨by simp,AeK _,fun v hv=>by
 have:=(List.mem_replicate.1 hv).2
 subst this
 exact ⟨Int.le_refl _,Int.le_refl _⟩⟩
section
variable {α : Type} (H M : List α) (a b c d e x : α)
theorem nu1 : nth (H ++ a :: b :: M) (H.length + 1) = some b:=by rw [Dd]; rfl
theorem nu2 : nth (H ++ a :: b :: c :: M) (H.length + 2) = some c:=by rw [Dd]; rfl
theorem nu3 : nth (H ++ a :: b :: c :: d :: M) (H.length + 3) = some d:=by rw [Dd]; rfl
theorem nu4 : nth (H ++ a :: b :: c :: d :: e :: M) (H.length + 4) = some e:=by rw [Dd]; rfl
theorem su2 : AG (H ++ a :: b :: c :: M) (H.length + 2) x = some (H ++ a :: b :: x :: M):=by
 rw [Am _ _ _ (by simp),MU]
 rfl
theorem su4 : AG (H ++ a :: b :: c :: d :: e :: M) (H.length + 4) x = some (H ++ a :: b :: c :: d :: x :: M):=by
 rw [Am _ _ _ (by simp),MU]
 rfl
end
set_option maxHeartbeats 4000000 in
theorem LJ {es : List (List I)} {o : V} {H : Hp} (hv : Km es) (hk : OkN (es.map dNd)) (hel : es.length <= 10000000) (hn : L2 es o H) {n k : Nat} (hkl : k < es.length) (hkn : (ndU (es.map dNd) k).1 <= (n : Int)) (Q : V -> Hp -> Prop)
  (hQ : ∀ eo oo H',L2 eo oo H' -> Km eo -> eo.map dNd = (GX (es.map dNd) n k (List.replicate es.length 0,[])).1.2 -> H.length <= H'.length -> (∀ r,r < H.length -> nth H' r = nth H r) -> (∀ r,AH oo = some r -> H.length <= r) -> Q oo H') :
  Ret G 161 [o,.m (.i .i64 (k : Int))] H Q:=by
 have hon:=hn.nf
 refine AR mono rfl rfl rfl (by simp [hon.1]) rfl ?_
 have hL : ∀ m : Hp,L2 es o (H ++ m):=fun m=>hn.keep fun r e hr=>BF _ _ _ hr
 have hb1 : es.length * 8 <= 281474976710656:=by omega
 have hb2 : es.length <= 9223372036854775807:=by omega
 have w1 : ∀ x y : V,BD 1 [[x]] 0 0 [y] = some [[y]]:=fun _ _=>rfl
 have hcf : ∀ f xs,Ap (.fn f xs) = some [.fn f xs]:=fun _ _=>rfl
 have hof : ∀ f xs,BH (.fn f xs) = true:=fun _ _=>rfl
 simp (disch:=omega) [gd_and,hon.2.1,hon.2.2.2,Au,nu2,nu4,su2,su4,hb1,hb2,w1,hcf,hof]
 rw [Ak]
 have hr:=Tz es.length
 rw [hr]
 let R : RwS:=⟨H.length,H.length + 1,H.length + 2,H.length + 3,H.length + 4⟩
 have hI:=AdT (es.map dNd)
 rw [AeP] at hI
 refine WU (R:=R) hv hk hel n k (List.replicate es.length 0) [] (.m (.nl 4)) _ ⟨⟨0,by omega,Au ..⟩,hL _,⟨1,by omega,nu2 ..⟩,⟨0,by omega,nu1 ..⟩,⟨0,by omega,nu3 ..⟩,.inl ⟨rfl,rfl⟩,⟨1,by omega,nu4 ..⟩,by simp,by show H.length ≠ H.length + 3; omega,fun r _ h=>(by cases h),fun e h=>(by simp at h)⟩ hI hkl hkn _ fun dn eo oo H2 hO hr2 hK=>?_
 obtain ⟨b3,hb3,h3⟩:=hO.h3
 have h3 : nth H2 (H.length + 3) = some (.cs 23 1 [[oo]] b3 false):=h3
 have hoo:=hO.ho.nf
 have kk:=hQ eo oo H2 hO.ho hO.oe (by have:=congrArg Prod.snd hr2; exact this.symm) (by have:=hK.1; simp at this; omega) (fun r hr=>by
   rw [hK.2.1 r (by simp; omega) (by show r ≠ H.length + 1; omega) (by show r ≠ H.length + 3; omega) (by simp [AH])]
   exact BF _ _ _ hr) fun r hr=>by
   rcases hK.2.2 r hr with h | h
   ·cases h
   ·simp at h; omega
 simp (disch:=omega) [gd_and,h3,hb3,Ag hoo.1]
 exact ⟨hoo.1,kk⟩
end Go.Mx.Tryz
