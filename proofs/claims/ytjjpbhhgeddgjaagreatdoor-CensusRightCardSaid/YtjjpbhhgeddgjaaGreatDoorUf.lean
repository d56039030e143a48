/- ordered: walked. -/
import Derived.Test.YtjjpbhhgeddgjaaGreatDoorIc
import Derived.Test.YtjjpbhhgeddgjaaGreatDoorItoa
import Derived.Test.YtjjpbhhgeddgjaaGreatDoorDec
set_option linter.unusedSimpArgs false
set_option linter.unusedVariables false
set_option linter.unusedSectionVars false
set_option maxRecDepth 100000
namespace Go.Mx.Tryz
open Go.Lib
def Kp (H : Hp) (o : V) (H1 : Hp) (o1 : V) : Prop:=H.length <= H1.length /\ (∀ r,r < H.length -> Ax o ≠ some r -> nth H1 r = nth H r) /\ ∀ r,Ax o1 = some r -> Ax o = some r \/ H.length <= r
theorem Kp.refl (H : Hp) (o : V) : Kp H o H o:=⟨AcR _,fun _ _ _=>rfl,fun _ h=>.inl h⟩
theorem Kp.trans {H H1 H2 : Hp} {o o1 o2 : V} (h : Kp H o H1 o1) (k : Kp H1 o1 H2 o2) : Kp H o H2 o2:=by
 obtain ⟨a1,a2,a3⟩:=h
 obtain ⟨b1,b2,b3⟩:=k
 refine ⟨by omega,fun r hr hne=>?_,fun r hr=>?_⟩
 ·rw [b2 r (by omega) fun e=>?_,a2 r hr hne]
  rcases a3 r e with h | h
  ·exact hne h
  ·omega
 ·rcases b3 r hr with h | h
  ·exact a3 r h
  ·exact .inr (by omega)
theorem LR.pushN {ty b : Nat} {xs : List I} {o : V} {H : Hp} (h : LR ty xs o H Gp) (hb : b <= 1000) {ys : List I} (hl : xs.length + ys.length <= 100000000) (ha : YL ys) : ∃ o1 H1,(∀ B,Ek ⟨B,H⟩ ty 1 b o (onV ys) = some (o1,⟨B,H1⟩)) /\ Av o1 = true /\ LR ty (xs ++ ys) o1 H1 Gp /\ Kp H o H1 o1:=by
 have hmul : (xs.length + ys.length) * b <= 100000000 * 1000:=Nat.mul_le_mul hl hb
 cases ys with
 | nil =>
  refine ⟨o,H,fun B=>?_,h.nf.1,by rw [AdZ]; exact h,.refl _ _⟩
  rcases h with ⟨rfl,rfl⟩ | ⟨hne,r,hr,rfl,h3⟩ <;> rfl
 | cons y t =>
  rcases h with ⟨rfl,rfl⟩ | ⟨hne,r,hr,rfl,h3⟩
  ·refine ⟨.sl H.length (y :: t).length 1 0 (y :: t).length false,H ++ [.cs ty 1 (onV (y :: t)) 0 false],fun B=>?_,rfl,.inr ⟨by simp,H.length,AdI,rfl,CC H _ 0⟩,by simp,fun r hr _=>By _ _ _ hr,fun r hr=>.inr (by cases hr; exact AcR _)⟩
   show Bq ⟨B,H⟩ ty 1 b (onV (y :: t)) = _
   rw [BZ,Hm ha,CT]
   have : Nat.ble ((y :: t).length * b) 140737488355328 = true:=by
    rw [AZ]
    refine Ade ?_
    simp only [AdC,AdU] at hmul
    omega
   rw [this]
   rfl
  ·have ha2:=fun B=>FJ (M:=⟨B,H⟩) (bytes:=b) (xs:=onV (y :: t)) h3 (by simp [onV]) (by simp only [CT]; omega) (Hm ha)
   simp only [CT,LB] at ha2
   have el : xs.length + (y :: t).length = (xs ++ y :: t).length:=by simp
   rw [el] at ha2
   refine ⟨_,_,ha2,rfl,.inr ⟨by simp,r,AdI,rfl,AR (AH h3)⟩,by simp,fun q hq hne2=>Au fun e=>?_,fun q hq=>.inl hq⟩
   subst e
   exact hne2 rfl
def bI (s : List Nat) : List I:=s.map fun c : Nat=>.i .u8 (c : Int)
@[simp] theorem NF (s : List Nat) : (bI s).length = s.length:=by simp [bI]
theorem NG (s t : List Nat) : bI s ++ bI t = bI (s ++ t):=by simp [bI]
theorem IV (s : List Nat) : YL (bI s):=fun x hx=>by
 obtain ⟨y,_,rfl⟩:=Adz.1 hx
 rfl
theorem Aco (s : List Nat) : (s.map fun c : Nat=>[V.m (.i .u8 (c : Int))]) = onV (bI s):=by simp [onV,bI]
theorem Rc : ∀ (d : List UInt8),d.map Kh = onV (bI (d.map UInt8.toNat))
 | []=>rfl
 | c :: r=>by
  show Kh c :: r.map Kh = _
  rw [Rc r]
  rfl
theorem NC : ∀ (s : List Nat),(∀ c,c ∈ s -> c < 256) -> BQ (onV (bI s)) = some s
 | [],_=>rfl
 | c :: r,h=>by
  show gd (Nat.blt c 256) ((BQ (onV (bI r))).bind fun l=>some (c :: l)) = _
  rw [He,Ade (h c (by simp)),NC r fun x hx=>h x (by simp [hx])]
  rfl
theorem Ack (nd : Nat) (h : nd <= 24) : ([[V.m (.i .u8 0)],[V.m (.i .u8 0)],[V.m (.i .u8 0)],[V.m (.i .u8 0)],[V.m (.i .u8 0)],[V.m (.i .u8 0)],[V.m (.i .u8 0)],[V.m (.i .u8 0)],[V.m (.i .u8 0)],[V.m (.i .u8 0)],[V.m (.i .u8 0)],[V.m (.i .u8 0)],[V.m (.i .u8 0)],[V.m (.i .u8 0)],[V.m (.i .u8 0)],[V.m (.i .u8 0)],[V.m (.i .u8 0)],[V.m (.i .u8 0)],[V.m (.i .u8 0)],[V.m (.i .u8 0)],[V.m (.i .u8 0)],[V.m (.i .u8 0)],[V.m (.i .u8 0)],[V.m (.i .u8 0)]] : List (List V)) = DY [] (Array.replicate nd 0) (List.replicate (24 - nd) [.m (.i .u8 0)]):=by
 unfold DY
 have : (Array.replicate nd (0 : UInt8)).toList.map Kh = List.replicate nd [.m (.i .u8 0)]:=by simp [Kh]
 rw [this,List.replicate_append_replicate]
 rw [show nd + (24 - nd) = 24 by omega]
 rfl
theorem AcH {H : Hp} {s : List Nat} {o : V} (h : LR 5 (bI s) o H Gp) (hl : s.length <= 1000000) (u : Nat) (hu : u < 18446744073709551616) :
  ∃ o1 H1,Gives G 213 [o,.m (.i .u64 u),.m (.i .i64 10)] H o1 H1 /\ Av o1 = true /\ LR 5 (bI (s ++ Dy u)) o1 H1 Gp /\ Kp H o H1 o1:=by
 have hd:=Nz u hu
 have hnf:=h.nf
 by_cases h100 : u < 100
 ·have g:=Nl u h100
  have h100' : (u : Int) < 100:=by omega
  obtain ⟨o1,H1,ha,n1,l1,k1⟩:=h.pushN (b:=1) (by omega) (ys:=bI (Dy u)) (by simp only [NF]; omega) (IV _)
  rw [NG] at l1
  refine ⟨o1,H1,?_,n1,l1,k1⟩
  have w : wr .i64 (u : Int) = u:=UF u (by omega)
  rw [<- Aco] at ha
  refine .of_ret (BH mono rfl rfl rfl ?_ rfl ?_)
  ·simp [hnf.1]
  ·simp [h100',w,cl (g _),ha,Aj n1,n1]
 ·have h100' : ¬ (u : Int) < 100:=by omega
  have hnd:=nDigits_le20 u (by omega)
  have hnp:=nDigits_pos u
  obtain ⟨d',v',hi,g2⟩:=AcC [] (List.replicate (24 - nDigits u) [.m (.i .u8 0)]) (Array.replicate (nDigits u) 0) u 24 152 0 false H [] (by simp; omega) (by simpa using lt_pow_nDigits u) (by omega) (by simpa using hnp) (by simp; omega) (by omega)
  simp only [Array.size_replicate,AdC] at hi g2
  have hf:=ML hi
  have hsz:=hi.size
  generalize hN : nDigits u = nd at *
  have g1:=fun H=>Uq u (by omega) hu H
  simp only [hN] at g1
  have hrow:=Ack nd (by omega)
  have hb : (DY [] d' (List.replicate (24 - nd) [.m (.i .u8 0)])).take nd = onV (bI (Dy u)):=by
   have:=HF [] d' (List.replicate (24 - nd) [V.m (.i .u8 0)])
   simp only [AdC,hsz,List.drop_zero] at this
   rw [this,Rc,hf]
  have h2 : LR 5 (bI s) o (H ++ [Row.cs 152 1 (DY [] d' (List.replicate (24 - nd) [.m (.i .u8 0)])) 24 false]) Gp:=h.keepR fun r _ hr=>By _ _ _ hr
  obtain ⟨o1,H1,ha,n1,l1,k1⟩:=h2.pushN (b:=1) (by omega) (ys:=bI (Dy u)) (by simp only [NF]; omega) (IV _)
  rw [NG] at l1
  refine ⟨o1,H1,?_,n1,l1,?_⟩
  ·have e1 : ¬ nd = 24:=by omega
   have e2 : nd + (24 - nd) = 24:=by omega
   have e3 : (nd : Int) <= 24:=by omega
   refine .of_ret (BH mono rfl rfl rfl ?_ rfl ?_)
   ·simp [hnf.1]
   ·simp [h100',cl (g1 _),hrow,e1,e2,e3,cl g2,hsz,hb,ha,Cf,Bj,Aj n1,n1]
  ·obtain ⟨a1,a2,a3⟩:=k1
   simp only [AcV,AdW] at a1 a2 a3
   exact ⟨by omega,fun r hr hne=>by rw [a2 r (by omega) hne]; exact By _ _ _ hr,fun r hr=>(a3 r hr).imp_right fun h=>by omega⟩
theorem AcI {H : Hp} {s : List Nat} {o : V} (h : LR 5 (bI s) o H Gp) (hl : s.length <= 900000) (n : Int) (h0 : -4611686018427387904 <= n) (h1 : n <= 4611686018427387904) :
  ∃ o1 H1,Gives G 206 [o,.m (.i .i64 n),.m (.i .i64 10)] H o1 H1 /\ Av o1 = true /\ LR 5 (bI (s ++ BC n)) o1 H1 Gp /\ Kp H o H1 o1:=by
 have hnf:=h.nf
 have key : ∃ o1 H1,Gives G 211 [o,.m (.i .i64 n),.m (.i .i64 10)] H o1 H1 /\ Av o1 = true /\ LR 5 (bI (s ++ BC n)) o1 H1 Gp /\ Kp H o H1 o1:=by
  by_cases hn : n < 0
  ·have en : BC n = 45 :: Dy n.natAbs:=by
    have:=Db n.natAbs (by omega)
    rwa [show -((n.natAbs : Nat) : Int) = n by omega] at this
   have hneg : wr .u64 (-wr .u64 n) = (n.natAbs : Int):=by rw [Cq,Cq]; omega
   obtain ⟨o2,H2,ha,n2,l2,k2⟩:=h.pushN (b:=1) (by omega) (ys:=bI [45]) (by simp only [NF,AdW]; omega) (IV _)
   rw [NG] at l2
   obtain ⟨o1,H1,g,n1,l1,k1⟩:=AcH l2 (by simp; omega) n.natAbs (by omega)
   rw [Aeb,List.singleton_append,<- en] at l1
   refine ⟨o1,H1,?_,n1,l1,k2.trans k1⟩
   refine .of_ret (BH mono rfl rfl rfl ?_ rfl ?_)
   ·simp [hnf.1]
   ·have hb : onV (bI [45]) = [[V.m (.i .u8 45)]]:=rfl
    rw [hb] at ha
    simp [hn,hneg,ha,cl g,Aj n2,Aj n1,n1]
  ·have ep : BC n = Dy n.natAbs:=by
    have:=Ca n.natAbs
    rwa [show ((n.natAbs : Nat) : Int) = n by omega] at this
   have hpos : wr .u64 n = (n.natAbs : Int):=by rw [Cq]; omega
   obtain ⟨o1,H1,g,n1,l1,k1⟩:=AcH h (by omega) n.natAbs (by omega)
   rw [<- ep] at l1
   refine ⟨o1,H1,?_,n1,l1,k1⟩
   refine .of_ret (BH mono rfl rfl rfl ?_ rfl ?_)
   ·simp [hnf.1]
   ·simp [hn,hpos,cl g,Aj n1,n1]
 obtain ⟨o1,H1,g,n1,l1,k1⟩:=key
 refine ⟨o1,H1,?_,n1,l1,k1⟩
 refine .of_ret (BH mono rfl rfl rfl ?_ rfl ?_)
 ·simp [hnf.1]
 ·simp [cl g,Aj n1,n1]
open Go.Proofs
theorem Tv {z y : I} {c d : List Int} (hz : IsSl z (CV c)) (hy : IsSl y (CV d)) (hc : c.length <= 9223372036854775807) (H : Hp) : Gives G 107 [.m z,.m y] H (.m (.b (decide (c = d)))) H:=by
 have rx:=hz.rules
 have ry:=hy.rules
 simp only [CJ] at rx ry
 refine Ak rfl rfl rfl rfl rfl ?_
 generalize hE : decide (c = d) = E
 have no : c ≠ d -> E = false:=fun h=>by rw [<- hE]; exact Adr h
 by_cases u2 : c.length = d.length
 case neg =>
  have k:=no fun e=>u2 (by rw [e])
  have u2' : ¬ (c.length : Int) = d.length:=by omega
  simp (maxSteps:=2000000) (disch:=omega) [rx,ry,u2',k]
 simp (maxSteps:=2000000) (disch:=omega) [rx,ry,u2]
 refine (?key : ∀ (j : Nat) (B : List (Nat × List V)),j <= d.length -> c.take j = d.take j -> Run G c107_B0 (S107_0 (.m z) (.m y) (.m (.i .i64 (j : Int))) B []) _) 0 _ (Adg _) rfl
 refine Ef (fun j : Nat=>d.length - j) fun j ih B hj hX=>?_
 unfold c107_B0
 cases hv : d[j]? with
 | none =>
  have : j = d.length:=by have:=Adh.1 hv; omega
  subst this
  rw [AdJ,<- u2,AdJ] at hX
  have k : E = true:=by rw [<- hE]; exact Ade hX
  simp (maxSteps:=2000000) (disch:=omega) [rx,u2,k]
 | some w =>
  have hltj:=(AcO.1 hv).1
  have hltj' : (j : Int) < d.length:=by omega
  obtain ⟨v,hp2⟩ : ∃ v,c[j]? = some v:=⟨c[j],AcT (by omega)⟩
  have m1:=IL hp2
  have m2:=IL hv
  have wj : wr .i64 ((j : Int) + 1) = ((j + 1 : Nat) : Int):=Aa (by omega) (by omega)
  by_cases e : v = w
  ·have k:=ih (j + 1) (by omega) B (by omega) (Tr hX hp2 hv e)
   subst e
   simp (maxSteps:=2000000) (disch:=omega) [rx,ry,u2,hltj',m1,m2,wj,-Int.natCast_add]
   exact k
  ·have k:=no fun h=>e (by have:=congrArg (fun l=>l[j]?) h; simp only [hp2,hv] at this; exact AdL this)
   simp (maxSteps:=2000000) (disch:=omega) [rx,ry,u2,hltj',m1,m2,e,k,-Int.natCast_add]
end Go.Mx.Tryz
namespace Go.Mx.Tryz
def LW (ty : Nat) (xs : List I) (o : V) (H : Hp) (ok : Nat -> Prop) : Prop:=(xs = [] /\ (o = .m (.nl 4) \/ o = .ls [])) \/
 ∃ (r : Nat) (es : List I) (base : Nat) (lim : Bool),ok r /\ o = .sl r es.length 1 0 xs.length lim /\ nth H r = some (.cs ty 1 (onV es) base false) /\ base <= es.length /\ xs.length <= es.length /\ es.take xs.length = xs
theorem Tq {xs es : List I} (h : es.take xs.length = xs) {i : Nat} {x : I} (hx : xs[i]? = some x) : es[i]? = some x:=by
 have hlt:=(AcO.1 hx).1
 have e : (es.take xs.length)[i]? = some x:=by rw [h]; exact hx
 rwa [Adw,AcY hlt] at e
theorem LW.rd {ty : Nat} {xs : List I} {o : V} {H : Hp} {ok : Nat -> Prop} (h : LW ty xs o H ok) {i : Nat} {x : I} (hx : xs[i]? = some x) : ∃ p,Ai (.ixa 1) [o,.m (.i .i64 (i : Int))] = some p /\ Av p = true /\ ∀ B,readX ⟨B,H⟩ (.ld false 1) [p] = some (.m x):=by
 have hlt:=(AcO.1 hx).1
 rcases h with ⟨rfl,_⟩ | ⟨r,es,base,lim,hr,rfl,h3,h4,h5,h6⟩
 ·simp at hlt
 ·have hge:=Tq h6 hx
  refine ⟨.pt r es.length i 0,?_,rfl,fun B=>?_⟩
  ·simp (maxSteps:=2000000) (disch:=omega) []
  ·have e : readX ⟨B,H⟩ (.ld false 1) [V.pt r es.length i 0] = (readA ⟨B,H⟩ 1 (V.pt r es.length i 0)).bind fun cs=>CL false cs:=rfl
   simp (maxSteps:=2000000) (disch:=omega) [Ae,BU hge,h3,h4]
theorem LW.elems {ty : Nat} {xs : List I} {o : V} {H : Hp} {ok : Nat -> Prop} (h : LW ty xs o H ok) : Mx.elems H o = some (onV xs):=by
 rcases h with ⟨rfl,rfl | rfl⟩ | ⟨r,es,base,lim,hr,rfl,h3,h4,h5,h6⟩
 ·rfl
 ·rfl
 ·rw [Cf,h3]
  show gd (Nat.ble base es.length && Nat.beq 1 1) (some (((onV es).drop 0).take xs.length)) = _
  rw [AZ,Ade h4,XL,List.drop_zero,h6]
  rfl
theorem LW.view {ty : Nat} {xs : List I} {o : V} {H : Hp} {ok : Nat -> Prop} (h : LW ty xs o H ok) (k : Nat) : ∃ z,Mx.view (k + 2) H o = some z /\ IsSl z (on1 xs) /\ BA (.m z) = true:=by
 have he:=h.elems
 rcases h with ⟨rfl,rfl | rfl⟩ | ⟨r,es,base,lim,hr,rfl,h3,h4,h5,h6⟩
 ·exact ⟨_,rfl,BW,rfl⟩
 ·exact ⟨_,rfl,CO _,rfl⟩
 ·refine ⟨.sl (on1 xs),?_,CO _,rfl⟩
  show Option.bind (Mx.elems H (.sl r es.length 1 0 xs.length lim)) _ = _
  rw [he]
  show Option.bind (Ac (fun e=>Ac (Mx.view (k + 1) H) e) (onV xs)) _ = _
  rw [optV]
  rfl
theorem TD (xs : List I) : AY (on1 xs) = onV xs:=by
 unfold AY on1 onV
 rw [Aef]
 rfl
open Go.Lib
theorem Jb (u : Nat) : ∀ c,c ∈ Dy u -> 48 <= c /\ c <= 57:=by
 refine Ef (P:=fun u=>∀ c,c ∈ Dy u -> 48 <= c /\ c <= 57) (fun u : Nat=>u) (fun u ih c hc=>?_) u
 by_cases h : u < 10
 ·rw [Fa h] at hc
  simp at hc
  omega
 ·rw [IK h] at hc
  rcases AdT.1 hc with h1 | h1
  ·exact ih (u / 10) (by omega) c h1
  ·simp at h1
   omega
def valU (s : List Nat) : Nat:=s.foldl (fun a c=>10 * a + (c - 48)) 0
theorem Gl (u : Nat) : valU (Dy u) = u:=by
 refine Ef (P:=fun u=>valU (Dy u) = u) (fun u : Nat=>u) (fun u ih=>?_) u
 by_cases h : u < 10
 ·rw [Fa h]
  show 10 * 0 + (48 + u - 48) = u
  omega
 ·rw [IK h]
  have:=ih (u / 10) (by omega)
  unfold valU at this ⊢
  rw [List.foldl_append,this]
  show 10 * (u / 10) + (48 + u % 10 - 48) = u
  omega
theorem Ky {x y : Int} (h : BC x = BC y) : x = y:=by
 have hd : ∀ u v : Nat,1 <= v -> Dy u ≠ 45 :: Dy v:=fun u v _ e=>by
  have:=Jb u 45 (by rw [e]; simp)
  omega
 by_cases hx : 0 <= x
 ·obtain ⟨u,rfl⟩:=AdD hx
  rw [Ca] at h
  by_cases hy : 0 <= y
  ·obtain ⟨v,rfl⟩:=AdD hy
   rw [Ca] at h
   rw [<- Gl u,h,Gl]
  ·obtain ⟨v,hv⟩:=AdD (show 0 <= -y by omega)
   have : y = -(v : Int):=by omega
   subst this
   rw [Db v (by omega)] at h
   exact absurd h (hd u v (by omega))
 ·obtain ⟨u,hu⟩:=AdD (show 0 <= -x by omega)
  have : x = -(u : Int):=by omega
  subst this
  rw [Db u (by omega)] at h
  by_cases hy : 0 <= y
  ·obtain ⟨v,rfl⟩:=AdD hy
   rw [Ca] at h
   exact absurd h.symm (hd v u (by omega))
  ·obtain ⟨v,hv⟩:=AdD (show 0 <= -y by omega)
   have : y = -(v : Int):=by omega
   subst this
   rw [Db v (by omega)] at h
   have h:=(List.cons.inj h).2
   rw [<- Gl u,h,Gl]
theorem Em (x : Int) : ∀ c,c ∈ BC x -> c ≠ 32 /\ c < 256:=fun c hc=>by
 by_cases h : 0 <= x
 ·obtain ⟨u,rfl⟩:=AdD h
  rw [Ca] at hc
  have:=Jb u c hc
  omega
 ·obtain ⟨u,hu⟩:=AdD (show 0 <= -x by omega)
  have : x = -(u : Int):=by omega
  subst this
  rw [Db u (by omega)] at hc
  rcases Adf.1 hc with h | h
  ·omega
  ·have:=Jb u c h
   omega
def BT (c : List Int) : List Nat:=c.flatMap fun k=>32 :: BC k
def HA (x : Nd) : List Nat:=BC x.1 ++ BT x.2
theorem IP : ∀ {a b s t : List Nat},(∀ c,c ∈ a -> c ≠ 32) -> (∀ c,c ∈ b -> c ≠ 32) -> s.take 1 ≠ [] /\ s.take 1 = [32] \/ s = [] -> t.take 1 ≠ [] /\ t.take 1 = [32] \/ t = [] -> a ++ s = b ++ t -> a = b /\ s = t
 | [],[],s,t,_,_,_,_,h=>⟨rfl,h⟩
 | x :: a,y :: b,s,t,ha,hb,hs,ht,h=>by
  simp only [List.cons_append,List.cons.injEq] at h
  obtain ⟨h1,h2⟩:=IP (fun c hc=>ha c (Adj _ hc)) (fun c hc=>hb c (Adj _ hc)) hs ht h.2
  exact ⟨by rw [h.1,h1],h2⟩
 | [],y :: b,s,t,_,hb,hs,_,h=>by
  have hy:=hb y (Adl ..)
  simp only [List.nil_append,List.cons_append] at h
  subst h
  rcases hs with ⟨_,h⟩ | h
  ·simp at h
   exact absurd h hy
  ·cases h
 | x :: a,[],s,t,ha,_,_,ht,h=>by
  have hx:=ha x (Adl ..)
  simp only [List.nil_append,List.cons_append] at h
  subst h
  rcases ht with ⟨_,h⟩ | h
  ·simp at h
   exact absurd h hx
  ·cases h
theorem Gj (c : List Int) : (BT c).take 1 ≠ [] /\ (BT c).take 1 = [32] \/ BT c = []:=by
 cases c with
 | nil=>exact .inr rfl
 | cons k r=>exact .inl ⟨by simp [BT],by simp [BT]⟩
theorem Ks : ∀ {c d : List Int},BT c = BT d -> c = d
 | [],[],_=>rfl
 | [],k :: r,h=>by simp [BT] at h
 | k :: r,[],h=>by simp [BT] at h
 | k :: r,j :: s,h=>by
  have h : BC k ++ BT r = BC j ++ BT s:=by
   have h : 32 :: (BC k ++ BT r) = 32 :: (BC j ++ BT s):=h
   exact (List.cons.inj h).2
  obtain ⟨h1,h2⟩:=IP (fun c hc=>(Em _ c hc).1) (fun c hc=>(Em _ c hc).1) (Gj r) (Gj s) h
  rw [Ky h1,Ks h2]
theorem TB {x y : Nd} (h : HA x = HA y) : x = y:=by
 obtain ⟨h1,h2⟩:=IP (fun c hc=>(Em _ c hc).1) (fun c hc=>(Em _ c hc).1) (Gj x.2) (Gj y.2) h
 exact Prod.ext (Ky h1) (Ks h2)
theorem QN (c : List Int) : ∀ y,y ∈ BT c -> y < 256:=fun y hy=>by
 obtain ⟨k,_,h⟩:=List.mem_flatMap.1 hy
 rcases Adf.1 h with h | h
 ·omega
 ·exact (Em k y h).2
theorem TC (x : Nd) : ∀ y,y ∈ HA x -> y < 256:=fun y hy=>by
 rcases AdT.1 hy with h | h
 ·exact (Em x.1 y h).2
 ·exact QN x.2 y h
def knw : List Nd -> Nat -> List (List Nat × Int)
 | [],_=>[]
 | x :: r,i=>(HA x,(i : Int)) :: knw r (i + 1)
theorem IY : ∀ (l : List Nd) (i : Nat) (x : Nd),Bf (knw l i) (HA x) = ((l.idxOf? x).map fun k=>((i + k : Nat) : Int))
 | [],i,x=>rfl
 | y :: r,i,x=>by
  have e : Bf (knw (y :: r) i) (HA x) = if HA y = HA x then some (i : Int) else Bf (knw r (i + 1)) (HA x):=rfl
  rw [e,List.idxOf?_cons]
  by_cases h : y = x
  ·subst h
   rw [AcY rfl,AcY (by simp)]
   rfl
  ·rw [AcQ fun k=>h (TB k),AcQ (by simpa using h),IY r (i + 1) x]
   cases r.idxOf? x with
   | none=>rfl
   | some k =>
    show some _ = some _
    congr 1
    simp only
    omega
theorem Nu : ∀ (l : List Nd) (i : Nat) (x : Nd),knw (l ++ [x]) i = knw l i ++ [(HA x,((i + l.length : Nat) : Int))]
 | [],i,x=>rfl
 | y :: r,i,x=>by
  show (HA y,(i : Int)) :: knw (r ++ [x]) (i + 1) = _
  rw [Nu r (i + 1) x]
  simp only [Ado,knw,List.cons_append]
  rw [show i + 1 + r.length = i + (r.length + 1) by omega]
theorem XU {l : List Nd} {x : Nd} (h : l.idxOf? x = none) : Ft (knw l 0) (HA x) ((l.length : Nat) : Int) = knw (l ++ [x]) 0:=by
 rw [Nu,SF,AdU]
 rw [<- HO,IY,h]
 rfl
def DV (l : List Nd) (x : Nd) : List Nd × Nat:=match l.idxOf? x with
 | some k=>(l,k)
 | none=>(l ++ [x],l.length)
theorem NI (l : List Nd) (x : Nd) : l.length <= (DV l x).1.length /\ (DV l x).1.length <= l.length + 1:=by
 unfold DV
 split <;> simp
def L2 (es : List (List I)) (o : V) (H : Hp) : Prop:=(es = [] /\ o = .m (.nl 4)) \/ (es ≠ [] /\ ∃ r,o = .sl r es.length 2 0 es.length false /\ nth H r = some (.cs 73 2 (AY es) 0 false))
theorem immS_len (es : List (List I)) : (AY es).length = es.length:=by simp [AY]
theorem L2.nf {es : List (List I)} {o : V} {H : Hp} (h : L2 es o H) : Av o = true /\ An o = some [o] /\ BA o = true /\ Ai (.len false) [o] = some (.m (.i .i64 (es.length : Nat))):=by
 rcases h with ⟨rfl,rfl⟩ | ⟨hne,r,rfl,h3⟩
 ·exact ⟨rfl,rfl,rfl,rfl⟩
 ·exact ⟨rfl,rfl,rfl,rfl⟩
theorem L2.keep {es : List (List I)} {o : V} {H H' : Hp} (h : L2 es o H) (hk : ∀ r,Ax o = some r -> r < H.length -> nth H' r = nth H r) : L2 es o H':=by
 rcases h with h | ⟨hne,r,rfl,h3⟩
 ·exact .inl h
 ·exact .inr ⟨hne,r,rfl,by rw [hk r rfl (AH h3)]; exact h3⟩
theorem L2.row_lt {es : List (List I)} {o : V} {H : Hp} (h : L2 es o H) {r : Nat} (e : Ax o = some r) : r < H.length:=by
 rcases h with ⟨_,rfl⟩ | ⟨hne,q,rfl,h3⟩
 ·cases e
 ·cases e
  exact AH h3
theorem L2.row {es : List (List I)} {o : V} {H : Hp} (h : L2 es o H) {r : Nat} (e : Ax o = some r) : nth H r = some (.cs 73 2 (AY es) 0 false):=by
 rcases h with ⟨_,rfl⟩ | ⟨hne,q,rfl,h3⟩
 ·cases e
 ·cases e
  exact h3
theorem L2.push {es : List (List I)} {o : V} {H : Hp} (h : L2 es o H) {l : Int} {z : I} (hz : BA (.m z) = true) (hl : es.length <= 100000000) : ∃ o1 H1,(∀ B,Af (fun _ _ _=>none) ⟨B,H⟩ (.app 73 2 32) [o,.ls [[.i .i64 l,z]]] = some (o1,⟨B,H1⟩)) /\ Av o1 = true /\ L2 (es ++ [[.i .i64 l,z]]) o1 H1 /\ Kp H o H1 o1:=by
 have hok : ((AY [[.i .i64 l,z]]).all fun e=>Nat.beq e.length 2 && e.all BA) = true:=by
  have h1 : BA (.m (.i .i64 l)) = true:=rfl
  simp [AY,hz,h1]
 rcases h with ⟨rfl,rfl⟩ | ⟨hne,r,rfl,h3⟩
 ·refine ⟨.sl H.length 1 2 0 1 false,H ++ [.cs 73 2 (AY [[.i .i64 l,z]]) 0 false],fun B=>(Bk rfl).trans ?_,rfl,.inr ⟨by simp,H.length,rfl,CC H _ 0⟩,by simp,fun r hr _=>By _ _ _ hr,fun r hr=>.inr (by cases hr; exact AcR _)⟩
  show Bq ⟨B,H⟩ 73 2 32 (AY [[.i .i64 l,z]]) = _
  rw [BZ,hok]
  rfl
 ·have ha2:=fun B=>FJ (M:=⟨B,H⟩) (bytes:=32) (xs:=AY [[.i .i64 l,z]]) h3 (by simp [AY]) (by simp only [immS_len,AdW]; omega) hok
  have e2 : AY es ++ AY [[.i .i64 l,z]] = AY (es ++ [[.i .i64 l,z]]):=by simp [AY]
  simp only [immS_len,e2] at ha2
  have el : es.length + [[I.i .i64 l,z]].length = (es ++ [[.i .i64 l,z]]).length:=by simp
  rw [el] at ha2
  refine ⟨_,_,fun B=>(Bk rfl).trans (ha2 B),rfl,.inr ⟨by simp,r,rfl,AR (AH h3)⟩,by simp,fun q hq hne2=>Au fun e=>?_,fun q hq=>.inl hq⟩
  subst e
  exact hne2 rfl
theorem L2.elems {es : List (List I)} {o : V} {H : Hp} (h : L2 es o H) : Mx.elems H o = some (AY es):=by
 rcases h with ⟨rfl,rfl⟩ | ⟨hne,r,rfl,h3⟩
 ·rfl
 ·rw [Cf,h3]
  show gd (Nat.ble 0 es.length && Nat.beq 2 2) (some (((AY es).drop 0).take es.length)) = _
  rw [AZ,Ade (Adg _),List.drop_zero,Ads (by rw [immS_len]; exact AcR _)]
  rfl
theorem rd2 {es : List (List V)} {i : Nat} {a b : V} (h : nth es i = some [a,b]) : EU 2 es i 0 2 = some [a,b] /\ EU 2 es i 0 1 = some [a] /\ EU 2 es i 1 1 = some [b]:=by
 refine ⟨?_,?_,?_⟩ <;>
 ·show Option.bind (nth es (i + 0)) _ = _
  rw [Nat.add_zero,h]
  rfl
theorem L2.rd {es : List (List I)} {o : V} {H : Hp} (h : L2 es o H) {i : Nat} {x : Int} {z : I} (hx : es[i]? = some [.i .i64 x,z]) : ∃ p q,Ai (.ixa 2) [o,.m (.i .i64 (i : Int))] = some p /\ Av p = true /\ (∀ B,readX ⟨B,H⟩ (.ld true 2) [p] = some (.m (.ag [.i .i64 x,z]))) /\ (∃ p0,Ai (.fad 0) [p] = some p0 /\ Av p0 = true /\ ∀ B,readX ⟨B,H⟩ (.ld false 1) [p0] = some (.m (.i .i64 x))) /\ Ai (.fad 1) [p] = some q /\ Av q = true /\ ∀ B,readX ⟨B,H⟩ (.ld false 1) [q] = some (.m z):=by
 have hlt:=(AcO.1 hx).1
 have hn : nth (AY es) i = some [.m (.i .i64 x),.m z]:=by
  rw [AC]
  simp [AY,hx]
 rcases h with ⟨rfl,rfl⟩ | ⟨hne,r,rfl,h3⟩
 ·simp at hlt
 ·refine ⟨.pt r es.length i 0,.pt r es.length i 1,?_,rfl,fun B=>?_,⟨.pt r es.length i 0,rfl,rfl,fun B=>?_⟩,rfl,rfl,fun B=>?_⟩
  ·simp (maxSteps:=2000000) (disch:=omega) []
  ·simp (maxSteps:=2000000) (disch:=omega) [Ae,rd2 hn,h3,Bn]
  ·simp (maxSteps:=2000000) (disch:=omega) [Ae,rd2 hn,h3]
  ·simp (maxSteps:=2000000) (disch:=omega) [Ae,rd2 hn,h3]
def IR (c : List Int) (o : V) (H : Hp) : Prop:=∃ r base lim,o = .sl r c.length 1 0 c.length lim /\ nth H r = some (.cs 3 1 (onV (iI c)) base false) /\ base <= c.length
theorem IR.toLW {c : List Int} {o : V} {H : Hp} (h : IR c o H) : LW 3 (iI c) o H Gp:=by
 obtain ⟨r,base,lim,rfl,h3,h4⟩:=h
 exact .inr ⟨r,iI c,base,lim,AdI,by rw [CD],h3,by rw [CD]; exact h4,AcR _,AdJ⟩
theorem IR.keep {c : List Int} {o : V} {H H' : Hp} (h : IR c o H) (hk : ∀ r,Ax o = some r -> r < H.length -> nth H' r = nth H r) : IR c o H':=by
 obtain ⟨r,base,lim,rfl,h3,h4⟩:=h
 exact ⟨r,base,lim,rfl,by rw [hk r rfl (AH h3)]; exact h3,h4⟩
theorem IR.bsf {c : List Int} {o : V} {H : Hp} (h : IR c o H) (l : Int) : ∃ z H2,(∀ B,Af (fun _ _ _=>none) ⟨B,H⟩ (.bsf 2 [.m (.i .i64 0),.m (.nl 4)] 1 [0]) [.ag [.m (.i .i64 l),o]] = some (.ls [[.i .i64 l,z]],⟨B,H2⟩)) /\ IsSl z (CV c) /\ BA (.m z) = true /\ H2.length = H.length /\ ∀ r,Ax o ≠ some r -> nth H2 r = nth H r:=by
 obtain ⟨z,hv,hz,hz1⟩:=h.toLW.view 18
 obtain ⟨r,base,lim,rfl,h3,h4⟩:=h
 rw [Kw] at hz
 refine ⟨z,H.set r (.cs 3 1 (onV (iI c)) base true),fun B=>?_,hz,hz1,by simp,fun q hq=>Au fun e=>hq (by rw [e]; rfl)⟩
 have e : Af (fun _ _ _=>none) ⟨B,H⟩ (.bsf 2 [.m (.i .i64 0),.m (.nl 4)] 1 [0]) [.ag [.m (.i .i64 l),.sl r c.length 1 0 c.length lim]] = ((Ac (fun e=>Ac (Mx.view 20 H) e) [[V.m (.i .i64 l),V.sl r c.length 1 0 c.length lim]]).bind fun l=>(AL [r] H).bind fun H'=>some (.ls l,⟨B,H'⟩)):=rfl
 have hv0 : Mx.view 20 H (.m (.i .i64 l)) = some (.i .i64 l):=rfl
 rw [e,Rz h3]
 simp only [Ac,hv,hv0,AcS]
theorem IR.nf {c : List Int} {o : V} {H : Hp} (h : IR c o H) : Av o = true /\ An o = some [o] /\ Ai (.len false) [o] = some (.m (.i .i64 (c.length : Nat))):=by
 obtain ⟨r,base,lim,rfl,h3,h4⟩:=h
 exact ⟨rfl,rfl,rfl⟩
theorem IR.row {c : List Int} {o : V} {H : Hp} (h : IR c o H) {r : Nat} (e : Ax o = some r) : ∃ base,nth H r = some (.cs 3 1 (onV (iI c)) base false):=by
 obtain ⟨q,base,lim,rfl,h3,h4⟩:=h
 cases e
 exact ⟨base,h3⟩
def Jf (es : List (List I)) : Prop:=∀ e,e ∈ es -> ∃ (x : Int) (z : I),e = [.i .i64 x,z] /\ IsSl z (CV (dIn z))
structure BldQ (rb rm : Nat) (es : List (List I)) (o : V) (H : Hp) : Prop where
 hb : ∃ base,base <= 1 /\ nth H rb = some (.cs 243 2 [[o,.mp rm]] base false)
 hm : nth H rm = some (mpR ekS evI (knw (es.map dNd) 0))
 hn : L2 es o H
 ok : Jf es
def KpB (rb rm : Nat) (o : V) (H : Hp) (o' : V) (H' : Hp) (nx : V) : Prop:=H.length <= H'.length /\ (∀ r,r < H.length -> r ≠ rb -> r ≠ rm -> Ax o ≠ some r -> Ax nx ≠ some r -> nth H' r = nth H r) /\ ∀ r,Ax o' = some r -> Ax o = some r \/ H.length <= r
theorem BldQ.keep {rb rm : Nat} {es : List (List I)} {o : V} {H H' : Hp} (h : BldQ rb rm es o H) (hk : ∀ r,r < H.length -> nth H' r = nth H r) : BldQ rb rm es o H':=by
 obtain ⟨⟨b,hb0,hb⟩,hm,hn,ok⟩:=h
 exact ⟨⟨b,hb0,by rw [hk _ (AH hb)]; exact hb⟩,by rw [hk _ (AH hm)]; exact hm,hn.keep fun r _ hr=>hk r hr,ok⟩
theorem Kr : ∀ (c : List Int),(∀ k,k ∈ c -> -1000000000 <= k /\ k <= 1000000000) -> (BT c).length <= 22 * c.length
 | [],_=>by simp [BT]
 | k :: r,h=>by
  have h1:=h k (Adl ..)
  have h2:=Kr r fun x hx=>h x (Adj _ hx)
  have h3:=DT k (by omega) (by omega)
  have e : BT (k :: r) = (32 :: BC k) ++ BT r:=rfl
  rw [e,AcV,Ado,Ado]
  omega
theorem Ox {c : List Int} {i : Nat} {k : Int} (h : c[i]? = some k) : BT (c.take (i + 1)) = BT (c.take i) ++ (32 :: BC k):=by
 have : c.take (i + 1) = c.take i ++ [k]:=by rw [List.take_add_one,h]; rfl
 rw [this]
 unfold BT
 rw [List.flatMap_append]
 simp
theorem XI (a b : V) : EU 2 [[a,b]] 0 0 1 = some [a]:=rfl
theorem Acm (a b : V) : EU 2 [[a,b]] 0 1 1 = some [b]:=rfl
theorem RE {x : Int} {z : I} {c : List Int} (h : IsSl z (CV c)) : dNd [.i .i64 x,z] = (x,c):=by
 have : dIn z = c:=by
  rcases h with rfl | ⟨rfl,h0⟩
  ·show (CV c).map dEn = c
   unfold CV
   rw [Aef]
   exact List.map_id'' (fun _=>rfl) c
  ·have : c = []:=by simpa [CV] using h0
   subst this
   rfl
 show (x,dIn z) = _
 rw [this]
set_option maxHeartbeats 4000000 in
theorem Rf {rb rm : Nat} {es : List (List I)} {o : V} {H : Hp} (hB : BldQ rb rm es o H) {l : Int} {c : List Int} {nx : V} (hx : IR c nx H) (hl : -1000000000 <= l /\ l <= 1000000000) (hc : ∀ k,k ∈ c -> -1000000000 <= k /\ k <= 1000000000) (hcl : c.length <= 100) (hel : es.length <= 100000000)
  (Q : V -> Hp -> Prop) (hQ : ∀ es' o' H',BldQ rb rm es' o' H' -> es'.map dNd = (DV (es.map dNd) (l,c)).1 -> KpB rb rm o H o' H' nx -> Q (.m (.i .i64 ((DV (es.map dNd) (l,c)).2 : Nat))) H') :
  Ret G 190 [.pt rb 1 0 0,.m (.i .i64 l),nx] H Q:=by
 have hxn:=hx.nf
 refine BH mono rfl rfl rfl (by simp [hxn.1]) rfl ?_
 obtain ⟨o0,H0,g0,n0,l0,k0⟩:=AcI (H:=H) (s:=[]) (o:=.m (.nl 4)) .nil (by simp) l (by omega) (by omega)
 rw [List.nil_append] at l0
 simp (maxSteps:=2000000) (disch:=omega) [cl g0,Aj n0,Aj hxn.1,hxn.2.2]
 refine (?key : ∀ (i : Nat) (oi : V) (B : List (Nat × List V)) (Hi : Hp),i <= c.length -> LR 5 (bI (BC l ++ BT (c.take i))) oi Hi Gp -> Kp H (.m (.nl 4)) Hi oi ->
  Run G c190_B0 (S190_0 (.pt rb 1 0 0) (.m (.i .i64 l)) nx oi nx (.m (.i .i64 (c.length : Int))) (.m (.i .i64 (i : Int))) B Hi) _) 0 o0 [] H0 (Adg _) (by simpa [BT] using l0) k0
 clear g0 n0 l0 k0 o0 H0
 refine Ef (fun i : Nat=>c.length - i) fun i ih oi B Hi hi li ki=>?_
 unfold c190_B0
 have hxi : IR c nx Hi:=hx.keep fun r _ hr=>ki.2.1 r hr (by simp [Ax])
 have hil:=DT l (by omega) (by omega)
 have htl:=Kr (c.take i) fun k hk=>hc k (AdM hk)
 have htk : (c.take i).length <= c.length:=by rw [Adk]; omega
 have hoi:=li.nf
 cases hk : c[i]? with
 | some k =>
  have hlt : i < c.length:=(AcO.1 hk).1
  have hlt' : (i : Int) < c.length:=by omega
  have hkb:=hc k (Ada hk)
  obtain ⟨p,p1,p2,p3⟩:=hxi.toLW.rd (CE hk)
  obtain ⟨o1,H1,ha,n1,l1,k1⟩:=li.pushN (b:=1) (by omega) (ys:=bI [32]) (by simp only [NF,AcV,AdW]; omega) (IV _)
  rw [NG] at l1
  obtain ⟨o2,H2,g2,n2,l2,k2⟩:=AcI l1 (by simp only [AcV,AdW]; omega) k (by omega) (by omega)
  have e2 : BC l ++ BT (c.take i) ++ [32] ++ BC k = BC l ++ BT (c.take (i + 1)):=by rw [Ox hk]; simp
  rw [e2] at l2
  have kk:=fun B=>ih (i + 1) (by omega) o2 B H2 (by omega) l2 ((ki.trans k1).trans k2)
  have hb : onV (bI [32]) = [[V.m (.i .u8 32)]]:=rfl
  rw [hb] at ha
  have wi : wr .i64 ((i : Int) + 1) = ((i + 1 : Nat) : Int):=Aa (by omega) (by omega)
  simp (maxSteps:=2000000) (disch:=omega) [hlt',p1,p3,ha,cl g2,Aj n2,wi]
  exact kk _
 | none =>
  have : i = c.length:=by have:=Adh.1 hk; omega
  subst this
  have hlt' : ¬ (c.length : Int) < c.length:=by omega
  rw [AdJ] at li
  have ek : BC l ++ BT c = HA (l,c):=rfl
  rw [ek] at li
  have hB2 : BldQ rb rm es o Hi:=hB.keep fun r hr=>ki.2.1 r hr (by simp [Ax])
  have hb2 : ∀ (H : Hp) B,LR 5 (bI (HA (l,c))) oi H Gp -> readX ⟨B,H⟩ .b2s [oi] = some (.m (.s (HA (l,c)))):=fun H B li=>by rw [QV,li.elems]; simp only [AcS]; rw [NC _ (TC _)]; rfl
  have hb3:=fun B=>hb2 Hi B li
  obtain ⟨⟨b,hb0,hb⟩,hm,hn,hok⟩:=id hB2
  have hfind:=IY (es.map dNd) 0 (l,c)
  cases hf : (es.map dNd).idxOf? (l,c) with
  | some k =>
   have ha : DV (es.map dNd) (l,c) = (es.map dNd,k):=by unfold DV; rw [hf]
   rw [hf] at hfind
   simp only [AdK,AdU] at hfind
   have kk:=hQ es o Hi hB2 (by rw [ha]) ⟨ki.1,fun r hr _ _ _ _=>ki.2.1 r hr (by simp [Ax]),fun r hr=>.inl hr⟩
   rw [ha] at kk
   simp (maxSteps:=2000000) (disch:=omega) [Ae,hlt',hb,hb0,hm,Acm,hb3,hfind]
   exact kk
  | none =>
   have ha : DV (es.map dNd) (l,c) = (es.map dNd ++ [(l,c)],es.length):=by unfold DV; rw [hf]; simp
   rw [hf] at hfind
   simp only [Option.map_none] at hfind
   have hon:=hn.nf
   have d1 : ∀ r,Ax nx = some r -> Ax o = some r -> False:=fun r e1 e2=>by
    obtain ⟨_,q1⟩:=hxi.row e1
    have q2:=hn.row e2
    rw [q1] at q2
    simp at q2
   have d2 : Ax nx ≠ some rb:=fun e1=>by
    obtain ⟨_,q1⟩:=hxi.row e1
    rw [q1] at hb
    simp at hb
   have d3 : Ax nx ≠ some rm:=fun e1=>by
    obtain ⟨_,q1⟩:=hxi.row e1
    rw [q1] at hm
    simp [mpR] at hm
   have d4 : Ax o ≠ some rb:=fun e1=>by
    have q2:=hn.row e1
    rw [q2] at hb
    simp at hb
   have d5 : Ax o ≠ some rm:=fun e1=>by
    have q2:=hn.row e1
    rw [q2] at hm
    simp [mpR] at hm
   have d6 : rb ≠ rm:=fun e1=>by
    subst e1
    rw [hb] at hm
    simp [mpR] at hm
   have d7 : ∀ r,Ax oi = some r -> Ax nx ≠ some r /\ Ax o ≠ some r /\ r ≠ rb /\ r ≠ rm:=fun r e1=>by
    have q:=li.row e1
    refine ⟨fun e2=>?_,fun e2=>?_,fun e2=>?_,fun e2=>?_⟩
    ·obtain ⟨_,q1⟩:=hxi.row e2
     rw [q1] at q
     simp at q
    ·have q2:=hn.row e2
     rw [q2] at q
     simp at q
    ·subst e2
     rw [hb] at q
     simp at q
    ·subst e2
     rw [hm] at q
     simp [mpR] at q
   obtain ⟨z,H2,f1,f2,f3,f4,f5⟩:=hxi.bsf l
   have hn2 : L2 es o H2:=hn.keep fun r hr _=>f5 r fun e=>d1 r e hr
   obtain ⟨o1,H3,g1,g2,g3,g4⟩:=hn2.push (l:=l) f3 hel
   have hb4 : nth H3 rb = some (.cs 243 2 [[o,.mp rm]] b false):=by
    rw [g4.2.1 rb (by rw [f4]; exact AH hb) d4,f5 rb d2]
    exact hb
   have hm4 : nth H3 rm = some (mpR ekS evI (knw (es.map dNd) 0)):=by
    rw [g4.2.1 rm (by rw [f4]; exact AH hm) d5,f5 rm d3]
    exact hm
   have l4 : LR 5 (bI (HA (l,c))) oi H3 Gp:=li.keepR fun r hr hlt=>by
    obtain ⟨q1,q2,_,_⟩:=d7 r hr
    rw [g4.2.1 r (by rw [f4]; exact hlt) q2,f5 r q1]
   generalize hH4 : H3.set rb (.cs 243 2 [[o1,.mp rm]] 1 false) = H4
   have hb5 : nth H4 rb = some (.cs 243 2 [[o1,.mp rm]] 1 false):=by rw [<- hH4]; exact AR (AH hb4)
   have hm5 : nth H4 rm = some (mpR ekS evI (knw (es.map dNd) 0)):=by rw [<- hH4,Au d6]; exact hm4
   have l5 : LR 5 (bI (HA (l,c))) oi H4 Gp:=l4.keepR fun r hr _=>by
    obtain ⟨_,_,q3,_⟩:=d7 r hr
    rw [<- hH4,Au (AdQ q3)]
   have hb6:=fun B=>hb2 H4 B l5
   have l4len : H4.length = H3.length:=by rw [<- hH4]; simp
   have hset4 : AD H3 rb (.cs 243 2 [[o1,.mp rm]] 1 false) = some H4:=by rw [As _ _ _ (AH hb4),hH4]
   have hset5 : AD H4 rm (mpR ekS evI (Ft (knw (es.map dNd) 0) (HA (l,c)) ((es.length : Nat) : Int))) = some (H4.set rm (mpR ekS evI (Ft (knw (es.map dNd) 0) (HA (l,c)) ((es.length : Nat) : Int)))):=As _ _ _ (AH hm5)
   have hwr : Ct 2 [[o,.mp rm]] 0 0 [o1] = some [[o1,.mp rm]]:=rfl
   have g3n:=g3.nf
   have e1 : (es ++ [[I.i .i64 l,z]]).length = es.length + 1:=by simp
   rw [e1] at g3n
   have wl : wr .i64 (((es.length + 1 : Nat) : Int) - 1) = ((es.length : Nat) : Int):=by rw [Aa (by omega) (by omega)]; omega
   have hd5 : ∀ r,Ax o1 = some r -> r ≠ rb /\ r ≠ rm:=fun r e=>by
    have q:=g3.row e
    refine ⟨fun e2=>?_,fun e2=>?_⟩
    ·subst e2
     rw [hb4] at q
     simp at q
    ·subst e2
     rw [hm4] at q
     simp [mpR] at q
   have kk:=hQ (es ++ [[.i .i64 l,z]]) o1 (H4.set rm (mpR ekS evI (Ft (knw (es.map dNd) 0) (HA (l,c)) ((es.length : Nat) : Int)))) ⟨⟨1,AcR _,by rw [Au (AdQ d6)]; exact hb5⟩,by
     rw [AR (AH hm5),List.map_append]
     have:=XU hf
     rw [Adc] at this
     rw [this]
     simp [RE f2],g3.keep fun r hr _=>by
     obtain ⟨q1,q2⟩:=hd5 r hr
     rw [Au (AdQ q2),<- hH4,Au (AdQ q1)],fun e he=>by
     rcases AdT.1 he with h | h
     ·exact hok e h
     ·rw [AdV] at h
      subst h
      refine ⟨l,z,rfl,?_⟩
      have:=RE (x:=l) f2
      have : dIn z = c:=(Prod.mk.inj this).2
      rw [this]
      exact f2⟩ (by rw [ha,List.map_append]; simp [RE f2]) ⟨by rw [AdP,l4len]; have:=g4.1; have:=ki.1; omega,fun r hr n1 n2 n3 n4=>by
     rw [Au (AdQ n2),<- hH4,Au (AdQ n1),g4.2.1 r (by rw [f4]; have:=ki.1; omega) n3,f5 r n4]
     exact ki.2.1 r hr (by simp [Ax]),fun r hr=>(g4.2.2 r hr).imp_right fun h=>by rw [f4] at h; have:=ki.1; omega⟩
   rw [ha] at kk
   have hb7 : nth (H4.set rm (mpR ekS evI (Ft (knw (es.map dNd) 0) (HA (l,c)) ((es.length : Nat) : Int)))) rb = some (.cs 243 2 [[o1,.mp rm]] 1 false):=by rw [Au (AdQ d6)]; exact hb5
   clear hB2 hQ ih d1 d2 d3 d4 d5 d6 d7 hd5
   obtain ⟨rx,bx,limx,rfl,hrx,hbx⟩:=id hxi
   simp (maxSteps:=2000000) (disch:=omega) [Ae,Aa,hlt',hb,hb0,hm,XI,Acm,hb3,hfind,Bn,f1,g1,hb4,hset4,hwr,g3n.2.1,g3n.2.2.1,hb5,hm5,hb6,hset5,g3n.2.2.2,hb7]
   exact kk
theorem RG {z : I} {c : List Int} (hz : IsSl z (CV c)) (hne : c ≠ []) (hc : c.length <= 1000000) (H : Hp) : Gives G 204 [.m z] H (.sl H.length c.length 1 0 c.length false) (H ++ [.cs 3 1 (onV (iI c)) 0 false]):=by
 rcases hz with rfl | ⟨rfl,h0⟩
 ·have he : elems H (.m (.sl (CV c))) = some (onV (iI c)):=by
   show some (AY (CV c)) = _
   rw [<- Kw,TD]
  have hnil : Er 4 (.m (.sl (CV c))) = some false:=rfl
  obtain ⟨x,t,rfl⟩:=List.exists_cons_of_ne_nil hne
  refine .of_ret (BH mono rfl rfl rfl rfl rfl ?_)
  have ha : ∀ B,Af (fun _ _ _=>none) ⟨B,H⟩ (.app 3 1 8) [.ls [],.m (.sl (CV (x :: t)))] = some (.sl H.length (x :: t).length 1 0 (x :: t).length false,⟨B,H ++ [.cs 3 1 (onV (iI (x :: t))) 0 false]⟩):=fun B=>by
   rw [Bk he]
   show Bq ⟨B,H⟩ 3 1 8 (onV (iI (x :: t))) = _
   rw [BZ,Hm (Rh _),CT,CD]
   have : Nat.ble ((x :: t).length * 8) 140737488355328 = true:=by rw [AZ]; exact Ade (by omega)
   rw [this]
   rfl
  simp [hnil,-Do,ha]
 ·exact absurd (by simpa [CV] using h0) hne
theorem DS {xs : List I} {i : Nat} {x : I} (h : i < xs.length) : AD (onV xs) i [.m x] = some (onV (xs.set i x)):=by
 rw [As _ _ _ (by simpa using h)]
 simp [onV,List.map_set]
theorem FQ (c : List Int) (i : Nat) (v : Int) : (iI c).set i (.i .i64 v) = iI (c.set i v):=by simp [iI,List.map_set]
structure RwS where
 r0 : Nat
 r1 : Nat
 r2 : Nat
 r3 : Nat
 r4 : Nat
def fnW (R : RwS) : V:=.fn 207 [.pt R.r2 1 0 0,.pt R.r0 1 0 0,.pt R.r4 1 0 0,.pt R.r3 1 0 0]
structure OrdQ (R : RwS) (es : List (List I)) (o : V) (dn : List Int) (eo : List (List I)) (oo : V) (H : Hp) : Prop where
 h0 : ∃ b,b <= 1 /\ nth H R.r0 = some (.cs 34 1 [[o]] b false)
 hn : L2 es o H
 h2 : ∃ b,b <= 1 /\ nth H R.r2 = some (.cs 40 1 [[.sl R.r1 es.length 1 0 es.length true]] b false)
 h1 : ∃ b,b <= es.length /\ nth H R.r1 = some (.cs 3 1 (onV (iI dn)) b false)
 h3 : ∃ b,b <= 1 /\ nth H R.r3 = some (.cs 34 1 [[oo]] b false)
 ho : L2 eo oo H
 h4 : ∃ b,b <= 1 /\ nth H R.r4 = some (.cs 158 1 [[fnW R]] b false)
 dl : dn.length = es.length
 d1 : R.r0 ≠ R.r3
 d2 : ∀ r,Ax o = some r -> Ax oo ≠ some r
 oe : Jf eo
def KpW (R : RwS) (oo : V) (H : Hp) (oo' : V) (H' : Hp) : Prop:=H.length <= H'.length /\ (∀ r,r < H.length -> r ≠ R.r1 -> r ≠ R.r3 -> Ax oo ≠ some r -> nth H' r = nth H r) /\ ∀ r,Ax oo' = some r -> Ax oo = some r \/ H.length <= r
theorem KpW.refl (R : RwS) (H : Hp) (o : V) : KpW R o H o H:=⟨AcR _,fun _ _ _ _ _=>rfl,fun _ h=>.inl h⟩
theorem KpW.trans {R : RwS} {H H1 H2 : Hp} {o o1 o2 : V} (h : KpW R o H o1 H1) (k : KpW R o1 H1 o2 H2) : KpW R o H o2 H2:=by
 obtain ⟨a1,a2,a3⟩:=h
 obtain ⟨b1,b2,b3⟩:=k
 refine ⟨by omega,fun r hr n1 n3 hne=>?_,fun r hr=>?_⟩
 ·rw [b2 r (by omega) n1 n3 fun e=>?_,a2 r hr n1 n3 hne]
  rcases a3 r e with h | h
  ·exact hne h
  ·omega
 ·rcases b3 r hr with h | h
  ·exact a3 r h
  ·exact .inr (by omega)
theorem OrdQ.keep {R : RwS} {es : List (List I)} {o : V} {dn : List Int} {eo : List (List I)} {oo : V} {H H' : Hp} (h : OrdQ R es o dn eo oo H) (hk : ∀ r,r < H.length -> (r = R.r0 \/ r = R.r1 \/ r = R.r2 \/ r = R.r3 \/ r = R.r4 \/ Ax o = some r \/ Ax oo = some r) -> nth H' r = nth H r) : OrdQ R es o dn eo oo H':=by
 obtain ⟨⟨b0,x0,y0⟩,hn,⟨b2,x2,y2⟩,⟨b1,x1,y1⟩,⟨b3,x3,y3⟩,ho,⟨b4,x4,y4⟩,dl,d1,d2,oe⟩:=h
 exact ⟨⟨b0,x0,by rw [hk _ (AH y0) (by simp)]; exact y0⟩,hn.keep fun r e hr=>hk r hr (by simp [e]),⟨b2,x2,by rw [hk _ (AH y2) (by simp)]; exact y2⟩,⟨b1,x1,by rw [hk _ (AH y1) (by simp)]; exact y1⟩,⟨b3,x3,by rw [hk _ (AH y3) (by simp)]; exact y3⟩,ho.keep fun r e hr=>hk r hr (by simp [e]),⟨b4,x4,by rw [hk _ (AH y4) (by simp)]; exact y4⟩,dl,d1,d2,oe⟩
theorem OrdQ.lt {R : RwS} {es : List (List I)} {o : V} {dn : List Int} {eo : List (List I)} {oo : V} {H : Hp} (h : OrdQ R es o dn eo oo H) : R.r0 < H.length /\ R.r1 < H.length /\ R.r2 < H.length /\ R.r3 < H.length /\ R.r4 < H.length:=by
 obtain ⟨⟨b0,x0,y0⟩,hn,⟨b2,x2,y2⟩,⟨b1,x1,y1⟩,⟨b3,x3,y3⟩,ho,⟨b4,x4,y4⟩,dl,d1,d2,oe⟩:=h
 exact ⟨AH y0,AH y1,AH y2,AH y3,AH y4⟩
theorem Nm : ∀ (d : List Int) (i : Nat) (v : Int),i < d.length -> (d.set i v).take (i + 1) = d.take i ++ [v]
 | [],_,_,h=>by simp at h
 | a :: r,0,v,_=>by simp
 | a :: r,i + 1,v,h=>by
  have:=Nm r i v (by simpa using h)
  simp [this]
theorem Nn : ∀ (d : List Int) (i : Nat) (v : Int),(d.set i v).drop (i + 1) = d.drop (i + 1)
 | [],_,_=>by simp
 | a :: r,0,v=>by simp
 | a :: r,i + 1,v=>by
  have:=Nn r i v
  simpa using this
theorem OA (a : V) : EU 1 [[a]] 0 0 1 = some [a]:=rfl
set_option maxHeartbeats 4000000 in
theorem Uo {R : RwS} {es : List (List I)} {o : V} (hv : Jf es) (hk : OkN (es.map dNd)) (hel : es.length <= 10000000) : ∀ (n k : Nat) (dn : List Int) (eo : List (List I)) (oo : V) (H : Hp),OrdQ R es o dn eo oo H -> InvW (es.map dNd) (dn,eo.map dNd) -> k < es.length -> (ndU (es.map dNd) k).1 <= (n : Int) ->
  ∀ Q : V -> Hp -> Prop,(∀ dn' eo' oo' H',OrdQ R es o dn' eo' oo' H' -> (Gk (es.map dNd) n k (dn,eo.map dNd)).1 = (dn',eo'.map dNd) -> KpW R oo H oo' H' -> Q (.m (.i .i64 (Gk (es.map dNd) n k (dn,eo.map dNd)).2)) H') ->
  Ret G 207 [.m (.i .i64 (k : Int)),.pt R.r2 1 0 0,.pt R.r0 1 0 0,.pt R.r4 1 0 0,.pt R.r3 1 0 0] H Q
 | 0,k,dn,eo,oo,H,_,_,hlt,hn=>by
  have:=(hk k (by simpa using hlt)).1
  omega
 | n + 1,k,dn,eo,oo,H,hO,hI,hlt,hn=>fun Q hQ=>by
  have hlm : (es.map dNd).length = es.length:=Adc ..
  obtain ⟨q1,q2,q3,q4,q5,q6⟩:=hk k (by omega)
  have e0 : Gk (es.map dNd) (n + 1) k (dn,eo.map dNd) = if 0 < (dn[k]?).getD 0 then ((dn,eo.map dNd),(dn[k]?).getD 0 - 1)
   else YM (ndU (es.map dNd) k) k (if 1 < (ndU (es.map dNd) k).1 then Fi (Gk (es.map dNd) n) (ndU (es.map dNd) k).2 (dn,eo.map dNd) [] else ((dn,eo.map dNd),(ndU (es.map dNd) k).2)):=rfl
  obtain ⟨v,hv0⟩ : ∃ v,dn[k]? = some v:=⟨dn[k]'(by rw [hO.dl]; exact hlt),AcT (by rw [hO.dl]; exact hlt)⟩
  have hvb:=hI.val v (Ada hv0)
  have hvo:=hI.out_le
  rw [e0,hv0] at hQ
  simp only [Option.getD_some] at hQ
  obtain ⟨b0,hb0,h0⟩:=hO.h0
  obtain ⟨b1,hb1,h1⟩:=hO.h1
  obtain ⟨b2,hb2,h2⟩:=hO.h2
  obtain ⟨b3,hb3,h3⟩:=hO.h3
  obtain ⟨b4,hb4,h4⟩:=hO.h4
  have hlt' : (k : Int) < es.length:=by omega
  have hn1:=BU (CE hv0)
  refine BH mono rfl rfl rfl rfl rfl ?_
  by_cases hp : 0 < v
  ·rw [AcY hp] at hQ
   have kk:=hQ dn eo oo H hO rfl (.refl ..)
   have wv : wr .i64 (v - 1) = v - 1:=by
    simp only [Adc] at hvo hvb
    exact Aa (by omega) (by omega)
   simp (maxSteps:=2000000) (disch:=omega) [Ae,h2,hb2,h1,hb1,hn1,hp,wv]
   exact kk
  ·rw [AcQ hp] at hQ
   have hp' : ¬ (0 < v):=hp
   obtain ⟨e,he⟩ : ∃ e,es[k]? = some e:=⟨es[k],AcT hlt⟩
   obtain ⟨x,z,rfl,hz⟩:=hv e (Ada he)
   have hnd : ndU (es.map dNd) k = (x,dIn z):=by
    unfold ndU
    rw [Adi,he]
    rfl
   rw [hnd] at hQ q1 q2 q3 q4 q5 q6 hn e0
   simp only at hQ q1 q2 q3 q4 q5 q6 hn
   generalize hc : dIn z = c at *
   obtain ⟨p,pq,p1,p2,p3,⟨p0,p4,p5,p6⟩,p7,p8,p9⟩:=hO.hn.rd he
   have gc:=RG hz q3 (by omega) H
   generalize hRES : (if 1 < x then Fi (Gk (es.map dNd) n) c (dn,eo.map dNd) [] else ((dn,eo.map dNd),c)) = RES at hQ
   have hon:=hO.hn.nf
   simp (maxSteps:=2000000) (disch:=omega) [Ae,h2,hb2,h1,hb1,hn1,hp',h0,hb0,p1,p4,p6,p7,p9,cl gc,Aj hon.1,Aj p2]
   refine (?key : ∀ (i : Nat) (d : List Int) (dn1 : List Int) (eo1 : List (List I)) (oo1 : V) (B : List (Nat × List V)) (Hi : Hp),i <= c.length -> getB B 7 = some [.m (.i .i64 x),.sl H.length c.length 1 0 c.length false] -> OrdQ R es o dn1 eo1 oo1 Hi -> InvW (es.map dNd) (dn1,eo1.map dNd) ->
    KpW R oo H oo1 Hi -> (∃ b,b <= c.length /\ nth Hi H.length = some (.cs 3 1 (onV (iI d)) b false)) -> d.length = c.length -> d.drop i = c.drop i -> (if 1 < x then Fi (Gk (es.map dNd) n) (c.drop i) (dn1,eo1.map dNd) (d.take i) else ((dn1,eo1.map dNd),d)) = RES ->
    Run G c207_B0 (S207_0 (.m (.i .i64 (k : Int))) (.pt R.r2 1 0 0) (.pt R.r4 1 0 0) (.pt R.r3 1 0 0) (.fa 7 0) (.sl H.length c.length 1 0 c.length false) (.m (.i .i64 (c.length : Int))) (.m (.i .i64 (i : Int))) B Hi) _) 0 c dn eo oo _ _ (Adg _) rfl ?_ hI ⟨by simp,fun r hr _ _ _=>By _ _ _ hr,fun r h=>.inl h⟩ ⟨0,Adg _,CC H _ 0⟩ rfl rfl (by simpa using hRES)
   case key =>
    refine Ef (fun i : Nat=>c.length - i) fun i ih d dn1 eo1 oo1 B Hi hi hB hO1 hI1 hK hX hdl hdd hR=>?_
    unfold c207_B0
    obtain ⟨bx,hbx,hX⟩:=hX
    have hlts:=hO.lt
    have hi1:=hO1.lt
    have hgt : H.length < Hi.length:=AH hX
    have hon1:=hO1.ho.nf
    have hoc : ∀ r,Ax oo1 = some r -> r ≠ H.length:=fun r e1 e2=>by
     subst e2
     have q:=hO1.ho.row e1
     rw [hX] at q
     simp at q
    have hoc0 : ∀ r,Ax o = some r -> r ≠ H.length:=fun r e1 e2=>by
     subst e2
     have q:=hO1.hn.row e1
     rw [hX] at q
     simp at q
    obtain ⟨a0,ha0,h0⟩:=hO1.h0
    obtain ⟨a1,ha1,h1⟩:=hO1.h1
    obtain ⟨a2,ha2,h2⟩:=hO1.h2
    obtain ⟨a3,ha3,h3⟩:=hO1.h3
    obtain ⟨a4,ha4,h4⟩:=hO1.h4
    by_cases hic : i < c.length
    ·have hic' : (i : Int) < c.length:=by omega
     have hdi : d[i]? = c[i]?:=by
      have:=congrArg (fun l=>l[0]?) hdd
      simpa using this
     obtain ⟨kd,hkd⟩ : ∃ kd,c[i]? = some kd:=⟨c[i],AcT hic⟩
     rw [hkd] at hdi
     have hn2:=BU (CE hdi)
     have wi : wr .i64 ((i : Int) + 1) = ((i + 1 : Nat) : Int):=Aa (by omega) (by omega)
     have hcd : c.drop i = kd :: c.drop (i + 1):=by
      rw [AdY hic]
      have:=(AcO.1 hkd).2
      rw [this]
     by_cases hx1 : 1 < x
     ·obtain ⟨s1,s2,s3⟩:=q6 hx1 kd (Ada hkd)
      obtain ⟨kn,rfl⟩:=AdD s1
      rw [AcY hx1,hcd] at hR
      have hR : Fi (Gk (es.map dNd) n) (c.drop (i + 1)) (Gk (es.map dNd) n kn (dn1,eo1.map dNd)).1 (d.take i ++ [(Gk (es.map dNd) n kn (dn1,eo1.map dNd)).2]) = RES:=hR
      have hgr:=(RC hk n kn (dn1,eo1.map dNd) hI1 s2 (by simp only [Int.toNat_natCast] at s3; omega))
      simp (maxSteps:=2000000) (disch:=omega) [Ae,hic',hn2,hX,hbx,hx1,hB,h4,ha4,fnW]
      rw [Bb]
      refine Uo hv hk hel n kn dn1 eo1 oo1 Hi hO1 hI1 (by simpa using s2) (by simp only [Int.toNat_natCast] at s3; omega) _ fun dn2 eo2 oo2 H2 hO2 hr2 hK2=>?_
      rw [hr2] at hR hgr
      generalize (Gk (es.map dNd) n kn (dn1,eo1.map dNd)).2 = v2 at hR hgr ⊢
      have hX2 : nth H2 H.length = some (.cs 3 1 (onV (iI d)) bx false):=by
       rw [hK2.2.1 H.length hgt (by omega) (by omega) fun e=>hoc _ e rfl]
       exact hX
      have hst : AD (onV (iI d)) i [.m (.i .i64 v2)] = some (onV (iI (d.set i v2))):=by rw [DS (by simp; omega),FQ]
      have hlen2 : H.length < H2.length:=AH hX2
      have hoc2 : ∀ r,Ax oo2 = some r -> r ≠ H.length:=fun r e1 e2=>by
       subst e2
       have q:=hO2.ho.row e1
       rw [hX2] at q
       simp at q
      have kk:=fun B hB=>ih (i + 1) (by omega) (d.set i v2) dn2 eo2 oo2 B (H2.set H.length (.cs 3 1 (onV (iI (d.set i v2))) c.length false)) (by omega) hB (hO2.keep fun r hr h=>Au fun e=>by
        subst e
        rcases h with h | h | h | h | h | h | h
        ·omega
        ·omega
        ·omega
        ·omega
        ·omega
        ·exact hoc0 _ h rfl
        ·exact hoc2 _ h rfl) hgr.1.1 (by
        obtain ⟨k1,k2,k3⟩:=hK.trans hK2
        exact ⟨by simpa using k1,fun r hr n1 n2 n3=>by rw [Au (by omega)]; exact k2 r hr n1 n2 n3,k3⟩) ⟨c.length,AcR _,AR hlen2⟩ (by simpa using hdl) (by rw [Nn,<- Aee,hdd,Aee]) (by rw [AcY hx1,Nm _ _ _ (by omega)]; exact hR)
      have hse : AD H2 H.length (.cs 3 1 (onV (iI (d.set i v2))) c.length false) = some (H2.set H.length (.cs 3 1 (onV (iI (d.set i v2))) c.length false)):=As _ _ _ hlen2
      simp (maxSteps:=2000000) (disch:=omega) [Ae,hX2,hn2,hst,hse,hdl,wi]
      exact kk _ hB
     ·rw [AcQ hx1] at hR
      have kk:=fun B hB=>ih (i + 1) (by omega) d dn1 eo1 oo1 B Hi (by omega) hB hO1 hI1 hK ⟨bx,hbx,hX⟩ hdl (by rw [<- Aee,hdd,Aee]) (by rw [AcQ hx1]; exact hR)
      simp (maxSteps:=2000000) (disch:=omega) [Ae,hic',hn2,hX,hbx,hx1,hB,wi]
      exact kk _ hB
    ·have : i = c.length:=by omega
     subst this
     have hic' : ¬ (c.length : Int) < c.length:=by omega
     have hdt : d.take c.length = d:=Ads (by omega)
     have hRE : RES = ((dn1,eo1.map dNd),d):=by
      rw [<- hR,Aeg,hdt]
      by_cases hx1 : 1 < x
      ·rw [AcY hx1]; rfl
      ·rw [AcQ hx1]
     rw [hRE] at hQ
     have hIR : IR d (.sl H.length c.length 1 0 c.length false) Hi:=⟨H.length,bx,false,by rw [hdl],hX,by omega⟩
     obtain ⟨z2,H2,f1,f2,f3,f4,f5⟩:=hIR.bsf x
     have f5 : ∀ r,r ≠ H.length -> nth H2 r = nth Hi r:=fun r hr=>f5 r fun e=>hr (by cases e; rfl)
     have hO2 : OrdQ R es o dn1 eo1 oo1 H2:=hO1.keep fun r hr h=>f5 r fun e=>by
      subst e
      rcases h with h | h | h | h | h | h | h
      ·omega
      ·omega
      ·omega
      ·omega
      ·omega
      ·exact hoc0 _ h rfl
      ·exact hoc _ h rfl
     have hout:=hI1.out_le
     simp only [Adc] at hout
     obtain ⟨o3,H3,g1,g2,g3,g4⟩:=hO2.ho.push (l:=x) f3 (by omega)
     have l2:=hO2.lt
     have hoo2 : L2 eo1 oo1 H2:=hO2.ho
     have hon2 : L2 es o H2:=hO2.hn
     obtain ⟨c0,hc0,i0⟩:=hO2.h0
     obtain ⟨c1,hc1,i1⟩:=hO2.h1
     obtain ⟨c2,hc2,i2⟩:=hO2.h2
     obtain ⟨c3,hc3,i3⟩:=hO2.h3
     obtain ⟨c4,hc4,i4⟩:=hO2.h4
     have hno : ∀ r (w : Row),nth H2 r = some w -> (∀ es b fz,w ≠ .cs 73 2 es b fz) -> Ax oo1 ≠ some r:=fun r w h1 h2 e1=>by
      have q:=hoo2.row e1
      rw [h1] at q
      exact h2 _ _ _ (AdL q)
     have u0:=hno _ _ i0 (fun _ _ _ h=>by simp at h)
     have u1:=hno _ _ i1 (fun _ _ _ h=>by simp at h)
     have u2:=hno _ _ i2 (fun _ _ _ h=>by simp at h)
     have u3:=hno _ _ i3 (fun _ _ _ h=>by simp at h)
     have u4:=hno _ _ i4 (fun _ _ _ h=>by simp at h)
     have j0:=(g4.2.1 _ l2.1 u0).trans i0
     have j1:=(g4.2.1 _ l2.2.1 u1).trans i1
     have j2:=(g4.2.1 _ l2.2.2.1 u2).trans i2
     have j3:=(g4.2.1 _ l2.2.2.2.1 u3).trans i3
     have j4:=(g4.2.1 _ l2.2.2.2.2 u4).trans i4
     have m3:=g4.1
     have jn : L2 es o H3:=hon2.keep fun r e hr=>g4.2.1 r hr (hO2.d2 r e)
     have df : ∀ {r q : Nat} {a b : Row},nth H3 r = some a -> nth H3 q = some b -> a ≠ b -> r ≠ q:=fun h1 h2 hne e=>by
      subst e
      rw [h1] at h2
      exact hne (AdL h2)
     have n31 : R.r3 ≠ R.r1:=df j3 j1 (fun h=>by simp at h)
     have n32 : R.r3 ≠ R.r2:=df j3 j2 (fun h=>by simp at h)
     have n34 : R.r3 ≠ R.r4:=df j3 j4 (fun h=>by simp at h)
     have n10 : R.r1 ≠ R.r0:=df j1 j0 (fun h=>by simp at h)
     have n12 : R.r1 ≠ R.r2:=df j1 j2 (fun h=>by simp at h)
     have n14 : R.r1 ≠ R.r4:=df j1 j4 (fun h=>by simp at h)
     have n30 : R.r3 ≠ R.r0:=AdQ hO2.d1
     have v3 : ∀ r,(Ax o = some r \/ Ax o3 = some r) -> r ≠ R.r3 /\ r ≠ R.r1:=fun r h=>by
      have q : ∃ q,nth H3 r = some (.cs 73 2 q 0 false):=by
       rcases h with h | h
       ·exact ⟨_,jn.row h⟩
       ·exact ⟨_,g3.row h⟩
      obtain ⟨q,hq⟩:=q
      exact ⟨df hq j3 (fun h=>by simp at h),df hq j1 (fun h=>by simp at h)⟩
     generalize hH4 : H3.set R.r3 (.cs 34 1 [[o3]] 1 false) = H4
     have t4 : ∀ r,r ≠ R.r3 -> nth H4 r = nth H3 r:=fun r hr=>by rw [<- hH4,Au (AdQ hr)]
     have t43 : nth H4 R.r3 = some (.cs 34 1 [[o3]] 1 false):=by rw [<- hH4]; exact AR (AH j3)
     have t4l : H4.length = H3.length:=by rw [<- hH4]; simp
     have k1:=(t4 _ (AdQ n31)).trans j1
     have k2:=(t4 _ (AdQ n32)).trans j2
     generalize hH5 : H4.set R.r1 (.cs 3 1 (onV (iI (dn1.set k ((eo1.length + 1 : Nat) : Int)))) es.length false) = H5
     have t5 : ∀ r,r ≠ R.r1 -> nth H5 r = nth H4 r:=fun r hr=>by rw [<- hH5,Au (AdQ hr)]
     have t51 : nth H5 R.r1 = some (.cs 3 1 (onV (iI (dn1.set k ((eo1.length + 1 : Nat) : Int)))) es.length false):=by rw [<- hH5]; exact AR (AH k1)
     have t5l : H5.length = H3.length:=by rw [<- hH5]; simp [t4l]
     have t53:=(t5 _ n31).trans t43
     have s4 : AD H3 R.r3 (.cs 34 1 [[o3]] 1 false) = some H4:=by rw [As _ _ _ (AH j3),hH4]
     have s5 : AD H4 R.r1 (.cs 3 1 (onV (iI (dn1.set k ((eo1.length + 1 : Nat) : Int)))) es.length false) = some H5:=by rw [As _ _ _ (AH k1),hH5]
     have hkl : k < (iI dn1).length:=by rw [CD,hO1.dl]; exact hlt
     obtain ⟨v1,hv1⟩ : ∃ v1,dn1[k]? = some v1:=⟨dn1[k]'(by rw [hO1.dl]; exact hlt),AcT (by rw [hO1.dl]; exact hlt)⟩
     have hn3:=BU (CE hv1)
     have hs1 : AD (onV (iI dn1)) k [.m (.i .i64 ((eo1.length + 1 : Nat) : Int))] = some (onV (iI (dn1.set k ((eo1.length + 1 : Nat) : Int)))):=by rw [DS hkl,FQ]
     have g3n:=g3.nf
     have e1 : (eo1 ++ [[I.i .i64 x,z2]]).length = eo1.length + 1:=by simp
     rw [e1] at g3n
     have wl : wr .i64 (((eo1.length + 1 : Nat) : Int) - 1) = ((eo1.length : Nat) : Int):=by rw [Aa (by omega) (by omega)]; omega
     have hw1 : Ct 1 [[oo1]] 0 0 [o3] = some [[o3]]:=rfl
     have kk:=hQ (dn1.set k ((eo1.length + 1 : Nat) : Int)) (eo1 ++ [[.i .i64 x,z2]]) o3 H5 ⟨⟨c0,hc0,by rw [t5 _ (AdQ n10),t4 _ (AdQ n30)]; exact j0⟩,jn.keep fun r e _=>by
       obtain ⟨w1,w2⟩:=v3 r (.inl e)
       rw [t5 _ w2,t4 _ w1],⟨c2,hc2,by rw [t5 _ (AdQ n12)]; exact k2⟩,⟨es.length,AcR _,t51⟩,⟨1,AcR _,t53⟩,g3.keep fun r e _=>by
       obtain ⟨w1,w2⟩:=v3 r (.inr e)
       rw [t5 _ w2,t4 _ w1],⟨c4,hc4,by rw [t5 _ (AdQ n14),t4 _ (AdQ n34)]; exact j4⟩,by rw [AdP]; exact hO1.dl,hO1.d1,fun r e1 e2=>by
       rcases g4.2.2 r e2 with h | h
       ·exact hO1.d2 r e1 h
       ·have:=hon2.row_lt e1
        omega,fun e he=>by
       rcases AdT.1 he with h | h
       ·exact hO1.oe e h
       ·rw [AdV] at h
        subst h
        refine ⟨x,z2,rfl,?_⟩
        have:=(Prod.mk.inj (RE (x:=x) f2)).2
        rw [this]
        exact f2⟩ (by unfold YM; simp [RE f2]) ⟨by rw [t5l]; omega,fun r hr n1 n3 n4=>by
       have hrH : r ≠ H.length:=by omega
       have hr1 : Ax oo1 ≠ some r:=fun e=>by
        rcases hK.2.2 r e with h | h
        ·exact n4 h
        ·omega
       rw [t5 _ n1,t4 _ n3,g4.2.1 r (by omega) hr1,f5 r hrH]
       exact hK.2.1 r hr n1 n3 n4,fun r hr=>by
       rcases g4.2.2 r hr with h | h
       ·exact hK.2.2 r h
       ·exact .inr (by omega)⟩
     have hfin : (YM (x,c) k ((dn1,eo1.map dNd),d)).2 = ((eo1.length : Nat) : Int):=by unfold YM; simp
     rw [hfin] at kk
     clear ih hQ df hno
     simp only [Int.natCast_add,Int.natCast_one] at hs1 s5
     simp (maxSteps:=2000000) (disch:=omega) [Ae,Aa,hic',hO1.dl,h3,ha3,hB,Bn,f1,g1,j3,hw1,s4,k2,hc2,t43,g3n.2.1,g3n.2.2.1,g3n.2.2.2,k1,hn3,hs1,s5,t53]
     exact kk
   exact hO.keep fun r hr _=>By _ _ _ hr
theorem Rs (n : Nat) : List.replicate n [V.m (.i .i64 0)] = onV (iI (List.replicate n 0)):=by simp [onV,iI]
theorem Lx {α : Type} (l m : List α) (j : Nat) (x : α) : (l ++ m).set (l.length + j) x = l ++ m.set j x:=by
 rw [List.set_append_right _ _ (by omega)]
 congr 2
 omega
theorem Acz (l : List Nd) : InvW l (List.replicate l.length 0,[]):=⟨by simp,Adg _,fun v hv=>by
 have:=(List.mem_replicate.1 hv).2
 subst this
 exact ⟨Int.le_refl _,Int.le_refl _⟩⟩
section
variable {α : Type} (H M : List α) (a b c d e x : α)
theorem nu1 : nth (H ++ a :: b :: M) (H.length + 1) = some b:=by rw [CC]; rfl
theorem nu2 : nth (H ++ a :: b :: c :: M) (H.length + 2) = some c:=by rw [CC]; rfl
theorem nu3 : nth (H ++ a :: b :: c :: d :: M) (H.length + 3) = some d:=by rw [CC]; rfl
theorem nu4 : nth (H ++ a :: b :: c :: d :: e :: M) (H.length + 4) = some e:=by rw [CC]; rfl
theorem su2 : AD (H ++ a :: b :: c :: M) (H.length + 2) x = some (H ++ a :: b :: x :: M):=by
 rw [As _ _ _ (by simp),Lx]
 rfl
theorem su4 : AD (H ++ a :: b :: c :: d :: e :: M) (H.length + 4) x = some (H ++ a :: b :: c :: d :: x :: M):=by
 rw [As _ _ _ (by simp),Lx]
 rfl
end
set_option maxHeartbeats 4000000 in
theorem Kv {es : List (List I)} {o : V} {H : Hp} (hv : Jf es) (hk : OkN (es.map dNd)) (hel : es.length <= 10000000) (hn : L2 es o H) {n k : Nat} (hkl : k < es.length) (hkn : (ndU (es.map dNd) k).1 <= (n : Int)) (Q : V -> Hp -> Prop)
  (hQ : ∀ eo oo H',L2 eo oo H' -> Jf eo -> eo.map dNd = (Gk (es.map dNd) n k (List.replicate es.length 0,[])).1.2 -> H.length <= H'.length -> (∀ r,r < H.length -> nth H' r = nth H r) -> (∀ r,Ax oo = some r -> H.length <= r) -> Q oo H') :
  Ret G 191 [o,.m (.i .i64 (k : Int))] H Q:=by
 have hon:=hn.nf
 refine BH mono rfl rfl rfl (by simp [hon.1]) rfl ?_
 have hL : ∀ m : Hp,L2 es o (H ++ m):=fun m=>hn.keep fun r e hr=>By _ _ _ hr
 have hb1 : es.length * 8 <= 281474976710656:=by omega
 have hb2 : es.length <= 9223372036854775807:=by omega
 have w1 : ∀ x y : V,Ct 1 [[x]] 0 0 [y] = some [[y]]:=fun _ _=>rfl
 have hcf : ∀ f xs,An (.fn f xs) = some [.fn f xs]:=fun _ _=>rfl
 have hof : ∀ f xs,BA (.fn f xs) = true:=fun _ _=>rfl
 simp (maxSteps:=2000000) (disch:=omega) [Ae,hon.2.1,hon.2.2.2,Bj,nu2,nu4,su2,su4,hb1,hb2,w1,hcf,hof]
 rw [Bb]
 have hr:=Rs es.length
 rw [hr]
 let R : RwS:=⟨H.length,H.length + 1,H.length + 2,H.length + 3,H.length + 4⟩
 have hI:=Acz (es.map dNd)
 rw [Adc] at hI
 refine Uo (R:=R) hv hk hel n k (List.replicate es.length 0) [] (.m (.nl 4)) _ ⟨⟨0,by omega,Bj ..⟩,hL _,⟨1,by omega,nu2 ..⟩,⟨0,by omega,nu1 ..⟩,⟨0,by omega,nu3 ..⟩,.inl ⟨rfl,rfl⟩,⟨1,by omega,nu4 ..⟩,by simp,by show H.length ≠ H.length + 3; omega,fun r _ h=>(by cases h),fun e h=>(by simp at h)⟩ hI hkl hkn _ fun dn eo oo H2 hO hr2 hK=>?_
 obtain ⟨b3,hb3,h3⟩:=hO.h3
 have h3 : nth H2 (H.length + 3) = some (.cs 34 1 [[oo]] b3 false):=h3
 have hoo:=hO.ho.nf
 have kk:=hQ eo oo H2 hO.ho hO.oe (by have:=congrArg Prod.snd hr2; exact this.symm) (by have:=hK.1; simp at this; omega) (fun r hr=>by
   rw [hK.2.1 r (by simp; omega) (by show r ≠ H.length + 1; omega) (by show r ≠ H.length + 3; omega) (by simp [Ax])]
   exact By _ _ _ hr) fun r hr=>by
   rcases hK.2.2 r hr with h | h
   ·cases h
   ·simp at h; omega
 simp (maxSteps:=2000000) (disch:=omega) [Ae,h3,hb3,Aj hoo.1]
 exact ⟨hoo.1,kk⟩
end Go.Mx.Tryz
