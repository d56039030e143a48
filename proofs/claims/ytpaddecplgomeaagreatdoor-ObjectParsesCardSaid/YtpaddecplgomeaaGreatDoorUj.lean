/- swapped: what it computes (where nothing is out of range). -/
import Derived.Test.YtpaddecplgomeaaGreatDoorUc
import Derived.Test.YtpaddecplgomeaaGreatDoorStr
set_option linter.unusedSimpArgs false
set_option linter.unusedVariables false
set_option linter.unusedSectionVars false
set_option maxRecDepth 100000
namespace Go.Mx.Tryz
open Go.Lib
theorem TT {z : I} {c : List Int} (hz : IsSl z (Dj c)) (hne : c ≠ []) (hc : c.length <= 1000000) (H : Hp) : Gives G 192 [.m z] H (.sl H.length c.length 1 0 c.length false) (H ++ [.cs 3 1 (onV (iI c)) 0 false]):=by
 rcases hz with rfl | ⟨rfl,h0⟩
 ·have he : elems H (.m (.sl (Dj c))) = some (onV (iI c)):=by
   show some (BC (Dj c)) = _
   rw [<- Ma,Wo]
  have hnil : DU 4 (.m (.sl (Dj c))) = some false:=rfl
  obtain ⟨x,t,rfl⟩:=Afq hne
  refine .of_ret (AS mono rfl rfl rfl rfl rfl ?_)
  have ha : ∀ B,Ai (fun _ _ _=>none) ⟨B,H⟩ (.app 3 1 8) [.ls [],.m (.sl (Dj (x :: t)))] = some (.sl H.length (x :: t).length 1 0 (x :: t).length false,⟨B,H ++ [.cs 3 1 (onV (iI (x :: t))) 0 false]⟩):=fun B=>by
   rw [Cm he]
   show BA ⟨B,H⟩ 3 1 8 (onV (iI (x :: t))) = _
   rw [CJ,Ij (Tl _),Di,CR]
   have : Nat.ble ((x :: t).length * 8) 140737488355328 = true:=by rw [Bd]; exact Afc (by omega)
   rw [this]
   rfl
  simp [hnil,-Ez,ha]
 ·exact absurd (by simpa [Dj] using h0) hne
theorem Em {xs : List I} {i : Nat} {x : I} (h : i < xs.length) : AF (onV xs) i [.m x] = some (onV (xs.set i x)):=by
 rw [Am _ _ _ (by simpa using h)]
 simp [onV,List.map_set]
theorem GD (c : List Int) (i : Nat) (v : Int) : (iI c).set i (.i .i64 v) = iI (c.set i v):=by simp [iI,List.map_set]
structure RwS where
 r0 : Nat
 r1 : Nat
 r2 : Nat
 r3 : Nat
 r4 : Nat
def fnW (R : RwS) : V:=.fn 195 [.pt R.r2 1 0 0,.pt R.r0 1 0 0,.pt R.r4 1 0 0,.pt R.r3 1 0 0]
structure OrdQ (R : RwS) (es : List (List I)) (o : V) (dn : List Int) (eo : List (List I)) (oo : V) (H : Hp) : Prop where
 h0 : ∃ b,b <= 1 /\ nth H R.r0 = some (.cs 23 1 [[o]] b false)
 hn : L2 es o H
 h2 : ∃ b,b <= 1 /\ nth H R.r2 = some (.cs 41 1 [[.sl R.r1 es.length 1 0 es.length true]] b false)
 h1 : ∃ b,b <= es.length /\ nth H R.r1 = some (.cs 3 1 (onV (iI dn)) b false)
 h3 : ∃ b,b <= 1 /\ nth H R.r3 = some (.cs 23 1 [[oo]] b false)
 ho : L2 eo oo H
 h4 : ∃ b,b <= 1 /\ nth H R.r4 = some (.cs 125 1 [[fnW R]] b false)
 dl : dn.length = es.length
 d1 : R.r0 ≠ R.r3
 d2 : ∀ r,AG o = some r -> AG oo ≠ some r
 oe : Ky eo
def KpW (R : RwS) (oo : V) (H : Hp) (oo' : V) (H' : Hp) : Prop:=H.length <= H'.length /\ (∀ r,r < H.length -> r ≠ R.r1 -> r ≠ R.r3 -> AG oo ≠ some r -> nth H' r = nth H r) /\ ∀ r,AG oo' = some r -> AG oo = some r \/ H.length <= r
theorem KpW.refl (R : RwS) (H : Hp) (o : V) : KpW R o H o H:=⟨AeI _,fun _ _ _ _ _=>rfl,fun _ h=>.inl h⟩
theorem KpW.trans {R : RwS} {H H1 H2 : Hp} {o o1 o2 : V} (h : KpW R o H o1 H1) (k : KpW R o1 H1 o2 H2) : KpW R o H o2 H2:=by
 obtain ⟨a1,a2,a3⟩:=h
 obtain ⟨b1,b2,b3⟩:=k
 refine ⟨by omega,fun r hr n1 n3 hne=>?_,fun r hr=>?_⟩
 ·rw [b2 r (by omega) n1 n3 fun e=>?_,a2 r hr n1 n3 hne]
  rcases a3 r e with h | h
  ·exact hne h
  ·omega
 ·rcases b3 r hr with h | h
  ·exact a3 r h
  ·exact .inr (by omega)
theorem OrdQ.keep {R : RwS} {es : List (List I)} {o : V} {dn : List Int} {eo : List (List I)} {oo : V} {H H' : Hp} (h : OrdQ R es o dn eo oo H) (hk : ∀ r,r < H.length -> (r = R.r0 \/ r = R.r1 \/ r = R.r2 \/ r = R.r3 \/ r = R.r4 \/ AG o = some r \/ AG oo = some r) -> nth H' r = nth H r) : OrdQ R es o dn eo oo H':=by
 obtain ⟨⟨b0,x0,y0⟩,hn,⟨b2,x2,y2⟩,⟨b1,x1,y1⟩,⟨b3,x3,y3⟩,ho,⟨b4,x4,y4⟩,dl,d1,d2,oe⟩:=h
 exact ⟨⟨b0,x0,by rw [hk _ (AI y0) (by simp)]; exact y0⟩,hn.keep fun r e hr=>hk r hr (by simp [e]),⟨b2,x2,by rw [hk _ (AI y2) (by simp)]; exact y2⟩,⟨b1,x1,by rw [hk _ (AI y1) (by simp)]; exact y1⟩,⟨b3,x3,by rw [hk _ (AI y3) (by simp)]; exact y3⟩,ho.keep fun r e hr=>hk r hr (by simp [e]),⟨b4,x4,by rw [hk _ (AI y4) (by simp)]; exact y4⟩,dl,d1,d2,oe⟩
theorem OrdQ.lt {R : RwS} {es : List (List I)} {o : V} {dn : List Int} {eo : List (List I)} {oo : V} {H : Hp} (h : OrdQ R es o dn eo oo H) : R.r0 < H.length /\ R.r1 < H.length /\ R.r2 < H.length /\ R.r3 < H.length /\ R.r4 < H.length:=by
 obtain ⟨⟨b0,x0,y0⟩,hn,⟨b2,x2,y2⟩,⟨b1,x1,y1⟩,⟨b3,x3,y3⟩,ho,⟨b4,x4,y4⟩,dl,d1,d2,oe⟩:=h
 exact ⟨AI y0,AI y1,AI y2,AI y3,AI y4⟩
theorem Pc : ∀ (d : List Int) (i : Nat) (v : Int),i < d.length -> (d.set i v).take (i + 1) = d.take i ++ [v]
 | [],_,_,h=>by simp at h
 | a :: r,0,v,_=>by simp
 | a :: r,i + 1,v,h=>by
  have:=Pc r i v (by simpa using h)
  simp [this]
theorem Pd : ∀ (d : List Int) (i : Nat) (v : Int),(d.set i v).drop (i + 1) = d.drop (i + 1)
 | [],_,_=>by simp
 | a :: r,0,v=>by simp
 | a :: r,i + 1,v=>by
  have:=Pd r i v
  simpa using this
theorem Qv (a : V) : CX 1 [[a]] 0 0 1 = some [a]:=rfl
set_option maxHeartbeats 4000000 in
theorem Xe {R : RwS} {es : List (List I)} {o : V} (hv : Ky es) (hk : OkN (es.map dNd)) (hel : es.length <= 10000000) : ∀ (n k : Nat) (dn : List Int) (eo : List (List I)) (oo : V) (H : Hp),OrdQ R es o dn eo oo H -> InvW (es.map dNd) (dn,eo.map dNd) -> k < es.length -> (ndU (es.map dNd) k).1 <= (n : Int) ->
  ∀ Q : V -> Hp -> Prop,(∀ dn' eo' oo' H',OrdQ R es o dn' eo' oo' H' -> (He (es.map dNd) n k (dn,eo.map dNd)).1 = (dn',eo'.map dNd) -> KpW R oo H oo' H' -> Q (.m (.i .i64 (He (es.map dNd) n k (dn,eo.map dNd)).2)) H') ->
  Ret G 195 [.m (.i .i64 (k : Int)),.pt R.r2 1 0 0,.pt R.r0 1 0 0,.pt R.r4 1 0 0,.pt R.r3 1 0 0] H Q
 | 0,k,dn,eo,oo,H,_,_,hlt,hn=>by
  have:=(hk k (by simpa using hlt)).1
  omega
 | n + 1,k,dn,eo,oo,H,hO,hI,hlt,hn=>fun Q hQ=>by
  have hlm : (es.map dNd).length = es.length:=AeX ..
  obtain ⟨q1,q2,q3,q4,q5,q6⟩:=hk k (by omega)
  have e0 : He (es.map dNd) (n + 1) k (dn,eo.map dNd) = if 0 < (dn[k]?).getD 0 then ((dn,eo.map dNd),(dn[k]?).getD 0 - 1)
   else Abj (ndU (es.map dNd) k) k (if 1 < (ndU (es.map dNd) k).1 then FL (He (es.map dNd) n) (ndU (es.map dNd) k).2 (dn,eo.map dNd) [] else ((dn,eo.map dNd),(ndU (es.map dNd) k).2)):=rfl
  obtain ⟨v,hv0⟩ : ∃ v,dn[k]? = some v:=⟨dn[k]'(by rw [hO.dl]; exact hlt),AeK (by rw [hO.dl]; exact hlt)⟩
  have hvb:=hI.val v (AeO hv0)
  have hvo:=hI.out_le
  rw [e0,hv0] at hQ
  simp only [Option.getD_some] at hQ
  obtain ⟨b0,hb0,h0⟩:=hO.h0
  obtain ⟨b1,hb1,h1⟩:=hO.h1
  obtain ⟨b2,hb2,h2⟩:=hO.h2
  obtain ⟨b3,hb3,h3⟩:=hO.h3
  obtain ⟨b4,hb4,h4⟩:=hO.h4
  have hlt' : (k : Int) < es.length:=by omega
  have hn1:=Cl (CS hv0)
  refine AS mono rfl rfl rfl rfl rfl ?_
  by_cases hp : 0 < v
  ·rw [AeJ hp] at hQ
   have kk:=hQ dn eo oo H hO rfl (.refl ..)
   have wv : wr .i64 (v - 1) = v - 1:=by
    simp only [AeX] at hvo hvb
    exact wr_i64 (by omega) (by omega)
   simp (disch:=omega) [gd_and,h2,hb2,h1,hb1,hn1,hp,wv]
   exact kk
  ·rw [AeF hp] at hQ
   have hp' : ¬ (0 < v):=hp
   obtain ⟨e,he⟩ : ∃ e,es[k]? = some e:=⟨es[k],AeK hlt⟩
   obtain ⟨x,z,rfl,hz⟩:=hv e (AeO he)
   have hnd : ndU (es.map dNd) k = (x,dIn z):=by
    unfold ndU
    rw [Afg,he]
    rfl
   rw [hnd] at hQ q1 q2 q3 q4 q5 q6 hn e0
   simp only at hQ q1 q2 q3 q4 q5 q6 hn
   generalize hc : dIn z = c at *
   obtain ⟨p,pq,p1,p2,p3,⟨p0,p4,p5,p6⟩,p7,p8,p9⟩:=hO.hn.rd he
   have gc:=TT hz q3 (by omega) H
   generalize hRES : (if 1 < x then FL (He (es.map dNd) n) c (dn,eo.map dNd) [] else ((dn,eo.map dNd),c)) = RES at hQ
   have hon:=hO.hn.nf
   simp (disch:=omega) [gd_and,h2,hb2,h1,hb1,hn1,hp',h0,hb0,p1,p4,p6,p7,p9,cl gc,Ag hon.1,Ag p2]
   refine (?key : ∀ (i : Nat) (d : List Int) (dn1 : List Int) (eo1 : List (List I)) (oo1 : V) (B : List (Nat × List V)) (Hi : Hp),i <= c.length -> getB B 7 = some [.m (.i .i64 x),.sl H.length c.length 1 0 c.length false] -> OrdQ R es o dn1 eo1 oo1 Hi -> InvW (es.map dNd) (dn1,eo1.map dNd) ->
    KpW R oo H oo1 Hi -> (∃ b,b <= c.length /\ nth Hi H.length = some (.cs 3 1 (onV (iI d)) b false)) -> d.length = c.length -> d.drop i = c.drop i -> (if 1 < x then FL (He (es.map dNd) n) (c.drop i) (dn1,eo1.map dNd) (d.take i) else ((dn1,eo1.map dNd),d)) = RES ->
    Run G c195_B0 (S195_0 (.m (.i .i64 (k : Int))) (.pt R.r2 1 0 0) (.pt R.r4 1 0 0) (.pt R.r3 1 0 0) (.fa 7 0) (.sl H.length c.length 1 0 c.length false) (.m (.i .i64 (c.length : Int))) (.m (.i .i64 (i : Int))) B Hi) _) 0 c dn eo oo _ _ (AeR _) rfl ?_ hI ⟨by simp,fun r hr _ _ _=>BF _ _ _ hr,fun r h=>.inl h⟩ ⟨0,AeR _,Dc H _ 0⟩ rfl rfl (by simpa using hRES)
   case key =>
    refine BO (fun i : Nat=>c.length - i) fun i ih d dn1 eo1 oo1 B Hi hi hB hO1 hI1 hK hX hdl hdd hR=>?_
    unfold c195_B0
    obtain ⟨bx,hbx,hX⟩:=hX
    have hlts:=hO.lt
    have hi1:=hO1.lt
    have hgt : H.length < Hi.length:=AI hX
    have hon1:=hO1.ho.nf
    have hoc : ∀ r,AG oo1 = some r -> r ≠ H.length:=fun r e1 e2=>by
     subst e2
     have q:=hO1.ho.row e1
     rw [hX] at q
     simp at q
    have hoc0 : ∀ r,AG o = some r -> r ≠ H.length:=fun r e1 e2=>by
     subst e2
     have q:=hO1.hn.row e1
     rw [hX] at q
     simp at q
    obtain ⟨a0,ha0,h0⟩:=hO1.h0
    obtain ⟨a1,ha1,h1⟩:=hO1.h1
    obtain ⟨a2,ha2,h2⟩:=hO1.h2
    obtain ⟨a3,ha3,h3⟩:=hO1.h3
    obtain ⟨a4,ha4,h4⟩:=hO1.h4
    by_cases hic : i < c.length
    ·have hic' : (i : Int) < c.length:=by omega
     have hdi : d[i]? = c[i]?:=by
      have:=congrArg (fun l=>l[0]?) hdd
      simpa using this
     obtain ⟨kd,hkd⟩ : ∃ kd,c[i]? = some kd:=⟨c[i],AeK hic⟩
     rw [hkd] at hdi
     have hn2:=Cl (CS hdi)
     have wi : wr .i64 ((i : Int) + 1) = ((i + 1 : Nat) : Int):=wr_i64 (by omega) (by omega)
     have hcd : c.drop i = kd :: c.drop (i + 1):=by
      rw [AfX hic]
      have:=(AeG.1 hkd).2
      rw [this]
     by_cases hx1 : 1 < x
     ·obtain ⟨s1,s2,s3⟩:=q6 hx1 kd (AeO hkd)
      obtain ⟨kn,rfl⟩:=AeV s1
      rw [AeJ hx1,hcd] at hR
      have hR : FL (He (es.map dNd) n) (c.drop (i + 1)) (He (es.map dNd) n kn (dn1,eo1.map dNd)).1 (d.take i ++ [(He (es.map dNd) n kn (dn1,eo1.map dNd)).2]) = RES:=hR
      have hgr:=(TL hk n kn (dn1,eo1.map dNd) hI1 s2 (by simp only [Int.toNat_natCast] at s3; omega))
      simp (disch:=omega) [gd_and,hic',hn2,hX,hbx,hx1,hB,h4,ha4,fnW]
      rw [Ak]
      refine Xe hv hk hel n kn dn1 eo1 oo1 Hi hO1 hI1 (by simpa using s2) (by simp only [Int.toNat_natCast] at s3; omega) _ fun dn2 eo2 oo2 H2 hO2 hr2 hK2=>?_
      rw [hr2] at hR hgr
      generalize (He (es.map dNd) n kn (dn1,eo1.map dNd)).2 = v2 at hR hgr ⊢
      have hX2 : nth H2 H.length = some (.cs 3 1 (onV (iI d)) bx false):=by
       rw [hK2.2.1 H.length hgt (by omega) (by omega) fun e=>hoc _ e rfl]
       exact hX
      have hst : AF (onV (iI d)) i [.m (.i .i64 v2)] = some (onV (iI (d.set i v2))):=by rw [Em (by simp; omega),GD]
      have hlen2 : H.length < H2.length:=AI hX2
      have hoc2 : ∀ r,AG oo2 = some r -> r ≠ H.length:=fun r e1 e2=>by
       subst e2
       have q:=hO2.ho.row e1
       rw [hX2] at q
       simp at q
      have kk:=fun B hB=>ih (i + 1) (by omega) (d.set i v2) dn2 eo2 oo2 B (H2.set H.length (.cs 3 1 (onV (iI (d.set i v2))) c.length false)) (by omega) hB (hO2.keep fun r hr h=>Ar fun e=>by
        subst e
        rcases h with h | h | h | h | h | h | h
        ·omega
        ·omega
        ·omega
        ·omega
        ·omega
        ·exact hoc0 _ h rfl
        ·exact hoc2 _ h rfl) hgr.1.1 (by
        obtain ⟨k1,k2,k3⟩:=hK.trans hK2
        exact ⟨by simpa using k1,fun r hr n1 n2 n3=>by rw [Ar (by omega)]; exact k2 r hr n1 n2 n3,k3⟩) ⟨c.length,AeI _,AO hlen2⟩ (by simpa using hdl) (by rw [Pd,<- AfZ,hdd,AfZ]) (by rw [AeJ hx1,Pc _ _ _ (by omega)]; exact hR)
      have hse : AF H2 H.length (.cs 3 1 (onV (iI (d.set i v2))) c.length false) = some (H2.set H.length (.cs 3 1 (onV (iI (d.set i v2))) c.length false)):=Am _ _ _ hlen2
      simp (disch:=omega) [gd_and,hX2,hn2,hst,hse,hdl,wi]
      exact kk _ hB
     ·rw [AeF hx1] at hR
      have kk:=fun B hB=>ih (i + 1) (by omega) d dn1 eo1 oo1 B Hi (by omega) hB hO1 hI1 hK ⟨bx,hbx,hX⟩ hdl (by rw [<- AfZ,hdd,AfZ]) (by rw [AeF hx1]; exact hR)
      simp (disch:=omega) [gd_and,hic',hn2,hX,hbx,hx1,hB,wi]
      exact kk _ hB
    ·have : i = c.length:=by omega
     subst this
     have hic' : ¬ (c.length : Int) < c.length:=by omega
     have hdt : d.take c.length = d:=AeY (by omega)
     have hRE : RES = ((dn1,eo1.map dNd),d):=by
      rw [<- hR,AfR,hdt]
      by_cases hx1 : 1 < x
      ·rw [AeJ hx1]; rfl
      ·rw [AeF hx1]
     rw [hRE] at hQ
     have hIR : IR d (.sl H.length c.length 1 0 c.length false) Hi:=⟨H.length,bx,false,by rw [hdl],hX,by omega⟩
     obtain ⟨z2,H2,f1,f2,f3,f4,f5⟩:=hIR.bsf x
     have f5 : ∀ r,r ≠ H.length -> nth H2 r = nth Hi r:=fun r hr=>f5 r fun e=>hr (by cases e; rfl)
     have hO2 : OrdQ R es o dn1 eo1 oo1 H2:=hO1.keep fun r hr h=>f5 r fun e=>by
      subst e
      rcases h with h | h | h | h | h | h | h
      ·omega
      ·omega
      ·omega
      ·omega
      ·omega
      ·exact hoc0 _ h rfl
      ·exact hoc _ h rfl
     have hout:=hI1.out_le
     simp only [AeX] at hout
     obtain ⟨o3,H3,g1,g2,g3,g4⟩:=hO2.ho.push (l:=x) f3 (by omega)
     have l2:=hO2.lt
     have hoo2 : L2 eo1 oo1 H2:=hO2.ho
     have hon2 : L2 es o H2:=hO2.hn
     obtain ⟨c0,hc0,i0⟩:=hO2.h0
     obtain ⟨c1,hc1,i1⟩:=hO2.h1
     obtain ⟨c2,hc2,i2⟩:=hO2.h2
     obtain ⟨c3,hc3,i3⟩:=hO2.h3
     obtain ⟨c4,hc4,i4⟩:=hO2.h4
     have hno : ∀ r (w : Row),nth H2 r = some w -> (∀ es b fz,w ≠ .cs 94 2 es b fz) -> AG oo1 ≠ some r:=fun r w h1 h2 e1=>by
      have q:=hoo2.row e1
      rw [h1] at q
      exact h2 _ _ _ (AfD q)
     have u0:=hno _ _ i0 (fun _ _ _ h=>by simp at h)
     have u1:=hno _ _ i1 (fun _ _ _ h=>by simp at h)
     have u2:=hno _ _ i2 (fun _ _ _ h=>by simp at h)
     have u3:=hno _ _ i3 (fun _ _ _ h=>by simp at h)
     have u4:=hno _ _ i4 (fun _ _ _ h=>by simp at h)
     have j0:=(g4.2.1 _ l2.1 u0).trans i0
     have j1:=(g4.2.1 _ l2.2.1 u1).trans i1
     have j2:=(g4.2.1 _ l2.2.2.1 u2).trans i2
     have j3:=(g4.2.1 _ l2.2.2.2.1 u3).trans i3
     have j4:=(g4.2.1 _ l2.2.2.2.2 u4).trans i4
     have m3:=g4.1
     have jn : L2 es o H3:=hon2.keep fun r e hr=>g4.2.1 r hr (hO2.d2 r e)
     have df : ∀ {r q : Nat} {a b : Row},nth H3 r = some a -> nth H3 q = some b -> a ≠ b -> r ≠ q:=fun h1 h2 hne e=>by
      subst e
      rw [h1] at h2
      exact hne (AfD h2)
     have n31 : R.r3 ≠ R.r1:=df j3 j1 (fun h=>by simp at h)
     have n32 : R.r3 ≠ R.r2:=df j3 j2 (fun h=>by simp at h)
     have n34 : R.r3 ≠ R.r4:=df j3 j4 (fun h=>by simp at h)
     have n10 : R.r1 ≠ R.r0:=df j1 j0 (fun h=>by simp at h)
     have n12 : R.r1 ≠ R.r2:=df j1 j2 (fun h=>by simp at h)
     have n14 : R.r1 ≠ R.r4:=df j1 j4 (fun h=>by simp at h)
     have n30 : R.r3 ≠ R.r0:=AfK hO2.d1
     have v3 : ∀ r,(AG o = some r \/ AG o3 = some r) -> r ≠ R.r3 /\ r ≠ R.r1:=fun r h=>by
      have q : ∃ q,nth H3 r = some (.cs 94 2 q 0 false):=by
       rcases h with h | h
       ·exact ⟨_,jn.row h⟩
       ·exact ⟨_,g3.row h⟩
      obtain ⟨q,hq⟩:=q
      exact ⟨df hq j3 (fun h=>by simp at h),df hq j1 (fun h=>by simp at h)⟩
     generalize hH4 : H3.set R.r3 (.cs 23 1 [[o3]] 1 false) = H4
     have t4 : ∀ r,r ≠ R.r3 -> nth H4 r = nth H3 r:=fun r hr=>by rw [<- hH4,Ar (AfK hr)]
     have t43 : nth H4 R.r3 = some (.cs 23 1 [[o3]] 1 false):=by rw [<- hH4]; exact AO (AI j3)
     have t4l : H4.length = H3.length:=by rw [<- hH4]; simp
     have k1:=(t4 _ (AfK n31)).trans j1
     have k2:=(t4 _ (AfK n32)).trans j2
     generalize hH5 : H4.set R.r1 (.cs 3 1 (onV (iI (dn1.set k ((eo1.length + 1 : Nat) : Int)))) es.length false) = H5
     have t5 : ∀ r,r ≠ R.r1 -> nth H5 r = nth H4 r:=fun r hr=>by rw [<- hH5,Ar (AfK hr)]
     have t51 : nth H5 R.r1 = some (.cs 3 1 (onV (iI (dn1.set k ((eo1.length + 1 : Nat) : Int)))) es.length false):=by rw [<- hH5]; exact AO (AI k1)
     have t5l : H5.length = H3.length:=by rw [<- hH5]; simp [t4l]
     have t53:=(t5 _ n31).trans t43
     have s4 : AF H3 R.r3 (.cs 23 1 [[o3]] 1 false) = some H4:=by rw [Am _ _ _ (AI j3),hH4]
     have s5 : AF H4 R.r1 (.cs 3 1 (onV (iI (dn1.set k ((eo1.length + 1 : Nat) : Int)))) es.length false) = some H5:=by rw [Am _ _ _ (AI k1),hH5]
     have hkl : k < (iI dn1).length:=by rw [CR,hO1.dl]; exact hlt
     obtain ⟨v1,hv1⟩ : ∃ v1,dn1[k]? = some v1:=⟨dn1[k]'(by rw [hO1.dl]; exact hlt),AeK (by rw [hO1.dl]; exact hlt)⟩
     have hn3:=Cl (CS hv1)
     have hs1 : AF (onV (iI dn1)) k [.m (.i .i64 ((eo1.length + 1 : Nat) : Int))] = some (onV (iI (dn1.set k ((eo1.length + 1 : Nat) : Int)))):=by rw [Em hkl,GD]
     have g3n:=g3.nf
     have e1 : (eo1 ++ [[I.i .i64 x,z2]]).length = eo1.length + 1:=by simp
     rw [e1] at g3n
     have wl : wr .i64 (((eo1.length + 1 : Nat) : Int) - 1) = ((eo1.length : Nat) : Int):=by rw [wr_i64 (by omega) (by omega)]; omega
     have hw1 : BD 1 [[oo1]] 0 0 [o3] = some [[o3]]:=rfl
     have kk:=hQ (dn1.set k ((eo1.length + 1 : Nat) : Int)) (eo1 ++ [[.i .i64 x,z2]]) o3 H5 ⟨⟨c0,hc0,by rw [t5 _ (AfK n10),t4 _ (AfK n30)]; exact j0⟩,jn.keep fun r e _=>by
       obtain ⟨w1,w2⟩:=v3 r (.inl e)
       rw [t5 _ w2,t4 _ w1],⟨c2,hc2,by rw [t5 _ (AfK n12)]; exact k2⟩,⟨es.length,AeI _,t51⟩,⟨1,AeI _,t53⟩,g3.keep fun r e _=>by
       obtain ⟨w1,w2⟩:=v3 r (.inr e)
       rw [t5 _ w2,t4 _ w1],⟨c4,hc4,by rw [t5 _ (AfK n14),t4 _ (AfK n34)]; exact j4⟩,by rw [AfH]; exact hO1.dl,hO1.d1,fun r e1 e2=>by
       rcases g4.2.2 r e2 with h | h
       ·exact hO1.d2 r e1 h
       ·have:=hon2.row_lt e1
        omega,fun e he=>by
       rcases AfQ.1 he with h | h
       ·exact hO1.oe e h
       ·rw [List.mem_singleton] at h
        subst h
        refine ⟨x,z2,rfl,?_⟩
        have:=(Prod.mk.inj (TO (x:=x) f2)).2
        rw [this]
        exact f2⟩ (by unfold Abj; simp [TO f2]) ⟨by rw [t5l]; omega,fun r hr n1 n3 n4=>by
       have hrH : r ≠ H.length:=by omega
       have hr1 : AG oo1 ≠ some r:=fun e=>by
        rcases hK.2.2 r e with h | h
        ·exact n4 h
        ·omega
       rw [t5 _ n1,t4 _ n3,g4.2.1 r (by omega) hr1,f5 r hrH]
       exact hK.2.1 r hr n1 n3 n4,fun r hr=>by
       rcases g4.2.2 r hr with h | h
       ·exact hK.2.2 r h
       ·exact .inr (by omega)⟩
     have hfin : (Abj (x,c) k ((dn1,eo1.map dNd),d)).2 = ((eo1.length : Nat) : Int):=by unfold Abj; simp
     rw [hfin] at kk
     clear ih hQ df hno
     simp only [Int.natCast_add,Int.natCast_one] at hs1 s5
     simp (disch:=omega) [gd_and,wr_i64,hic',hO1.dl,h3,ha3,hB,Bo,f1,g1,j3,hw1,s4,k2,hc2,t43,g3n.2.1,g3n.2.2.1,g3n.2.2.2,k1,hn3,hs1,s5,t53]
     exact kk
   exact hO.keep fun r hr _=>BF _ _ _ hr
theorem TB (n : Nat) : List.replicate n [V.m (.i .i64 0)] = onV (iI (List.replicate n 0)):=by simp [onV,iI]
theorem Nm {α : Type} (l m : List α) (j : Nat) (x : α) : (l ++ m).set (l.length + j) x = l ++ m.set j x:=by
 rw [Aga _ _ (by omega)]
 congr 2
 omega
theorem Aec (l : List Nd) : InvW l (List.replicate l.length 0,[]):=⟨by simp,AeR _,fun v hv=>by
 have:=(List.mem_replicate.1 hv).2
 subst this
 exact ⟨Int.le_refl _,Int.le_refl _⟩⟩
section
variable {α : Type} (H M : List α) (a b c d e x : α)
theorem nu1 : nth (H ++ a :: b :: M) (H.length + 1) = some b:=by rw [Dc]; rfl
theorem nu2 : nth (H ++ a :: b :: c :: M) (H.length + 2) = some c:=by rw [Dc]; rfl
theorem nu3 : nth (H ++ a :: b :: c :: d :: M) (H.length + 3) = some d:=by rw [Dc]; rfl
theorem nu4 : nth (H ++ a :: b :: c :: d :: e :: M) (H.length + 4) = some e:=by rw [Dc]; rfl
theorem su2 : AF (H ++ a :: b :: c :: M) (H.length + 2) x = some (H ++ a :: b :: x :: M):=by
 rw [Am _ _ _ (by simp),Nm]
 rfl
theorem su4 : AF (H ++ a :: b :: c :: d :: e :: M) (H.length + 4) x = some (H ++ a :: b :: c :: d :: x :: M):=by
 rw [Am _ _ _ (by simp),Nm]
 rfl
end
set_option maxHeartbeats 4000000 in
theorem LZ {es : List (List I)} {o : V} {H : Hp} (hv : Ky es) (hk : OkN (es.map dNd)) (hel : es.length <= 10000000) (hn : L2 es o H) {n k : Nat} (hkl : k < es.length) (hkn : (ndU (es.map dNd) k).1 <= (n : Int)) (Q : V -> Hp -> Prop)
  (hQ : ∀ eo oo H',L2 eo oo H' -> Ky eo -> eo.map dNd = (He (es.map dNd) n k (List.replicate es.length 0,[])).1.2 -> H.length <= H'.length -> (∀ r,r < H.length -> nth H' r = nth H r) -> (∀ r,AG oo = some r -> H.length <= r) -> Q oo H') :
  Ret G 161 [o,.m (.i .i64 (k : Int))] H Q:=by
 have hon:=hn.nf
 refine AS mono rfl rfl rfl (by simp [hon.1]) rfl ?_
 have hL : ∀ m : Hp,L2 es o (H ++ m):=fun m=>hn.keep fun r e hr=>BF _ _ _ hr
 have hb1 : es.length * 8 <= 281474976710656:=by omega
 have hb2 : es.length <= 9223372036854775807:=by omega
 have w1 : ∀ x y : V,BD 1 [[x]] 0 0 [y] = some [[y]]:=fun _ _=>rfl
 have hcf : ∀ f xs,Ap (.fn f xs) = some [.fn f xs]:=fun _ _=>rfl
 have hof : ∀ f xs,BH (.fn f xs) = true:=fun _ _=>rfl
 simp (disch:=omega) [gd_and,hon.2.1,hon.2.2.2,Au,nu2,nu4,su2,su4,hb1,hb2,w1,hcf,hof]
 rw [Ak]
 have hr:=TB es.length
 rw [hr]
 let R : RwS:=⟨H.length,H.length + 1,H.length + 2,H.length + 3,H.length + 4⟩
 have hI:=Aec (es.map dNd)
 rw [AeX] at hI
 refine Xe (R:=R) hv hk hel n k (List.replicate es.length 0) [] (.m (.nl 4)) _ ⟨⟨0,by omega,Au ..⟩,hL _,⟨1,by omega,nu2 ..⟩,⟨0,by omega,nu1 ..⟩,⟨0,by omega,nu3 ..⟩,.inl ⟨rfl,rfl⟩,⟨1,by omega,nu4 ..⟩,by simp,by show H.length ≠ H.length + 3; omega,fun r _ h=>(by cases h),fun e h=>(by simp at h)⟩ hI hkl hkn _ fun dn eo oo H2 hO hr2 hK=>?_
 obtain ⟨b3,hb3,h3⟩:=hO.h3
 have h3 : nth H2 (H.length + 3) = some (.cs 23 1 [[oo]] b3 false):=h3
 have hoo:=hO.ho.nf
 have kk:=hQ eo oo H2 hO.ho hO.oe (by have:=congrArg Prod.snd hr2; exact this.symm) (by have:=hK.1; simp at this; omega) (fun r hr=>by
   rw [hK.2.1 r (by simp; omega) (by show r ≠ H.length + 1; omega) (by show r ≠ H.length + 3; omega) (by simp [AG])]
   exact BF _ _ _ hr) fun r hr=>by
   rcases hK.2.2 r hr with h | h
   ·cases h
   ·simp at h; omega
 simp (disch:=omega) [gd_and,h3,hb3,Ag hoo.1]
 exact ⟨hoo.1,kk⟩
end Go.Mx.Tryz
namespace Go.Mx.Tryz
theorem Pt : ∀ {l : List Nd} {x : Nd} {k : Nat},l.idxOf? x = some k -> l[k]? = some x
 | [],x,k,h=>by simp at h
 | y :: r,x,k,h=>by
  rw [List.idxOf?_cons] at h
  by_cases e : y = x
  ·subst e
   simp at h
   subst h
   rfl
  ·rw [AeF (by simpa using e)] at h
   cases hr : r.idxOf? x with
   | none=>rw [hr] at h; cases h
   | some j =>
    rw [hr] at h
    simp at h
    subst h
    simpa using Pt hr
theorem PJ (l : List Nd) (x : Nd) : (Es l x).1[(Es l x).2]? = some x:=by
 unfold Es
 split
 ·rename_i k h
  exact Pt h
 ·simp
theorem WG {l : List Nd} {x y : Nd} {j : Nat} (h : l[j]? = some y) : (Es l x).1[j]? = some y:=by
 unfold Es
 split
 ·exact h
 ·simp only
  rw [AeW (AeG.1 h).1]
  exact h
def OkR (l : List Nd) : Prop:=∀ i,i < l.length -> 1 <= (ndU l i).1 /\ (ndU l i).1 <= 1000 /\ (ndU l i).2 ≠ [] /\ (ndU l i).2.length <= 100 /\ (∀ k,k ∈ (ndU l i).2 -> -1000000000 <= k /\ k <= 1000000000) /\ (1 < (ndU l i).1 -> ∀ k,k ∈ (ndU l i).2 -> 0 <= k /\ k.toNat < i /\ (ndU l k.toNat).1 < (ndU l i).1)
def Nw (to : List Int) (x : Nd) : List Int:=if 1 < x.1 then x.2.map (fun k=>(to[k.toNat]?).getD 0) else x.2
theorem Kh (to : List Int) (x : Nd) : (Nw to x).length = x.2.length:=by unfold Nw; split <;> simp
def stepR (st : List Nd × List Int) (x : Nd) : List Nd × List Int:=((Es st.1 (x.1,Nw st.2 x)).1,st.2 ++ [((Es st.1 (x.1,Nw st.2 x)).2 : Int)])
def Cn (l : List Nd) : Nat -> List Nd × List Int
 | 0=>([],[])
 | i + 1=>stepR (Cn l i) (ndU l i)
structure BIv (l : List Nd) (i : Nat) (st : List Nd × List Int) : Prop where
 tl : st.2.length = i
 tv : ∀ j,j < i -> ∃ (m : Nat) (y : Nd),st.2[j]? = some (m : Int) /\ st.1[m]? = some y /\ y.1 = (ndU l j).1
 ok : OkN st.1
 le : st.1.length <= i
theorem Tm {l : List Nd} {i : Nat} {x : Nd} (h : l[i]? = some x) : ndU l i = x:=by unfold ndU; rw [h]; rfl
theorem ZM {l : List Nd} {x : Nd} (h : OkN l) (h1 : 1 <= x.1 /\ x.1 <= 1000 /\ x.2 ≠ [] /\ x.2.length <= 100 /\ (∀ k,k ∈ x.2 -> -1000000000 <= k /\ k <= 1000000000) /\ (1 < x.1 -> ∀ k,k ∈ x.2 -> 0 <= k /\ k.toNat < l.length /\ (ndU l k.toNat).1 < x.1)) : OkN (Es l x).1:=by
 unfold Es
 split
 ·exact h
 ·simp only
  have hold : ∀ j,j < l.length -> ndU (l ++ [x]) j = ndU l j:=fun j hj=>by unfold ndU; rw [AeW hj]
  intro i hi
  rw [AeL,AfO] at hi
  by_cases c : i < l.length
  ·obtain ⟨a1,a2,a3,a4,a5,a6⟩:=h i c
   rw [hold i c]
   refine ⟨a1,a2,a3,a4,a5,fun hl k hk=>?_⟩
   obtain ⟨b1,b2,b3⟩:=a6 hl k hk
   rw [hold _ b2]
   exact ⟨b1,by rw [AeL]; omega,b3⟩
  ·have : i = l.length:=by omega
   subst this
   have e : ndU (l ++ [x]) l.length = x:=by unfold ndU; simp
   rw [e]
   obtain ⟨a1,a2,a3,a4,a5,a6⟩:=h1
   refine ⟨a1,a2,a3,a4,a5,fun hl k hk=>?_⟩
   obtain ⟨b1,b2,b3⟩:=a6 hl k hk
   rw [hold _ b2]
   exact ⟨b1,by rw [AeL]; omega,b3⟩
theorem Tq {l : List Nd} {i : Nat} {st : List Nd × List Int} (hr : OkR l) (hi : i < l.length) (h : BIv l i st) (hl : l.length <= 10000000) : (∀ k,k ∈ Nw st.2 (ndU l i) -> -1000000000 <= k /\ k <= 1000000000) /\ (1 < (ndU l i).1 -> ∀ k,k ∈ Nw st.2 (ndU l i) -> 0 <= k /\ k.toNat < st.1.length /\ (ndU st.1 k.toNat).1 < (ndU l i).1):=by
 obtain ⟨a1,a2,a3,a4,a5,a6⟩:=hr i hi
 have key : 1 < (ndU l i).1 -> ∀ k,k ∈ Nw st.2 (ndU l i) -> 0 <= k /\ k.toNat < st.1.length /\ (ndU st.1 k.toNat).1 < (ndU l i).1:=fun h1 k hk=>by
  unfold Nw at hk
  rw [AeJ h1] at hk
  obtain ⟨q,hq,rfl⟩:=Afb.1 hk
  obtain ⟨b1,b2,b3⟩:=a6 h1 q hq
  obtain ⟨m,y,c1,c2,c3⟩:=h.tv q.toNat b2
  rw [c1]
  simp only [Option.getD_some,Int.toNat_natCast]
  refine ⟨by omega,(AeG.1 c2).1,?_⟩
  rw [Tm c2,c3]
  exact b3
 refine ⟨fun k hk=>?_,key⟩
 by_cases h1 : 1 < (ndU l i).1
 ·obtain ⟨b1,b2,_⟩:=key h1 k hk
  have:=h.le
  omega
 ·unfold Nw at hk
  rw [AeF h1] at hk
  exact a5 k hk
theorem WB {l : List Nd} {i : Nat} {st : List Nd × List Int} (hr : OkR l) (hi : i < l.length) (h : BIv l i st) (hl : l.length <= 10000000) : BIv l (i + 1) (stepR st (ndU l i)):=by
 obtain ⟨a1,a2,a3,a4,a5,a6⟩:=hr i hi
 obtain ⟨m1,m2⟩:=Tq hr hi h hl
 refine ⟨by show (st.2 ++ _).length = _; simp [h.tl],fun j hj=>?_,ZM h.ok ⟨a1,a2,fun e=>a3 ?_,by rw [Kh]; exact a4,m1,m2⟩,?_⟩
 ·by_cases c : j < i
  ·obtain ⟨m,y,c1,c2,c3⟩:=h.tv j c
   refine ⟨m,y,?_,WG c2,c3⟩
   show (st.2 ++ _)[j]? = _
   rw [AeW (by rw [h.tl]; exact c)]
   exact c1
  ·have : j = i:=by omega
   subst this
   refine ⟨_,_,?_,PJ _ _,rfl⟩
   show (st.2 ++ _)[j]? = _
   rw [Afp (by rw [h.tl]; omega),h.tl]
   simp
 ·have:=Kh st.2 (ndU l i)
  have e : Nw st.2 (ndU l i) = []:=e
  rw [e] at this
  exact List.length_eq_zero_iff.1 this.symm
 ·have:=(PI st.1 ((ndU l i).1,Nw st.2 (ndU l i))).2
  have:=h.le
  show (Es st.1 _).1.length <= _
  omega
theorem PD {l : List Nd} (hr : OkR l) (hl : l.length <= 10000000) : ∀ i,i <= l.length -> BIv l i (Cn l i)
 | 0,_=>⟨rfl,fun j hj=>by omega,fun i hi=>absurd hi (by simp [Cn]),AeI _⟩
 | i + 1,h=>WB hr (by omega) (PD hr hl i (by omega)) hl
def VR (l : List Nd) : List Nd:=(He (Cn l l.length).1 1000 (((Cn l l.length).2[l.length - 1]?).getD 0).toNat (List.replicate (Cn l l.length).1.length 0,[])).1.2
open Go.Lib
theorem su1 {α : Type} (H M : List α) (a b x : α) : AF (H ++ a :: b :: M) (H.length + 1) x = some (H ++ a :: x :: M):=by
 rw [Am _ _ _ (by simp),Nm]
 rfl
theorem Nu : ∀ (M c : List Int) (s : Nat) (m : Int),M.length = c.length -> M[s]? = some m -> (M.take s ++ c.drop s).set s m = M.take (s + 1) ++ c.drop (s + 1)
 | [],_,_,_,_,h=>by simp at h
 | a :: M,[],_,_,h,_=>by simp at h
 | a :: M,b :: c,0,m,_,h=>by simp at h; subst h; simp
 | a :: M,b :: c,s + 1,m,hl,h=>by
  have:=Nu M c s m (by simpa using hl) (by simpa using h)
  simp only [List.take_succ_cons,List.drop_succ_cons,Afo,List.set_cons_succ,this]
theorem Nv : ∀ (M c : List Int) (s : Nat),M.length = c.length -> (M.take s ++ c.drop s)[s]? = c[s]?
 | [],[],_,_=>by simp
 | [],_ :: _,_,h=>by simp at h
 | a :: M,[],_,h=>by simp at h
 | a :: M,b :: c,0,_=>by simp
 | a :: M,b :: c,s + 1,hl=>by
  have:=Nv M c s (by simpa using hl)
  simpa using this
theorem Tp (M c : List Int) (s : Nat) (h : M.length = c.length) : (M.take s ++ c.drop s).length = c.length:=by
 rw [AeL,AeZ,Afu]
 omega
theorem AdE (l : V) (o : V) (hl : Ax l = true) (ho : Ax o = true) (H : Hp) : Gives G 159 [l,o] H o H:=by
 refine .of_ret (AS mono rfl rfl rfl (by simp [hl,ho]) rfl ?_)
 simp (disch:=omega) [Ag ho,ho]
theorem Aao {z : I} {c : List (Int × Int)} (hz : IsSl z (Ay c)) (hne : c ≠ []) (hc : c.length <= 1000000) (H : Hp) : Gives G 193 [.m z] H (.sl H.length c.length 2 0 c.length false) (H ++ [.cs 70 2 (BC (Ay c)) 0 false]):=by
 have hl2 : (Ay c).length = c.length:=by simp [Ay]
 rcases hz with rfl | ⟨rfl,h0⟩
 ·have he : elems H (.m (.sl (Ay c))) = some (BC (Ay c)):=rfl
  have hnil : DU 4 (.m (.sl (Ay c))) = some false:=rfl
  refine .of_ret (AS mono rfl rfl rfl rfl rfl ?_)
  have ha : ∀ B,Ai (fun _ _ _=>none) ⟨B,H⟩ (.app 70 2 16) [.ls [],.m (.sl (Ay c))] = some (.sl H.length c.length 2 0 c.length false,⟨B,H ++ [.cs 70 2 (BC (Ay c)) 0 false]⟩):=fun B=>by
   rw [Cm he]
   obtain ⟨x,t,rfl⟩:=Afq hne
   show BA ⟨B,H⟩ 70 2 16 (BC (Ay (x :: t))) = _
   have hok : ((BC (Ay (x :: t))).all fun e=>Nat.beq e.length 2 && e.all BH) = true:=by
    rw [AeQ]
    intro e he
    unfold BC Ay at he
    rw [AfW] at he
    obtain ⟨q,_,rfl⟩:=Afb.1 he
    rfl
   rw [CJ,hok,immS_len,hl2]
   have : Nat.ble ((x :: t).length * 16) 140737488355328 = true:=by rw [Bd]; exact Afc (by omega)
   rw [this]
   rfl
  simp [hnil,-Ez,ha]
 ·exact absurd (by simpa [Ay] using h0) hne
structure RebQ (H : Hp) (l : List Nd) (i : Nat) (eb : List (List I)) (ob tv : V) (Hi : Hp) : Prop where
 bld : BldQ (H.length + 1) H.length eb ob Hi
 lr : LR 3 (iI (Cn l i).2) tv Hi Hk
 eq : eb.map dNd = (Cn l i).1
 len : H.length + 2 <= Hi.length
 old : ∀ r,r < H.length -> nth Hi r = nth H r
 ro : ∀ r,AG ob = some r -> H.length <= r
 rt : ∀ r,AG tv = some r -> H.length <= r
set_option maxHeartbeats 4000000 in
theorem SQ {es : List (List I)} {n : I} (hn : IsSl n es) (hv : Ky es) (hr : OkR (es.map dNd)) (hl : es.length <= 1000000) (h1 : 1 <= es.length) {S : Int} {hd : I} {c : List (Int × Int)} (hh : IsSl hd (Ay c)) (hcn : c ≠ []) (hcl : c.length <= 1000) {H : Hp} (Q : V -> Hp -> Prop)
  (hQ : ∀ rh eo oo H',nth H' rh = some (.cs 70 2 (BC (Ay c)) 0 false) -> L2 eo oo H' -> Ky eo -> eo.map dNd = VR (es.map dNd) -> H.length <= H'.length -> (∀ r,r < H.length -> nth H' r = nth H r) -> H.length <= rh -> (∀ r,AG oo = some r -> H.length <= r) -> Q (.ag [.m (.i .i64 S),.sl rh c.length 2 0 c.length false,oo]) H') :
  Ret G 158 [.m (.ag [.i .i64 S,hd,n]),.m (.fn 159 [])] H Q:=by
 have hlm : (es.map dNd).length = es.length:=AeX ..
 have rn:=hn.rules
 refine AS mono rfl rfl rfl rfl rfl ?_
 have w1 : ∀ x y z w : V,BD 2 [[x,y]] 0 0 [z,w] = some [[z,w]]:=fun _ _ _ _=>rfl
 have am : ∀ r,Bo [V.mp r] = none:=fun _=>rfl
 have cva : ∀ l,Ap (.ag l) = some l:=fun _=>rfl
 have omp : ∀ r,BH (.mp r) = true:=fun _=>rfl
 have onl : BH (.m (.nl 4)) = true:=rfl
 simp (disch:=omega) [gd_and,rn,nu1,su1,w1,am,cva,omp,onl]
 refine (?key : ∀ (i : Nat) (eb : List (List I)) (ob tv : V) (B : List (Nat × List V)) (Hi : Hp),i <= es.length -> getB B 2 = some [.m (.i .i64 S),.m hd,.m n] -> getB B 4 = some [.m (.i .i64 0),.m (.nl 4),.m (.nl 4)] -> RebQ H (es.map dNd) i eb ob tv Hi ->
  Run G c158_B1 (S158_1 (.m (.fn 159 [])) (.fa 2 0) (.fa 4 0) (.pt (H.length + 1) 1 0 0) tv (.m n) (.m (.i .i64 (es.length : Int))) (.m (.i .i64 (i : Int))) B Hi) _) 0 [] (.m (.nl 4)) (.m (.nl 4)) _ _ (AeR _) rfl rfl ⟨⟨⟨1,AeI _,nu1 ..⟩,Au ..,.inl ⟨rfl,rfl⟩,fun e h=>by simp at h⟩,.inl ⟨rfl,rfl⟩,rfl,by simp,fun r hr=>BF _ _ _ hr,fun r h=>(by cases h),fun r h=>(by cases h)⟩
 refine BO (fun i : Nat=>es.length - i) fun i ih eb ob tv B Hi hi hB2 hB4 hq=>?_
 have hbf:=PD hr (by omega) i (by omega)
 obtain ⟨hbld,hlr,heq,hlen,hold,hro,hrt⟩:=id hq
 have htn:=hlr.nf
 unfold c158_B1
 by_cases hie : i < es.length
 ·have hie' : (i : Int) < es.length:=by omega
  obtain ⟨e,he⟩ : ∃ e,es[i]? = some e:=⟨es[i],AeK hie⟩
  obtain ⟨x,z,rfl,hz⟩:=hv e (AeO he)
  have hnd : ndU (es.map dNd) i = (x,dIn z):=by
   unfold ndU
   rw [Afg,he]
   rfl
  obtain ⟨q1,q2,q3,q4,q5,q6⟩:=hr i (by omega)
  have hmo:=Tq hr (by omega) hbf (by omega)
  have hfo : Cn (es.map dNd) (i + 1) = stepR (Cn (es.map dNd) i) (ndU (es.map dNd) i):=rfl
  rw [hnd] at q1 q2 q3 q4 q5 q6 hmo hfo
  simp only at q1 q2 q3 q4 q5 q6 hmo
  generalize hc : dIn z = cc at *
  have gc:=TT hz q3 (by omega) Hi
  have hne : nth es i = some [.i .i64 x,z]:=by rw [AA]; exact he
  have oz:=GC hz
  simp (disch:=omega) [gd_and,hie',rn,hne,cl gc,oz]
  have hMl : (Nw (Cn (es.map dNd) i).2 (x,cc)).length = cc.length:=Kh _ _
  generalize hM : Nw (Cn (es.map dNd) i).2 (x,cc) = M at hMl hmo
  refine (?key2 : ∀ (s : Nat) (B : List (Nat × List V)) (b : Nat),s <= cc.length -> b <= cc.length -> getB B 2 = some [.m (.i .i64 S),.m hd,.m n] -> getB B 4 = some [.m (.i .i64 0),.m (.nl 4),.m (.nl 4)] -> getB B 8 = some [.m (.i .i64 x),.m z] ->
   Run G c158_B0 (S158_0 (.m (.fn 159 [])) (.fa 2 0) (.fa 4 0) (.pt (H.length + 1) 1 0 0) tv (.fa 8 0) (.sl Hi.length cc.length 1 0 cc.length false) (.m n) (.m (.i .i64 (es.length : Int))) (.m (.i .i64 (i : Int))) (.sl Hi.length cc.length 1 0 cc.length false) (.m (.i .i64 (cc.length : Int))) (.m (.i .i64 (s : Int))) B (Hi ++ [.cs 3 1 (onV (iI (M.take s ++ cc.drop s))) b false])) _) 0 _ 0 (AeR _) (AeR _) (by rw [AE]; simpa using hB2) (by rw [AE]; simpa using hB4) (by rw [AE]; simp)
  refine BO (fun s : Nat=>cc.length - s) fun s ihs B b hs hb hB2 hB4 hB8=>?_
  unfold c158_B0
  have hdl:=Tp M cc s hMl
  by_cases hsc : s < cc.length
  ·have hsc' : (s : Int) < cc.length:=by omega
   obtain ⟨kd,hkd⟩ : ∃ kd,cc[s]? = some kd:=⟨cc[s],AeK hsc⟩
   have hgd:=Nv M cc s hMl
   rw [hkd] at hgd
   have hn2:=Cl (CS hgd)
   have wi : wr .i64 ((s : Int) + 1) = ((s + 1 : Nat) : Int):=wr_i64 (by omega) (by omega)
   obtain ⟨m,hm⟩ : ∃ m,M[s]? = some m:=⟨M[s]'(by omega),AeK (by omega)⟩
   have hset:=Nu M cc s m hMl hm
   by_cases hx1 : 1 < x
   ·obtain ⟨s1,s2,s3⟩:=q6 hx1 kd (AeO hkd)
    obtain ⟨kn,rfl⟩:=AeV s1
    have s2 : kn < i:=s2
    obtain ⟨m',y,c1,c2,c3⟩:=hbf.tv kn s2
    have hmm : m = (m' : Int):=by
     have e : M[s]? = some (m' : Int):=by
      rw [<- hM]
      unfold Nw
      rw [AeJ hx1,Afg,hkd]
      show some (((Cn (es.map dNd) i).2[kn]?).getD 0) = _
      rw [c1]
      rfl
     rw [e] at hm
     exact (AfD hm).symm
    subst hmm
    have hrd:=(hlr.keepR (H':=Hi ++ [.cs 3 1 (onV (iI (M.take s ++ cc.drop s))) b false]) fun r _ hr=>BF _ _ _ hr).rd (CS c1)
    obtain ⟨p,p1,p2,p3⟩:=hrd
    have hst : AF (onV (iI (M.take s ++ cc.drop s))) s [.m (.i .i64 (m' : Int))] = some (onV (iI (M.take (s + 1) ++ cc.drop (s + 1)))):=by rw [Em (by rw [CR,hdl]; exact hsc),GD,hset]
    have kk:=fun B=>ihs (s + 1) (by omega) B cc.length (by omega) (AeI _)
    simp (disch:=omega) [gd_and,hsc',Au,Al,hn2,hb,hx1,hB8,p1,p3,hst,hdl,wi]
    exact kk _ hB2 hB4 hB8
   ·have hmm : m = kd:=by
     rw [<- hM] at hm
     unfold Nw at hm
     rw [AeF hx1,hkd] at hm
     exact (AfD hm).symm
    subst hmm
    have hsame : M.take (s + 1) ++ cc.drop (s + 1) = M.take s ++ cc.drop s:=by
     rw [<- hset]
     apply List.ext_getElem?
     intro j
     by_cases e : s = j
     ·subst e
      rw [List.getElem?_set_self (by rw [hdl]; exact hsc),hgd]
     ·rw [AfC e]
    have kk:=fun B=>ihs (s + 1) (by omega) B b (by omega) hb
    rw [hsame] at kk
    simp (disch:=omega) [gd_and,hsc',Au,hn2,hb,hx1,hB8,wi]
    exact kk _ hB2 hB4 hB8
  ·have : s = cc.length:=by omega
   subst this
   have hsc' : ¬ (cc.length : Int) < cc.length:=by omega
   have hdM : M.take cc.length ++ cc.drop cc.length = M:=by rw [AfR,Afd,AeY (by omega)]
   rw [hdM]
   generalize hHs : Hi ++ [.cs 3 1 (onV (iI M)) b false] = Hs
   have hrow : nth Hs Hi.length = some (.cs 3 1 (onV (iI M)) b false):=by rw [<- hHs]; exact Dc Hi _ 0
   have hold2 : ∀ r,r < Hi.length -> nth Hs r = nth Hi r:=fun r hr=>by rw [<- hHs]; exact BF _ _ _ hr
   have hlenS : Hs.length = Hi.length + 1:=by rw [<- hHs]; simp
   have hIR : IR M (.sl Hi.length cc.length 1 0 cc.length false) Hs:=⟨Hi.length,b,false,by rw [hMl],hrow,by omega⟩
   have gr:=AdE (.m (.i .i64 x)) (.sl Hi.length cc.length 1 0 cc.length false) rfl rfl Hs
   have hbS : BldQ (H.length + 1) H.length eb ob Hs:=hbld.keep hold2
   simp (disch:=omega) [hsc',hB8,cl gr]
   rw [Ak]
   have hel : eb.length <= es.length:=by
    have h1:=congrArg List.length heq
    have h2:=hbf.le
    rw [AeX] at h1
    omega
   refine Tk hbS hIR (by omega) hmo.1 (by omega) (by omega) _ fun eb2 ob2 H2 hb2 he2 hk2=>?_
   rw [heq] at he2 ⊢
   have hidl : (Es (Cn (es.map dNd) i).1 (x,M)).2 <= es.length:=by
    have h1:=PJ (Cn (es.map dNd) i).1 (x,M)
    have h2:=(AeG.1 h1).1
    have h3:=(PI (Cn (es.map dNd) i).1 (x,M)).2
    have h4:=hbf.le
    omega
   have htr : LR 3 (iI (Cn (es.map dNd) i).2) tv H2 Hk:=hlr.keepR fun r e hr=>by
    have q:=hlr.row e
    have hbb:=hbld.hb
    obtain ⟨_,_,hbb⟩:=hbb
    have hmm:=hbld.hm
    rw [hk2.2.1 r (by omega) (fun e1=>by subst e1; rw [hbb] at q; simp at q) (fun e1=>by subst e1; rw [hmm] at q; simp [mpR] at q) (fun e1=>by have q2:=hbld.hn.row e1; rw [q2] at q; simp at q) (fun e1=>by cases e1; omega)]
    exact hold2 r hr
   have htl : (iI (Cn (es.map dNd) i).2).length <= 10000000:=by rw [CR,hbf.tl]; omega
   obtain ⟨tv2,H3,ga,gn,gl,gk⟩:=htr.pushN (b:=8) (by omega) (ys:=iI [((Es (Cn (es.map dNd) i).1 (x,M)).2 : Int)]) (by simp only [CR,AfO]; rw [CR] at htl; omega) (Tl _)
   have hys : onV (iI [((Es (Cn (es.map dNd) i).1 (x,M)).2 : Int)]) = [[V.m (.i .i64 ((Es (Cn (es.map dNd) i).1 (x,M)).2 : Int))]]:=rfl
   rw [hys] at ga
   rw [TC] at gl
   have hfo2 : Cn (es.map dNd) (i + 1) = ((Es (Cn (es.map dNd) i).1 (x,M)).1,(Cn (es.map dNd) i).2 ++ [((Es (Cn (es.map dNd) i).1 (x,M)).2 : Int)]):=by rw [hfo,<- hM]; rfl
   have hl2:=hk2.1
   have hne3 : ∀ r,r < H2.length -> (∀ w,nth H2 r = some w -> ∀ es b fz,w ≠ .cs 3 1 es b fz) -> nth H3 r = nth H2 r:=fun r hr hw=>gk.2.1 r hr fun e=>by
    have q:=htr.row e
    exact hw _ q _ _ _ rfl
   have hb3 : BldQ (H.length + 1) H.length eb2 ob2 H3:=by
    obtain ⟨⟨bb,hb0,hbb⟩,hmm,hnn,hok⟩:=id hb2
    exact ⟨⟨bb,hb0,(hne3 _ (AI hbb) fun w hw _ _ _ h=>by rw [hbb] at hw; cases hw; simp at h).trans hbb⟩,(hne3 _ (AI hmm) fun w hw _ _ _ h=>by rw [hmm] at hw; cases hw; simp [mpR] at h).trans hmm,hnn.keep fun r e hr=>hne3 r hr fun w hw _ _ _ h=>by
     have q:=hnn.row e
     rw [q] at hw; cases hw; simp at h,hok⟩
   have kk:=fun B=>ih (i + 1) (by omega) eb2 ob2 tv2 B H3 (by omega)
   have wi : wr .i64 ((i : Int) + 1) = ((i + 1 : Nat) : Int):=wr_i64 (by omega) (by omega)
   have kq : RebQ H (es.map dNd) (i + 1) eb2 ob2 tv2 H3:=⟨hb3,by rw [hfo2]; exact gl,by rw [hfo2]; exact he2,by have:=gk.1; omega,fun r hr=>by
     rw [gk.2.1 r (by omega) fun e=>by have:=hrt r e; omega]
     rw [hk2.2.1 r (by omega) (by omega) (by omega) (fun e=>by have:=hro r e; omega) (fun e=>by cases e; omega),hold2 r (by omega)]
     exact hold r hr,fun r hr=>by
     rcases hk2.2.2 r hr with h | h
     ·exact hro r h
     ·omega,fun r hr=>by
     rcases gk.2.2 r hr with h | h
     ·exact hrt r h
     ·omega⟩
   simp (disch:=omega) [ga,Ag gn,wi]
   exact kk _ hB2 hB4 kq
 ·have : i = es.length:=by omega
  subst this
  have hie' : ¬ (es.length : Int) < es.length:=by omega
  obtain ⟨bb,hb0,hbb⟩:=hbld.hb
  obtain ⟨m,y,c1,c2,c3⟩:=hbf.tv (es.length - 1) (by omega)
  obtain ⟨p,p1,p2,p3⟩:=hlr.rd (CS c1)
  have hbl : eb.length = (Cn (es.map dNd) es.length).1.length:=by rw [<- heq,AeX]
  have hml : m < eb.length:=by rw [hbl]; exact (AeG.1 c2).1
  have hel : eb.length <= es.length:=by rw [hbl]; exact hbf.le
  have gp:=Aao hh hcn (by omega) Hi
  have wl : wr .i64 (((Cn (es.map dNd) es.length).2.length : Int) - 1) = ((es.length - 1 : Nat) : Int):=by rw [hbf.tl,wr_i64 (by omega) (by omega)]; omega
  have hno:=hbld.hn.nf
  rw [CR] at htn
  simp (disch:=omega) [gd_and,hie',hB2,hbb,hb0,ZF,htn.2.2.2,wl,p1,p3,cl gp]
  rw [Ak]
  have hL : L2 eb ob (Hi ++ [.cs 70 2 (BC (Ay c)) 0 false]):=hbld.hn.keep fun r _ hr=>BF _ _ _ hr
  have hokN : OkN (eb.map dNd):=by rw [heq]; exact hbf.ok
  have hlev : (ndU (eb.map dNd) m).1 <= ((1000 : Nat) : Int):=(hokN m (by rw [AeX]; exact hml)).2.1
  refine LZ (n:=1000) hbld.ok hokN (by omega) hL hml hlev _ fun eo oo H2 h2l h2n h2e h2len h2k h2r=>?_
  have hred : eo.map dNd = VR (es.map dNd):=by
   rw [h2e]
   unfold VR
   rw [hlm,c1,heq,hbl]
   rfl
  have hon:=h2l.nf
  have kk:=hQ Hi.length eo oo H2 (by rw [h2k _ (by simp)]; exact Dc Hi _ 0) h2l h2n hred (by simp at h2len; omega) (fun r hr=>by rw [h2k r (by simp; omega),BF _ _ _ (by omega)]; exact hold r hr) (by omega) fun r hr=>by have:=h2r r hr; simp at this; omega
  have ams : ∀ (a b c d e : Nat) (f : Bool) (l : List V),Bo (.sl a b c d e f :: l) = none:=fun _ _ _ _ _ _ _=>rfl
  have amm : ∀ (x : I) (l : List V),Bo (.m x :: l) = (Bo l).bind fun r=>some (x :: r):=fun _ _=>rfl
  have osl : ∀ (a b c d e : Nat) (f : Bool),BH (.sl a b c d e f) = true:=fun _ _ _ _ _ _=>rfl
  have oi : BH (.m (.i .i64 S)) = true:=rfl
  simp (disch:=omega) [gd_and,hon.2.1,hon.2.2.1,ams,amm,hB4,cva,osl,oi]
  exact kk
theorem Dy {t : TreeC} (h : CP t = true) : (2 <= t.states /\ t.states <= 8) /\ Mj t.hood = true /\ (1 <= t.nodes.length /\ t.nodes.length <= 4096) /\ Nx t.nodes (t.nodes.length - 1) = t.hood.length /\ ∀ (j : Nat) n,t.nodes[j]? = some n -> Md t j n = true:=by
 unfold CP at h
 simp only [AeH,Afe] at h
 exact ⟨h.1,h.2.1,h.2.2.1,h.2.2.2.1,fun j n hj=>by have:=Jf t t.nodes 0 h.2.2.2.2 j n hj; rwa [AfL] at this⟩
theorem Fl {l : List (Int × Int)} (h : Mj l = true) : 1 <= l.length /\ l.length <= 25:=by
 unfold Mj at h
 simp only [AeH,Afe] at h
 exact h.1
theorem Tt (l : List Nd) (k : Int) : Nx l k = (ndU l k.toNat).1:=by
 unfold Nx ndU
 cases l[k.toNat]? <;> rfl
theorem AdQ {t : TreeC} (h : CP t = true) : OkR t.nodes:=fun i hi=>by
 obtain ⟨⟨h1,h2⟩,h3,_,_,h5⟩:=Dy h
 have hh:=Fl h3
 have hg : t.nodes[i]? = some (ndU t.nodes i):=by
  unfold ndU
  rw [AeK hi]
  rfl
 have hn:=h5 i _ hg
 unfold Md at hn
 simp only [AeH,Afe,AeQ] at hn
 obtain ⟨⟨a1,a2,a3⟩,a4⟩:=hn
 have hel : ∀ k,k ∈ (ndU t.nodes i).2 -> 0 <= k /\ ¬ ((ndU t.nodes i).1 = 1 /\ t.states <= k) /\ ¬ (1 < (ndU t.nodes i).1 /\ ((i : Int) <= k \/ ¬ Nx t.nodes k = (ndU t.nodes i).1 - 1)):=fun k hk=>by
  have:=a4 k hk
  unfold elOk at this
  simp only [Afe] at this
  exact ⟨by omega,this.2.1,this.2.2⟩
 refine ⟨a1,by omega,fun e=>by rw [e] at a3; simp at a3; omega,by omega,fun k hk=>?_,fun hl k hk=>?_⟩
 ·obtain ⟨b1,b2,b3⟩:=hel k hk
  refine ⟨by omega,?_⟩
  by_cases hl : (ndU t.nodes i).1 = 1
  ·have : ¬ t.states <= k:=fun e=>b2 ⟨hl,e⟩
   omega
  ·have : ¬ (i : Int) <= k:=fun e=>b3 ⟨by omega,.inl e⟩
   omega
 ·obtain ⟨b1,b2,b3⟩:=hel k hk
  have c1 : ¬ (i : Int) <= k:=fun e=>b3 ⟨hl,.inl e⟩
  have c2 : Nx t.nodes k = (ndU t.nodes i).1 - 1:=Classical.byContradiction fun e=>b3 ⟨hl,.inr e⟩
  rw [Tt] at c2
  exact ⟨b1,by omega,by omega⟩
theorem ZQ {es : List (List I)} (h : TZ es) : Ky es:=fun e he=>by
 obtain ⟨x,z,h1,h2,_⟩:=h e he
 exact ⟨x,z,h1,h2⟩
theorem optN (k : Nat) (H : Hp) : ∀ es : List (List I),Af (fun e=>Af (view (k + 1) H) e) (BC es) = some es
 | []=>rfl
 | e :: r=>by
  show Option.bind (Af (view (k + 1) H) (e.map .m)) _ = _
  have h : ∀ x : List I,Af (view (k + 1) H) (x.map .m) = some x:=fun x=>by
   induction x with
   | nil=>rfl
   | cons a t ih =>
    show Option.bind (view (k + 1) H (.m a)) _ = _
    have : view (k + 1) H (.m a) = some a:=rfl
    rw [this,AeM,ih]
    rfl
  rw [h,AeM]
  show Option.bind (Af _ (BC r)) _ = _
  rw [optN k H r]
  rfl
theorem L2.view {es : List (List I)} {o : V} {H : Hp} (h : L2 es o H) (hne : es ≠ []) (k : Nat) : Mx.view (k + 2) H o = some (.sl es):=by
 have he:=h.elems
 rcases h with ⟨rfl,rfl⟩ | ⟨_,r,rfl,h3⟩
 ·exact absurd rfl hne
 ·show Option.bind (Mx.elems H (.sl r es.length 2 0 es.length false)) _ = _
  rw [he]
  show Option.bind (Af (fun e=>Af (Mx.view (k + 1) H) e) (BC es)) _ = _
  rw [optN]
  rfl
set_option maxHeartbeats 4000000 in
theorem JX {t : TreeC} {h n : I} {es : List (List I)} (hT : TreeV t h n es) (gt : ∀ H,Gives G 103 [.m (.ag [.i .i64 t.states,h,n])] H (.m (.b (CP t))) H) {H : Hp} (Q : V -> Hp -> Prop)
  (hQ : CP t = true -> ∀ rh eo oo H',nth H' rh = some (.cs 70 2 (BC (Ay t.hood)) 0 false) -> L2 eo oo H' -> Ky eo -> eo.map dNd = VR t.nodes -> H.length <= H'.length -> (∀ r,r < H.length -> nth H' r = nth H r) -> H.length <= rh -> (∀ r,AG oo = some r -> H.length <= r) -> Q (.ag [.m (.i .i64 t.states),.sl rh t.hood.length 2 0 t.hood.length false,oo]) H')
  (h0 : CP t = false -> Q (.m (.ag [.i .i64 0,.nl 4,.nl 4])) H) : Ret G 104 [.m (.ag [.i .i64 t.states,h,n])] H Q:=by
 refine AS mono rfl rfl rfl rfl rfl ?_
 have oi : ∀ x : Int,BH (.m (.i .i64 x)) = true:=fun _=>rfl
 have onl : BH (.m (.nl 4)) = true:=rfl
 cases hok : CP t with
 | false =>
  rw [hok] at gt
  have kk:=h0 hok
  simp (disch:=omega) [gd_and,cl (gt _),Bo,oi,onl]
  exact kk
 | true =>
  rw [hok] at gt
  obtain ⟨_,h3,⟨h4,h4'⟩,_,_⟩:=Dy hok
  have hh:=Fl h3
  have hl:=LM hT
  simp (disch:=omega) [cl (gt _),Bo]
  rw [Ak]
  have hne : t.hood ≠ []:=fun e=>by rw [e] at hh; simp at hh
  have hr:=AdQ hok
  rw [hT.eq] at hr
  refine SQ hT.nd (ZQ hT.ok) hr (by omega) (by omega) hT.hd hne (by omega) _ fun rh eo oo H' k1 k2 k3 k4 k5 k6 k7 k8=>?_
  have kk:=hQ hok rh eo oo H' k1 k2 k3 (by rw [k4,hT.eq]) k5 k6 k7 k8
  have hon:=k2.nf
  have cva : ∀ l,Ap (.ag l) = some l:=fun _=>rfl
  have osl : ∀ (a b c d e : Nat) (f : Bool),BH (.sl a b c d e f) = true:=fun _ _ _ _ _ _=>rfl
  have ams : ∀ (a b c d e : Nat) (f : Bool) (l : List V),Bo (.sl a b c d e f :: l) = none:=fun _ _ _ _ _ _ _=>rfl
  have amm : ∀ (x : I) (l : List V),Bo (.m x :: l) = (Bo l).bind fun r=>some (x :: r):=fun _ _=>rfl
  simp (disch:=omega) [gd_and,cva,osl,oi,hon.2.2.1,ams,amm]
  exact kk
def atZ (l : List Int) (k : Int) : Option Int:=match k with
 | .ofNat n=>nth l n
 | .negSucc _=>none
def ndZ (l : List Nd) (k : Int) : Option Nd:=match k with
 | .ofNat n=>nth l n
 | .negSucc _=>none
def Aar (k : Int) : Bool:=leI (-1000000000) k && leI k 1000000000
def innZ (ns : List Nd) (to : List Int) (up : Int) (s : Nat) (o : Int) : Option Int:=(ndZ ns o).bind fun y=>(nth y.2 s).bind fun w=>match ltI 2 up with
 | true=>atZ to w
 | false=>some w
def swEl (ns : List Nd) (to : List Int) (up : Int) (x : Nd) (bl : List Nd) (s : Nat) (kid : Int) : Option (List Nd × Int):=match eqI x.1 up with
 | true=>(Af (innZ ns to up s) x.2).bind fun inn=>gd (inn.all Aar && Nat.ble bl.length 100000) (some ((Es bl (up - 1,inn)).1,(((Es bl (up - 1,inn)).2 : Nat) : Int)))
 | false=>match ltI 1 x.1 with
  | true=>(atZ to kid).bind fun w=>some (bl,w)
  | false=>some (bl,kid)
def OZ (ns : List Nd) (to : List Int) (up : Int) (x : Nd) : List Nd -> Nat -> List Int -> List Int -> Option (List Nd × List Int)
 | bl,_,[],acc=>some (bl,acc)
 | bl,s,kid :: r,acc=>(swEl ns to up x bl s kid).bind fun p=>OZ ns to up x p.1 (s + 1) r (acc ++ [p.2])
def LQ (ns : List Nd) (up : Int) (k : Nat) (x : Nd) (bl : List Nd) (to : List Int) : Option (List Nd × List Int):=match eqI x.1 (up - 1) with
 | true=>some (bl,to)
 | false=>(OZ ns to up x bl 0 x.2 []).bind fun p=>gd (p.2.all Aar && Nat.ble p.1.length 100000) (some ((Es p.1 (x.1,p.2)).1,to.set k (((Es p.1 (x.1,p.2)).2 : Nat) : Int)))
def Qt (ns : List Nd) (up : Int) : Nat -> List Nd -> List Nd -> List Int -> Option (List Nd × List Int)
 | _,[],bl,to=>some (bl,to)
 | k,x :: r,bl,to=>(LQ ns up k x bl to).bind fun p=>Qt ns up (k + 1) r p.1 p.2
def shpZ (S : Nat) (ns : List Nd) : Bool:=ns.all fun x=>Nat.beq x.2.length S && (leI 0 x.1 && leI x.1 1000 && x.2.all Aar)
end Go.Mx.Tryz
