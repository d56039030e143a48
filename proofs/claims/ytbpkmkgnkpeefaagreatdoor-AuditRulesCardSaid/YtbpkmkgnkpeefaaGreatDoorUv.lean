/- Trees that are right, and how their lists are seen: plain. -/
import Derived.Test.YtbpkmkgnkpeefaaGreatDoorUc
import Derived.Test.YtbpkmkgnkpeefaaGreatDoorVf
set_option linter.unusedSimpArgs false
set_option linter.unusedVariables false
set_option linter.unusedSectionVars false
set_option maxRecDepth 100000
namespace Go.Mx.Tryz
open Go.Lib

theorem clone_u {z : I} {c : List Int} (hz : IsSl z (celI c)) (hne : c ≠ []) (hc : c.length ≤ 1000000) (H : Hp) : Gives G 104 [.m z] H (.sl H.length c.length 1 0 c.length false) (H ++ [.cs 3 1 (onV (iI c)) 0 false]):=by
 rcases hz with rfl | ⟨rfl,h0⟩
 ·have he : elems H (.m (.sl (celI c))) = some (onV (iI c)):=by
   show some (immS (celI c)) = _
   rw [← on1_iI,immS_on1]
  have hnil : isNil 4 (.m (.sl (celI c))) = some false:=rfl
  obtain ⟨x,t,rfl⟩:=List.exists_cons_of_ne_nil hne
  refine .of_ret (ret_sh mono rfl rfl rfl rfl rfl ?_)
  have ha : ∀ B,loudX (fun _ _ _=>none) ⟨B,H⟩ (.app 3 1 8) [.ls [],.m (.sl (celI (x :: t)))] = some (.sl H.length (x :: t).length 1 0 (x :: t).length false,⟨B,H ++ [.cs 3 1 (onV (iI (x :: t))) 0 false]⟩):=fun B=>by
   rw [loud_elems he]
   show newRow ⟨B,H⟩ 3 1 8 (onV (iI (x :: t))) = _
   rw [newRow_eq,onV_ok (noAg_iI _),onV_len,iI_len]
   have : Nat.ble ((x :: t).length * 8) 140737488355328 = true:=by rw [ble_dec]; exact decide_eq_true (by omega)
   rw [this]
   rfl
  simp [hnil,-loud_app,ha]
 ·exact absurd (by simpa [celI] using h0) hne
theorem onV_set {xs : List I} {i : Nat} {x : I} (h : i < xs.length) : setEl (onV xs) i [.m x] = some (onV (xs.set i x)):=by
 rw [setEl_put _ _ _ (by simpa using h)]
 simp [onV,List.map_set]
theorem iI_set (c : List Int) (i : Nat) (v : Int) : (iI c).set i (.i .i64 v) = iI (c.set i v):=by simp [iI,List.map_set]
structure RwS where
 r0 : Nat
 r1 : Nat
 r2 : Nat
 r3 : Nat
 r4 : Nat
def fnW (R : RwS) : V:=.fn 134 [.pt R.r2 1 0 0,.pt R.r0 1 0 0,.pt R.r4 1 0 0,.pt R.r3 1 0 0]
structure OrdQ (R : RwS) (es : List (List I)) (o : V) (dn : List Int) (eo : List (List I)) (oo : V) (H : Hp) : Prop where
 h0 : ∃ b,b ≤ 1 ∧ nth H R.r0 = some (.cs 29 1 [[o]] b false)
 hn : L2 es o H
 h2 : ∃ b,b ≤ 1 ∧ nth H R.r2 = some (.cs 50 1 [[.sl R.r1 es.length 1 0 es.length true]] b false)
 h1 : ∃ b,b ≤ es.length ∧ nth H R.r1 = some (.cs 3 1 (onV (iI dn)) b false)
 h3 : ∃ b,b ≤ 1 ∧ nth H R.r3 = some (.cs 29 1 [[oo]] b false)
 ho : L2 eo oo H
 h4 : ∃ b,b ≤ 1 ∧ nth H R.r4 = some (.cs 166 1 [[fnW R]] b false)
 dl : dn.length = es.length
 d1 : R.r0 ≠ R.r3
 d2 : ∀ r,rowOf o = some r → rowOf oo ≠ some r
 oe : NdsV eo
def KpW (R : RwS) (oo : V) (H : Hp) (oo' : V) (H' : Hp) : Prop:=H.length ≤ H'.length ∧ (∀ r,r < H.length → r ≠ R.r1 → r ≠ R.r3 → rowOf oo ≠ some r → nth H' r = nth H r) ∧ ∀ r,rowOf oo' = some r → rowOf oo = some r ∨ H.length ≤ r
theorem KpW.refl (R : RwS) (H : Hp) (o : V) : KpW R o H o H:=⟨Nat.le_refl _,fun _ _ _ _ _=>rfl,fun _ h=>.inl h⟩
theorem KpW.trans {R : RwS} {H H1 H2 : Hp} {o o1 o2 : V} (h : KpW R o H o1 H1) (k : KpW R o1 H1 o2 H2) : KpW R o H o2 H2:=by
 obtain ⟨a1,a2,a3⟩:=h
 obtain ⟨b1,b2,b3⟩:=k
 refine ⟨by omega,fun r hr n1 n3 hne=>?_,fun r hr=>?_⟩
 ·rw [b2 r (by omega) n1 n3 fun e=>?_,a2 r hr n1 n3 hne]
  rcases a3 r e with h | h
  ·exact hne h
  ·omega
 ·rcases b3 r hr with h | h
  ·exact a3 r h
  ·exact .inr (by omega)
theorem OrdQ.keep {R : RwS} {es : List (List I)} {o : V} {dn : List Int} {eo : List (List I)} {oo : V} {H H' : Hp} (h : OrdQ R es o dn eo oo H) (hk : ∀ r,r < H.length → (r = R.r0 ∨ r = R.r1 ∨ r = R.r2 ∨ r = R.r3 ∨ r = R.r4 ∨ rowOf o = some r ∨ rowOf oo = some r) → nth H' r = nth H r) : OrdQ R es o dn eo oo H':=by
 obtain ⟨⟨b0,x0,y0⟩,hn,⟨b2,x2,y2⟩,⟨b1,x1,y1⟩,⟨b3,x3,y3⟩,ho,⟨b4,x4,y4⟩,dl,d1,d2,oe⟩:=h
 exact ⟨⟨b0,x0,by rw [hk _ (nl_lt y0) (by simp)]; exact y0⟩,hn.keep fun r e hr=>hk r hr (by simp [e]),⟨b2,x2,by rw [hk _ (nl_lt y2) (by simp)]; exact y2⟩,⟨b1,x1,by rw [hk _ (nl_lt y1) (by simp)]; exact y1⟩,⟨b3,x3,by rw [hk _ (nl_lt y3) (by simp)]; exact y3⟩,ho.keep fun r e hr=>hk r hr (by simp [e]),⟨b4,x4,by rw [hk _ (nl_lt y4) (by simp)]; exact y4⟩,dl,d1,d2,oe⟩
theorem OrdQ.lt {R : RwS} {es : List (List I)} {o : V} {dn : List Int} {eo : List (List I)} {oo : V} {H : Hp} (h : OrdQ R es o dn eo oo H) : R.r0 < H.length ∧ R.r1 < H.length ∧ R.r2 < H.length ∧ R.r3 < H.length ∧ R.r4 < H.length:=by
 obtain ⟨⟨b0,x0,y0⟩,hn,⟨b2,x2,y2⟩,⟨b1,x1,y1⟩,⟨b3,x3,y3⟩,ho,⟨b4,x4,y4⟩,dl,d1,d2,oe⟩:=h
 exact ⟨nl_lt y0,nl_lt y1,nl_lt y2,nl_lt y3,nl_lt y4⟩
theorem set_take : ∀ (d : List Int) (i : Nat) (v : Int),i < d.length → (d.set i v).take (i + 1) = d.take i ++ [v]
 | [],_,_,h=>by simp at h
 | a :: r,0,v,_=>by simp
 | a :: r,i + 1,v,h=>by
  have:=set_take r i v (by simpa using h)
  simp [this]
theorem set_drop : ∀ (d : List Int) (i : Nat) (v : Int),(d.set i v).drop (i + 1) = d.drop (i + 1)
 | [],_,_=>by simp
 | a :: r,0,v=>by simp
 | a :: r,i + 1,v=>by
  have:=set_drop r i v
  simpa using this
theorem rdQ_0 (a : V) : readR 1 [[a]] 0 0 1 = some [a]:=rfl
set_option maxHeartbeats 4000000 in
theorem walk_s {R : RwS} {es : List (List I)} {o : V} (hv : NdsV es) (hk : OkN (es.map dNd)) (hel : es.length ≤ 10000000) : ∀ (n k : Nat) (dn : List Int) (eo : List (List I)) (oo : V) (H : Hp),OrdQ R es o dn eo oo H → InvW (es.map dNd) (dn,eo.map dNd) → k < es.length → (ndU (es.map dNd) k).1 ≤ (n : Int) →
  ∀ Q : V → Hp → Prop,(∀ dn' eo' oo' H',OrdQ R es o dn' eo' oo' H' → (dfsP (es.map dNd) n k (dn,eo.map dNd)).1 = (dn',eo'.map dNd) → KpW R oo H oo' H' → Q (.m (.i .i64 (dfsP (es.map dNd) n k (dn,eo.map dNd)).2)) H') →
  Ret G 134 [.m (.i .i64 (k : Int)),.pt R.r2 1 0 0,.pt R.r0 1 0 0,.pt R.r4 1 0 0,.pt R.r3 1 0 0] H Q
 | 0,k,dn,eo,oo,H,_,_,hlt,hn=>by
  have:=(hk k (by simpa using hlt)).1
  omega
 | n + 1,k,dn,eo,oo,H,hO,hI,hlt,hn=>fun Q hQ=>by
  have hlm : (es.map dNd).length = es.length:=List.length_map ..
  obtain ⟨q1,q2,q3,q4,q5,q6⟩:=hk k (by omega)
  have e0 : dfsP (es.map dNd) (n + 1) k (dn,eo.map dNd) = if 0 < (dn[k]?).getD 0 then ((dn,eo.map dNd),(dn[k]?).getD 0 - 1)
   else finP (ndU (es.map dNd) k) k (if 1 < (ndU (es.map dNd) k).1 then kidsP (dfsP (es.map dNd) n) (ndU (es.map dNd) k).2 (dn,eo.map dNd) [] else ((dn,eo.map dNd),(ndU (es.map dNd) k).2)):=rfl
  obtain ⟨v,hv0⟩ : ∃ v,dn[k]? = some v:=⟨dn[k]'(by rw [hO.dl]; exact hlt),List.getElem?_eq_getElem (by rw [hO.dl]; exact hlt)⟩
  have hvb:=hI.val v (List.mem_of_getElem? hv0)
  have hvo:=hI.out_le
  rw [e0,hv0] at hQ
  simp only [Option.getD_some] at hQ
  obtain ⟨b0,hb0,h0⟩:=hO.h0
  obtain ⟨b1,hb1,h1⟩:=hO.h1
  obtain ⟨b2,hb2,h2⟩:=hO.h2
  obtain ⟨b3,hb3,h3⟩:=hO.h3
  obtain ⟨b4,hb4,h4⟩:=hO.h4
  have hlt' : (k : Int) < es.length:=by omega
  have hn1:=onV_nth (iI_get hv0)
  refine ret_sh mono rfl rfl rfl rfl rfl ?_
  by_cases hp : 0 < v
  ·rw [if_pos hp] at hQ
   have kk:=hQ dn eo oo H hO rfl (.refl ..)
   have wv : wr .i64 (v - 1) = v - 1:=by
    simp only [List.length_map] at hvo hvb
    exact wr_i64 (by omega) (by omega)
   simp (maxSteps:=2000000) (disch:=omega) [gd_in,gd_and,wr_i64,h2,hb2,rdQ_0,hlt,hlt',h1,hb1,hn1,hp,wv]
   exact kk
  ·rw [if_neg hp] at hQ
   have hp' : ¬ (0 < v):=hp
   obtain ⟨e,he⟩ : ∃ e,es[k]? = some e:=⟨es[k],List.getElem?_eq_getElem hlt⟩
   obtain ⟨x,z,rfl,hz⟩:=hv e (List.mem_of_getElem? he)
   have hnd : ndU (es.map dNd) k = (x,dIn z):=by
    unfold ndU
    rw [List.getElem?_map,he]
    rfl
   rw [hnd] at hQ q1 q2 q3 q4 q5 q6 hn e0
   simp only at hQ q1 q2 q3 q4 q5 q6 hn
   generalize hc : dIn z = c at *
   obtain ⟨p,pq,p1,p2,p3,⟨p0,p4,p5,p6⟩,p7,p8,p9⟩:=hO.hn.rd he
   have gc:=clone_u hz q3 (by omega) H
   generalize hRES : (if 1 < x then kidsP (dfsP (es.map dNd) n) c (dn,eo.map dNd) [] else ((dn,eo.map dNd),c)) = RES at hQ
   have hon:=hO.hn.nf
   simp (maxSteps:=2000000) (disch:=omega) [gd_in,gd_and,wr_i64,h2,hb2,rdQ_0,hlt,hlt',h1,hb1,hn1,hp',h0,hb0,p1,p2,p3,p4,p5,p6,p7,p8,p9,cl gc,setC_v hon.1,setC_v p2]
   refine (?key : ∀ (i : Nat) (d : List Int) (dn1 : List Int) (eo1 : List (List I)) (oo1 : V) (B : List (Nat × List V)) (Hi : Hp),i ≤ c.length → getB B 7 = some [.m (.i .i64 x),.sl H.length c.length 1 0 c.length false] → OrdQ R es o dn1 eo1 oo1 Hi → InvW (es.map dNd) (dn1,eo1.map dNd) →
    KpW R oo H oo1 Hi → (∃ b,b ≤ c.length ∧ nth Hi H.length = some (.cs 3 1 (onV (iI d)) b false)) → d.length = c.length → d.drop i = c.drop i → (if 1 < x then kidsP (dfsP (es.map dNd) n) (c.drop i) (dn1,eo1.map dNd) (d.take i) else ((dn1,eo1.map dNd),d)) = RES →
    Run G c134_B0 (S134_0 (.m (.i .i64 (k : Int))) (.pt R.r2 1 0 0) (.pt R.r4 1 0 0) (.pt R.r3 1 0 0) (.fa 7 0) (.sl H.length c.length 1 0 c.length false) (.m (.i .i64 (c.length : Int))) (.m (.i .i64 (i : Int))) B Hi) _) 0 c dn eo oo _ _ (Nat.zero_le _) rfl ?_ hI ⟨by simp,fun r hr _ _ _=>nl_app _ _ _ hr,fun r h=>.inl h⟩ ⟨0,Nat.zero_le _,nl_end H _ 0⟩ rfl rfl (by simpa using hRES)
   case key =>
    refine indM (fun i : Nat=>c.length - i) fun i ih d dn1 eo1 oo1 B Hi hi hB hO1 hI1 hK hX hdl hdd hR=>?_
    unfold c134_B0
    obtain ⟨bx,hbx,hX⟩:=hX
    have hlts:=hO.lt
    have hi1:=hO1.lt
    have hgt : H.length < Hi.length:=nl_lt hX
    have hon1:=hO1.ho.nf
    have hoc : ∀ r,rowOf oo1 = some r → r ≠ H.length:=fun r e1 e2=>by
     subst e2
     have q:=hO1.ho.row e1
     rw [hX] at q
     simp at q
    have hoc0 : ∀ r,rowOf o = some r → r ≠ H.length:=fun r e1 e2=>by
     subst e2
     have q:=hO1.hn.row e1
     rw [hX] at q
     simp at q
    obtain ⟨a0,ha0,h0⟩:=hO1.h0
    obtain ⟨a1,ha1,h1⟩:=hO1.h1
    obtain ⟨a2,ha2,h2⟩:=hO1.h2
    obtain ⟨a3,ha3,h3⟩:=hO1.h3
    obtain ⟨a4,ha4,h4⟩:=hO1.h4
    by_cases hic : i < c.length
    ·have hic' : (i : Int) < c.length:=by omega
     have hdi : d[i]? = c[i]?:=by
      have:=congrArg (fun l=>l[0]?) hdd
      simpa using this
     obtain ⟨kd,hkd⟩ : ∃ kd,c[i]? = some kd:=⟨c[i],List.getElem?_eq_getElem hic⟩
     rw [hkd] at hdi
     have hn2:=onV_nth (iI_get hdi)
     have wi : wr .i64 ((i : Int) + 1) = ((i + 1 : Nat) : Int):=wr_i64 (by omega) (by omega)
     have hcd : c.drop i = kd :: c.drop (i + 1):=by
      rw [List.drop_eq_getElem_cons hic]
      have:=(List.getElem?_eq_some_iff.1 hkd).2
      rw [this]
     by_cases hx1 : 1 < x
     ·obtain ⟨s1,s2,s3⟩:=q6 hx1 kd (List.mem_of_getElem? hkd)
      obtain ⟨kn,rfl⟩:=Int.eq_ofNat_of_zero_le s1
      rw [if_pos hx1,hcd] at hR
      have hR : kidsP (dfsP (es.map dNd) n) (c.drop (i + 1)) (dfsP (es.map dNd) n kn (dn1,eo1.map dNd)).1 (d.take i ++ [(dfsP (es.map dNd) n kn (dn1,eo1.map dNd)).2]) = RES:=hR
      have hgr:=(dfsP_gr hk n kn (dn1,eo1.map dNd) hI1 s2 (by simp only [Int.toNat_natCast] at s3; omega))
      simp (maxSteps:=2000000) (disch:=omega) [gd_in,gd_and,wr_i64,hic',hn2,hX,hbx,hx1,hB,h4,ha4,rdQ_0,fnW]
      rw [callC_some]
      refine walk_s hv hk hel n kn dn1 eo1 oo1 Hi hO1 hI1 (by simpa using s2) (by simp only [Int.toNat_natCast] at s3; omega) _ fun dn2 eo2 oo2 H2 hO2 hr2 hK2=>?_
      rw [hr2] at hR hgr
      generalize (dfsP (es.map dNd) n kn (dn1,eo1.map dNd)).2 = v2 at hR hgr ⊢
      have hX2 : nth H2 H.length = some (.cs 3 1 (onV (iI d)) bx false):=by
       rw [hK2.2.1 H.length hgt (by omega) (by omega) fun e=>hoc _ e rfl]
       exact hX
      have hst : setEl (onV (iI d)) i [.m (.i .i64 v2)] = some (onV (iI (d.set i v2))):=by rw [onV_set (by simp; omega),iI_set]
      have hlen2 : H.length < H2.length:=nl_lt hX2
      have hoc2 : ∀ r,rowOf oo2 = some r → r ≠ H.length:=fun r e1 e2=>by
       subst e2
       have q:=hO2.ho.row e1
       rw [hX2] at q
       simp at q
      have kk:=fun B hB=>ih (i + 1) (by omega) (d.set i v2) dn2 eo2 oo2 B (H2.set H.length (.cs 3 1 (onV (iI (d.set i v2))) c.length false)) (by omega) hB (hO2.keep fun r hr h=>nl_set_ne fun e=>by
        subst e
        rcases h with h | h | h | h | h | h | h
        ·omega
        ·omega
        ·omega
        ·omega
        ·omega
        ·exact hoc0 _ h rfl
        ·exact hoc2 _ h rfl) hgr.1.1 (by
        obtain ⟨k1,k2,k3⟩:=hK.trans hK2
        exact ⟨by simpa using k1,fun r hr n1 n2 n3=>by rw [nl_set_ne (by omega)]; exact k2 r hr n1 n2 n3,k3⟩) ⟨c.length,Nat.le_refl _,nl_set_eq hlen2⟩ (by simpa using hdl) (by rw [set_drop,← List.drop_drop,hdd,List.drop_drop]) (by rw [if_pos hx1,set_take _ _ _ (by omega)]; exact hR)
      have hse : setEl H2 H.length (.cs 3 1 (onV (iI (d.set i v2))) c.length false) = some (H2.set H.length (.cs 3 1 (onV (iI (d.set i v2))) c.length false)):=setEl_put _ _ _ hlen2
      simp (maxSteps:=2000000) (disch:=omega) [gd_in,gd_and,wr_i64,hic',hic,hX2,hn2,hst,hse,hdl,wi]
      exact kk _ hB
     ·rw [if_neg hx1] at hR
      have kk:=fun B hB=>ih (i + 1) (by omega) d dn1 eo1 oo1 B Hi (by omega) hB hO1 hI1 hK ⟨bx,hbx,hX⟩ hdl (by rw [← List.drop_drop,hdd,List.drop_drop]) (by rw [if_neg hx1]; exact hR)
      simp (maxSteps:=2000000) (disch:=omega) [gd_in,gd_and,wr_i64,hic',hn2,hX,hbx,hx1,hB,wi]
      exact kk _ hB
    ·have : i = c.length:=by omega
     subst this
     have hic' : ¬ (c.length : Int) < c.length:=by omega
     have hdt : d.take c.length = d:=List.take_of_length_le (by omega)
     have hRE : RES = ((dn1,eo1.map dNd),d):=by
      rw [← hR,List.drop_length,hdt]
      by_cases hx1 : 1 < x
      ·rw [if_pos hx1]; rfl
      ·rw [if_neg hx1]
     rw [hRE] at hQ
     have hIR : IR d (.sl H.length c.length 1 0 c.length false) Hi:=⟨H.length,bx,false,by rw [hdl],hX,by omega⟩
     obtain ⟨z2,H2,f1,f2,f3,f4,f5⟩:=hIR.bsf x
     have f5 : ∀ r,r ≠ H.length → nth H2 r = nth Hi r:=fun r hr=>f5 r fun e=>hr (by cases e; rfl)
     have hO2 : OrdQ R es o dn1 eo1 oo1 H2:=hO1.keep fun r hr h=>f5 r fun e=>by
      subst e
      rcases h with h | h | h | h | h | h | h
      ·omega
      ·omega
      ·omega
      ·omega
      ·omega
      ·exact hoc0 _ h rfl
      ·exact hoc _ h rfl
     have hout:=hI1.out_le
     simp only [List.length_map] at hout
     obtain ⟨o3,H3,g1,g2,g3,g4⟩:=hO2.ho.push (l:=x) f3 (by omega)
     have l2:=hO2.lt
     have hoo2 : L2 eo1 oo1 H2:=hO2.ho
     have hon2 : L2 es o H2:=hO2.hn
     obtain ⟨c0,hc0,i0⟩:=hO2.h0
     obtain ⟨c1,hc1,i1⟩:=hO2.h1
     obtain ⟨c2,hc2,i2⟩:=hO2.h2
     obtain ⟨c3,hc3,i3⟩:=hO2.h3
     obtain ⟨c4,hc4,i4⟩:=hO2.h4
     have hno : ∀ r (w : Row),nth H2 r = some w → (∀ es b fz,w ≠ .cs 52 2 es b fz) → rowOf oo1 ≠ some r:=fun r w h1 h2 e1=>by
      have q:=hoo2.row e1
      rw [h1] at q
      exact h2 _ _ _ (Option.some.inj q)
     have u0:=hno _ _ i0 (fun _ _ _ h=>by simp at h)
     have u1:=hno _ _ i1 (fun _ _ _ h=>by simp at h)
     have u2:=hno _ _ i2 (fun _ _ _ h=>by simp at h)
     have u3:=hno _ _ i3 (fun _ _ _ h=>by simp at h)
     have u4:=hno _ _ i4 (fun _ _ _ h=>by simp at h)
     have j0:=(g4.2.1 _ l2.1 u0).trans i0
     have j1:=(g4.2.1 _ l2.2.1 u1).trans i1
     have j2:=(g4.2.1 _ l2.2.2.1 u2).trans i2
     have j3:=(g4.2.1 _ l2.2.2.2.1 u3).trans i3
     have j4:=(g4.2.1 _ l2.2.2.2.2 u4).trans i4
     have m3:=g4.1
     have jn : L2 es o H3:=hon2.keep fun r e hr=>g4.2.1 r hr (hO2.d2 r e)
     have df : ∀ {r q : Nat} {a b : Row},nth H3 r = some a → nth H3 q = some b → a ≠ b → r ≠ q:=fun h1 h2 hne e=>by
      subst e
      rw [h1] at h2
      exact hne (Option.some.inj h2)
     have n31 : R.r3 ≠ R.r1:=df j3 j1 (fun h=>by simp at h)
     have n32 : R.r3 ≠ R.r2:=df j3 j2 (fun h=>by simp at h)
     have n34 : R.r3 ≠ R.r4:=df j3 j4 (fun h=>by simp at h)
     have n10 : R.r1 ≠ R.r0:=df j1 j0 (fun h=>by simp at h)
     have n12 : R.r1 ≠ R.r2:=df j1 j2 (fun h=>by simp at h)
     have n14 : R.r1 ≠ R.r4:=df j1 j4 (fun h=>by simp at h)
     have n30 : R.r3 ≠ R.r0:=Ne.symm hO2.d1
     have v3 : ∀ r,(rowOf o = some r ∨ rowOf o3 = some r) → r ≠ R.r3 ∧ r ≠ R.r1:=fun r h=>by
      have q : ∃ q,nth H3 r = some (.cs 52 2 q 0 false):=by
       rcases h with h | h
       ·exact ⟨_,jn.row h⟩
       ·exact ⟨_,g3.row h⟩
      obtain ⟨q,hq⟩:=q
      exact ⟨df hq j3 (fun h=>by simp at h),df hq j1 (fun h=>by simp at h)⟩
     generalize hH4 : H3.set R.r3 (.cs 29 1 [[o3]] 1 false) = H4
     have t4 : ∀ r,r ≠ R.r3 → nth H4 r = nth H3 r:=fun r hr=>by rw [← hH4,nl_set_ne (Ne.symm hr)]
     have t43 : nth H4 R.r3 = some (.cs 29 1 [[o3]] 1 false):=by rw [← hH4]; exact nl_set_eq (nl_lt j3)
     have t4l : H4.length = H3.length:=by rw [← hH4]; simp
     have k1:=(t4 _ (Ne.symm n31)).trans j1
     have k2:=(t4 _ (Ne.symm n32)).trans j2
     generalize hH5 : H4.set R.r1 (.cs 3 1 (onV (iI (dn1.set k ((eo1.length + 1 : Nat) : Int)))) es.length false) = H5
     have t5 : ∀ r,r ≠ R.r1 → nth H5 r = nth H4 r:=fun r hr=>by rw [← hH5,nl_set_ne (Ne.symm hr)]
     have t51 : nth H5 R.r1 = some (.cs 3 1 (onV (iI (dn1.set k ((eo1.length + 1 : Nat) : Int)))) es.length false):=by rw [← hH5]; exact nl_set_eq (nl_lt k1)
     have t5l : H5.length = H3.length:=by rw [← hH5]; simp [t4l]
     have t53:=(t5 _ n31).trans t43
     have s4 : setEl H3 R.r3 (.cs 29 1 [[o3]] 1 false) = some H4:=by rw [setEl_put _ _ _ (nl_lt j3),hH4]
     have s5 : setEl H4 R.r1 (.cs 3 1 (onV (iI (dn1.set k ((eo1.length + 1 : Nat) : Int)))) es.length false) = some H5:=by rw [setEl_put _ _ _ (nl_lt k1),hH5]
     have hkl : k < (iI dn1).length:=by rw [iI_len,hO1.dl]; exact hlt
     obtain ⟨v1,hv1⟩ : ∃ v1,dn1[k]? = some v1:=⟨dn1[k]'(by rw [hO1.dl]; exact hlt),List.getElem?_eq_getElem (by rw [hO1.dl]; exact hlt)⟩
     have hn3:=onV_nth (iI_get hv1)
     have hs1 : setEl (onV (iI dn1)) k [.m (.i .i64 ((eo1.length + 1 : Nat) : Int))] = some (onV (iI (dn1.set k ((eo1.length + 1 : Nat) : Int)))):=by rw [onV_set hkl,iI_set]
     have g3n:=g3.nf
     have e1 : (eo1 ++ [[I.i .i64 x,z2]]).length = eo1.length + 1:=by simp
     rw [e1] at g3n
     have wl : wr .i64 (((eo1.length + 1 : Nat) : Int) - 1) = ((eo1.length : Nat) : Int):=by rw [wr_i64 (by omega) (by omega)]; omega
     have hw1 : writeR 1 [[oo1]] 0 0 [o3] = some [[o3]]:=rfl
     have kk:=hQ (dn1.set k ((eo1.length + 1 : Nat) : Int)) (eo1 ++ [[.i .i64 x,z2]]) o3 H5 ⟨⟨c0,hc0,by rw [t5 _ (Ne.symm n10),t4 _ (Ne.symm n30)]; exact j0⟩,jn.keep fun r e _=>by
       obtain ⟨w1,w2⟩:=v3 r (.inl e)
       rw [t5 _ w2,t4 _ w1],⟨c2,hc2,by rw [t5 _ (Ne.symm n12)]; exact k2⟩,⟨es.length,Nat.le_refl _,t51⟩,⟨1,Nat.le_refl _,t53⟩,g3.keep fun r e _=>by
       obtain ⟨w1,w2⟩:=v3 r (.inr e)
       rw [t5 _ w2,t4 _ w1],⟨c4,hc4,by rw [t5 _ (Ne.symm n14),t4 _ (Ne.symm n34)]; exact j4⟩,by rw [List.length_set]; exact hO1.dl,hO1.d1,fun r e1 e2=>by
       rcases g4.2.2 r e2 with h | h
       ·exact hO1.d2 r e1 h
       ·have:=hon2.row_lt e1
        omega,fun e he=>by
       rcases List.mem_append.1 he with h | h
       ·exact hO1.oe e h
       ·rw [List.mem_singleton] at h
        subst h
        refine ⟨x,z2,rfl,?_⟩
        have:=(Prod.mk.inj (dNd_i (x:=x) f2)).2
        rw [this]
        exact f2⟩ (by unfold finP; simp [dNd_i f2]) ⟨by rw [t5l]; omega,fun r hr n1 n3 n4=>by
       have hrH : r ≠ H.length:=by omega
       have hr1 : rowOf oo1 ≠ some r:=fun e=>by
        rcases hK.2.2 r e with h | h
        ·exact n4 h
        ·omega
       rw [t5 _ n1,t4 _ n3,g4.2.1 r (by omega) hr1,f5 r hrH]
       exact hK.2.1 r hr n1 n3 n4,fun r hr=>by
       rcases g4.2.2 r hr with h | h
       ·exact hK.2.2 r h
       ·exact .inr (by omega)⟩
     have hfin : (finP (x,c) k ((dn1,eo1.map dNd),d)).2 = ((eo1.length : Nat) : Int):=by unfold finP; simp
     rw [hfin] at kk
     clear ih hQ df hno
     simp only [Int.natCast_add,Int.natCast_one] at hs1 s5
     simp (maxSteps:=2000000) (disch:=omega) [gd_in,gd_and,wr_i64,hic',hO1.dl,h3,ha3,rdQ_0,hB,allM,f1,g1,j3,hc3,hw1,s4,k2,hc2,t43,hlt,hlt',setC_v g2,g3n.2.1,g3n.2.2.1,g3n.2.2.2,k1,hc1,hn3,hs1,s5,t53,wl]
     exact kk
   exact hO.keep fun r hr _=>nl_app _ _ _ hr
end Go.Mx.Tryz
set_option linter.unusedSimpArgs false
set_option linter.unusedVariables false
set_option linter.unusedSectionVars false
namespace Go.Mx.Tryz
open Go.Lib

theorem iI_rep (n : Nat) : List.replicate n [V.m (.i .i64 0)] = onV (iI (List.replicate n 0)):=by simp [onV,iI]
theorem set_end {α : Type} (l m : List α) (j : Nat) (x : α) : (l ++ m).set (l.length + j) x = l ++ m.set j x:=by
 rw [List.set_append_right _ _ (by omega)]
 congr 2
 omega
theorem invW_0 (l : List Nd) : InvW l (List.replicate l.length 0,[]):=⟨by simp,Nat.zero_le _,fun v hv=>by
 have:=(List.mem_replicate.1 hv).2
 subst this
 exact ⟨Int.le_refl _,Int.le_refl _⟩⟩
section
variable {α : Type} (H M : List α) (a b c d e x : α)
theorem nu1 : nth (H ++ a :: b :: M) (H.length + 1) = some b:=by rw [nl_end]; rfl
theorem nu2 : nth (H ++ a :: b :: c :: M) (H.length + 2) = some c:=by rw [nl_end]; rfl
theorem nu3 : nth (H ++ a :: b :: c :: d :: M) (H.length + 3) = some d:=by rw [nl_end]; rfl
theorem nu4 : nth (H ++ a :: b :: c :: d :: e :: M) (H.length + 4) = some e:=by rw [nl_end]; rfl
theorem su2 : setEl (H ++ a :: b :: c :: M) (H.length + 2) x = some (H ++ a :: b :: x :: M):=by
 rw [setEl_put _ _ _ (by simp),set_end]
 rfl
theorem su4 : setEl (H ++ a :: b :: c :: d :: e :: M) (H.length + 4) x = some (H ++ a :: b :: c :: d :: x :: M):=by
 rw [setEl_put _ _ _ (by simp),set_end]
 rfl
end
set_option maxHeartbeats 4000000 in
theorem ordered_s {es : List (List I)} {o : V} {H : Hp} (hv : NdsV es) (hk : OkN (es.map dNd)) (hel : es.length ≤ 10000000) (hn : L2 es o H) {n k : Nat} (hkl : k < es.length) (hkn : (ndU (es.map dNd) k).1 ≤ (n : Int)) (Q : V → Hp → Prop)
  (hQ : ∀ eo oo H',L2 eo oo H' → NdsV eo → eo.map dNd = (dfsP (es.map dNd) n k (List.replicate es.length 0,[])).1.2 → H.length ≤ H'.length → (∀ r,r < H.length → nth H' r = nth H r) → (∀ r,rowOf oo = some r → H.length ≤ r) → Q oo H') :
  Ret G 107 [o,.m (.i .i64 (k : Int))] H Q:=by
 have hon:=hn.nf
 refine ret_sh mono rfl rfl rfl (by simp [hon.1]) rfl ?_
 have hL : ∀ m : Hp,L2 es o (H ++ m):=fun m=>hn.keep fun r e hr=>nl_app _ _ _ hr
 have hb1 : es.length * 8 ≤ 281474976710656:=by omega
 have hb2 : es.length ≤ 9223372036854775807:=by omega
 have w1 : ∀ x y : V,writeR 1 [[x]] 0 0 [y] = some [[y]]:=fun _ _=>rfl
 have hcf : ∀ f xs,cellsV (.fn f xs) = some [.fn f xs]:=fun _ _=>rfl
 have hof : ∀ f xs,oneV (.fn f xs) = true:=fun _ _=>rfl
 simp (maxSteps:=2000000) (disch:=omega) [gd_in,gd_and,wr_i64,hon.2.1,hon.2.2.2,setC_v hon.1,nth_mid,setEl_mid,nu1,nu2,nu3,nu4,su2,su4,rdQ_0,hb1,hb2,w1,hcf,hof]
 rw [callC_some]
 have hr:=iI_rep es.length
 rw [hr]
 let R : RwS:=⟨H.length,H.length + 1,H.length + 2,H.length + 3,H.length + 4⟩
 have hI:=invW_0 (es.map dNd)
 rw [List.length_map] at hI
 refine walk_s (R:=R) hv hk hel n k (List.replicate es.length 0) [] (.m (.nl 4)) _ ⟨⟨0,by omega,nth_mid ..⟩,hL _,⟨1,by omega,nu2 ..⟩,⟨0,by omega,nu1 ..⟩,⟨0,by omega,nu3 ..⟩,.inl ⟨rfl,rfl⟩,⟨1,by omega,nu4 ..⟩,by simp,by show H.length ≠ H.length + 3; omega,fun r _ h=>(by cases h),fun e h=>(by simp at h)⟩ hI hkl hkn _ fun dn eo oo H2 hO hr2 hK=>?_
 obtain ⟨b3,hb3,h3⟩:=hO.h3
 have h3 : nth H2 (H.length + 3) = some (.cs 29 1 [[oo]] b3 false):=h3
 have hoo:=hO.ho.nf
 have kk:=hQ eo oo H2 hO.ho hO.oe (by have:=congrArg Prod.snd hr2; exact this.symm) (by have:=hK.1; simp at this; omega) (fun r hr=>by
   rw [hK.2.1 r (by simp; omega) (by show r ≠ H.length + 1; omega) (by show r ≠ H.length + 3; omega) (by simp [rowOf])]
   exact nl_app _ _ _ hr) fun r hr=>by
   rcases hK.2.2 r hr with h | h
   ·cases h
   ·simp at h; omega
 simp (maxSteps:=2000000) (disch:=omega) [gd_in,gd_and,wr_i64,h3,hb3,rdQ_0,setC_v hoo.1]
 exact ⟨hoo.1,kk⟩
end Go.Mx.Tryz
set_option linter.unusedSimpArgs false
set_option linter.unusedVariables false
set_option linter.unusedSectionVars false
namespace Go.Mx.Tryz

theorem idx_some : ∀ {l : List Nd} {x : Nd} {k : Nat},l.idxOf? x = some k → l[k]? = some x
 | [],x,k,h=>by simp at h
 | y :: r,x,k,h=>by
  rw [List.idxOf?_cons] at h
  by_cases e : y = x
  ·subst e
   simp at h
   subst h
   rfl
  ·rw [if_neg (by simpa using e)] at h
   cases hr : r.idxOf? x with
   | none=>rw [hr] at h; cases h
   | some j =>
    rw [hr] at h
    simp at h
    subst h
    simpa using idx_some hr
theorem addN_get (l : List Nd) (x : Nd) : (addN l x).1[(addN l x).2]? = some x:=by
 unfold addN
 split
 ·rename_i k h
  exact idx_some h
 ·simp
theorem addN_old {l : List Nd} {x y : Nd} {j : Nat} (h : l[j]? = some y) : (addN l x).1[j]? = some y:=by
 unfold addN
 split
 ·exact h
 ·simp only
  rw [List.getElem?_append_left (List.getElem?_eq_some_iff.1 h).1]
  exact h
def OkR (l : List Nd) : Prop:=∀ i,i < l.length → 1 ≤ (ndU l i).1 ∧ (ndU l i).1 ≤ 1000 ∧ (ndU l i).2 ≠ [] ∧ (ndU l i).2.length ≤ 100 ∧ (∀ k,k ∈ (ndU l i).2 → -1000000000 ≤ k ∧ k ≤ 1000000000) ∧ (1 < (ndU l i).1 → ∀ k,k ∈ (ndU l i).2 → 0 ≤ k ∧ k.toNat < i ∧ (ndU l k.toNat).1 < (ndU l i).1)
def mapR (to : List Int) (x : Nd) : List Int:=if 1 < x.1 then x.2.map (fun k=>(to[k.toNat]?).getD 0) else x.2
theorem mapR_len (to : List Int) (x : Nd) : (mapR to x).length = x.2.length:=by unfold mapR; split <;> simp
def stepR (st : List Nd × List Int) (x : Nd) : List Nd × List Int:=((addN st.1 (x.1,mapR st.2 x)).1,st.2 ++ [((addN st.1 (x.1,mapR st.2 x)).2 : Int)])
def foldR (l : List Nd) : Nat → List Nd × List Int
 | 0=>([],[])
 | i + 1=>stepR (foldR l i) (ndU l i)
structure BIv (l : List Nd) (i : Nat) (st : List Nd × List Int) : Prop where
 tl : st.2.length = i
 tv : ∀ j,j < i → ∃ (m : Nat) (y : Nd),st.2[j]? = some (m : Int) ∧ st.1[m]? = some y ∧ y.1 = (ndU l j).1
 ok : OkN st.1
 le : st.1.length ≤ i
theorem ndU_get {l : List Nd} {i : Nat} {x : Nd} (h : l[i]? = some x) : ndU l i = x:=by unfold ndU; rw [h]; rfl
theorem okN_add {l : List Nd} {x : Nd} (h : OkN l) (h1 : 1 ≤ x.1 ∧ x.1 ≤ 1000 ∧ x.2 ≠ [] ∧ x.2.length ≤ 100 ∧ (∀ k,k ∈ x.2 → -1000000000 ≤ k ∧ k ≤ 1000000000) ∧ (1 < x.1 → ∀ k,k ∈ x.2 → 0 ≤ k ∧ k.toNat < l.length ∧ (ndU l k.toNat).1 < x.1)) : OkN (addN l x).1:=by
 unfold addN
 split
 ·exact h
 ·simp only
  have hold : ∀ j,j < l.length → ndU (l ++ [x]) j = ndU l j:=fun j hj=>by unfold ndU; rw [List.getElem?_append_left hj]
  intro i hi
  rw [List.length_append,List.length_singleton] at hi
  by_cases c : i < l.length
  ·obtain ⟨a1,a2,a3,a4,a5,a6⟩:=h i c
   rw [hold i c]
   refine ⟨a1,a2,a3,a4,a5,fun hl k hk=>?_⟩
   obtain ⟨b1,b2,b3⟩:=a6 hl k hk
   rw [hold _ b2]
   exact ⟨b1,by rw [List.length_append]; omega,b3⟩
  ·have : i = l.length:=by omega
   subst this
   have e : ndU (l ++ [x]) l.length = x:=by unfold ndU; simp
   rw [e]
   obtain ⟨a1,a2,a3,a4,a5,a6⟩:=h1
   refine ⟨a1,a2,a3,a4,a5,fun hl k hk=>?_⟩
   obtain ⟨b1,b2,b3⟩:=a6 hl k hk
   rw [hold _ b2]
   exact ⟨b1,by rw [List.length_append]; omega,b3⟩
theorem mapR_ok {l : List Nd} {i : Nat} {st : List Nd × List Int} (hr : OkR l) (hi : i < l.length) (h : BIv l i st) (hl : l.length ≤ 10000000) : (∀ k,k ∈ mapR st.2 (ndU l i) → -1000000000 ≤ k ∧ k ≤ 1000000000) ∧ (1 < (ndU l i).1 → ∀ k,k ∈ mapR st.2 (ndU l i) → 0 ≤ k ∧ k.toNat < st.1.length ∧ (ndU st.1 k.toNat).1 < (ndU l i).1):=by
 obtain ⟨a1,a2,a3,a4,a5,a6⟩:=hr i hi
 have key : 1 < (ndU l i).1 → ∀ k,k ∈ mapR st.2 (ndU l i) → 0 ≤ k ∧ k.toNat < st.1.length ∧ (ndU st.1 k.toNat).1 < (ndU l i).1:=fun h1 k hk=>by
  unfold mapR at hk
  rw [if_pos h1] at hk
  obtain ⟨q,hq,rfl⟩:=List.mem_map.1 hk
  obtain ⟨b1,b2,b3⟩:=a6 h1 q hq
  obtain ⟨m,y,c1,c2,c3⟩:=h.tv q.toNat b2
  rw [c1]
  simp only [Option.getD_some,Int.toNat_natCast]
  refine ⟨by omega,(List.getElem?_eq_some_iff.1 c2).1,?_⟩
  rw [ndU_get c2,c3]
  exact b3
 refine ⟨fun k hk=>?_,key⟩
 by_cases h1 : 1 < (ndU l i).1
 ·obtain ⟨b1,b2,_⟩:=key h1 k hk
  have:=h.le
  omega
 ·unfold mapR at hk
  rw [if_neg h1] at hk
  exact a5 k hk
theorem bIv_step {l : List Nd} {i : Nat} {st : List Nd × List Int} (hr : OkR l) (hi : i < l.length) (h : BIv l i st) (hl : l.length ≤ 10000000) : BIv l (i + 1) (stepR st (ndU l i)):=by
 obtain ⟨a1,a2,a3,a4,a5,a6⟩:=hr i hi
 obtain ⟨m1,m2⟩:=mapR_ok hr hi h hl
 refine ⟨by show (st.2 ++ _).length = _; simp [h.tl],fun j hj=>?_,okN_add h.ok ⟨a1,a2,fun e=>a3 ?_,by rw [mapR_len]; exact a4,m1,m2⟩,?_⟩
 ·by_cases c : j < i
  ·obtain ⟨m,y,c1,c2,c3⟩:=h.tv j c
   refine ⟨m,y,?_,addN_old c2,c3⟩
   show (st.2 ++ _)[j]? = _
   rw [List.getElem?_append_left (by rw [h.tl]; exact c)]
   exact c1
  ·have : j = i:=by omega
   subst this
   refine ⟨_,_,?_,addN_get _ _,rfl⟩
   show (st.2 ++ _)[j]? = _
   rw [List.getElem?_append_right (by rw [h.tl]; omega),h.tl]
   simp
 ·have:=mapR_len st.2 (ndU l i)
  have e : mapR st.2 (ndU l i) = []:=e
  rw [e] at this
  exact List.length_eq_zero_iff.1 this.symm
 ·have:=(addN_len st.1 ((ndU l i).1,mapR st.2 (ndU l i))).2
  have:=h.le
  show (addN st.1 _).1.length ≤ _
  omega
theorem bIv_fold {l : List Nd} (hr : OkR l) (hl : l.length ≤ 10000000) : ∀ i,i ≤ l.length → BIv l i (foldR l i)
 | 0,_=>⟨rfl,fun j hj=>by omega,fun i hi=>absurd hi (by simp [foldR]),Nat.le_refl _⟩
 | i + 1,h=>bIv_step hr (by omega) (bIv_fold hr hl i (by omega)) hl
def redN (l : List Nd) : List Nd:=(dfsP (foldR l l.length).1 1000 (((foldR l l.length).2[l.length - 1]?).getD 0).toNat (List.replicate (foldR l l.length).1.length 0,[])).1.2
end Go.Mx.Tryz
set_option linter.unusedSimpArgs false
set_option linter.unusedVariables false
set_option linter.unusedSectionVars false
namespace Go.Mx.Tryz
open Go.Lib

theorem su1 {α : Type} (H M : List α) (a b x : α) : setEl (H ++ a :: b :: M) (H.length + 1) x = some (H ++ a :: x :: M):=by
 rw [setEl_put _ _ _ (by simp),set_end]
 rfl
theorem mix_set : ∀ (M c : List Int) (s : Nat) (m : Int),M.length = c.length → M[s]? = some m → (M.take s ++ c.drop s).set s m = M.take (s + 1) ++ c.drop (s + 1)
 | [],_,_,_,_,h=>by simp at h
 | a :: M,[],_,_,h,_=>by simp at h
 | a :: M,b :: c,0,m,_,h=>by simp at h; subst h; simp
 | a :: M,b :: c,s + 1,m,hl,h=>by
  have:=mix_set M c s m (by simpa using hl) (by simpa using h)
  simp only [List.take_succ_cons,List.drop_succ_cons,List.cons_append,List.set_cons_succ,this]
theorem mix_get : ∀ (M c : List Int) (s : Nat),M.length = c.length → (M.take s ++ c.drop s)[s]? = c[s]?
 | [],[],_,_=>by simp
 | [],_ :: _,_,h=>by simp at h
 | a :: M,[],_,h=>by simp at h
 | a :: M,b :: c,0,_=>by simp
 | a :: M,b :: c,s + 1,hl=>by
  have:=mix_get M c s (by simpa using hl)
  simpa using this
theorem mix_len (M c : List Int) (s : Nat) (h : M.length = c.length) : (M.take s ++ c.drop s).length = c.length:=by
 rw [List.length_append,List.length_take,List.length_drop]
 omega
theorem red1_s (l : V) (o : V) (hl : noFaV l = true) (ho : noFaV o = true) (H : Hp) : Gives G 67 [l,o] H o H:=by
 refine .of_ret (ret_sh mono rfl rfl rfl (by simp [hl,ho]) rfl ?_)
 simp (maxSteps:=2000000) (disch:=omega) [gd_in,gd_and,wr_i64,setC_v ho,ho]
theorem clone_p {z : I} {c : List (Int × Int)} (hz : IsSl z (cells2 c)) (hne : c ≠ []) (hc : c.length ≤ 1000000) (H : Hp) : Gives G 106 [.m z] H (.sl H.length c.length 2 0 c.length false) (H ++ [.cs 46 2 (immS (cells2 c)) 0 false]):=by
 have hl2 : (cells2 c).length = c.length:=by simp [cells2]
 rcases hz with rfl | ⟨rfl,h0⟩
 ·have he : elems H (.m (.sl (cells2 c))) = some (immS (cells2 c)):=rfl
  have hnil : isNil 4 (.m (.sl (cells2 c))) = some false:=rfl
  refine .of_ret (ret_sh mono rfl rfl rfl rfl rfl ?_)
  have ha : ∀ B,loudX (fun _ _ _=>none) ⟨B,H⟩ (.app 46 2 16) [.ls [],.m (.sl (cells2 c))] = some (.sl H.length c.length 2 0 c.length false,⟨B,H ++ [.cs 46 2 (immS (cells2 c)) 0 false]⟩):=fun B=>by
   rw [loud_elems he]
   obtain ⟨x,t,rfl⟩:=List.exists_cons_of_ne_nil hne
   show newRow ⟨B,H⟩ 46 2 16 (immS (cells2 (x :: t))) = _
   have hok : ((immS (cells2 (x :: t))).all fun e=>Nat.beq e.length 2 && e.all oneV) = true:=by
    rw [List.all_eq_true]
    intro e he
    unfold immS cells2 at he
    rw [List.map_map] at he
    obtain ⟨q,_,rfl⟩:=List.mem_map.1 he
    rfl
   rw [newRow_eq,hok,immS_len,hl2]
   have : Nat.ble ((x :: t).length * 16) 140737488355328 = true:=by rw [ble_dec]; exact decide_eq_true (by omega)
   rw [this]
   rfl
  simp [hnil,-loud_app,ha]
 ·exact absurd (by simpa [cells2] using h0) hne
structure RebQ (H : Hp) (l : List Nd) (i : Nat) (eb : List (List I)) (ob tv : V) (Hi : Hp) : Prop where
 bld : BldQ (H.length + 1) H.length eb ob Hi
 lr : LR 3 (iI (foldR l i).2) tv Hi Any1
 eq : eb.map dNd = (foldR l i).1
 len : H.length + 2 ≤ Hi.length
 old : ∀ r,r < H.length → nth Hi r = nth H r
 ro : ∀ r,rowOf ob = some r → H.length ≤ r
 rt : ∀ r,rowOf tv = some r → H.length ≤ r
set_option maxHeartbeats 4000000 in
theorem rebuilt_s {es : List (List I)} {n : I} (hn : IsSl n es) (hv : NdsV es) (hr : OkR (es.map dNd)) (hl : es.length ≤ 1000000) (h1 : 1 ≤ es.length) {S : Int} {hd : I} {c : List (Int × Int)} (hh : IsSl hd (cells2 c)) (hcn : c ≠ []) (hcl : c.length ≤ 1000) {H : Hp} (Q : V → Hp → Prop)
  (hQ : ∀ rh eo oo H',nth H' rh = some (.cs 46 2 (immS (cells2 c)) 0 false) → L2 eo oo H' → NdsV eo → eo.map dNd = redN (es.map dNd) → H.length ≤ H'.length → (∀ r,r < H.length → nth H' r = nth H r) → H.length ≤ rh → (∀ r,rowOf oo = some r → H.length ≤ r) → Q (.ag [.m (.i .i64 S),.sl rh c.length 2 0 c.length false,oo]) H') :
  Ret G 66 [.m (.ag [.i .i64 S,hd,n]),.m (.fn 67 [])] H Q:=by
 have hlm : (es.map dNd).length = es.length:=List.length_map ..
 have rn:=hn.rules
 refine ret_sh mono rfl rfl rfl rfl rfl ?_
 have w1 : ∀ x y z w : V,writeR 2 [[x,y]] 0 0 [z,w] = some [[z,w]]:=fun _ _ _ _=>rfl
 have am : ∀ r,allM [V.mp r] = none:=fun _=>rfl
 have cva : ∀ l,cellsV (.ag l) = some l:=fun _=>rfl
 have omp : ∀ r,oneV (.mp r) = true:=fun _=>rfl
 have onl : oneV (.m (.nl 4)) = true:=rfl
 simp (maxSteps:=2000000) (disch:=omega) [gd_in,gd_and,wr_i64,rn,nth_mid,setEl_mid,nu1,su1,w1,am,cva,omp,onl]
 refine (?key : ∀ (i : Nat) (eb : List (List I)) (ob tv : V) (B : List (Nat × List V)) (Hi : Hp),i ≤ es.length → getB B 2 = some [.m (.i .i64 S),.m hd,.m n] → getB B 4 = some [.m (.i .i64 0),.m (.nl 4),.m (.nl 4)] → RebQ H (es.map dNd) i eb ob tv Hi →
  Run G c66_B1 (S66_1 (.m (.fn 67 [])) (.fa 2 0) (.fa 4 0) (.pt (H.length + 1) 1 0 0) tv (.m n) (.m (.i .i64 (es.length : Int))) (.m (.i .i64 (i : Int))) B Hi) _) 0 [] (.m (.nl 4)) (.m (.nl 4)) _ _ (Nat.zero_le _) rfl rfl ⟨⟨⟨1,Nat.le_refl _,nu1 ..⟩,nth_mid ..,.inl ⟨rfl,rfl⟩,fun e h=>by simp at h⟩,.inl ⟨rfl,rfl⟩,rfl,by simp,fun r hr=>nl_app _ _ _ hr,fun r h=>(by cases h),fun r h=>(by cases h)⟩
 refine indM (fun i : Nat=>es.length - i) fun i ih eb ob tv B Hi hi hB2 hB4 hq=>?_
 have hbf:=bIv_fold hr (by omega) i (by omega)
 obtain ⟨hbld,hlr,heq,hlen,hold,hro,hrt⟩:=id hq
 have htn:=hlr.nf
 unfold c66_B1
 by_cases hie : i < es.length
 ·have hie' : (i : Int) < es.length:=by omega
  obtain ⟨e,he⟩ : ∃ e,es[i]? = some e:=⟨es[i],List.getElem?_eq_getElem hie⟩
  obtain ⟨x,z,rfl,hz⟩:=hv e (List.mem_of_getElem? he)
  have hnd : ndU (es.map dNd) i = (x,dIn z):=by
   unfold ndU
   rw [List.getElem?_map,he]
   rfl
  obtain ⟨q1,q2,q3,q4,q5,q6⟩:=hr i (by omega)
  have hmo:=mapR_ok hr (by omega) hbf (by omega)
  have hfo : foldR (es.map dNd) (i + 1) = stepR (foldR (es.map dNd) i) (ndU (es.map dNd) i):=rfl
  rw [hnd] at q1 q2 q3 q4 q5 q6 hmo hfo
  simp only at q1 q2 q3 q4 q5 q6 hmo
  generalize hc : dIn z = cc at *
  have gc:=clone_u hz q3 (by omega) Hi
  have hne : nth es i = some [.i .i64 x,z]:=by rw [nth_get]; exact he
  have oz:=isSl_1 hz
  simp (maxSteps:=2000000) (disch:=omega) [gd_in,gd_and,wr_i64,hie',hie,rn,hne,cl gc,oz]
  have hMl : (mapR (foldR (es.map dNd) i).2 (x,cc)).length = cc.length:=mapR_len _ _
  generalize hM : mapR (foldR (es.map dNd) i).2 (x,cc) = M at hMl hmo
  refine (?key2 : ∀ (s : Nat) (B : List (Nat × List V)) (b : Nat),s ≤ cc.length → b ≤ cc.length → getB B 2 = some [.m (.i .i64 S),.m hd,.m n] → getB B 4 = some [.m (.i .i64 0),.m (.nl 4),.m (.nl 4)] → getB B 8 = some [.m (.i .i64 x),.m z] →
   Run G c66_B0 (S66_0 (.m (.fn 67 [])) (.fa 2 0) (.fa 4 0) (.pt (H.length + 1) 1 0 0) tv (.fa 8 0) (.sl Hi.length cc.length 1 0 cc.length false) (.m n) (.m (.i .i64 (es.length : Int))) (.m (.i .i64 (i : Int))) (.sl Hi.length cc.length 1 0 cc.length false) (.m (.i .i64 (cc.length : Int))) (.m (.i .i64 (s : Int))) B (Hi ++ [.cs 3 1 (onV (iI (M.take s ++ cc.drop s))) b false])) _) 0 _ 0 (Nat.zero_le _) (Nat.zero_le _) (by rw [getB_setB]; simpa using hB2) (by rw [getB_setB]; simpa using hB4) (by rw [getB_setB]; simp)
  refine indM (fun s : Nat=>cc.length - s) fun s ihs B b hs hb hB2 hB4 hB8=>?_
  unfold c66_B0
  have hdl:=mix_len M cc s hMl
  by_cases hsc : s < cc.length
  ·have hsc' : (s : Int) < cc.length:=by omega
   obtain ⟨kd,hkd⟩ : ∃ kd,cc[s]? = some kd:=⟨cc[s],List.getElem?_eq_getElem hsc⟩
   have hgd:=mix_get M cc s hMl
   rw [hkd] at hgd
   have hn2:=onV_nth (iI_get hgd)
   have wi : wr .i64 ((s : Int) + 1) = ((s + 1 : Nat) : Int):=wr_i64 (by omega) (by omega)
   obtain ⟨m,hm⟩ : ∃ m,M[s]? = some m:=⟨M[s]'(by omega),List.getElem?_eq_getElem (by omega)⟩
   have hset:=mix_set M cc s m hMl hm
   by_cases hx1 : 1 < x
   ·obtain ⟨s1,s2,s3⟩:=q6 hx1 kd (List.mem_of_getElem? hkd)
    obtain ⟨kn,rfl⟩:=Int.eq_ofNat_of_zero_le s1
    have s2 : kn < i:=s2
    obtain ⟨m',y,c1,c2,c3⟩:=hbf.tv kn s2
    have hmm : m = (m' : Int):=by
     have e : M[s]? = some (m' : Int):=by
      rw [← hM]
      unfold mapR
      rw [if_pos hx1,List.getElem?_map,hkd]
      show some (((foldR (es.map dNd) i).2[kn]?).getD 0) = _
      rw [c1]
      rfl
     rw [e] at hm
     exact (Option.some.inj hm).symm
    subst hmm
    have hrd:=(hlr.keepR (H':=Hi ++ [.cs 3 1 (onV (iI (M.take s ++ cc.drop s))) b false]) fun r _ hr=>nl_app _ _ _ hr).rd (iI_get c1)
    obtain ⟨p,p1,p2,p3⟩:=hrd
    have hst : setEl (onV (iI (M.take s ++ cc.drop s))) s [.m (.i .i64 (m' : Int))] = some (onV (iI (M.take (s + 1) ++ cc.drop (s + 1)))):=by rw [onV_set (by rw [iI_len,hdl]; exact hsc),iI_set,hset]
    have kk:=fun B=>ihs (s + 1) (by omega) B cc.length (by omega) (Nat.le_refl _)
    simp (maxSteps:=2000000) (disch:=omega) [gd_in,gd_and,wr_i64,hsc',hsc,nth_mid,setEl_mid,hn2,hb,hx1,hB8,p1,p2,p3,hst,hdl,wi]
    exact kk _ hB2 hB4 hB8
   ·have hmm : m = kd:=by
     rw [← hM] at hm
     unfold mapR at hm
     rw [if_neg hx1,hkd] at hm
     exact (Option.some.inj hm).symm
    subst hmm
    have hsame : M.take (s + 1) ++ cc.drop (s + 1) = M.take s ++ cc.drop s:=by
     rw [← hset]
     apply List.ext_getElem?
     intro j
     by_cases e : s = j
     ·subst e
      rw [List.getElem?_set_self (by rw [hdl]; exact hsc),hgd]
     ·rw [List.getElem?_set_ne e]
    have kk:=fun B=>ihs (s + 1) (by omega) B b (by omega) hb
    rw [hsame] at kk
    simp (maxSteps:=2000000) (disch:=omega) [gd_in,gd_and,wr_i64,hsc',hsc,nth_mid,hn2,hb,hx1,hB8,wi]
    exact kk _ hB2 hB4 hB8
  ·have : s = cc.length:=by omega
   subst this
   have hsc' : ¬ (cc.length : Int) < cc.length:=by omega
   have hdM : M.take cc.length ++ cc.drop cc.length = M:=by rw [List.drop_length,List.append_nil,List.take_of_length_le (by omega)]
   rw [hdM]
   generalize hHs : Hi ++ [.cs 3 1 (onV (iI M)) b false] = Hs
   have hrow : nth Hs Hi.length = some (.cs 3 1 (onV (iI M)) b false):=by rw [← hHs]; exact nl_end Hi _ 0
   have hold2 : ∀ r,r < Hi.length → nth Hs r = nth Hi r:=fun r hr=>by rw [← hHs]; exact nl_app _ _ _ hr
   have hlenS : Hs.length = Hi.length + 1:=by rw [← hHs]; simp
   have hIR : IR M (.sl Hi.length cc.length 1 0 cc.length false) Hs:=⟨Hi.length,b,false,by rw [hMl],hrow,by omega⟩
   have gr:=red1_s (.m (.i .i64 x)) (.sl Hi.length cc.length 1 0 cc.length false) rfl rfl Hs
   have hbS : BldQ (H.length + 1) H.length eb ob Hs:=hbld.keep hold2
   simp (maxSteps:=2000000) (disch:=omega) [gd_in,gd_and,wr_i64,hsc',hB8,cl gr,setC_v htn.1]
   rw [callC_some]
   have hel : eb.length ≤ es.length:=by
    have h1:=congrArg List.length heq
    have h2:=hbf.le
    rw [List.length_map] at h1
    omega
   refine node_s hbS hIR (by omega) hmo.1 (by omega) (by omega) _ fun eb2 ob2 H2 hb2 he2 hk2=>?_
   rw [heq] at he2 ⊢
   have hidl : (addN (foldR (es.map dNd) i).1 (x,M)).2 ≤ es.length:=by
    have h1:=addN_get (foldR (es.map dNd) i).1 (x,M)
    have h2:=(List.getElem?_eq_some_iff.1 h1).1
    have h3:=(addN_len (foldR (es.map dNd) i).1 (x,M)).2
    have h4:=hbf.le
    omega
   have htr : LR 3 (iI (foldR (es.map dNd) i).2) tv H2 Any1:=hlr.keepR fun r e hr=>by
    have q:=hlr.row e
    have hbb:=hbld.hb
    obtain ⟨_,_,hbb⟩:=hbb
    have hmm:=hbld.hm
    rw [hk2.2.1 r (by omega) (fun e1=>by subst e1; rw [hbb] at q; simp at q) (fun e1=>by subst e1; rw [hmm] at q; simp [mpR] at q) (fun e1=>by have q2:=hbld.hn.row e1; rw [q2] at q; simp at q) (fun e1=>by cases e1; omega)]
    exact hold2 r hr
   have htl : (iI (foldR (es.map dNd) i).2).length ≤ 10000000:=by rw [iI_len,hbf.tl]; omega
   obtain ⟨tv2,H3,ga,gn,gl,gk⟩:=htr.pushN (b:=8) (by omega) (ys:=iI [((addN (foldR (es.map dNd) i).1 (x,M)).2 : Int)]) (by simp only [iI_len,List.length_singleton]; rw [iI_len] at htl; omega) (noAg_iI _)
   have hys : onV (iI [((addN (foldR (es.map dNd) i).1 (x,M)).2 : Int)]) = [[V.m (.i .i64 ((addN (foldR (es.map dNd) i).1 (x,M)).2 : Int))]]:=rfl
   rw [hys] at ga
   rw [iI_app] at gl
   have hfo2 : foldR (es.map dNd) (i + 1) = ((addN (foldR (es.map dNd) i).1 (x,M)).1,(foldR (es.map dNd) i).2 ++ [((addN (foldR (es.map dNd) i).1 (x,M)).2 : Int)]):=by rw [hfo,← hM]; rfl
   have hl2:=hk2.1
   have hne3 : ∀ r,r < H2.length → (∀ w,nth H2 r = some w → ∀ es b fz,w ≠ .cs 3 1 es b fz) → nth H3 r = nth H2 r:=fun r hr hw=>gk.2.1 r hr fun e=>by
    have q:=htr.row e
    exact hw _ q _ _ _ rfl
   have hb3 : BldQ (H.length + 1) H.length eb2 ob2 H3:=by
    obtain ⟨⟨bb,hb0,hbb⟩,hmm,hnn,hok⟩:=id hb2
    exact ⟨⟨bb,hb0,(hne3 _ (nl_lt hbb) fun w hw _ _ _ h=>by rw [hbb] at hw; cases hw; simp at h).trans hbb⟩,(hne3 _ (nl_lt hmm) fun w hw _ _ _ h=>by rw [hmm] at hw; cases hw; simp [mpR] at h).trans hmm,hnn.keep fun r e hr=>hne3 r hr fun w hw _ _ _ h=>by
     have q:=hnn.row e
     rw [q] at hw; cases hw; simp at h,hok⟩
   have kk:=fun B=>ih (i + 1) (by omega) eb2 ob2 tv2 B H3 (by omega)
   have wi : wr .i64 ((i : Int) + 1) = ((i + 1 : Nat) : Int):=wr_i64 (by omega) (by omega)
   have kq : RebQ H (es.map dNd) (i + 1) eb2 ob2 tv2 H3:=⟨hb3,by rw [hfo2]; exact gl,by rw [hfo2]; exact he2,by have:=gk.1; omega,fun r hr=>by
     rw [gk.2.1 r (by omega) fun e=>by have:=hrt r e; omega]
     rw [hk2.2.1 r (by omega) (by omega) (by omega) (fun e=>by have:=hro r e; omega) (fun e=>by cases e; omega),hold2 r (by omega)]
     exact hold r hr,fun r hr=>by
     rcases hk2.2.2 r hr with h | h
     ·exact hro r h
     ·omega,fun r hr=>by
     rcases gk.2.2 r hr with h | h
     ·exact hrt r h
     ·omega⟩
   simp (maxSteps:=2000000) (disch:=omega) [gd_in,gd_and,wr_i64,ga,setC_v gn,wi]
   exact kk _ hB2 hB4 kq
 ·have : i = es.length:=by omega
  subst this
  have hie' : ¬ (es.length : Int) < es.length:=by omega
  obtain ⟨bb,hb0,hbb⟩:=hbld.hb
  obtain ⟨m,y,c1,c2,c3⟩:=hbf.tv (es.length - 1) (by omega)
  obtain ⟨p,p1,p2,p3⟩:=hlr.rd (iI_get c1)
  have hbl : eb.length = (foldR (es.map dNd) es.length).1.length:=by rw [← heq,List.length_map]
  have hml : m < eb.length:=by rw [hbl]; exact (List.getElem?_eq_some_iff.1 c2).1
  have hel : eb.length ≤ es.length:=by rw [hbl]; exact hbf.le
  have gp:=clone_p hh hcn (by omega) Hi
  have wl : wr .i64 (((foldR (es.map dNd) es.length).2.length : Int) - 1) = ((es.length - 1 : Nat) : Int):=by rw [hbf.tl,wr_i64 (by omega) (by omega)]; omega
  have hno:=hbld.hn.nf
  rw [iI_len] at htn
  simp (maxSteps:=2000000) (disch:=omega) [gd_in,gd_and,wr_i64,hie',hB2,hB4,hbb,hb0,rdR_0,htn.2.2.2,wl,p1,p2,p3,cl gp]
  rw [callC_some]
  have hL : L2 eb ob (Hi ++ [.cs 46 2 (immS (cells2 c)) 0 false]):=hbld.hn.keep fun r _ hr=>nl_app _ _ _ hr
  have hokN : OkN (eb.map dNd):=by rw [heq]; exact hbf.ok
  have hlev : (ndU (eb.map dNd) m).1 ≤ ((1000 : Nat) : Int):=(hokN m (by rw [List.length_map]; exact hml)).2.1
  refine ordered_s (n:=1000) hbld.ok hokN (by omega) hL hml hlev _ fun eo oo H2 h2l h2n h2e h2len h2k h2r=>?_
  have hred : eo.map dNd = redN (es.map dNd):=by
   rw [h2e]
   unfold redN
   rw [hlm,c1,heq,hbl]
   rfl
  have hon:=h2l.nf
  have kk:=hQ Hi.length eo oo H2 (by rw [h2k _ (by simp)]; exact nl_end Hi _ 0) h2l h2n hred (by simp at h2len; omega) (fun r hr=>by rw [h2k r (by simp; omega),nl_app _ _ _ (by omega)]; exact hold r hr) (by omega) fun r hr=>by have:=h2r r hr; simp at this; omega
  have ams : ∀ (a b c d e : Nat) (f : Bool) (l : List V),allM (.sl a b c d e f :: l) = none:=fun _ _ _ _ _ _ _=>rfl
  have amm : ∀ (x : I) (l : List V),allM (.m x :: l) = (allM l).bind fun r=>some (x :: r):=fun _ _=>rfl
  have osl : ∀ (a b c d e : Nat) (f : Bool),oneV (.sl a b c d e f) = true:=fun _ _ _ _ _ _=>rfl
  have oi : oneV (.m (.i .i64 S)) = true:=rfl
  simp (maxSteps:=2000000) (disch:=omega) [gd_in,gd_and,wr_i64,hon.2.1,hon.2.2.1,ams,amm,hB4,cva,osl,oi]
  exact kk
end Go.Mx.Tryz
set_option linter.unusedSimpArgs false
set_option linter.unusedVariables false
set_option linter.unusedSectionVars false
namespace Go.Mx.Tryz
open Go.Lib

theorem treeOk_get {t : TreeC} (h : treeOk t = true) : (2 ≤ t.states ∧ t.states ≤ 8) ∧ hoodOk t.hood = true ∧ (1 ≤ t.nodes.length ∧ t.nodes.length ≤ 4096) ∧ levAt t.nodes (t.nodes.length - 1) = t.hood.length ∧ ∀ (j : Nat) n,t.nodes[j]? = some n → nodeOk t j n = true:=by
 unfold treeOk at h
 simp only [Bool.and_eq_true,decide_eq_true_eq] at h
 exact ⟨h.1,h.2.1,h.2.2.1,h.2.2.2.1,fun j n hj=>by have:=nodesOk_at t t.nodes 0 h.2.2.2.2 j n hj; rwa [Nat.zero_add] at this⟩
theorem hoodOk_lenU {l : List (Int × Int)} (h : hoodOk l = true) : 1 ≤ l.length ∧ l.length ≤ 25:=by
 unfold hoodOk at h
 simp only [Bool.and_eq_true,decide_eq_true_eq] at h
 exact h.1
theorem levAt_ndU (l : List Nd) (k : Int) : levAt l k = (ndU l k.toNat).1:=by
 unfold levAt ndU
 cases l[k.toNat]? <;> rfl
theorem okR_of {t : TreeC} (h : treeOk t = true) : OkR t.nodes:=fun i hi=>by
 obtain ⟨⟨h1,h2⟩,h3,_,_,h5⟩:=treeOk_get h
 have hh:=hoodOk_lenU h3
 have hg : t.nodes[i]? = some (ndU t.nodes i):=by
  unfold ndU
  rw [List.getElem?_eq_getElem hi]
  rfl
 have hn:=h5 i _ hg
 unfold nodeOk at hn
 simp only [Bool.and_eq_true,decide_eq_true_eq,List.all_eq_true] at hn
 obtain ⟨⟨a1,a2,a3⟩,a4⟩:=hn
 have hel : ∀ k,k ∈ (ndU t.nodes i).2 → 0 ≤ k ∧ ¬ ((ndU t.nodes i).1 = 1 ∧ t.states ≤ k) ∧ ¬ (1 < (ndU t.nodes i).1 ∧ ((i : Int) ≤ k ∨ ¬ levAt t.nodes k = (ndU t.nodes i).1 - 1)):=fun k hk=>by
  have:=a4 k hk
  unfold elOk at this
  simp only [decide_eq_true_eq] at this
  exact ⟨by omega,this.2.1,this.2.2⟩
 refine ⟨a1,by omega,fun e=>by rw [e] at a3; simp at a3; omega,by omega,fun k hk=>?_,fun hl k hk=>?_⟩
 ·obtain ⟨b1,b2,b3⟩:=hel k hk
  refine ⟨by omega,?_⟩
  by_cases hl : (ndU t.nodes i).1 = 1
  ·have : ¬ t.states ≤ k:=fun e=>b2 ⟨hl,e⟩
   omega
  ·have : ¬ (i : Int) ≤ k:=fun e=>b3 ⟨by omega,.inl e⟩
   omega
 ·obtain ⟨b1,b2,b3⟩:=hel k hk
  have c1 : ¬ (i : Int) ≤ k:=fun e=>b3 ⟨hl,.inl e⟩
  have c2 : levAt t.nodes k = (ndU t.nodes i).1 - 1:=Classical.byContradiction fun e=>b3 ⟨hl,.inr e⟩
  rw [levAt_ndU] at c2
  exact ⟨b1,by omega,by omega⟩
theorem ndsV_of {es : List (List I)} (h : NodesV es) : NdsV es:=fun e he=>by
 obtain ⟨x,z,h1,h2,_⟩:=h e he
 exact ⟨x,z,h1,h2⟩
theorem optN (k : Nat) (H : Hp) : ∀ es : List (List I),optMap (fun e=>optMap (view (k + 1) H) e) (immS es) = some es
 | []=>rfl
 | e :: r=>by
  show Option.bind (optMap (view (k + 1) H) (e.map .m)) _ = _
  have h : ∀ x : List I,optMap (view (k + 1) H) (x.map .m) = some x:=fun x=>by
   induction x with
   | nil=>rfl
   | cons a t ih =>
    show Option.bind (view (k + 1) H (.m a)) _ = _
    have : view (k + 1) H (.m a) = some a:=rfl
    rw [this,Option.bind_some,ih]
    rfl
  rw [h,Option.bind_some]
  show Option.bind (optMap _ (immS r)) _ = _
  rw [optN k H r]
  rfl
theorem L2.view {es : List (List I)} {o : V} {H : Hp} (h : L2 es o H) (hne : es ≠ []) (k : Nat) : Mx.view (k + 2) H o = some (.sl es):=by
 have he:=h.elems
 rcases h with ⟨rfl,rfl⟩ | ⟨_,r,rfl,h3⟩
 ·exact absurd rfl hne
 ·show Option.bind (Mx.elems H (.sl r es.length 2 0 es.length false)) _ = _
  rw [he]
  show Option.bind (optMap (fun e=>optMap (Mx.view (k + 1) H) e) (immS es)) _ = _
  rw [optN]
  rfl
end Go.Mx.Tryz
