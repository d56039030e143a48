/- The two reductions give the same nodes: plain. -/
import Derived.Test.YtbpkmkgnkpeefaaGreatDoorUv
import Derived.Test.YtbpkmkgnkpeefaaGreatDoorVf
import Derived.Test.YtbpkmkgnkpeefaaGreatDoorUc
set_option linter.unusedSimpArgs false
set_option linter.unusedVariables false
set_option linter.unusedSectionVars false
set_option maxRecDepth 100000
namespace Go.Mx.Tryz
open Go.Lib

theorem LR.toIR {c : List Int} {o : V} {H : Hp} (h : LR 3 (iI c) o H Any1) (hne : c ≠ []) : IR c o H:=by
 rcases h with ⟨h1,_⟩ | ⟨_,r,_,h2,h3⟩
 ·exact absurd (by simpa [iI] using h1) hne
 ·rw [iI_len] at h2
  exact ⟨r,0,false,h2,h3,Nat.zero_le _⟩
structure OrR (rd N : Nat) (dn : List Int) (eo : List (List I)) (oo : V) (H : Hp) : Prop where
 hd : ∃ b,b ≤ N ∧ nth H rd = some (.cs 3 1 (onV (iI dn)) b false)
 ho : L2 eo oo H
 dl : dn.length = N
 oe : NdsV eo
def KpR (rd : Nat) (oo : V) (H : Hp) (oo' : V) (H' : Hp) : Prop:=H.length ≤ H'.length ∧ (∀ r,r < H.length → r ≠ rd → rowOf oo ≠ some r → nth H' r = nth H r) ∧ ∀ r,rowOf oo' = some r → rowOf oo = some r ∨ H.length ≤ r
theorem KpR.refl (rd : Nat) (H : Hp) (o : V) : KpR rd o H o H:=⟨Nat.le_refl _,fun _ _ _ _=>rfl,fun _ h=>.inl h⟩
theorem KpR.trans {rd : Nat} {H H1 H2 : Hp} {o o1 o2 : V} (h : KpR rd o H o1 H1) (k : KpR rd o1 H1 o2 H2) : KpR rd o H o2 H2:=by
 obtain ⟨a1,a2,a3⟩:=h
 obtain ⟨b1,b2,b3⟩:=k
 refine ⟨by omega,fun r hr n1 hne=>?_,fun r hr=>?_⟩
 ·rw [b2 r (by omega) n1 fun e=>?_,a2 r hr n1 hne]
  rcases a3 r e with h | h
  ·exact hne h
  ·omega
 ·rcases b3 r hr with h | h
  ·exact a3 r h
  ·exact .inr (by omega)
theorem OrR.keep {rd N : Nat} {dn : List Int} {eo : List (List I)} {oo : V} {H H' : Hp} (h : OrR rd N dn eo oo H) (hk : ∀ r,r < H.length → (r = rd ∨ rowOf oo = some r) → nth H' r = nth H r) : OrR rd N dn eo oo H':=by
 obtain ⟨⟨b,hb,hd⟩,ho,dl,oe⟩:=h
 exact ⟨⟨b,hb,by rw [hk _ (nl_lt hd) (.inl rfl)]; exact hd⟩,ho.keep fun r e hr=>hk r hr (.inr e),dl,oe⟩
set_option maxHeartbeats 2000000 in
theorem walkR_s {es : List (List I)} {n z : I} (hn : IsSl n es) (hv : NdsV es) {cl : List Int} (hz : IsSl z (celI cl)) (hk : OkC (es.map dNd) cl) (hel : es.length ≤ 10000000) {rd : Nat} : ∀ (m i : Nat) (dn : List Int) (eo : List (List I)) (oo : V) (H : Hp),OrR rd es.length dn eo oo H → InvR (es.map dNd) (dn,eo.map dNd) → i < es.length → (ndU (es.map dNd) i).1 ≤ (m : Int) →
  ∀ Q : V → Hp → Prop,(∀ dn' eo' oo' H',OrR rd es.length dn' eo' oo' H' → dfsR (es.map dNd) cl m i (dn,eo.map dNd) = (dn',eo'.map dNd) → KpR rd oo H oo' H' → Q oo' H') →
  Ret G 70 [.m n,.m z,.m (.i .i64 (i : Int)),.sl rd es.length 1 0 es.length false,oo] H Q
 | 0,i,dn,eo,oo,H,_,_,hlt,hm=>by
  have:=(hk i (by simpa using hlt)).1
  omega
 | m + 1,i,dn,eo,oo,H,hO,hI,hlt,hm=>fun Q hQ=>by
  have rn:=hn.rules
  have rz:=hz.rules
  obtain ⟨q1,q2,q3,q4,q5,q6⟩:=hk i (by simpa using hlt)
  have e0 : dfsR (es.map dNd) cl (m + 1) i (dn,eo.map dNd) = if 0 ≤ (dn[i]?).getD 0 then (dn,eo.map dNd)
   else finR (ndU (es.map dNd) i) i (if 1 < (ndU (es.map dNd) i).1 then kidsP (fun j s=>(dfsR (es.map dNd) cl m j s,((dfsR (es.map dNd) cl m j s).1[j]?).getD 0)) ((ndU (es.map dNd) i).2.map (clA cl)) (dn,eo.map dNd) [] else ((dn,eo.map dNd),(ndU (es.map dNd) i).2)):=rfl
  obtain ⟨v,hv0⟩ : ∃ v,dn[i]? = some v:=⟨dn[i]'(by rw [hO.dl]; exact hlt),List.getElem?_eq_getElem (by rw [hO.dl]; exact hlt)⟩
  rw [e0,hv0] at hQ
  simp only [Option.getD_some] at hQ
  obtain ⟨b1,hb1,h1⟩:=hO.hd
  have hlt' : (i : Int) < es.length:=by omega
  have hn1:=onV_nth (iI_get hv0)
  have hon:=hO.ho.nf
  refine ret_sh mono rfl rfl rfl (by simp [hon.1]) rfl ?_
  by_cases hp : 0 ≤ v
  ·rw [if_pos hp] at hQ
   have kk:=hQ dn eo oo H hO rfl (.refl ..)
   simp (maxSteps:=2000000) (disch:=omega) [gd_in,gd_and,wr_i64,hlt,hlt',h1,hb1,hn1,hp,setC_v hon.1,hon.1]
   exact kk
  ·rw [if_neg hp] at hQ
   obtain ⟨e,he⟩ : ∃ e,es[i]? = some e:=⟨es[i],List.getElem?_eq_getElem hlt⟩
   obtain ⟨x,zx,rfl,hzx⟩:=hv e (List.mem_of_getElem? he)
   have hnd : ndU (es.map dNd) i = (x,dIn zx):=by
    unfold ndU
    rw [List.getElem?_map,he]
    rfl
   rw [hnd] at hQ q1 q2 q3 q4 q5 q6 hm e0
   simp only at hQ q1 q2 q3 q4 q5 q6 hm
   generalize hc : dIn zx = c at *
   have hne : nth es i = some [.i .i64 x,zx]:=by rw [nth_get]; exact he
   have rzx:=hzx.rules
   have ox:=isSl_1 hzx
   generalize hf : (fun (j : Nat) (s : WSt)=>(dfsR (es.map dNd) cl m j s,((dfsR (es.map dNd) cl m j s).1[j]?).getD 0)) = f at hQ
   generalize hRES : (if 1 < x then kidsP f (c.map (clA cl)) (dn,eo.map dNd) [] else ((dn,eo.map dNd),c)) = RES at hQ
   have onl : oneV (.m (.nl 4)) = true:=rfl
   simp (maxSteps:=2000000) (disch:=omega) [gd_in,gd_and,wr_i64,hlt,hlt',h1,hb1,hn1,hp,rn,hne,allM,onl]
   refine (?key : ∀ (s : Nat) (acc : List Int) (dn1 : List Int) (eo1 : List (List I)) (oo1 nx : V) (B : List (Nat × List V)) (Hi : Hp),s ≤ c.length → acc.length = s → getB B 11 = some [.m (.i .i64 x),nx] → LR 3 (iI acc) nx Hi Any1 → (∀ r,rowOf nx = some r → H.length ≤ r) → OrR rd es.length dn1 eo1 oo1 Hi → InvR (es.map dNd) (dn1,eo1.map dNd) →
    KpR rd oo H oo1 Hi → (if 1 < x then kidsP f ((c.drop s).map (clA cl)) (dn1,eo1.map dNd) acc else ((dn1,eo1.map dNd),acc ++ c.drop s)) = RES →
    Run G c70_B0 (S70_0 (.m n) (.m z) (.m (.i .i64 (i : Int))) (.sl rd es.length 1 0 es.length false) oo1 (.fa 11 0) (.m (.i .i64 (s : Int))) B Hi) _) 0 [] dn eo oo (.m (.nl 4)) _ _ (Nat.zero_le _) rfl rfl (.inl ⟨rfl,rfl⟩) (fun r h=>by cases h) hO hI (.refl ..) (by simpa using hRES)
   refine indM (fun s : Nat=>c.length - s) fun s ih acc dn1 eo1 oo1 nx B Hi hs hac hB hl hnr hO1 hI1 hK hR=>?_
   unfold c70_B0
   have hrd:=nl_lt h1
   have hnx:=hl.nf
   have hon1:=hO1.ho.nf
   have hKl:=hK.1
   obtain ⟨bd,hbd,hd⟩:=hO1.hd
   have hsep : ∀ (dn2 : List Int) (eo2 : List (List I)) (oo2 nx1 nx2 : V) (H2 H3 : Hp),OrR rd es.length dn2 eo2 oo2 H2 → LR 3 (iI acc) nx1 H2 Any1 → (∀ r,rowOf nx1 = some r → H.length ≤ r) → Kp H2 nx1 H3 nx2 → OrR rd es.length dn2 eo2 oo2 H3:=fun dn2 eo2 oo2 nx1 nx2 H2 H3 a1 a2 a3 a4=>a1.keep fun r hr h=>a4.2.1 r hr fun e=>by
    rcases h with h | h
    ·subst h
     have:=a3 _ e
     omega
    ·have q1:=a2.row e
     have q2:=a1.ho.row h
     rw [q1] at q2
     simp at q2
   have hpush : ∀ (v : Int) (dn2 : List Int) (eo2 : List (List I)) (oo2 : V) (H2 : Hp),H.length ≤ H2.length → LR 3 (iI acc) nx H2 Any1 → OrR rd es.length dn2 eo2 oo2 H2 → ∃ nx2 H3,(∀ B,appX ⟨B,H2⟩ 3 1 8 nx [[.m (.i .i64 v)]] = some (nx2,⟨B,H3⟩)) ∧ noFaV nx2 = true ∧ LR 3 (iI (acc ++ [v])) nx2 H3 Any1 ∧ (∀ r,rowOf nx2 = some r → H.length ≤ r) ∧ OrR rd es.length dn2 eo2 oo2 H3 ∧ Kp H2 nx H3 nx2:=fun v dn2 eo2 oo2 H2 hh a1 a2=>by
    obtain ⟨nx2,H3,ga,gn,gl,gk⟩:=a1.pushN (b:=8) (by omega) (ys:=iI [v]) (by simp only [iI_len,List.length_singleton]; omega) (noAg_iI _)
    rw [iI_app] at gl
    exact ⟨nx2,H3,ga,gn,gl,fun r hr=>by
     rcases gk.2.2 r hr with h | h
     ·exact hnr r h
     ·omega,hsep _ _ _ _ nx2 _ _ a2 a1 hnr gk,gk⟩
   by_cases hsc : s < c.length
   ·have hsc' : (s : Int) < c.length:=by omega
    obtain ⟨kd,hkd⟩ : ∃ kd,c[s]? = some kd:=⟨c[s],List.getElem?_eq_getElem hsc⟩
    have hkn : nth (celI c) s = some [.i .i64 kd]:=by rw [nth_get]; simp [celI,hkd]
    have hcd : c.drop s = kd :: c.drop (s + 1):=by
     rw [List.drop_eq_getElem_cons hsc]
     have:=(List.getElem?_eq_some_iff.1 hkd).2
     rw [this]
    have ws : wr .i64 ((s : Int) + 1) = ((s + 1 : Nat) : Int):=wr_i64 (by omega) (by omega)
    by_cases hx1 : 1 < x
    ·obtain ⟨s1,s2,s3,s4,s5⟩:=q6 hx1 kd (List.mem_of_getElem? hkd)
     obtain ⟨kn,rfl⟩:=Int.eq_ofNat_of_zero_le s1
     have s2 : kn < cl.length:=s2
     obtain ⟨cv,hcv⟩ : ∃ cv,cl[kn]? = some cv:=⟨cl[kn],List.getElem?_eq_getElem s2⟩
     have hca : clA cl (kn : Int) = cv:=by
      show (cl[kn]?).getD 0 = cv
      rw [hcv]
      rfl
     rw [hca] at s3 s4 s5
     obtain ⟨cn,rfl⟩:=Int.eq_ofNat_of_zero_le s3
     have s4 : cn < (es.map dNd).length:=s4
     rw [List.length_map] at s4
     have hcn : nth (celI cl) kn = some [.i .i64 (cn : Int)]:=by rw [nth_get]; simp [celI,hcv]
     have hkl : (kn : Int) < cl.length:=by omega
     rw [if_pos hx1,hcd,List.map_cons,hca] at hR
     have hR : kidsP f ((c.drop (s + 1)).map (clA cl)) (f cn (dn1,eo1.map dNd)).1 (acc ++ [(f cn (dn1,eo1.map dNd)).2]) = RES:=hR
     have hgr:=dfsR_gr hk m cn (dn1,eo1.map dNd) hI1 (by simpa using s4) (by simp only [Int.toNat_natCast] at s5; omega)
     simp (maxSteps:=2000000) (disch:=omega) [gd_in,gd_and,wr_i64,hlt,hlt',rn,hne,rzx,hsc,hsc',hkn,hB,hx1,rz,s2,hkl,hcn,celI_len,setC_v hon1.1]
     rw [callC_some]
     refine walkR_s hn hv hz hk hel m cn dn1 eo1 oo1 Hi hO1 hI1 s4 (by simp only [Int.toNat_natCast] at s5; omega) _ fun dn2 eo2 oo2 H2 hO2 hr2 hK2=>?_
     have hfe : f cn (dn1,eo1.map dNd) = ((dn2,eo2.map dNd),(dn2[cn]?).getD 0):=by rw [← hf]; simp only [hr2]
     rw [hfe] at hR
     rw [hr2] at hgr
     obtain ⟨dv,hdv⟩ : ∃ dv,dn2[cn]? = some dv:=⟨dn2[cn]'(by rw [hO2.dl]; exact s4),List.getElem?_eq_getElem (by rw [hO2.dl]; exact s4)⟩
     rw [hdv] at hR
     simp only [Option.getD_some] at hR
     have hnd2:=onV_nth (iI_get hdv)
     obtain ⟨be,hbe,hd2⟩:=hO2.hd
     have hon2:=hO2.ho.nf
     have hl2 : LR 3 (iI acc) nx H2 Any1:=hl.keepR fun r e hr=>hK2.2.1 r hr (fun e2=>by have:=hnr r e; omega) fun e2=>by
      have q1:=hl.row e
      have q2:=hO1.ho.row e2
      rw [q1] at q2
      simp at q2
     have hK2l:=hK2.1
     obtain ⟨nx2,H3,ga,gn,gl,gr,gO,gk⟩:=hpush dv dn2 eo2 oo2 H2 (by omega) hl2 hO2
     have hcl : (cn : Int) < es.length:=by omega
     have hK3 : KpR rd oo H oo2 H3:=by
      obtain ⟨k1,k2,k3⟩:=hK.trans hK2
      exact ⟨by have:=gk.1; omega,fun r hr n1 n2=>by rw [gk.2.1 r (by omega) fun e=>by have:=hnr r e; omega]; exact k2 r hr n1 n2,k3⟩
     have kk:=fun B h=>ih (s + 1) (by omega) (acc ++ [dv]) dn2 eo2 oo2 nx2 B H3 (by omega) (by simp [hac]) h gl gr gO hgr.1.1 hK3 (by rw [if_pos hx1]; exact hR)
     have gnl:=gl.nf
     simp (maxSteps:=2000000) (disch:=omega) [gd_in,gd_and,wr_i64,setC_v hon2.1,s4,hcl,hd2,hbe,hnd2,hB,ga,gnl.2.1,gnl.2.2.1,ws]
     exact kk _ (by rw [getB_setB]; simp)
    ·rw [if_neg hx1,hcd] at hR
     obtain ⟨nx2,H3,ga,gn,gl,gr,gO,gk⟩:=hpush kd dn1 eo1 oo1 Hi hKl hl hO1
     have hK3 : KpR rd oo H oo1 H3:=by
      obtain ⟨k1,k2,k3⟩:=hK
      exact ⟨by have:=gk.1; omega,fun r hr n1 n2=>by rw [gk.2.1 r (by omega) fun e=>by have:=hnr r e; omega]; exact k2 r hr n1 n2,k3⟩
     have kk:=fun B h=>ih (s + 1) (by omega) (acc ++ [kd]) dn1 eo1 oo1 nx2 B H3 (by omega) (by simp [hac]) h gl gr gO hI1 hK3 (by rw [if_neg hx1]; simpa using hR)
     have gnl:=gl.nf
     simp (maxSteps:=2000000) (disch:=omega) [gd_in,gd_and,wr_i64,hlt,hlt',rn,hne,rzx,hsc,hsc',hkn,hB,hx1,celI_len,ga,gnl.2.1,gnl.2.2.1,ws]
     exact kk _ (by rw [getB_setB]; simp)
   ·have : s = c.length:=by omega
    subst this
    have hic' : ¬ (c.length : Int) < c.length:=by omega
    have hRE : RES = ((dn1,eo1.map dNd),acc):=by
     rw [← hR,List.drop_length]
     by_cases hx1 : 1 < x
     ·rw [if_pos hx1]; rfl
     ·rw [if_neg hx1,List.append_nil]
    rw [hRE] at hQ
    have hne0 : acc ≠ []:=fun e=>q3 (by subst e; exact List.eq_nil_of_length_eq_zero hac.symm)
    have hle : 1 ≤ dn1.length:=by rw [hO1.dl]; omega
    have u1 : rowOf oo1 ≠ some rd:=fun e1=>by
     have q:=hO1.ho.row e1
     rw [hd] at q
     simp at q
    generalize hH4 : Hi.set rd (.cs 3 1 (onV (iI (dn1.set i ((eo1.length : Nat) : Int)))) es.length false) = H4
    have t4 : ∀ r,r ≠ rd → nth H4 r = nth Hi r:=fun r hr=>by rw [← hH4,nl_set_ne (Ne.symm hr)]
    have t4d : nth H4 rd = some (.cs 3 1 (onV (iI (dn1.set i ((eo1.length : Nat) : Int)))) es.length false):=by rw [← hH4]; exact nl_set_eq (nl_lt hd)
    have t4l : H4.length = Hi.length:=by rw [← hH4]; simp
    have s4 : setEl Hi rd (.cs 3 1 (onV (iI (dn1.set i ((eo1.length : Nat) : Int)))) es.length false) = some H4:=by rw [setEl_put _ _ _ (nl_lt hd),hH4]
    have hl4 : LR 3 (iI acc) nx H4 Any1:=hl.keepR fun r e hr=>t4 r fun e2=>by have:=hnr r e; omega
    have ho4 : L2 eo1 oo1 H4:=hO1.ho.keep fun r e hr=>t4 r fun e2=>by subst e2; exact u1 e
    have hal : allM [nx] = none:=by
     obtain ⟨_,_,_,e,_⟩:=hl4.toIR hne0
     rw [e]
     rfl
    obtain ⟨z2,H5,f1,f2,f3,f4,f5⟩:=(hl4.toIR hne0).bsf x
    have t5d : nth H5 rd = some (.cs 3 1 (onV (iI (dn1.set i ((eo1.length : Nat) : Int)))) es.length false):=(f5 _ fun e=>by have:=hnr _ e; omega).trans t4d
    have ho5 : L2 eo1 oo1 H5:=ho4.keep fun r e hr=>f5 r fun e2=>by
     have q1:=hl4.row e2
     have q2:=ho4.row e
     rw [q1] at q2
     simp at q2
    have hout:=hI1.out_le
    simp only [List.length_map] at hout
    obtain ⟨o3,H6,g1,g2,g3,g4⟩:=ho5.push (l:=x) f3 (by omega)
    have t6d:=(g4.2.1 _ (nl_lt t5d) u1).trans t5d
    have kk:=hQ (dn1.set i ((eo1.length : Nat) : Int)) (eo1 ++ [[.i .i64 x,z2]]) o3 H6 ⟨⟨es.length,Nat.le_refl _,t6d⟩,g3,by rw [List.length_set]; exact hO1.dl,fun e he=>by
      rcases List.mem_append.1 he with h | h
      ·exact hO1.oe e h
      ·rw [List.mem_singleton] at h
       subst h
       refine ⟨x,z2,rfl,?_⟩
       have:=(Prod.mk.inj (dNd_i (x:=x) f2)).2
       rw [this]
       exact f2⟩ (by unfold finR; simp [dNd_i f2]) ⟨by have:=g4.1; omega,fun r hr n1 n4=>by
      have hr1 : rowOf oo1 ≠ some r:=fun e=>by
       rcases hK.2.2 r e with h | h
       ·exact n4 h
       ·omega
      have hrx : rowOf nx ≠ some r:=fun e=>by
       have:=hnr r e
       omega
      rw [g4.2.1 r (by omega) hr1,f5 r hrx,t4 r n1]
      exact hK.2.1 r hr n1 n4,fun r hr=>by
      rcases g4.2.2 r hr with h | h
      ·exact hK.2.2 r h
      ·exact .inr (by omega)⟩
    have hkl : i < (iI dn1).length:=by rw [iI_len,hO1.dl]; exact hlt
    obtain ⟨v1,hv1⟩ : ∃ v1,dn1[i]? = some v1:=⟨dn1[i]'(by rw [hO1.dl]; exact hlt),List.getElem?_eq_getElem (by rw [hO1.dl]; exact hlt)⟩
    have hn3:=onV_nth (iI_get hv1)
    have hs1 : setEl (onV (iI dn1)) i [.m (.i .i64 ((eo1.length : Nat) : Int))] = some (onV (iI (dn1.set i ((eo1.length : Nat) : Int)))):=by rw [onV_set hkl,iI_set]
    have g3n:=g3.nf
    have hon4:=ho4.nf
    have hnx4:=hl4.nf
    clear ih hQ hsep hpush
    simp (maxSteps:=2000000) (disch:=omega) [gd_in,gd_and,wr_i64,hic',hO1.dl,rn,hne,rzx,hB,celI_len,hlt,hlt',setC_v hon1.1,hon1.2,hd,hbd,hn3,hs1,s4,hal,f1,g1,g2,setC_v g2]
    exact kk
end Go.Mx.Tryz
set_option linter.unusedSimpArgs false
set_option linter.unusedVariables false
set_option linter.unusedSectionVars false
namespace Go.Mx.Tryz
open Go.Lib Go.Proofs

def nxtC (cl : List Int) (x : Nd) : List Int:=if 1 < x.1 then x.2.map (fun k=>(cl[k.toNat]?).getD 0) else x.2
def fstC (l : List Nd) (nx : List (List Int)) (a : Int) (c : List Int) (i k : Nat) : Nat:=((List.range' k (i - k)).find? fun j=>decide (((l[j]?).getD (0,[])).1 = a ∧ (nx[j]?).getD [] = c)).getD i
def clsS (l : List Nd) : Nat → List Int × List (List Int)
 | 0=>([],[])
 | i + 1=>((clsS l i).1 ++ [(fstC l (clsS l i).2 ((l[i]?).getD (0,[])).1 (nxtC (clsS l i).1 ((l[i]?).getD (0,[]))) i 0 : Int)],(clsS l i).2 ++ [nxtC (clsS l i).1 ((l[i]?).getD (0,[]))])
theorem clsS_len (l : List Nd) : ∀ i,(clsS l i).1.length = i ∧ (clsS l i).2.length = i
 | 0=>⟨rfl,rfl⟩
 | i + 1=>by
  obtain ⟨h1,h2⟩:=clsS_len l i
  simp [clsS,h1,h2]
theorem fstC_end (l : List Nd) (nx : List (List Int)) (a : Int) (c : List Int) (i : Nat) : fstC l nx a c i i = i:=by simp [fstC]
theorem fstC_step (l : List Nd) (nx : List (List Int)) (a : Int) (c : List Int) {i k : Nat} (h : k < i) : fstC l nx a c i k = if ((l[k]?).getD (0,[])).1 = a ∧ (nx[k]?).getD [] = c then k else fstC l nx a c i (k + 1):=by
 unfold fstC
 obtain ⟨m,hm⟩ : ∃ m,i - k = m + 1:=⟨i - k - 1,by omega⟩
 rw [hm,List.range'_succ,List.find?_cons,show i - (k + 1) = m from by omega]
 by_cases e : ((l[k]?).getD (0,[])).1 = a ∧ (nx[k]?).getD [] = c
 ·rw [if_pos e,decide_eq_true e]
  rfl
 ·rw [if_neg e,decide_eq_false e]

theorem LR.call2 {ty : Nat} {xs : List I} {o : V} {H : Hp} {ok : Nat → Prop} (h : LR ty xs o H ok) {F : Nat} {w : I} {v : V} {H0 : Hp} (hp : G.prim F = none) (hs : G.sh F = false) (hg : Gives G F [.m w,.m (zL xs)] H0 v H0) (hf : flatV v = true) : Gives G F [.m w,o] H v H:=by
 have hv : optMap (Mx.view 20 H) [.m w,o] = some [w,zL xs]:=by
  show (Mx.view 20 H (.m w)).bind _ = _
  rw [show Mx.view 20 H (.m w) = some w from rfl,Option.bind_some]
  show ((Mx.view 20 H o).bind _).bind _ = _
  rw [h.view 18]
  rfl
 refine gives_view (is:=[w,zL xs]) hp hs hg hv ?_
 rcases h with ⟨rfl,rfl⟩ | ⟨hne,r,hr,rfl,h3⟩
 ·exact .inl ⟨by simp [refs,ref1],by simp [shallow,shallow1]⟩
 ·exact .inr ⟨by simp [refs,ref1],hf⟩
theorem LR.keepO {ty : Nat} {xs : List I} {o : V} {H H' : Hp} {ok : Nat → Prop} (h : LR ty xs o H ok) (hk : ∀ r,rowOf o = some r → r < H.length → nth H' r = nth H r) : LR ty xs o H' ok:=by
 rcases h with h | ⟨hne,r,hr,e,h3⟩
 ·exact .inl h
 ·subst e
  exact .inr ⟨hne,r,hr,rfl,by rw [hk r rfl (nl_lt h3)]; exact h3⟩
theorem LR.okr {ty : Nat} {xs : List I} {o : V} {H : Hp} {ok : Nat → Prop} (h : LR ty xs o H ok) {r : Nat} (e : rowOf o = some r) : ok r:=by
 rcases h with ⟨_,rfl⟩ | ⟨hne,q,hr,rfl,h3⟩
 ·cases e
 ·cases e
  exact hr
theorem LR.bsf1 {ty : Nat} {xs : List I} {o : V} {H : Hp} {ok : Nat → Prop} (h : LR ty xs o H ok) : ∃ z H2,(∀ B,loudX (fun _ _ _=>none) ⟨B,H⟩ (.bsf 1 [.m (.nl 4)] 1 [0]) [o] = some (.ls [[z]],⟨B,H2⟩)) ∧ IsSl z (on1 xs) ∧ oneV (.m z) = true ∧ H2.length = H.length ∧ ∀ r,rowOf o ≠ some r → nth H2 r = nth H r:=by
 have hv:=h.view 18
 rcases h with ⟨rfl,rfl⟩ | ⟨hne,r,hr,rfl,h3⟩
 ·exact ⟨.nl 4,H,fun B=>rfl,.inr ⟨rfl,rfl⟩,rfl,rfl,fun _ _=>rfl⟩
 ·refine ⟨zL xs,H.set r (.cs ty 1 (onV xs) 0 true),fun B=>?_,zL_sl xs,zL_one xs,by simp,fun q hq=>nl_set_ne fun e=>hq (by rw [← e]; rfl)⟩
  have e : loudX (fun _ _ _=>none) ⟨B,H⟩ (.bsf 1 [.m (.nl 4)] 1 [0]) [.sl r xs.length 1 0 xs.length false] = ((optMap (fun e=>optMap (Mx.view 20 H) e) [[V.sl r xs.length 1 0 xs.length false]]).bind fun l=>(freeze [r] H).bind fun H'=>some (.ls l,⟨B,H'⟩)):=rfl
  rw [e,freezeV h3]
  simp only [optMap,hv,Option.bind_some]
theorem nxtC_len (cl : List Int) (x : Nd) : (nxtC cl x).length = x.2.length:=by unfold nxtC; split <;> simp
theorem clsS_get {l : List Nd} : ∀ (i j : Nat) (c : List Int),(clsS l i).2[j]? = some c → ∃ cl,c = nxtC cl ((l[j]?).getD (0,[]))
 | 0,j,c,h=>by simp [clsS] at h
 | i + 1,j,c,h=>by
  obtain ⟨_,h2⟩:=clsS_len l i
  by_cases e : j < i
  ·refine clsS_get i j c ?_
   simp only [clsS] at h
   rwa [List.getElem?_append_left (by omega)] at h
  ·simp only [clsS] at h
   rw [List.getElem?_append_right (by omega),h2] at h
   cases hk : j - i with
   | zero =>
    rw [hk] at h
    have : j = i:=by omega
    subst this
    simp at h
    exact ⟨_,h.symm⟩
   | succ k =>
    rw [hk] at h
    simp at h
def WsOk (ws : List I) (nx : List (List Int)) : Prop:=ws.length = nx.length ∧ ∀ (j : Nat) (c : List Int),nx[j]? = some c → ∃ w,ws[j]? = some w ∧ IsSl w (celI c)
theorem WsOk.snoc {ws : List I} {nx : List (List Int)} {c : List Int} {w : I} (h : WsOk ws nx) (hw : IsSl w (celI c)) : WsOk (ws ++ [w]) (nx ++ [c]):=by
 refine ⟨by simp [h.1],fun j d hj=>?_⟩
 by_cases e : j < nx.length
 ·rw [List.getElem?_append_left e] at hj
  rw [List.getElem?_append_left (by rw [h.1]; exact e)]
  exact h.2 j d hj
 ·rw [List.getElem?_append_right (by omega)] at hj
  rw [List.getElem?_append_right (by rw [h.1]; omega),h.1]
  cases hk : j - nx.length with
  | zero =>
   rw [hk] at hj
   simp at hj
   subst hj
   exact ⟨w,by simp,hw⟩
  | succ k =>
   rw [hk] at hj
   simp at hj

set_option maxHeartbeats 8000000 in
theorem cls_r {t : TreeC} {h n : I} {es : List (List I)} (hT : TreeV t h n es) (hle : es.length ≤ 4096) (h20 : ∀ x,x ∈ t.nodes → x.2.length ≤ 100) (hv : ∀ (i : Nat) (x : Nd),t.nodes[i]? = some x → 1 < x.1 → ∀ k,k ∈ x.2 → 0 ≤ k ∧ k < (i : Int)) (HH : Hp) : Gives G 69 [.m n] HH (.m (zI (clsS t.nodes es.length).1)) HH:=by
 have rn:=hT.nd.rules
 have hln:=treeV_len hT
 refine gives_pur rfl rfl rfl rfl rfl ?_
 simp (maxSteps:=2000000) (disch:=omega) [gd_in,gd_and,wr_i64,rn]
 refine (?key2 : ∀ (i : Nat) (o3 o4 : V) (ws : List I) (B : List (Nat × List V)) (H : Hp),i ≤ es.length → LR 3 (iI (clsS t.nodes i).1) o3 H Any1 → LR 50 ws o4 H Any1 → WsOk ws (clsS t.nodes i).2 →
  Run G c69_B2 (S69_2 (.m n) o3 o4 (.m (.i .i64 (i : Int))) B H) _) 0 _ _ [] _ _ (Nat.zero_le _) (.inl ⟨rfl,rfl⟩) (.inl ⟨rfl,rfl⟩) ⟨rfl,fun j c h=>by simp [clsS] at h⟩
 refine indM (fun i : Nat=>es.length - i) fun i ih o3 o4 ws B H hi h3 h4 hw=>?_
 unfold c69_B2
 obtain ⟨a1,a2,a3,a4⟩:=h3.nf
 obtain ⟨b1,b2,b3,b4⟩:=h4.nf
 obtain ⟨l1,l2⟩:=clsS_len t.nodes i
 cases hx : t.nodes[i]? with
 | none =>
  have : i = es.length:=by have:=List.getElem?_eq_none_iff.1 hx; omega
  subst this
  have v1:=h3.viewR
  rcases h3 with ⟨e,rfl⟩ | ⟨hne,r,hr9,rfl,h5⟩
  ·have e' : (clsS t.nodes es.length).1 = []:=by simpa [iI] using e
   simp (maxSteps:=2000000) (disch:=omega) [gd_in,gd_and,wr_i64,rn,setC_v b1,e']
   rfl
  ·simp only [iI_len] at v1
   simp (maxSteps:=2000000) (disch:=omega) [gd_in,gd_and,wr_i64,rn,setC_v b1,v1]
   rfl
 | some x =>
  have hlt : i < es.length:=by rw [← hln]; exact (List.getElem?_eq_some_iff.1 hx).1
  have hlt' : (i : Int) < es.length:=by omega
  obtain ⟨zx,x1,x2,x3,_⟩:=treeV_at hT hx
  have rx:=x2.rules
  simp only [celI_len] at rx
  have wi : wr .i64 ((i : Int) + 1) = ((i + 1 : Nat) : Int):=wr_i64 (by omega) (by omega)
  simp (maxSteps:=2000000) (disch:=omega) [gd_in,gd_and,wr_i64,rn,hlt,hlt',setC_v a1,setC_v b1]
  have h3' : LR 3 (iI (clsS t.nodes i).1) o3 H (· < H.length):=h3.keep (fun _ _=>rfl) (fun r _ h=>h)
  have h4' : LR 50 ws o4 H (· < H.length):=h4.keep (fun _ _=>rfl) (fun r _ h=>h)
  generalize hn0 : H.length = n0 at h3' h4'
  have hx20:=h20 x (List.mem_of_getElem? hx)
  generalize hcl : (clsS t.nodes i).1 = ks at *
  generalize hnx : (clsS t.nodes i).2 = nx at *
  have hnl : (nxtC ks x).length = x.2.length:=by unfold nxtC; split <;> simp
  have ih:=fun o3 o4 ws B H=>ih (i + 1) (by omega) o3 o4 ws B H (by omega)
  have hxi : (t.nodes[i]?).getD (0,[]) = x:=by rw [hx]; rfl
  simp only [clsS,hcl,hnx,hxi] at ih
  refine (?key0 : ∀ (s : Nat) (o6 : V) (B : List (Nat × List V)) (H : Hp),s ≤ x.2.length → n0 ≤ H.length → LR 3 (iI ks) o3 H (· < n0) → LR 50 ws o4 H (· < n0) → LR 3 (iI ((nxtC ks x).take s)) o6 H (n0 ≤ ·) →
   Run G c69_B0 (S69_0 (.m n) o3 o4 (.m (.i .i64 (i : Int))) o6 (.m (.i .i64 (s : Int))) B H) _) 0 _ _ _ (Nat.zero_le _) (by omega) h3' h4' (.inl ⟨rfl,rfl⟩)
  clear h3 h4 h3' h4' hn0 H B
  refine indM (fun s : Nat=>x.2.length - s) fun s ihs o6 B H hs hn h3 h4 h6=>?_
  unfold c69_B0
  obtain ⟨c1,c2,c3,c4⟩:=h6.nf
  cases hk : x.2[s]? with
  | some k =>
   have hlts:=(List.getElem?_eq_some_iff.1 hk).1
   have hlts' : (s : Int) < x.2.length:=by omega
   have m1:=celI_nth hk
   have ws1 : wr .i64 ((s : Int) + 1) = ((s + 1 : Nat) : Int):=wr_i64 (by omega) (by omega)
   have push : ∀ w : Int,(nxtC ks x)[s]? = some w → ∃ o6' H2,(∀ B,loudX (fun _ _ _=>none) ⟨B,H⟩ (.app 3 1 8) [o6,.ls [[.i .i64 w]]] = some (o6',⟨B,H2⟩)) ∧ noFaV o6' = true ∧ n0 ≤ H2.length ∧ LR 3 (iI ks) o3 H2 (· < n0) ∧ LR 50 ws o4 H2 (· < n0) ∧ LR 3 (iI ((nxtC ks x).take (s + 1))) o6' H2 (n0 ≤ ·):=fun w hw=>by
    obtain ⟨o6',H2,p1,p2,p3,p4,p5,p6⟩:=h6.push (b:=8) (ys:=[.i .i64 w]) hn (by omega) (by simp; omega) (fun u hu=>by rw [List.mem_singleton] at hu; subst hu; rfl)
    refine ⟨o6',H2,fun B=>(loud_elems rfl).trans (p1 B),p2,p4,h3.keep (fun r hr=>p6 r hr) (fun r hr _=>hr),h4.keep (fun r hr=>p6 r hr) (fun r hr _=>hr),?_⟩
    rw [take_succ_get hw,show iI ((nxtC ks x).take s ++ [w]) = iI ((nxtC ks x).take s) ++ [.i .i64 w] from (iI_app _ [w]).symm]
    exact p3
   by_cases hl1 : 1 < x.1
   ·obtain ⟨k0,k1⟩:=hv i x hx hl1 k (List.mem_of_getElem? hk)
    obtain ⟨m,rfl⟩ : ∃ m : Nat,k = (m : Int):=⟨k.toNat,by omega⟩
    have hml : m < ks.length:=by omega
    have hml' : (m : Int) < ks.length:=by omega
    obtain ⟨cw,hcw⟩ : ∃ cw,ks[m]? = some cw:=⟨ks[m],List.getElem?_eq_getElem hml⟩
    obtain ⟨q,e1,e2,e3⟩:=h3.rd (iI_get hcw)
    have hw : (nxtC ks x)[s]? = some cw:=by
     unfold nxtC
     rw [if_pos hl1,List.getElem?_map,hk]
     simp [hcw]
    obtain ⟨o6',H2,p1,p2,p3,p4,p5,p6⟩:=push cw hw
    have k:=fun B=>ihs (s + 1) (by omega) o6' B H2 (by omega) p3 p4 p5 p6
    simp (maxSteps:=2000000) (disch:=omega) [gd_in,gd_and,wr_i64,rn,hlt,hlt',x1,rx,hlts,hlts',m1,hl1,e1,e3,-loud_app,p1,setC_v a1,setC_v b1,setC_v c1,setC_v e2,setC_v p2,ws1,-Int.natCast_add]
    exact k _
   ·have hw : (nxtC ks x)[s]? = some k:=by
     unfold nxtC
     rw [if_neg hl1]
     exact hk
    obtain ⟨o6',H2,p1,p2,p3,p4,p5,p6⟩:=push k hw
    have kk:=fun B=>ihs (s + 1) (by omega) o6' B H2 (by omega) p3 p4 p5 p6
    simp (maxSteps:=2000000) (disch:=omega) [gd_in,gd_and,wr_i64,rn,hlt,hlt',x1,rx,hlts,hlts',m1,hl1,-loud_app,p1,setC_v a1,setC_v b1,setC_v c1,setC_v p2,ws1,-Int.natCast_add]
    exact kk _
  | none =>
  have : s = x.2.length:=by have:=List.getElem?_eq_none_iff.1 hk; omega
  subst this
  rw [← hnl,List.take_length] at h6
  have w1 : wr .i64 ((i : Int) - 1) = (i : Int) - 1:=wr_i64 (by omega) (by omega)
  simp (maxSteps:=2000000) (disch:=omega) [gd_in,gd_and,wr_i64,rn,hlt,hlt',x1,rx,setC_v a1,setC_v b1,setC_v c1,w1]
  have e0 : (i : Int) = (fstC t.nodes nx x.1 (nxtC ks x) i i : Int):=by rw [fstC_end]
  refine (?key1 : ∀ (k : Nat) (f : Int) (B : List (Nat × List V)),k ≤ i → f = (fstC t.nodes nx x.1 (nxtC ks x) i k : Int) →
   Run G c69_B1 (S69_1 (.m n) o3 o4 (.m (.i .i64 (i : Int))) o6 (.m (.i .i64 f)) (.m (.i .i64 ((k : Int) - 1))) B H) _) i i _ (Nat.le_refl _) e0
  clear ihs e0 B
  refine indM (fun k : Nat=>k) fun k ihk f B hk hf=>?_
  unfold c69_B1
  cases k with
  | zero =>
   subst hf
   have hl3 : rowOf o3 = none ∨ ∃ r,rowOf o3 = some r:=by cases rowOf o3 <;> simp
   obtain ⟨o3',H2,p1,p2,p3,p4,p5,p6⟩:=(h3.keep (H':=H) (ok':=Any1) (fun _ _=>rfl) (fun _ _ _=>trivial)).push1 (b:=8) (by omega) (y:=.i .i64 (fstC t.nodes nx x.1 (nxtC ks x) i 0 : Int)) (by simp; omega) rfl
   have d34 : ∀ r,rowOf o4 = some r → rowOf o3 ≠ some r:=fun r hr e=>by
    have:=(h4.row hr).symm.trans (h3.row e)
    cases this
   have d36 : ∀ r,rowOf o6 = some r → rowOf o3 ≠ some r:=fun r hr e=>by
    have a : n0 ≤ r:=h6.okr hr
    have b : r < n0:=h3.okr e
    omega
   have h4b:=h4.keepO (H':=H2) fun r hr hl=>p5 r hl (d34 r hr)
   have h6b:=h6.keepO (H':=H2) fun r hr hl=>p5 r hl (d36 r hr)
   obtain ⟨zz,H3,q1,q2,q3,q4,q5⟩:=h6b.bsf1
   rw [on1_iI] at q2
   have d46 : ∀ r,rowOf o4 = some r → rowOf o6 ≠ some r:=fun r hr e=>by
    have:=(h4.row hr).symm.trans (h6.row e)
    cases this
   have d3'6 : ∀ r,rowOf o3' = some r → rowOf o6 ≠ some r:=fun r hr e=>by
    rcases p6 r hr with h | ⟨h,_⟩
    ·exact d36 r e h
    ·have:=h6.row_lt e
     omega
   have h4c:=h4b.keepO (H':=H3) fun r hr _=>q5 r (d46 r hr)
   have h3c:=p3.keepO (H':=H3) fun r hr _=>q5 r (d3'6 r hr)
   obtain ⟨o4',H5,s1,s2,s3,s4,s5,s6⟩:=(h4c.keep (H':=H3) (ok':=Any1) (fun _ _=>rfl) (fun _ _ _=>trivial)).push1 (b:=24) (by omega) (y:=zz) (by have:=hw.1; omega) q3
   have h3d:=h3c.keepO (H':=H5) fun r hr hl=>s5 r hl fun e=>by
    have:=(h3c.row hr).symm.trans (h4c.row e)
    cases this
   have kk:=fun B=>ih o3' o4' (ws ++ [zz]) B H5 (by rw [show iI (ks ++ [(fstC t.nodes nx x.1 (nxtC ks x) i 0 : Int)]) = iI ks ++ [.i .i64 (fstC t.nodes nx x.1 (nxtC ks x) i 0 : Int)] from (iI_app _ _).symm]; exact h3d) s3 (hw.snoc q2)
   have hm : ¬ (0 : Int) ≤ ((0 : Nat) : Int) - 1:=by omega
   simp (maxSteps:=2000000) (disch:=omega) [gd_in,gd_and,wr_i64,hm,-loud_app,p1,q1,s1,setC_v a1,setC_v b1,setC_v c1,setC_v p2,setC_v s2,wi,-Int.natCast_add]
   exact kk _
  | succ k =>
   have hki : k < i:=by omega
   have hkl : k < es.length:=by omega
   have hkl' : (k : Int) < es.length:=by omega
   have wk : ((k + 1 : Nat) : Int) - 1 = (k : Int):=by omega
   have wk2 : wr .i64 ((k : Int) - 1) = (k : Int) - 1:=wr_i64 (by omega) (by omega)
   obtain ⟨y,hy⟩ : ∃ y,t.nodes[k]? = some y:=⟨t.nodes[k],List.getElem?_eq_getElem (by omega)⟩
   obtain ⟨zy,y1,y2,y3,_⟩:=treeV_at hT hy
   obtain ⟨d,hd⟩ : ∃ d,nx[k]? = some d:=⟨nx[k],List.getElem?_eq_getElem (by omega)⟩
   obtain ⟨w,hw1,hw2⟩:=hw.2 k d hd
   obtain ⟨q,e1,e2,e3⟩:=h4.rd hw1
   have hst:=fstC_step t.nodes nx x.1 (nxtC ks x) hki
   rw [hy,hd] at hst
   have hdl : d.length ≤ 9223372036854775807:=by
    obtain ⟨cl',e⟩:=clsS_get (l:=t.nodes) i k d (by rw [hnx]; exact hd)
    rw [e,nxtC_len,hy]
    have:=h20 y (List.mem_of_getElem? hy)
    simp only [Option.getD_some]
    omega
   simp only [Option.getD_some] at hst
   rw [wk]
   by_cases u1 : y.1 = x.1
   ·have gs:=h6.call2 (F:=108) (w:=w) (v:=.m (.b (decide (d = nxtC ks x)))) (H0:=[]) rfl rfl (same13_r hw2 (zI_sl (nxtC ks x)) hdl []) rfl
    by_cases u2 : d = nxtC ks x
    ·rw [decide_eq_true u2] at gs
     rw [if_pos ⟨u1,u2⟩] at hst
     have kk:=fun B=>ihk k (by omega) k B (by omega) (by rw [hst])
     simp (maxSteps:=2000000) (disch:=omega) [gd_in,gd_and,wr_i64,gcall_cx,rn,hlt,hlt',hkl,hkl',x1,y1,u1,e1,e3,cl gs,setC_v a1,setC_v b1,setC_v c1,setC_v e2,wk2,-Int.natCast_add]
     exact kk _
    ·rw [decide_eq_false u2] at gs
     rw [if_neg fun e=>u2 e.2] at hst
     have kk:=fun B=>ihk k (by omega) f B (by omega) (by rw [hf,hst])
     simp (maxSteps:=2000000) (disch:=omega) [gd_in,gd_and,wr_i64,gcall_cx,rn,hlt,hlt',hkl,hkl',x1,y1,u1,e1,e3,cl gs,setC_v a1,setC_v b1,setC_v c1,setC_v e2,wk2,-Int.natCast_add]
     exact kk _
   ·rw [if_neg fun e=>u1 e.1] at hst
    have kk:=fun B=>ihk k (by omega) f B (by omega) (by rw [hf,hst])
    simp (maxSteps:=2000000) (disch:=omega) [gd_in,gd_and,wr_i64,gcall_cx,rn,hlt,hlt',hkl,hkl',x1,y1,u1,setC_v a1,setC_v b1,setC_v c1,wk2,-Int.natCast_add]
    exact kk _
end Go.Mx.Tryz
set_option linter.unusedSimpArgs false
set_option linter.unusedVariables false
set_option linter.unusedSectionVars false
namespace Go.Mx.Tryz
open Go.Lib

theorem fstC_spec {l : List Nd} {nx : List (List Int)} {a : Int} {c : List Int} {i : Nat} : fstC l nx a c i 0 = i ∨ (fstC l nx a c i 0 < i ∧ (ndU l (fstC l nx a c i 0)).1 = a ∧ (nx[fstC l nx a c i 0]?).getD [] = c):=by
 unfold fstC
 cases h : (List.range' 0 (i - 0)).find? (fun j=>decide (((l[j]?).getD (0,[])).1 = a ∧ (nx[j]?).getD [] = c)) with
 | none=>exact .inl rfl
 | some j =>
  have h1:=List.find?_some h
  have h2:=List.mem_range'.1 (List.mem_of_find?_eq_some h)
  simp only [decide_eq_true_eq] at h1
  exact .inr ⟨by simp at h2 ⊢; omega,h1.1,h1.2⟩
theorem clsU_at (l : List Nd) : ∀ (i j : Nat),j < i → (clsS l i).1[j]? = some ((fstC l (clsS l j).2 (ndU l j).1 (nxtC (clsS l j).1 (ndU l j)) j 0 : Nat) : Int) ∧ (clsS l i).2[j]? = some (nxtC (clsS l j).1 (ndU l j))
 | 0,j,h=>by omega
 | i + 1,j,h=>by
  obtain ⟨h1,h2⟩:=clsS_len l i
  by_cases e : j < i
  ·obtain ⟨k1,k2⟩:=clsU_at l i j e
   simp only [clsS]
   rw [List.getElem?_append_left (by omega),List.getElem?_append_left (by omega)]
   exact ⟨k1,k2⟩
  ·have : j = i:=by omega
   subst this
   simp only [clsS]
   rw [List.getElem?_append_right (by omega),List.getElem?_append_right (by omega),h1,h2,Nat.sub_self]
   exact ⟨rfl,rfl⟩
theorem clsS_ok (l : List Nd) {i j : Nat} (h : j < i) : ∃ c : Nat,clA (clsS l i).1 j = c ∧ c ≤ j ∧ (ndU l c).1 = (ndU l j).1 ∧ (∀ c',(clsS l i).2[c]? = some c' → c' = nxtC (clsS l j).1 (ndU l j)):=by
 obtain ⟨k1,k2⟩:=clsU_at l i j h
 refine ⟨fstC l (clsS l j).2 (ndU l j).1 (nxtC (clsS l j).1 (ndU l j)) j 0,?_,?_⟩
 ·unfold clA
  rw [Int.toNat_natCast,k1]
  rfl
 ·rcases @fstC_spec l (clsS l j).2 (ndU l j).1 (nxtC (clsS l j).1 (ndU l j)) j with e | ⟨e1,e2,e3⟩
  ·rw [e]
   exact ⟨Nat.le_refl _,rfl,fun c' hc=>by rw [k2] at hc; exact (Option.some.inj hc).symm⟩
  ·refine ⟨Nat.le_of_lt e1,e2,fun c' hc=>?_⟩
   have q1:=(clsU_at l j _ e1).2
   have q2:=(clsU_at l i _ (Nat.lt_trans e1 h)).2
   rw [q2] at hc
   rw [q1] at e3
   rw [← e3,← Option.some.inj hc]
   rfl
theorem okC_of {t : TreeC} (h : treeOk t = true) : OkC t.nodes (clsS t.nodes t.nodes.length).1:=fun i hi=>by
 obtain ⟨a1,a2,a3,a4,a5,a6⟩:=okR_of h i hi
 refine ⟨a1,a2,a3,a4,a5,fun hl k hk=>?_⟩
 obtain ⟨b1,b2,b3⟩:=a6 hl k hk
 obtain ⟨kn,rfl⟩:=Int.eq_ofNat_of_zero_le b1
 have b2 : kn < i:=b2
 have b3 : (ndU t.nodes kn).1 < (ndU t.nodes i).1:=b3
 obtain ⟨c,c1,c2,c3,_⟩:=clsS_ok t.nodes (i:=t.nodes.length) (j:=kn) (by omega)
 refine ⟨b1,by rw [(clsS_len _ _).1]; show kn < _; omega,?_⟩
 rw [c1]
 refine ⟨by omega,by simp only [Int.toNat_natCast]; omega,by simp only [Int.toNat_natCast]; rw [c3]; exact b3⟩
def outR (l : List Nd) : List Nd:=(dfsR l (clsS l l.length).1 25 (clA (clsS l l.length).1 ((l.length - 1 : Nat) : Int)).toNat (List.replicate l.length (-1),[])).2
theorem invR_0 (l : List Nd) : InvR l (List.replicate l.length (-1),[]):=⟨by simp,by simp,fun v hv=>by
 have:=List.eq_of_mem_replicate hv
 subst this
 simp⟩
theorem L2.viewR {es : List (List I)} {o : V} {H : Hp} (h : L2 es o H) (hne : es ≠ []) : Mx.viewR H o = some (.m (.sl es)):=by
 have hv:=h.view hne 18
 rcases h with ⟨e,_⟩ | ⟨_,r,rfl,_⟩
 ·exact absurd e hne
 ·show (Mx.view 20 H _).bind _ = _
  rw [hv]
  rfl
set_option maxHeartbeats 1000000 in
theorem reducedR_s {t : TreeC} {h n : I} {es : List (List I)} (hT : TreeV t h n es) (hok : treeOk t = true) {H : Hp} (Q : V → Hp → Prop)
  (hQ : ∀ z eo,IsSl z eo → NdsV eo → eo.map dNd = outR t.nodes → outR t.nodes ≠ [] → Q (.m z) H) : Ret G 40 [.m n] H Q:=by
 have rn:=hT.nd.rules
 have hl:=treeV_len hT
 obtain ⟨_,h3,⟨h4,h4'⟩,h6,h5⟩:=treeOk_get hok
 have hh:=hoodOk_lenU h3
 have hR:=okR_of hok
 have hC:=okC_of hok
 have gc:=cls_r hT (by omega) (fun x hx=>by
  obtain ⟨i,hi,rfl⟩:=List.getElem_of_mem hx
  have:=(hR i hi).2.2.2.1
  unfold ndU at this
  rw [List.getElem?_eq_getElem hi] at this
  exact this) (fun i x hx hl k hk=>by
  have hi:=(List.getElem?_eq_some_iff.1 hx).1
  have e : ndU t.nodes i = x:=by unfold ndU; rw [hx]; rfl
  have:=(hR i hi).2.2.2.2.2
  rw [e] at this
  obtain ⟨q1,q2,_⟩:=this hl k hk
  exact ⟨q1,by omega⟩)
 refine ret_pur rfl rfl rfl rfl rfl ?_
 rw [← hl] at gc
 generalize hz : zI (clsS t.nodes t.nodes.length).1 = z at gc
 have hz : IsSl z (celI (clsS t.nodes t.nodes.length).1):=by rw [← hz]; exact zI_sl _
 have rz:=hz.rules
 simp (maxSteps:=2000000) (disch:=omega) [gd_in,gd_and,wr_i64,rn,cl (gc _)]
 refine (?key : ∀ (i : Nat) (o : V) (B : List (Nat × List V)) (Hi : Hp),i ≤ es.length → LR 3 (iI (List.replicate i (-1))) o Hi Any1 →
  Run G c40_B0 (S40_0 (.m n) (.m z) o (.m (.i .i64 (i : Int))) B Hi) _) 0 _ _ _ (Nat.zero_le _) (.inl ⟨rfl,rfl⟩)
 refine indM (fun i : Nat=>es.length - i) fun i ih o B Hi hi hL=>?_
 unfold c40_B0
 obtain ⟨a1,a2,a3,a4⟩:=hL.nf
 by_cases hlt : i < es.length
 ·have hlt' : (i : Int) < es.length:=by omega
  have wi : wr .i64 ((i : Int) + 1) = ((i + 1 : Nat) : Int):=wr_i64 (by omega) (by omega)
  obtain ⟨o1,H1,ga,gn,gl,gk⟩:=hL.pushN (b:=8) (by omega) (ys:=iI [-1]) (by simp only [iI_len,List.length_singleton,List.length_replicate]; omega) (noAg_iI _)
  rw [iI_app] at gl
  have e1 : List.replicate i (-1 : Int) ++ [-1] = List.replicate (i + 1) (-1):=by rw [List.replicate_succ']
  rw [e1] at gl
  have gnl:=gl.nf
  have kk:=fun B=>ih (i + 1) (by omega) o1 B H1 (by omega) gl
  have ga : ∀ B,appX ⟨B,Hi⟩ 3 1 8 o [[.m (.i .i64 (-1))]] = some (o1,⟨B,H1⟩):=ga
  simp (maxSteps:=2000000) (disch:=omega) [gd_in,gd_and,wr_i64,rn,hlt',ga,gnl.1,gnl.2.1,gnl.2.2.1,wi,setC_v gn]
  exact kk _
 ·have : i = es.length:=by omega
  subst this
  have hlt' : ¬ (es.length : Int) < es.length:=by omega
  have wl : wr .i64 ((es.length : Int) - 1) = ((es.length - 1 : Nat) : Int):=by rw [wr_i64 (by omega) (by omega)]; omega
  obtain ⟨c,c1,c2,c3,_⟩:=clsS_ok t.nodes (i:=t.nodes.length) (j:=es.length - 1) (by omega)
  obtain ⟨cl1,_⟩:=clsS_len t.nodes t.nodes.length
  have hcg : (clsS t.nodes t.nodes.length).1[es.length - 1]? = some (c : Int):=by
   unfold clA at c1
   rw [Int.toNat_natCast] at c1
   rw [← c1,List.getElem?_eq_getElem (by omega)]
   rfl
  have hcn : nth (celI (clsS t.nodes t.nodes.length).1) (es.length - 1) = some [.i .i64 (c : Int)]:=by rw [nth_get]; simp [celI,hcg]
  have hlr : (ndU t.nodes (es.length - 1)).1 = t.hood.length:=by
   have:=levAt_ndU t.nodes ((t.nodes.length : Int) - 1)
   rw [h6] at this
   have e : ((es.length : Int) - 1).toNat = es.length - 1:=by omega
   rw [this,hl,e]
  obtain ⟨r,rfl,hr⟩ : ∃ r,o = .sl r es.length 1 0 es.length false ∧ nth Hi r = some (.cs 3 1 (onV (iI (List.replicate es.length (-1)))) 0 false):=by
   rcases hL with ⟨e,_⟩ | ⟨_,r,_,e1,e2⟩
   ·exfalso
    have:=congrArg List.length e
    rw [iI_len,List.length_replicate] at this
    have : es.length = 0:=this
    omega
   ·simp only [iI_len,List.length_replicate] at e1
    exact ⟨r,e1,e2⟩
  have W:=walkR_s (rd:=r) hT.nd (ndsV_of hT.ok) (cl:=(clsS t.nodes t.nodes.length).1) hz (by rw [← hT.eq]; exact hC) (by omega) 25 c (List.replicate es.length (-1)) [] (.m (.nl 4)) Hi ⟨⟨0,Nat.zero_le _,hr⟩,.inl ⟨rfl,rfl⟩,by simp,fun e he=>by cases he⟩ (by rw [← hT.eq,← hl]; exact invR_0 _) (by omega) (by rw [← hT.eq,c3,hlr]; omega)
  rw [← hT.eq] at W
  have wr1 : pureX (.bin .sub) [.m (.i .i64 (es.length : Int)),.m (.i .i64 1)] = some (.m (.i .i64 ((es.length - 1 : Nat) : Int))):=by rw [← wl]; rfl
  have hlm : es.length - 1 < es.length:=by omega
  have hlm' : ((es.length - 1 : Nat) : Int) < es.length:=by omega
  rw [hl] at hcn cl1 c1
  simp (maxSteps:=2000000) (disch:=omega) [gd_in,gd_and,wr_i64,rn,rz,hlt',wl,hcn,celI_len,cl1,hl,hlm,hlm']
  rw [callC_some]
  refine W _ fun dn eo oo H' hO hE _=>?_
  have hout : outR t.nodes = eo.map dNd:=by
   unfold outR
   rw [hl,c1,Int.toNat_natCast]
   have hE:=congrArg Prod.snd hE
   rw [hl] at hE
   exact hE
  have hg:=dfsR_gr hC 25 c (List.replicate t.nodes.length (-1),[]) (invR_0 _) (by omega) (by rw [c3,hlr]; omega)
  have hno : outR t.nodes ≠ []:=fun e=>by
   have:=Int.lt_of_le_of_lt hg.2.1 hg.2.2
   unfold outR at e
   rw [hl,c1,Int.toNat_natCast] at e
   rw [hl,e] at this
   simp at this
  have hen : eo ≠ []:=fun e=>hno (by rw [hout,e]; rfl)
  have hv:=hO.ho.viewR hen
  have gon:=hO.ho.nf
  have kk:=hQ (.sl eo) eo (.inl rfl) hO.oe hout.symm hno
  simp (maxSteps:=2000000) (disch:=omega) [gd_in,gd_and,wr_i64,setC_v gon.1,gon.1,hv]
  exact kk
end Go.Mx.Tryz
set_option linter.unusedSimpArgs false
set_option linter.unusedVariables false
set_option linter.unusedSectionVars false
namespace Go.Mx.Tryz
open Go.Lib

set_option maxHeartbeats 1000000 in
theorem reduceR_s {t : TreeC} {h n : I} {es : List (List I)} (hT : TreeV t h n es) {H : Hp} (Q : V → Hp → Prop)
  (hQ : treeOk t = true → ∀ z eo,IsSl z eo → NdsV eo → eo.map dNd = outR t.nodes → outR t.nodes ≠ [] → Q (.m (.ag [.i .i64 t.states,h,z])) H)
  (h0 : treeOk t = false → Q (.m (.ag [.i .i64 0,.nl 4,.nl 4])) H) : Ret G 15 [.m (.ag [.i .i64 t.states,h,n])] H Q:=by
 have gt:=tree_r hT
 refine ret_pur rfl rfl rfl rfl rfl ?_
 cases hok : treeOk t with
 | false =>
  rw [hok] at gt
  have kk:=h0 hok
  simp (maxSteps:=2000000) (disch:=omega) [gd_in,gd_and,wr_i64,cl (gt _),allM]
  exact kk
 | true =>
  rw [hok] at gt
  simp (maxSteps:=2000000) (disch:=omega) [gd_in,gd_and,wr_i64,cl (gt _),allM]
  rw [callC_some]
  refine reducedR_s hT hok _ fun z eo k1 k2 k3 k4=>?_
  have kk:=hQ hok z eo k1 k2 k3 k4
  have ch : cellsV (.m h) = some [.m h]:=by rcases hT.hd with rfl | ⟨rfl,_⟩ <;> rfl
  have cz : cellsV (.m z) = some [.m z]:=by rcases k1 with rfl | ⟨rfl,_⟩ <;> rfl
  simp (maxSteps:=2000000) (disch:=omega) [gd_in,gd_and,wr_i64,allM,ch,cz,isSl_1 hT.hd,isSl_1 k1]
  exact kk
end Go.Mx.Tryz
set_option linter.unusedSimpArgs false
set_option linter.unusedVariables false
set_option linter.unusedSectionVars false
namespace Go.Mx.Tryz
open Go.Lib

theorem mapR_congr {a b : List Int} {x : Nd} (h : 1 < x.1 → ∀ k,k ∈ x.2 → clA a k = clA b k) : mapR a x = mapR b x:=by
 unfold mapR
 split
 ·rename_i h1
  exact List.map_congr_left (h h1)
 ·rfl
theorem idx_addN {l : List Nd} {x : Nd} (y : Nd) {k : Nat} (h : l.idxOf? x = some k) : (addN l y).1.idxOf? x = some k:=by
 unfold addN
 split
 ·exact h
 ·show (l ++ [y]).idxOf? x = some k
  unfold List.idxOf? at h ⊢
  rw [List.findIdx?_append,h]
  rfl
theorem addN_idx (l : List Nd) (x : Nd) : (addN l x).1.idxOf? x = some (addN l x).2:=by
 unfold addN
 split
 ·rename_i h
  exact h
 ·rename_i h
  show (l ++ [x]).idxOf? x = some l.length
  unfold List.idxOf? at h ⊢
  rw [List.findIdx?_append,h]
  simp
def cR (l : List Nd) : List Int:=(clsS l l.length).1
def tR (l : List Nd) : List Int:=(foldR l l.length).2
def bR (l : List Nd) : List Nd:=(foldR l l.length).1
def xR (l : List Nd) (j : Nat) : Nd:=((ndU l j).1,mapR (tR l) (ndU l j))
def yR (l : List Nd) (j : Nat) : Nd:=((ndU l j).1,mapR (cR l) (ndU l j))
theorem foldR_len (l : List Nd) : ∀ i,(foldR l i).2.length = i
 | 0=>rfl
 | i + 1=>by
  show (stepR (foldR l i) (ndU l i)).2.length = _
  unfold stepR
  simp [foldR_len l i]
theorem clA_app {a b : List Int} {k : Int} (h : k.toNat < a.length) : clA (a ++ b) k = clA a k:=by
 unfold clA
 rw [List.getElem?_append_left h]
theorem foldR_idx {l : List Nd} (hr : OkR l) : ∀ i,i ≤ l.length → ∀ j,j < i → ∃ m : Nat,(foldR l i).2[j]? = some (m : Int) ∧ (foldR l i).1.idxOf? ((ndU l j).1,mapR (foldR l i).2 (ndU l j)) = some m
 | 0,_,j,hj=>by omega
 | i + 1,hi,j,hj=>by
  have hs : foldR l (i + 1) = ((addN (foldR l i).1 ((ndU l i).1,mapR (foldR l i).2 (ndU l i))).1,(foldR l i).2 ++ [((addN (foldR l i).1 ((ndU l i).1,mapR (foldR l i).2 (ndU l i))).2 : Int)]):=rfl
  have hn:=foldR_len l i
  have hm : mapR (foldR l (i + 1)).2 (ndU l j) = mapR (foldR l i).2 (ndU l j):=mapR_congr fun h k hk=>by
   obtain ⟨b1,b2,_⟩:=(hr j (by omega)).2.2.2.2.2 h k hk
   rw [hs]
   exact clA_app (by omega)
  rw [hm,hs]
  by_cases e : j < i
  ·obtain ⟨m,m1,m2⟩:=foldR_idx hr i (by omega) j e
   refine ⟨m,?_,idx_addN _ m2⟩
   show (_ ++ _)[j]? = _
   rw [List.getElem?_append_left (by omega)]
   exact m1
  ·have : j = i:=by omega
   subst this
   refine ⟨_,?_,addN_idx _ _⟩
   show (_ ++ _)[j]? = _
   rw [List.getElem?_append_right (by omega),hn,Nat.sub_self]
   rfl
theorem tR_spec {l : List Nd} (hr : OkR l) {j : Nat} (hj : j < l.length) : ∃ m : Nat,clA (tR l) j = m ∧ (bR l).idxOf? (xR l j) = some m:=by
 obtain ⟨m,m1,m2⟩:=foldR_idx hr l.length (Nat.le_refl _) j hj
 refine ⟨m,?_,m2⟩
 unfold clA tR
 rw [Int.toNat_natCast,m1]
 rfl
theorem cR_pre {l : List Nd} {i : Nat} (hi : i ≤ l.length) {k : Int} (hk : k.toNat < i) : clA (clsS l i).1 k = clA (cR l) k:=by
 unfold clA cR
 rw [(clsU_at l i _ hk).1,(clsU_at l l.length _ (by omega)).1]
theorem nxt_cR {l : List Nd} (hr : OkR l) {i j : Nat} (hj : j < l.length) (hi : i ≤ l.length) (h : j ≤ i) : nxtC (clsS l i).1 (ndU l j) = mapR (cR l) (ndU l j):=by
 show mapR (clsS l i).1 (ndU l j) = _
 exact mapR_congr fun h1 k hk=>by
  obtain ⟨b1,b2,_⟩:=(hr j hj).2.2.2.2.2 h1 k hk
  exact cR_pre hi (by omega)
theorem fstC_min {l : List Nd} {nx : List (List Int)} {a : Int} {c : List Int} {i k : Nat} (hk : k < i) (h1 : (ndU l k).1 = a) (h2 : (nx[k]?).getD [] = c) : fstC l nx a c i 0 ≤ k:=by
 have key : ∀ d s,s + d = k → fstC l nx a c i s ≤ k:=by
  intro d
  induction d with
  | zero =>
   intro s hs
   have : s = k:=by omega
   subst this
   rw [fstC_step _ _ _ _ hk,if_pos ⟨h1,h2⟩]
   exact Nat.le_refl _
  | succ d ih =>
   intro s hs
   rw [fstC_step _ _ _ _ (by omega)]
   split
   ·omega
   ·exact ih (s + 1) (by omega)
 exact key k 0 (by omega)
theorem cR_spec {l : List Nd} (hr : OkR l) {j : Nat} (hj : j < l.length) : ∃ c : Nat,clA (cR l) j = c ∧ c ≤ j ∧ yR l c = yR l j ∧ ∀ i,i < l.length → yR l i = yR l j → c ≤ i:=by
 obtain ⟨c,c1,c2,c3,c4⟩:=clsS_ok l (i:=l.length) hj
 have q:=c4 _ (clsU_at l l.length c (by omega)).2
 rw [nxt_cR hr (by omega) (by omega) (Nat.le_refl _),nxt_cR hr hj (by omega) (Nat.le_refl _)] at q
 refine ⟨c,c1,c2,by unfold yR; rw [c3,q],fun i hi hy=>?_⟩
 by_cases e : i < j
 ·have hc : (c : Int) = fstC l (clsS l j).2 (ndU l j).1 (nxtC (clsS l j).1 (ndU l j)) j 0:=by
   rw [← c1]
   unfold clA
   rw [Int.toNat_natCast,(clsU_at l l.length j hj).1]
   rfl
  have hy1:=congrArg Prod.fst hy
  have hy2:=congrArg Prod.snd hy
  have hm:=@fstC_min l (clsS l j).2 (ndU l j).1 (nxtC (clsS l j).1 (ndU l j)) j i e hy1 (by
   rw [(clsU_at l j i e).2,Option.getD_some,nxt_cR hr hi (by omega) (Nat.le_refl _),nxt_cR hr hj (by omega) (Nat.le_refl _)]
   exact hy2)
  omega
 ·omega
theorem cR_iff {l : List Nd} (hr : OkR l) {i j : Nat} (hi : i < l.length) (hj : j < l.length) : clA (cR l) i = clA (cR l) j ↔ yR l i = yR l j:=by
 obtain ⟨c,c1,c2,c3,c4⟩:=cR_spec hr hi
 obtain ⟨d,d1,d2,d3,d4⟩:=cR_spec hr hj
 rw [c1,d1]
 constructor
 ·intro h
  have : c = d:=by omega
  subst this
  rw [← c3,d3]
 ·intro h
  have q1:=c4 d (by omega) (d3.trans h.symm)
  have q2:=d4 c (by omega) (c3.trans h)
  omega
theorem tR_iff {l : List Nd} (hr : OkR l) {i j : Nat} (hi : i < l.length) (hj : j < l.length) : clA (tR l) i = clA (tR l) j ↔ xR l i = xR l j:=by
 obtain ⟨c,c1,c2⟩:=tR_spec hr hi
 obtain ⟨d,d1,d2⟩:=tR_spec hr hj
 rw [c1,d1]
 constructor
 ·intro h
  have : c = d:=by omega
  subst this
  have q1:=idx_some c2
  have q2:=idx_some d2
  rw [q1] at q2
  exact Option.some.inj q2
 ·intro h
  rw [h,d2] at c2
  have:=Option.some.inj c2
  omega
theorem map_iffR {f g : Int → Int} : ∀ {a b : List Int},(∀ p,p ∈ a → ∀ q,q ∈ b → (f p = f q ↔ g p = g q)) → (a.map f = b.map f ↔ a.map g = b.map g)
 | [],[],_=>by simp
 | [],_ :: _,_=>by simp
 | _ :: _,[],_=>by simp
 | p :: a,q :: b,h=>by
  have h1:=h p (List.mem_cons_self ..) q (List.mem_cons_self ..)
  have h2:=map_iffR (f:=f) (g:=g) (a:=a) (b:=b) fun x hx y hy=>h x (List.mem_cons_of_mem _ hx) y (List.mem_cons_of_mem _ hy)
  simp only [List.map_cons,List.cons.injEq,h1,h2]
theorem xy_iff {l : List Nd} (hr : OkR l) : ∀ n i j,i < n → j < n → i < l.length → j < l.length → (xR l i = xR l j ↔ yR l i = yR l j)
 | 0,i,j,h,_,_,_=>by omega
 | n + 1,i,j,h1,h2,hi,hj=>by
  have key : (ndU l i).1 = (ndU l j).1 → (mapR (tR l) (ndU l i) = mapR (tR l) (ndU l j) ↔ mapR (cR l) (ndU l i) = mapR (cR l) (ndU l j)):=fun hl=>by
   unfold mapR
   by_cases hp : 1 < (ndU l i).1
   ·rw [if_pos hp,if_pos (by omega),if_pos hp,if_pos (by omega)]
    refine map_iffR fun p hp1 q hq1=>?_
    obtain ⟨b1,b2,_⟩:=(hr i hi).2.2.2.2.2 hp p hp1
    obtain ⟨d1,d2,_⟩:=(hr j hj).2.2.2.2.2 (by omega) q hq1
    obtain ⟨pn,rfl⟩:=Int.eq_ofNat_of_zero_le b1
    obtain ⟨qn,rfl⟩:=Int.eq_ofNat_of_zero_le d1
    have b2 : pn < i:=b2
    have d2 : qn < j:=d2
    exact (tR_iff hr (by omega) (by omega)).trans ((xy_iff hr n pn qn (by omega) (by omega) (by omega) (by omega)).trans (cR_iff hr (by omega) (by omega)).symm)
   ·rw [if_neg hp,if_neg (by omega),if_neg hp,if_neg (by omega)]
  unfold xR yR
  simp only [Prod.mk.injEq]
  constructor
  ·rintro ⟨e1,e2⟩
   exact ⟨e1,(key e1).1 e2⟩
  ·rintro ⟨e1,e2⟩
   exact ⟨e1,(key e1).2 e2⟩
theorem tc_iff {l : List Nd} (hr : OkR l) {i j : Nat} (hi : i < l.length) (hj : j < l.length) : clA (tR l) i = clA (tR l) j ↔ clA (cR l) i = clA (cR l) j :=
 (tR_iff hr hi hj).trans ((xy_iff hr l.length i j hi hj hi hj).trans (cR_iff hr hi hj).symm)
theorem cR_idem {l : List Nd} (hr : OkR l) {j : Nat} (hj : j < l.length) : ∃ c : Nat,clA (cR l) j = c ∧ c ≤ j ∧ clA (cR l) c = c ∧ clA (tR l) c = clA (tR l) j ∧ (ndU l c).1 = (ndU l j).1:=by
 obtain ⟨c,c1,c2,c3,c4⟩:=cR_spec hr hj
 have hc : clA (cR l) c = clA (cR l) j:=(cR_iff hr (by omega) hj).2 c3
 have h5 : (yR l c).1 = (yR l j).1:=by rw [c3]
 exact ⟨c,c1,c2,by rw [hc,c1],(tc_iff hr (by omega) hj).2 hc,h5⟩
structure SimU (l : List Nd) (st st' : WSt) : Prop where
 out : st.2 = st'.2
 l1 : st.1.length = (bR l).length
 l2 : st'.1.length = l.length
 at' : ∀ c : Nat,c < l.length → clA (cR l) c = c → (st'.1[c]?).getD 0 = (st.1[(clA (tR l) c).toNat]?).getD 0 - 1
theorem kids_sim {l : List Nd} {f g : Nat → WSt → WSt × Int} : ∀ (ks : List Int) (st st' : WSt) (acc : List Int),SimU l st st' → (∀ k,k ∈ ks → ∀ st st',SimU l st st' → SimU l (f (clA (tR l) k).toNat st).1 (g (clA (cR l) k).toNat st').1 ∧ (f (clA (tR l) k).toNat st).2 = (g (clA (cR l) k).toNat st').2) →
  SimU l (kidsP f (ks.map (clA (tR l))) st acc).1 (kidsP g (ks.map (clA (cR l))) st' acc).1 ∧ (kidsP f (ks.map (clA (tR l))) st acc).2 = (kidsP g (ks.map (clA (cR l))) st' acc).2
 | [],st,st',acc,h,_=>⟨h,rfl⟩
 | k :: r,st,st',acc,h,hk=>by
  obtain ⟨h1,h2⟩:=hk k (List.mem_cons_self ..) st st' h
  have ih:=kids_sim (f:=f) (g:=g) r _ _ (acc ++ [(f (clA (tR l) k).toNat st).2]) h1 fun q hq=>hk q (List.mem_cons_of_mem _ hq)
  show SimU l (kidsP f (r.map (clA (tR l))) (f (clA (tR l) k).toNat st).1 (acc ++ [(f (clA (tR l) k).toNat st).2])).1 (kidsP g (r.map (clA (cR l))) (g (clA (cR l) k).toNat st').1 (acc ++ [(g (clA (cR l) k).toNat st').2])).1 ∧ (kidsP f (r.map (clA (tR l))) (f (clA (tR l) k).toNat st).1 (acc ++ [(f (clA (tR l) k).toNat st).2])).2 = (kidsP g (r.map (clA (cR l))) (g (clA (cR l) k).toNat st').1 (acc ++ [(g (clA (cR l) k).toNat st').2])).2
  rw [← h2]
  exact ih
theorem dfs_sim {l : List Nd} (hr : OkR l) : ∀ (n m c : Nat) (st st' : WSt),SimU l st st' → c < l.length → clA (cR l) c = c → (ndU l c).1 ≤ (n : Int) → (ndU l c).1 ≤ (m : Int) →
  SimU l (dfsP (bR l) n (clA (tR l) c).toNat st).1 (dfsR l (cR l) m c st') ∧ (dfsP (bR l) n (clA (tR l) c).toNat st).2 = ((dfsR l (cR l) m c st').1[c]?).getD 0
 | 0,_,c,st,st',_,hc,_,hn,_=>by have:=(hr c hc).1; omega
 | n + 1,0,c,st,st',_,hc,_,_,hm=>by have:=(hr c hc).1; omega
 | n + 1,m + 1,c,st,st',h,hc,hcc,hn,hm=>by
  obtain ⟨k,k1,k2⟩:=tR_spec hr hc
  have hk:=idx_some k2
  have hkl:=(List.getElem?_eq_some_iff.1 hk).1
  have hnd : ndU (bR l) k = xR l c:=ndU_get hk
  have ha:=h.at' c hc hcc
  have e1 : dfsP (bR l) (n + 1) (clA (tR l) c).toNat st = if 0 < (st.1[(clA (tR l) c).toNat]?).getD 0 then (st,(st.1[(clA (tR l) c).toNat]?).getD 0 - 1)
   else finP (ndU (bR l) (clA (tR l) c).toNat) (clA (tR l) c).toNat (if 1 < (ndU (bR l) (clA (tR l) c).toNat).1 then kidsP (dfsP (bR l) n) (ndU (bR l) (clA (tR l) c).toNat).2 st [] else (st,(ndU (bR l) (clA (tR l) c).toNat).2)):=rfl
  have e2 : dfsR l (cR l) (m + 1) c st' = if 0 ≤ (st'.1[c]?).getD 0 then st'
   else finR (ndU l c) c (if 1 < (ndU l c).1 then kidsP (fun j s=>(dfsR l (cR l) m j s,((dfsR l (cR l) m j s).1[j]?).getD 0)) ((ndU l c).2.map (clA (cR l))) st' [] else (st',(ndU l c).2)):=rfl
  rw [k1,Int.toNat_natCast] at ha e1
  rw [hnd] at e1
  rw [k1,Int.toNat_natCast,e1,e2,ha]
  by_cases hp : 0 < (st.1[k]?).getD 0
  ·rw [if_pos hp,if_pos (show 0 ≤ (st.1[k]?).getD 0 - 1 by omega)]
   exact ⟨h,ha.symm⟩
  ·rw [if_neg hp,if_neg (show ¬ 0 ≤ (st.1[k]?).getD 0 - 1 by omega)]
   have hx1 : (xR l c).1 = (ndU l c).1:=rfl
   have hks : SimU l (if 1 < (xR l c).1 then kidsP (dfsP (bR l) n) (xR l c).2 st [] else (st,(xR l c).2)).1 (if 1 < (ndU l c).1 then kidsP (fun j s=>(dfsR l (cR l) m j s,((dfsR l (cR l) m j s).1[j]?).getD 0)) ((ndU l c).2.map (clA (cR l))) st' [] else (st',(ndU l c).2)).1 ∧ (if 1 < (xR l c).1 then kidsP (dfsP (bR l) n) (xR l c).2 st [] else (st,(xR l c).2)).2 = (if 1 < (ndU l c).1 then kidsP (fun j s=>(dfsR l (cR l) m j s,((dfsR l (cR l) m j s).1[j]?).getD 0)) ((ndU l c).2.map (clA (cR l))) st' [] else (st',(ndU l c).2)).2:=by
    rw [hx1]
    by_cases hl : 1 < (ndU l c).1
    ·rw [if_pos hl,if_pos hl]
     have hx2 : (xR l c).2 = (ndU l c).2.map (clA (tR l)):=by
      show mapR _ _ = _
      unfold mapR
      rw [if_pos hl]
      rfl
     rw [hx2]
     refine kids_sim _ _ _ _ h fun q hq s s' hs=>?_
     obtain ⟨b1,b2,b3⟩:=(hr c hc).2.2.2.2.2 hl q hq
     obtain ⟨qn,rfl⟩:=Int.eq_ofNat_of_zero_le b1
     have b2 : qn < c:=b2
     have b3 : (ndU l qn).1 < (ndU l c).1:=b3
     obtain ⟨d,d1,d2,d3,d4,d5⟩:=cR_idem hr (j:=qn) (by omega)
     have W:=dfs_sim hr n m d s s' hs (by omega) d3 (by omega) (by omega)
     rw [d4] at W
     show SimU l (dfsP (bR l) n (clA (tR l) (qn : Int)).toNat s).1 (dfsR l (cR l) m (clA (cR l) (qn : Int)).toNat s') ∧ (dfsP (bR l) n (clA (tR l) (qn : Int)).toNat s).2 = ((dfsR l (cR l) m (clA (cR l) (qn : Int)).toNat s').1[(clA (cR l) (qn : Int)).toNat]?).getD 0
     rw [d1,Int.toNat_natCast]
     exact W
    ·rw [if_neg hl,if_neg hl]
     refine ⟨h,?_⟩
     show mapR _ _ = _
     unfold mapR
     rw [if_neg hl]
   generalize (if 1 < (xR l c).1 then kidsP (dfsP (bR l) n) (xR l c).2 st [] else (st,(xR l c).2)) = r at hks ⊢
   generalize (if 1 < (ndU l c).1 then kidsP (fun j s=>(dfsR l (cR l) m j s,((dfsR l (cR l) m j s).1[j]?).getD 0)) ((ndU l c).2.map (clA (cR l))) st' [] else (st',(ndU l c).2)) = r' at hks ⊢
   obtain ⟨⟨s1,s2,s3,s4⟩,hr2⟩:=hks
   refine ⟨⟨?_,?_,?_,fun c' h1 h2=>?_⟩,?_⟩
   ·show r.1.2 ++ [((xR l c).1,r.2)] = r'.1.2 ++ [((ndU l c).1,r'.2)]
    rw [s1,hr2,hx1]
   ·show (r.1.1.set k _).length = _
    rw [List.length_set,s2]
   ·show (r'.1.1.set c _).length = _
    rw [List.length_set,s3]
   ·show ((r'.1.1.set c ((r'.1.2.length : Nat) : Int))[c']?).getD 0 = ((r.1.1.set k ((r.1.2.length + 1 : Nat) : Int))[(clA (tR l) c').toNat]?).getD 0 - 1
    by_cases e : c = c'
    ·subst e
     rw [k1,Int.toNat_natCast,List.getElem?_set_self (by omega),List.getElem?_set_self (by omega),s1]
     simp only [Option.getD_some]
     omega
    ·obtain ⟨k',w1,w2⟩:=tR_spec hr h1
     have hne : k ≠ k':=fun e2=>by
      have:=(tc_iff hr hc h1).1 (by rw [k1,w1,e2])
      rw [hcc,h2] at this
      omega
     rw [List.getElem?_set_ne e,w1,Int.toNat_natCast,List.getElem?_set_ne hne]
     have:=s4 c' h1 h2
     rw [w1,Int.toNat_natCast] at this
     exact this
   ·show ((r.1.2.length : Nat) : Int) = ((r'.1.1.set c ((r'.1.2.length : Nat) : Int))[c]?).getD 0
    rw [List.getElem?_set_self (by omega),s1]
    rfl
theorem sim_0 {l : List Nd} (hr : OkR l) : SimU l (List.replicate (bR l).length 0,[]) (List.replicate l.length (-1),[]):=⟨rfl,by simp,by simp,fun c hc _=>by
 obtain ⟨k,k1,k2⟩:=tR_spec hr hc
 have hkl:=(List.getElem?_eq_some_iff.1 (idx_some k2)).1
 rw [k1,Int.toNat_natCast]
 simp [hc,hkl]⟩
theorem red_out {l : List Nd} (hr : OkR l) (h1 : 1 ≤ l.length) (h2 : (ndU l (l.length - 1)).1 ≤ 25) : redN l = outR l:=by
 obtain ⟨d,d1,d2,d3,d4,d5⟩:=cR_idem hr (j:=l.length - 1) (by omega)
 have W:=dfs_sim hr 1000 25 d _ _ (sim_0 hr) (by omega) d3 (by omega) (by omega)
 rw [d4] at W
 have q:=W.1.out
 unfold redN outR
 have d1 : clA (clsS l l.length).1 ((l.length - 1 : Nat) : Int) = d:=d1
 rw [d1,Int.toNat_natCast]
 exact q
theorem hood_last {t : TreeC} (h : treeOk t = true) : (ndU t.nodes (t.nodes.length - 1)).1 = t.hood.length ∧ t.hood.length ≤ 25 ∧ 1 ≤ t.nodes.length:=by
 obtain ⟨_,h3,⟨h4,_⟩,h6,_⟩:=treeOk_get h
 have q:=levAt_ndU t.nodes ((t.nodes.length : Int) - 1)
 have e : ((t.nodes.length : Int) - 1).toNat = t.nodes.length - 1:=by omega
 rw [h6,e] at q
 exact ⟨q.symm,(hoodOk_lenU h3).2,h4⟩
theorem outR_ne {t : TreeC} (h : treeOk t = true) : outR t.nodes ≠ []:=fun e=>by
 obtain ⟨a1,a2,a3⟩:=hood_last h
 obtain ⟨d,d1,d2,d3,d4,d5⟩:=cR_idem (okR_of h) (j:=t.nodes.length - 1) (by omega)
 have hg:=dfsR_gr (okC_of h) 25 d (List.replicate t.nodes.length (-1),[]) (invR_0 _) (by omega) (by omega)
 have:=Int.lt_of_le_of_lt hg.2.1 hg.2.2
 unfold outR at e
 have d1 : clA (clsS t.nodes t.nodes.length).1 ((t.nodes.length - 1 : Nat) : Int) = d:=d1
 rw [d1,Int.toNat_natCast] at e
 rw [e] at this
 simp at this
theorem red_eq {t : TreeC} (h : treeOk t = true) : redN t.nodes = outR t.nodes:=by
 obtain ⟨a1,a2,a3⟩:=hood_last h
 exact red_out (okR_of h) a3 (by omega)
end Go.Mx.Tryz
