/- Over of both texts. -/
import Derived.Test.YtlhjjcaifenlbaaGreatDoorLs
set_option linter.unusedSimpArgs false
set_option linter.unusedVariables false
set_option linter.unusedSectionVars false
set_option maxRecDepth 100000
set_option maxHeartbeats 4000000
namespace Go.Mx.Tryz
open Go.Lib Go.Proofs
noncomputable def BV (a b : List Ce) : List Ce × Int:=if 5000 < (ovL a b).length then ([],6) else (Ci (ovL a b),0)
theorem ML (a b : List Ce) : (ovL a b).length <= a.length + b.length:=by
 unfold ovL pkF
 rw [AdC]
 have:=Aeu (fun c=>Jb a c == false) b
 omega
theorem ZB {F : Nat} {q : List Ce} {x : V} {H : Hp} {r b : Nat} {lim : Bool} (hp : G.prim F = none) (hs : G.sh F = false) (hr : nth H r = some (.cs 73 3 (Ax q) b false)) (hb : b <= q.length) (h : ∀ H,Gives G F [.m (.sl (Af q))] H x H) : ∃ H2,Gives G F [.sl r q.length 3 0 q.length lim] H x H2:=by
 have hv : Ah (view 20 H) [V.sl r q.length 3 0 q.length lim] = some [.sl (Af q)]:=by
  have:=Oc hr hb 18
  have e : view 20 H (V.sl r q.length 3 0 q.length lim) = some (.sl (Af q)):=by cases lim <;> exact this
  simp only [Ah,e,Adx]
 cases hf : Fy x with
 | true=>exact ⟨_,AT (is:=[.sl (Af q)]) hp hs (h []) hv (.inr ⟨by simp [DH,GH],hf⟩)⟩
 | false =>
  have hfz : AV ([V.sl r q.length 3 0 q.length lim].flatMap DH) H = some (H.set r (.cs 73 3 (Ax q) b true)):=by
   show Option.bind (nth H r) _ = _
   rw [hr]
   show Option.bind (gd ((Ax q).all fun e=>e.all isM) (some (Row.cs 73 3 (Ax q) b true))) _ = _
   rw [FG]
   show Option.bind (Bk H r _) _ = _
   rw [BA _ _ _ (GL hr)]
   rfl
  exact ⟨_,CM (is:=[.sl (Af q)]) hp hs (h []) hv (by simp [DH,GH]) hf rfl hfz⟩
def OvI (lim : Bool) (acc : List Ce) (H : Hp) : Prop:=∃ b c,b <= 1 /\ c <= acc.length /\ H = [.cs 73 3 (Ax acc) c false,.cs 29 1 [[.sl 0 acc.length 3 0 acc.length lim]] b false]
theorem Ou {acc : List Ce} {H : Hp} (h : OvI false acc H) (hl : acc.length <= 1000000) (c : Ce) : ∃ o b o1 H1 H2,b <= 1 /\ nth H 1 = some (.cs 29 1 [[o]] b false) /\ AA o = true /\ (∀ B,Ea ⟨B,H⟩ 73 3 24 o [[.m (.i .i64 c.x),.m (.i .i64 c.y),.m (.i .i64 c.s)]] = some (o1,⟨B,H1⟩)) /\ AA o1 = true /\ Au o1 = some [o1] /\ Cv o1 = true /\ nth H1 1 = some (.cs 29 1 [[o]] b false) /\ Bk H1 1 (.cs 29 1 [[o1]] 1 false) = some H2 /\ OvI false (acc ++ [c]) H2:=by
 obtain ⟨b,d,hb,hd,rfl⟩:=h
 have ha:=fun B=>CJ (M:=⟨B,[.cs 73 3 (Ax acc) d false,.cs 29 1 [[.sl 0 acc.length 3 0 acc.length false]] b false]⟩) (r:=0) (bytes:=24) (xs:=[[.m (.i .i64 c.x),.m (.i .i64 c.y),.m (.i .i64 c.s)]]) rfl (by simp) (by simp; omega) rfl
 simp only [BD,AdZ,Aeh,Aey,AeE,EK] at ha
 exact ⟨_,b,.sl 0 (acc.length + 1) 3 0 (acc.length + 1) false,_,_,hb,rfl,rfl,ha,rfl,rfl,rfl,rfl,rfl,1,d,Adw _,by simp; omega,by simp⟩
theorem MJ {acc : List Ce} {H : Hp} (h : OvI false acc H) (hl : acc.length <= 1000000) (c d : Ce) (a b : Bool) {Q : V -> Hp -> Prop} (hQ : ∀ H',OvI false (acc ++ [if a = true then c else d]) H' -> Q (.tu []) H') : Ret G 91 (Vis 91 [.pt 1 1 0 0] c d a b) H Q:=by
 refine BU mono rfl rfl rfl rfl rfl ?_
 cases a with
 | false =>
  obtain ⟨o,b1,o1,H1,H2,hb1,r1,r2,r3,r4,r5,r6,r7,r8,r9⟩:=Ou h hl d
  have k:=hQ H2 (by simpa using r9)
  simp (maxSteps:=2000000) (disch:=omega) [Ab,Vis,Ce.i,r1,hb1,r3,r5,r6,r7,r8]
  exact k
 | true =>
  obtain ⟨o,b1,o1,H1,H2,hb1,r1,r2,r3,r4,r5,r6,r7,r8,r9⟩:=Ou h hl c
  have k:=hQ H2 (by simpa using r9)
  simp (maxSteps:=2000000) (disch:=omega) [Ab,Vis,Ce.i,r1,hb1,r3,r5,r6,r7,r8]
  exact k
theorem YG (q : List Ce) (hl : (q.length : Int) <= 9223372036854775807) (H : Hp) : Gives G 92 [.m (.sl (Af q))] H (.tu [.m (if 5000 < q.length then .nl 4 else .sl (Af q)),.m (.i .i64 (if 5000 < q.length then 6 else 0))]) H:=by
 have hr:=(Ba (Af q)).rules
 simp only [show (Af q).length = q.length from by simp [Af]] at hr
 refine Ae rfl rfl rfl rfl rfl ?_
 by_cases h : 5000 < q.length
 ·simp (maxSteps:=2000000) (disch:=omega) [hr,h,show (5000 : Int) < q.length from by omega]
 ·simp (maxSteps:=2000000) (disch:=omega) [hr,h,show ¬ (5000 : Int) < q.length from by omega]
theorem Fk {acc : List Ce} {c : Ce} (h : acc.Pairwise fun a b=>AO a b = true) (hc : ∀ a,a ∈ acc -> AO a c = true) : (acc ++ [c]).Pairwise fun a b=>AO a b = true:=by
 rw [Aen]
 exact ⟨h,List.pairwise_singleton _ _,fun a ha b hb=>by rw [AdO.1 hb]; exact hc a ha⟩
structure OvM (p q acc a b : List Ce) : Prop where
 pw : acc.Pairwise fun x y=>AO x y = true
 la : ∀ x,x ∈ acc -> ∀ y,y ∈ a -> AO x y = true
 lb : ∀ x,x ∈ acc -> ∀ y,y ∈ b -> AO x y = true
 pm : (acc ++ ovL a b).Perm (ovL p q)
theorem ovM_a {p q acc r b : List Ce} {c : Ce} (h : OvM p q acc (c :: r) b) (hc : ∀ d,d ∈ b -> AO c d = true) (hr : ∀ e,e ∈ r -> AO c e = true) : OvM p q (acc ++ [c]) r b:=by
 refine ⟨Fk h.pw fun x hx=>h.la x hx c (AdL ..),fun x hx y hy=>?_,fun x hx y hy=>?_,?_⟩
 ·rcases AdX.1 hx with hx | hx
  ·exact h.la x hx y (Aek _ hy)
  ·rw [AdO.1 hx]; exact hr y hy
 ·rcases AdX.1 hx with hx | hx
  ·exact h.lb x hx y hy
  ·rw [AdO.1 hx]; exact hc y hy
 ·have:=h.pm
  rw [ov_a hc] at this
  rw [Aew]
  exact this
theorem ovM_b {p q acc a s : List Ce} {d : Ce} (h : OvM p q acc a (d :: s)) (hd : ∀ c,c ∈ a -> AO d c = true) (hs : ∀ e,e ∈ s -> AO d e = true) : OvM p q (acc ++ [d]) a s:=by
 refine ⟨Fk h.pw fun x hx=>h.lb x hx d (AdL ..),fun x hx y hy=>?_,fun x hx y hy=>?_,?_⟩
 ·rcases AdX.1 hx with hx | hx
  ·exact h.la x hx y hy
  ·rw [AdO.1 hx]; exact hd y hy
 ·rcases AdX.1 hx with hx | hx
  ·exact h.lb x hx y (Aek _ hy)
  ·rw [AdO.1 hx]; exact hs y hy
 ·rw [Aew]
  exact ((ov_b hd).symm.append_left acc).trans h.pm
theorem AcC {p q acc r s : List Ce} {c d : Ce} (h : OvM p q acc (c :: r) (d :: s)) (hx : c.x = d.x) (hy : c.y = d.y) (hr : ∀ e,e ∈ r -> AO c e = true) (hs : ∀ e,e ∈ s -> AO d e = true) : OvM p q (acc ++ [c]) r s:=by
 have hcs : ∀ e,e ∈ s -> AO c e = true:=fun e he=>by
  have:=hs e he
  unfold AO at *
  rw [hx,hy]
  exact this
 refine ⟨Fk h.pw fun x hx=>h.la x hx c (AdL ..),fun x hx y hy=>?_,fun x hx y hy=>?_,?_⟩
 ·rcases AdX.1 hx with hx | hx
  ·exact h.la x hx y (Aek _ hy)
  ·rw [AdO.1 hx]; exact hr y hy
 ·rcases AdX.1 hx with hx | hx
  ·exact h.lb x hx y (Aek _ hy)
  ·rw [AdO.1 hx]; exact hcs y hy
 ·have:=h.pm
  rw [ov_ab hx hy hs] at this
  rw [Aew]
  exact this
theorem MK {p q acc a b : List Ce} (h : OvM p q acc a b) (hp : p.length <= 5000) (hq : q.length <= 5000) : acc.length <= 1000000:=by
 have h1:=h.pm.length_eq
 rw [AdC] at h1
 have:=ML p q
 omega
theorem AcB {v w : I} {p q : List Ce} (hv : IsSl v (Af p)) (hw : IsSl w (Af q)) (hp : AL p = true) (hq : AL q = true) : ∃ x,IsSl x (Af (BV p q).1) /\ ∀ H,Gives G 47 [.m v,.m w] H (.tu [.m x,.m (.i .i64 (BV p q).2)]) H:=by
 obtain ⟨wp,_,lp⟩:=Av hp
 obtain ⟨wq,_,lq⟩:=Av hq
 have g1:=fun H=>CI hv (by omega) H
 have g2:=fun H=>CI hw (by omega) H
 rw [hp] at g1
 rw [hq] at g2
 have hrv:=hv.rules
 have hrw:=hw.rules
 simp only [show (Af p).length = p.length from by simp [Af]] at hrv
 simp only [show (Af q).length = q.length from by simp [Af]] at hrw
 have hap:=Ot (Dh wp) (Dh wq)
 have hlen:=ML p q
 refine ⟨if 5000 < (ovL p q).length then .nl 4 else .sl (Af (Ci (ovL p q))),?_,fun H=>?_⟩
 ·unfold BV
  split
  ·exact AC
  ·exact Ba _
 have e2 : (BV p q).2 = if 5000 < (ovL p q).length then 6 else 0:=by
  unfold BV
  split <;> rfl
 rw [e2]
 refine Ae rfl rfl rfl rfl rfl ?_
 have wl : wr .i64 ((p.length : Int) + q.length) = ((p.length + q.length : Nat) : Int):=Aa (by omega) (by omega)
 have hcap : (p.length + q.length) * 24 <= 281474976710656:=by omega
 have hcap2 : p.length + q.length <= 9223372036854775807:=by omega
 simp (maxSteps:=2000000) (disch:=omega) [Ab,cl (g1 _),cl (g2 _),Ad,hrv,hrw,wl,hcap,hcap2,-Int.natCast_add]
 generalize hlim : decide (0 = p.length + q.length) = lim
 rw [As]
 refine Tb (Inv:=fun a b H=>(lim = true -> a = [] /\ b = []) /\ ∃ acc,OvI lim acc H /\ OvM p q acc a b /\ (a.Pairwise fun x y=>AO x y = true) /\ (b.Pairwise fun x y=>AO x y = true)) rfl (fun c r b H Q hI hlt hQ=>?_) (fun d s a H Q hI hlt hQ=>?_) (fun c r d s H Q hI hx hy h1 h2 hQ=>?_) hv hw wp wq (by omega) (by omega) ⟨fun hl=>?_,[],⟨1,0,by omega,by simp,rfl⟩,⟨.nil,fun x hx=>(by cases hx),fun x hx=>(by cases hx),.refl _⟩,wp,wq⟩ fun H' hI=>?_
 ·obtain ⟨hl,acc,hO,hM,ha,hb⟩:=hI
  have hl0 : lim = false:=by
   cases lim with
   | false=>rfl
   | true=>exact absurd (hl rfl).1 (by simp)
  subst hl0
  refine MJ hO (MK hM lp lq) c _ true false fun H' hO'=>hQ H' ⟨fun h=>(by cases h),_,hO',?_,(AdR.1 ha).2,hb⟩
  exact ovM_a hM hlt (AdR.1 ha).1
 ·obtain ⟨hl,acc,hO,hM,ha,hb⟩:=hI
  have hl0 : lim = false:=by
   cases lim with
   | false=>rfl
   | true=>exact absurd (hl rfl).2 (by simp)
  subst hl0
  refine MJ hO (MK hM lp lq) _ d false true fun H' hO'=>hQ H' ⟨fun h=>(by cases h),_,hO',?_,ha,(AdR.1 hb).2⟩
  exact ovM_b hM hlt (AdR.1 hb).1
 ·obtain ⟨hl,acc,hO,hM,ha,hb⟩:=hI
  have hl0 : lim = false:=by
   cases lim with
   | false=>rfl
   | true=>exact absurd (hl rfl).1 (by simp)
  subst hl0
  refine MJ hO (MK hM lp lq) c d true true fun H' hO'=>hQ H' ⟨fun h=>(by cases h),_,hO',?_,(AdR.1 ha).2,(AdR.1 hb).2⟩
  exact AcC hM hx hy h1 h2
 ·subst hl
  have h0:=of_decide_eq_true hlim
  exact ⟨AdN (by omega),AdN (by omega)⟩
 ·obtain ⟨_,acc,⟨b,d,hb,hd,rfl⟩,hM,_,_⟩:=hI
  have e : acc = Ci (ovL p q):=by
   have hpm:=hM.pm
   rw [Zb,Ael] at hpm
   exact MF (FE hap) hM.pw (hpm.trans (DA _).symm)
  have el : acc.length = (ovL p q).length:=by rw [e,CD]
  have gz:=fun H=>YG acc (by omega) H
  rw [<- e,<- el]
  obtain ⟨H2,gF⟩:=ZB (lim:=lim) (q:=acc) (H:=[.cs 73 3 (Ax acc) d false,.cs 29 1 [[.sl 0 acc.length 3 0 acc.length lim]] b false]) (r:=0) rfl rfl rfl hd gz
  generalize (if 5000 < acc.length then I.nl 4 else .sl (Af acc)) = z at *
  generalize (if 5000 < acc.length then (6 : Int) else 0) = e0 at *
  simp (maxSteps:=2000000) (disch:=omega) [Ab,hb,cl gF]
theorem Vo {v w : I} {p q : List Ce} (hv : IsSl v (Af p)) (hw : IsSl w (Af q)) (hp : AL p = true) (hq : AL q = true) (has : Bool) (H : Hp) : Gives G 93 [.m v,.m w,.m (.b has)] H (.m (zP (pkF p q has))) H:=by
 have lp:=(Av hp).2.2
 obtain ⟨_,gq,lq⟩:=Av hq
 have hr:=hv.rules
 simp only [show (Af p).length = p.length from by simp [Af]] at hr
 have gh : ∀ (c : Ce) H,Gives G 122 [.m w,.m (.ag [.i .i64 c.x,.i .i64 c.y,.i .i64 c.s])] H (.m (.b (Jb q c))) H:=fun c H=>by
  have gg:=fun H=>AcQ hw (by omega) c.x c.y H
  rw [Vp gq]
  refine Ae rfl rfl rfl rfl rfl ?_
  simp (maxSteps:=2000000) (disch:=omega) [cl (gg _)]
 refine Ae rfl rfl rfl rfl rfl ?_
 simp (maxSteps:=2000000) (disch:=omega) []
 refine (?key : ∀ (i : Nat) (f : List Ce) (o : V) (B : List (Nat × List V)) (H1 : Hp),i <= p.length -> f = pkF (p.take i) q has -> Jl f o H1 -> Run G c93_B0 (S93_0 (.m v) (.m w) (.m (.b has)) o (.m (.i .i64 (i : Int))) B H1) _) 0 [] _ _ _ (Adz _) rfl (.inl ⟨rfl,rfl,rfl⟩)
 refine Bi (fun i : Nat=>p.length - i) fun i ih f o B H1 hi hf ho=>?_
 unfold c93_B0
 obtain ⟨hvw,hnf⟩:=BW ho
 cases hx : p[i]? with
 | some c =>
  have hlt:=(Al hx).1
  have hlt' : (i : Int) < p.length:=by omega
  have hn:=An hx
  have wi : wr .i64 ((i : Int) + 1) = ((i + 1 : Nat) : Int):=Aa (by omega) (by omega)
  have htk : pkF (p.take (i + 1)) q has = pkF (p.take i) q has ++ if (Jb q c == has) = true then [c] else []:=by
   unfold pkF
   rw [Ao hx,List.filter_append,List.filter_cons,List.filter_nil]
  have gc:=gh c
  by_cases hh : Jb q c = has
  ·have hb : (Jb q c == has) = true:=by simp [hh]
   rw [Adu hb,<- hf] at htk
   have hfl : f.length <= 1000000:=by
    rw [hf]
    have h2 : (pkF (p.take i) q has).length <= (p.take i).length:=Aeu _ _
    rw [AdE] at h2
    omega
   obtain ⟨o1,H2,ha,hn1,ho1⟩:=BM ho hfl c
   have k2:=fun B'=>ih (i + 1) (by omega) (f ++ [c]) o1 B' H2 (by omega) htk.symm ho1
   rw [hh] at gc
   simp (maxSteps:=2000000) (disch:=omega) [hr,hlt',hn,wi,cl (gc _),ha,Ap hn1,-Int.natCast_add]
   exact k2 _
  ·have hb : (Jb q c == has) = false:=by simpa using hh
   rw [Ads (by rw [hb]; simp),Ael,<- hf] at htk
   have k2:=fun B'=>ih (i + 1) (by omega) f o B' H1 (by omega) htk.symm ho
   generalize Jb q c = oc at *
   simp (maxSteps:=2000000) (disch:=omega) [hr,hlt',hn,wi,cl (gc _),hb,-Int.natCast_add]
   exact k2 _
 | none =>
  have : i = p.length:=by have:=Adv.1 hx; omega
  subst this
  rw [AdQ] at hf
  rw [<- hf]
  generalize zP f = z at *
  simp (maxSteps:=2000000) (disch:=omega) [hr,hvw,Ap hnf]
  exact hnf
theorem Za {v w : I} {p q : List Ce} (hv : IsSl v (Af p)) (hw : IsSl w (Af q)) (hp : AL p = true) (hq : AL q = true) (H : Hp) : Gives G 49 [.m v,.m w] H (.tu [.m (zP (BV p q).1),.m (.i .i64 (BV p q).2)]) H:=by
 obtain ⟨wp,gp,lp⟩:=Av hp
 obtain ⟨wq,gq,lq⟩:=Av hq
 have g1:=fun H=>Fj hv (by omega) H
 have g2:=fun H=>Fj hw (by omega) H
 rw [hp] at g1
 rw [hq] at g2
 have g3:=fun H=>Vo hw hv hq hp false H
 have hrv:=hv.rules
 have hrz:=(Ch (pkF q p false)).rules
 have hap:=Ot (Dh wp) (Dh wq)
 have hlen:=ML p q
 have hl2 : (pkF q p false).length <= 5000:=by
  have h2 : (pkF q p false).length <= q.length:=Aeu _ _
  omega
 have hgd : ∀ c,c ∈ ovL p q -> Cr c = true:=fun c hc=>by
  unfold ovL pkF at hc
  rcases AdX.1 hc with hc | hc
  ·exact gp c hc
  ·exact gq c (List.mem_filter.1 hc).1
 refine Ae rfl rfl rfl rfl rfl ?_
 obtain ⟨o1,H1,a1,n1,h1⟩:=FK (f:=[]) (g:=p) (o:=.m (.nl 4)) (H:=[]) (.inl ⟨rfl,rfl,rfl⟩) (by simp) (by omega)
 obtain ⟨o2,H2,a2,n2,h2⟩:=FK h1 (g:=pkF q p false) (by simp; omega) (by omega)
 rw [List.nil_append] at h2
 have a1' : ∀ B,Am (fun _ _ _=>none) ⟨B,[]⟩ (.app 73 3 24) [.m (.nl 4),.m v] = some (o1,⟨B,H1⟩):=fun B=>by
  rw [Cd (hrv.2.2 [])]
  exact a1 B
 have a2' : ∀ B,Am (fun _ _ _=>none) ⟨B,H1⟩ (.app 73 3 24) [o1,.m (zP (pkF q p false))] = some (o2,⟨B,H2⟩):=fun B=>by
  rw [Cd (hrz.2.2 H1)]
  exact a2 B
 have h2 : Jl (ovL p q) o2 H2:=h2
 have gs : ∀ H,Gives G 94 [.m (zP (ovL p q))] H (.tu [.m (zP (BV p q).1),.m (.i .i64 (BV p q).2)]) H:=fun H=>by
  unfold BV
  by_cases h5 : 5000 < (ovL p q).length
  ·rw [Adu h5]
   have hrl:=(Ch (ovL p q)).rules
   simp only [show (Af (ovL p q)).length = (ovL p q).length from by simp [Af]] at hrl
   generalize zP (ovL p q) = z at *
   refine Ae rfl rfl rfl rfl rfl ?_
   simp (maxSteps:=2000000) (disch:=omega) [hrl,show (5000 : Int) < (ovL p q).length from by omega]
   rfl
  ·rw [Ads h5]
   exact Gn (Ch (ovL p q)) (by omega) hgd hap H
 obtain ⟨H3,gF⟩:=GX rfl rfl h2 gs
 generalize zP (pkF q p false) = z1 at *
 generalize zP (BV p q).1 = z2 at *
 simp (maxSteps:=2000000) (disch:=omega) [cl (g1 _),cl (g2 _),Ad,-DM,a1',cl (g3 _),a2',Ap n1,Ap n2,cl gF]
end Go.Mx.Tryz
