/- RecipeBoth: the syntheses alike, the arguments, the law. -/
import Derived.Test.YtlhjjcaifenlbaaGreatDoorNb
set_option linter.unusedSimpArgs false
set_option linter.unusedVariables false
set_option linter.unusedSectionVars false
set_option maxRecDepth 100000
namespace Go.Mx.Tryz
open Go.Lib Go.Proofs
theorem YI {p : List Ce} {a b : Int} : (shF p a b).2 = 0 ↔ ((-2097152 <= a /\ a <= 2097152) /\ (-2097152 <= b /\ b <= 2097152)) /\ ∀ c,c ∈ p -> AF (c.x + a) (c.y + b) = true:=by
 unfold shF
 by_cases h : (-2097152 <= a /\ a <= 2097152) /\ (-2097152 <= b /\ b <= 2097152)
 ·rw [Adu h]
  by_cases h2 : (p.all fun c=>AF (c.x + a) (c.y + b)) = true
  ·rw [Adu h2]
   exact ⟨fun _=>⟨h,fun c hc=>AdH.1 h2 c hc⟩,fun _=>rfl⟩
  ·rw [Ads h2]
   exact ⟨fun h=>(by cases h),fun h=>absurd (AdH.2 h.2) h2⟩
 ·rw [Ads h]
  exact ⟨fun h=>(by cases h),fun h2=>absurd h2.1 h⟩
theorem Zi {t : TreeC} (hS : DX t) {l : List Sh} {x : St5} {dx dy : Int} (hx : (plF t l x).2 = 0) (h1 : -2097152 <= dx /\ dx <= 2097152) (h2 : -2097152 <= dy /\ dy <= 2097152) : (shF (plF t l x).1 dx dy).2 = 0 ↔ (plF t l (mv0 dx dy x)).2 = 0:=by
 unfold plF mv0 at *
 dsimp only at *
 by_cases hq : AJ t = true
 rotate_left
 ·rw [Ads hq] at hx; cases hx
 rw [Adu hq] at hx ⊢
 rw [Adu hq]
 cases hg : (if 0 <= x.i then l[x.i.toNat]? else none) with
 | none=>rw [hg] at hx; cases hx
 | some s =>
  rw [hg] at hx
  dsimp only at hx ⊢
  by_cases hc : (0 <= x.k /\ x.k <= 7) /\ ((0 <= x.n /\ x.n <= 10000) /\ AU t s = true)
  rotate_left
  ·rw [Ads hc] at hx; cases hx
  rw [Adu hc] at hx ⊢
  have hR:=DR hS hc.2.2
  have hlt : ((x.n.toNat % s.m.1.toNat : Nat) : Int) < s.m.1:=by
   have:=hR.p1
   have:=Nat.mod_lt x.n.toNat (show 0 < s.m.1.toNat from by omega)
   omega
  obtain ⟨_,_,k3,k4⟩:=Lk hR hlt x.k.toNat
  generalize PH t s (x.n.toNat % s.m.1.toNat) x.k.toNat = P at *
  rw [(Ev k3).2 hx,YI,Adu hc,YI]
  rw [YI] at hx
  cases P with
  | nil=>exact absurd rfl k4
  | cons c r =>
   have hb:=AH k3 (AdL ..)
   constructor
   ·intro h
    have hall : ∀ d,d ∈ c :: r -> AF (d.x + (x.x + dx)) (d.y + (x.y + dy)) = true:=fun d hd=>by
     have:=h.2 _ (AdU.2 ⟨d,hd,rfl⟩)
     unfold mvC at this
     dsimp only at this
     rw [show d.x + (x.x + dx) = d.x - -x.x + dx from by omega,show d.y + (x.y + dy) = d.y - -x.y + dy from by omega]
     exact this
    refine ⟨?_,hall⟩
    have:=hall c (AdL ..)
    unfold AF at this
    simp only [AdF] at this
    omega
   ·intro h
    refine ⟨⟨h1,h2⟩,fun e he=>?_⟩
    obtain ⟨d,hd,rfl⟩:=AdU.1 he
    have:=h.2 d hd
    unfold mvC
    dsimp only
    rw [show d.x - -x.x + dx = d.x + (x.x + dx) from by omega,show d.y - -x.y + dy = d.y + (x.y + dy) from by omega]
    exact this
set_option maxHeartbeats 8000000 in
theorem Adi {t : TreeC} {h n zs1 zx1 vr1 zs2 zx2 vr2 : I} {es fs1 fs2 : List (List I)} {l1 l2 : List Sh} {xs1 xs2 : List St5} {g1 g2 : Int} {r1 r2 : List Ce} (hT : TreeV t h n es) (hA : RecA zs1 zx1 vr1 fs1 l1 xs1 g1 r1) (hB : RecA zs2 zx2 vr2 fs2 l2 xs2 g2 r2) (dx dy : Int) : ∃ x,PW (fs1 ++ fs2) (xs1 ++ xs2.map (mvS l1.length dx dy)) g1 (BV r1 (shF r2 dx dy).1).1 (GM t l1 l2 xs1 xs2 g1 g2 r1 r2 dx dy) x /\ ∀ H,Gives G 19 [.m (.ag [.i .i64 t.states,h,n]),.m (.ag [zs1,zx1,.i .i64 g1,vr1]),.m (.ag [zs2,zx2,.i .i64 g2,vr2]),.m (.i .i64 dx),.m (.i .i64 dy)] H x H:=by
 have hS:=Ca hT
 have hca:=fun H=>JY hT hA (by have:=Cu t l1 xs1 g1 r1; omega) (by have:=Fi hS (Bh t l1 xs1 g1 r1).1 g1; omega) H
 have hcb:=fun H=>JY hT hB (by have:=Cu t l2 xs2 g2 r2; omega) (by have:=Fi hS (Bh t l2 xs2 g2 r2).1 g2; omega) H
 generalize hE : GM t l1 l2 xs1 xs2 g1 g2 r1 r2 dx dy = E
 unfold GM at hE
 by_cases c1 : Bv t l1 xs1 g1 r1 = 0
 rotate_left
 ·rw [Ads c1] at hE
  subst hE
  generalize Bv t l1 xs1 g1 r1 = e at *
  refine ⟨_,.inl ⟨c1,rfl⟩,fun H=>Ae rfl rfl rfl rfl rfl ?_⟩
  simp (maxSteps:=2000000) (disch:=omega) [Ab,cl (hca _),c1,zrI]
 rw [Adu c1] at hE
 by_cases c2 : Bv t l2 xs2 g2 r2 = 0
 rotate_left
 ·rw [Ads c2] at hE
  subst hE
  rw [c1] at hca
  generalize Bv t l2 xs2 g2 r2 = e at *
  refine ⟨_,.inl ⟨c2,rfl⟩,fun H=>Ae rfl rfl rfl rfl rfl ?_⟩
  simp (maxSteps:=2000000) (disch:=omega) [Ab,cl (hca _),cl (hcb _),c2,zrI]
 rw [Adu c2] at hE
 have p1:=IZ (FQ c1)
 have p2:=IZ (FQ c2)
 rw [c1] at hca
 rw [c2] at hcb
 by_cases hg : g1 = g2
 rotate_left
 ·rw [Ads hg] at hE
  subst hE
  refine ⟨_,.inl ⟨by decide,rfl⟩,fun H=>Ae rfl rfl rfl rfl rfl ?_⟩
  simp (maxSteps:=2000000) (disch:=omega) [Ab,cl (hca _),cl (hcb _),hg,zrI]
 rw [Adu hg] at hE
 subst hg
 by_cases hd : (-2097152 <= dx /\ dx <= 2097152) /\ (-2097152 <= dy /\ dy <= 2097152)
 rotate_left
 ·rw [Ads hd] at hE
  subst hE
  refine ⟨_,.inl ⟨by decide,rfl⟩,fun H=>Ae rfl rfl rfl rfl rfl ?_⟩
  by_cases h1 : dx < -2097152
  ·simp (maxSteps:=2000000) (disch:=omega) [Ab,cl (hca _),cl (hcb _),h1,zrI]
  by_cases h2 : 2097152 < dx
  ·simp (maxSteps:=2000000) (disch:=omega) [Ab,cl (hca _),cl (hcb _),h1,h2,zrI]
  by_cases h3 : dy < -2097152
  ·simp (maxSteps:=2000000) (disch:=omega) [Ab,cl (hca _),cl (hcb _),h1,h2,h3,zrI]
  ·have h4 : 2097152 < dy:=by omega
   simp (maxSteps:=2000000) (disch:=omega) [Ab,cl (hca _),cl (hcb _),h1,h2,h3,h4,zrI]
 rw [Adu hd] at hE
 have d1 : ¬ dx < -2097152:=by omega
 have d2 : ¬ 2097152 < dx:=by omega
 have d3 : ¬ dy < -2097152:=by omega
 have d4 : ¬ 2097152 < dy:=by omega
 have hrs1:=hA.s.rules
 rw [hA.sv.1] at hrs1
 have hrs2:=hB.s.rules
 rw [hB.sv.1] at hrs2
 have hrx1:=hA.x.rules
 rw [BE] at hrx1
 have hrx2:=hB.x.rules
 rw [BE] at hrx2
 obtain ⟨ok1,el1⟩:=GU hA.sv
 obtain ⟨ok2,el2⟩:=GU hB.sv
 obtain ⟨ok3,el3⟩:=FR xs1
 have hsv:=HY hA.sv hB.sv
 have hrr2:=(Bd p2.2.2.2.1).2.1
 have hrr1:=(Bd p1.2.2.2.1).2.1
 have gsh:=fun H=>JN hB.r hrr2 dx dy H
 have hr3:=(Ev hrr2 (dx:=dx) (dy:=dy)).1
 have gov:=fun H=>Za hA.r (Ch (shF r2 dx dy).1) hrr1 hr3 H
 have hl1:=p1.2.1
 have hl2:=p2.2.1
 have key : ∃ x H',Gives G 19 [.m (.ag [.i .i64 t.states,h,n]),.m (.ag [zs1,zx1,.i .i64 g1,vr1]),.m (.ag [zs2,zx2,.i .i64 g1,vr2]),.m (.i .i64 dx),.m (.i .i64 dy)] [] x H' /\ (H' = [] /\ PW (fs1 ++ fs2) (xs1 ++ xs2.map (mvS l1.length dx dy)) g1 (BV r1 (shF r2 dx dy).1).1 E x):=by
  refine AI ?_
  refine Cl rfl rfl rfl rfl rfl ?_
  generalize hQ : (fun (x : V) (H' : Hp)=>H' = [] /\ PW (fs1 ++ fs2) (xs1 ++ xs2.map (mvS l1.length dx dy)) g1 (BV r1 (shF r2 dx dy).1).1 E x) = Q
  have qe : ∀ e,E = e -> ¬ e = 0 -> Q (.tu [.m zrI,.m (.i .i64 e)]) []:=fun e h1 h2=>by rw [<- hQ]; exact ⟨rfl,.inl ⟨by rw [h1]; exact h2,by rw [h1]⟩⟩
  have qk : ∀ z zx vr,E = 0 -> IsSl z (fs1 ++ fs2) -> IsSl zx (BN (xs1 ++ xs2.map (mvS l1.length dx dy))) -> IsSl vr (Af (BV r1 (shF r2 dx dy).1).1) -> Q (.tu [.m (.ag [z,zx,.i .i64 g1,vr]),.m (.i .i64 0)]) []:=fun z zx vr h1 h2 h3 h4=>by rw [<- hQ]; exact ⟨rfl,.inr ⟨h1,z,zx,vr,h2,h3,h4,rfl⟩⟩
  clear hQ
  simp only [zrI] at qe
  obtain ⟨o0,H0,a0,n0,L0,_,_⟩:=(LK.nil (ty:=69) (w:=4) (H:=[])).push (by omega) (b:=48) (by omega) (ys:=fs1) (by rw [hA.sv.1]; simp; omega) ok1
  rw [List.nil_append] at L0
  obtain ⟨o1,H1,a1,n1,L1,_,_⟩:=L0.push (by omega) (b:=48) (by omega) (by rw [hA.sv.1,hB.sv.1]; omega) ok2
  obtain ⟨o2,H2,a2,n2,L2,_,k2⟩:=(LK.nil (ty:=57) (w:=5) (H:=H1)).push (by omega) (b:=40) (by omega) (ys:=BN xs1) (by rw [BE]; simp; omega) ok3
  rw [List.nil_append] at L2
  have a0' : ∀ B,Am (fun _ _ _=>none) ⟨B,[]⟩ (.app 69 4 48) [.m (.nl 4),.m zs1] = some (o0,⟨B,H0⟩):=fun B=>by
   rw [Cd (hrs1.2.2 [])]
   exact a0 B
  have a1' : ∀ B,Am (fun _ _ _=>none) ⟨B,H0⟩ (.app 69 4 48) [o0,.m zs2] = some (o1,⟨B,H1⟩):=fun B=>by
   rw [Cd (hrs2.2.2 H0)]
   exact a1 B
  have a2' : ∀ B,Am (fun _ _ _=>none) ⟨B,H1⟩ (.app 57 5 40) [.m (.nl 4),.m zx1] = some (o2,⟨B,H2⟩):=fun B=>by
   rw [Cd (hrx1.2.2 H1)]
   exact a2 B
  have L1 : LK 69 4 (fs1 ++ fs2) o1 H2:=L1.keep fun r hr=>by
   rcases L1 with ⟨_,rfl⟩ | ⟨_,q,rfl,h3⟩
   ·cases hr
   ·cases hr
    exact k2 _ (by intro h; cases h) (GL h3)
  obtain ⟨m1,m2,m3,_⟩:=L0.nf
  obtain ⟨m4,m5,m6,_⟩:=L1.nf
  obtain ⟨m7,m8,m9,_⟩:=L2.nf
  have hmT : mkAg [.m (.i .i64 t.states),.m h,.m n] = .m (.ag [.i .i64 t.states,h,n]):=rfl
  have hmA : mkAg [.m zs1,.m zx1,.m (.i .i64 g1),.m vr1] = .m (.ag [zs1,zx1,.i .i64 g1,vr1]):=rfl
  have hmB : mkAg [.m zs2,.m zx2,.m (.i .i64 g1),.m vr2] = .m (.ag [zs2,zx2,.i .i64 g1,vr2]):=rfl
  have hmC : mkAg [.m (.nl 4),.m (.nl 4),.m (.i .i64 g1),.m (.nl 4)] = .m (.ag [.nl 4,.nl 4,.i .i64 g1,.nl 4]):=rfl
  simp (maxSteps:=2000000) (disch:=omega) [Ab,-AE,hmT,hmA,hmB,hmC,cl (hca _),cl (hcb _),d1,d2,d3,d4,-DM,a0',a1',a2',m2,m5,m8,m3,m6,m9]
  have hall0 : xs1 ++ (xs2.take 0).map (mvS l1.length dx dy) = xs1:=by simp
  refine (?key : ∀ (i : Nat) (o2 : V) (B : List (Nat × List V)) (H2 : Hp),i <= xs2.length -> xs2.all (okS t l2 dx dy) = (xs2.drop i).all (okS t l2 dx dy) -> LK 69 4 (fs1 ++ fs2) o1 H2 -> LK 57 5 (BN (xs1 ++ (xs2.take i).map (mvS l1.length dx dy))) o2 H2 -> getB B 5 = some [.m (.i .i64 t.states),.m h,.m n] -> getB B 6 = some [.m zs1,.m zx1,.m (.i .i64 g1),.m vr1] -> getB B 7 = some [.m zs2,.m zx2,.m (.i .i64 g1),.m vr2] -> getB B 10 = some [.m (.nl 4),.m (.nl 4),.m (.i .i64 0),.m (.nl 4)] -> getB B 14 = some [o1,o2,.m (.i .i64 g1),.m (.nl 4)] -> Run G c19_B0 (S19_0 (.m (.i .i64 dx)) (.m (.i .i64 dy)) (.fa 5 0) (.fa 6 0) (.fa 7 0) (.fa 10 0) (.fa 14 0) (.m (.i .i64 (i : Int))) B H2) _) 0 o2 _ _ (Adz _) rfl L1 (by rw [hall0]; exact L2) rfl rfl rfl rfl rfl
  clear a0' a1' a2' a0 a1 a2 L0 L1 L2 k2 m1 m2 m3 m7 m8 m9 n2
  refine Bi (fun i : Nat=>xs2.length - i) fun i ih o2 B H2 hi hall hk1 hk2 b5 b6 b7 b10 b14=>?_
  unfold c19_B0
  cases hx : xs2[i]? with
  | some x =>
   have hlt:=(Adq.1 hx).1
   have hlt' : (i : Int) < xs2.length:=by omega
   have hn:=DG hx
   have wi : wr .i64 ((i : Int) + 1) = ((i + 1 : Nat) : Int):=Aa (by omega) (by omega)
   have hpx:=YT p2.2.2.2.2.2.1 x (Ady hx)
   obtain ⟨⟨nx,ny⟩,ni,ni2⟩:=Sz hpx
   have w1 : wr .i64 (x.x + dx) = x.x + dx:=Aa (by omega) (by omega)
   have w2 : wr .i64 (x.y + dy) = x.y + dy:=Aa (by omega) (by omega)
   have w3 : wr .i64 (x.i + (l1.length : Int)) = x.i + (l1.length : Int):=Aa (by omega) (by omega)
   have gp:=fun H=>Sy hT hB.s hB.sv x H
   simp only [EQ] at gp
   have gsx:=fun H=>JN (Ch (plF t l2 x).1) (YS hS (l:=l2) (x:=x)).1 dx dy H
   have hiff:=Zi hS hpx hd.1 hd.2
   have hst : (xs2.drop i).all (okS t l2 dx dy) = (okS t l2 dx dy x && (xs2.drop (i + 1)).all (okS t l2 dx dy)):=by rw [(Al hx).2]; rfl
   have hoe : okS t l2 dx dy x = decide ((plF t l2 (mv0 dx dy x)).2 = 0):=rfl
   by_cases he : (plF t l2 (mv0 dx dy x)).2 = 0
   ·rw [AdA he] at hoe
    rw [hoe,Aev] at hst
    rw [hiff.2 he] at gsx
    clear hiff
    generalize (plF t l2 x).1 = pp at *
    generalize (plF t l2 x).2 = pe at *
    generalize (shF pp dx dy).1 = qq at *
    have hxl : (BN (xs1 ++ (xs2.take i).map (mvS l1.length dx dy))).length + 1 <= 100000000:=by
     rw [BE,AdC,AdJ,AdE]
     omega
    obtain ⟨o3,H3,a3,_,h3,hlen3,hk3⟩:=hk2.push (by omega) (b:=40) (by omega) (ys:=BN [mvS l1.length dx dy x]) hxl (FR _).1
    have a3 : ∀ B,Ea ⟨B,H2⟩ 57 5 40 o2 [[.m (.i .i64 (x.i + (l1.length : Int))),.m (.i .i64 x.n),.m (.i .i64 x.k),.m (.i .i64 (x.x + dx)),.m (.i .i64 (x.y + dy))]] = some (o3,⟨B,H3⟩):=a3
    have e3 : BN (xs1 ++ (xs2.take i).map (mvS l1.length dx dy)) ++ BN [mvS l1.length dx dy x] = BN (xs1 ++ (xs2.take (i + 1)).map (mvS l1.length dx dy)):=by
     rw [Ao hx]
     simp [BN]
    rw [e3] at h3
    have hk1' : LK 69 4 (fs1 ++ fs2) o1 H3:=hk1.keep fun r hr=>by
     rcases hk1 with ⟨_,rfl⟩ | ⟨_,q,rfl,h4⟩
     ·cases hr
     ·cases hr
      refine hk3 _ (fun hr2=>?_) (GL h4)
      rcases hk2 with ⟨_,rfl⟩ | ⟨_,q2,rfl,h5⟩
      ·cases hr2
      ·cases hr2
       rw [h4] at h5
       injection h5 with h5
       injection h5 with _ h6
       cases h6
    obtain ⟨u1,u2,u3,u4⟩:=h3.nf
    obtain ⟨v1,v2,v3,v4⟩:=hk2.nf
    have k2:=fun B'=>ih (i + 1) (by omega) o3 B' H3 (by omega) (by rw [hall,hst]) hk1' h3
    simp (maxSteps:=2000000) (disch:=omega) [Ab,hrx2,hlt',hn,w1,w2,w3,b5,b6,b7,b14,hrs1,cl (gp _),cl (gsx _),a3,u2,u3,wi,-Int.natCast_add]
    exact k2 _ (by simpa using b5) (by simpa using b6) (by simpa using b7) (by simpa using b10) (by simp [])
   ·rw [AdB he] at hoe
    rw [hoe,Bool.false_and] at hst
    have k2:=qe 5 (by rw [<- hE,Ads (by rw [hall,hst]; simp)]) (by decide)
    have he2 : ¬ (shF (plF t l2 x).1 dx dy).2 = 0:=fun h=>he (hiff.1 h)
    clear hiff
    generalize (plF t l2 x).1 = pp at *
    generalize (plF t l2 x).2 = pe at *
    generalize shF pp dx dy = qq at *
    simp (maxSteps:=2000000) (disch:=omega) [Ab,hrx2,hlt',hn,b5,b7,b10,cl (gp _),cl (gsx _),he2]
    exact k2
  | none =>
   have : i = xs2.length:=by have:=Adv.1 hx; omega
   subst this
   have hall2 : (xs2.all (okS t l2 dx dy)) = true:=by rw [hall,Aeg]; rfl
   rw [Adu hall2] at hE
   rw [AdQ] at hk2
   clear ih hx hi hall
   generalize hov : BV r1 (shF r2 dx dy).1 = ov at *
   generalize hsh : shF r2 dx dy = sh at *
   by_cases e3 : sh.2 = 0
   rotate_left
   ·rw [Ads e3] at hE
    have k2:=qe 5 hE.symm (by decide)
    simp (maxSteps:=2000000) (disch:=omega) [Ab,hrx2,b7,b10,cl (gsh _),e3]
    exact k2
   rw [Adu e3] at hE
   rw [e3] at gsh
   have hx4:=Ch ov.1
   have ox4 : Cv (.m (zP ov.1)) = true:=CF hx4
   have cx4 : Au (.m (zP ov.1)) = some [.m (zP ov.1)]:=FO hx4
   by_cases e4 : ov.2 = 0
   rotate_left
   ·rw [Ads e4] at hE
    have k2:=qe ov.2 hE.symm e4
    simp (maxSteps:=2000000) (disch:=omega) [Ab,hrx2,b6,b7,b10,cl (gsh _),cl (gov _),e4]
    exact k2
   rw [Adu e4] at hE
   rw [e4] at gov
   have vz1:=fun k=>hk1.view k
   have vz2:=fun k=>hk2.view k
   obtain ⟨y1,y2,y3,_⟩:=hk1.nf
   obtain ⟨y5,y6,y7,_⟩:=hk2.nf
   have y4 : Bm o1 = true:=by rcases hk1 with ⟨_,rfl⟩ | ⟨_,r,rfl,_⟩ <;> rfl
   have y8 : Bm o2 = true:=by rcases hk2 with ⟨_,rfl⟩ | ⟨_,r,rfl,_⟩ <;> rfl
   have ov4 : ov.1.length <= 5000:=by
    rw [<- hov]
    unfold BV
    split
    ·simp
    ·rw [CD]; omega
   have hA3 : RecA (zK (fs1 ++ fs2)) (zK (BN (xs1 ++ xs2.map (mvS l1.length dx dy)))) (zP ov.1) (fs1 ++ fs2) (l1 ++ l2) (xs1 ++ xs2.map (mvS l1.length dx dy)) g1 ov.1:=⟨RW _,hsv,RW _,hx4,by rw [AdC]; omega,by rw [AdC,AdJ]; omega,by omega⟩
   have hcc:=fun H=>JY hT hA3 (by have:=Cu t (l1 ++ l2) (xs1 ++ xs2.map (mvS l1.length dx dy)) g1 ov.1; omega) (by have:=Fi hS (Bh t (l1 ++ l2) (xs1 ++ xs2.map (mvS l1.length dx dy)) g1 ov.1).1 g1; omega) H
   have k3:=fun h=>qk _ _ _ h (RW (fs1 ++ fs2)) (RW (BN (xs1 ++ xs2.map (mvS l1.length dx dy)))) hx4
   generalize zK (fs1 ++ fs2) = z1 at *
   generalize zK (BN (xs1 ++ xs2.map (mvS l1.length dx dy))) = z2 at *
   generalize zP ov.1 = x4 at *
   have hvl : Ah (Mx.view 19 H2) [o1,o2,.m (.i .i64 g1),.m x4] = some [z1,z2,.i .i64 g1,x4]:=by
    simp only [Ah,vz1 17,vz2 17,Adx]
    rfl
   have gW:=Tx (F:=16) (H:=H2) rfl rfl hvl (by show (Bm o1 && (Bm o2 && true)) = true; rw [y4,y8]; rfl) hcc rfl
   obtain ⟨W,hW⟩ : ∃ W,W = mkAg [o1,o2,.m (.i .i64 g1),.m x4]:=⟨_,rfl⟩
   have hWc : Au W = some [o1,o2,.m (.i .i64 g1),.m x4]:=by rw [hW]; exact Gr _
   have hWn : AA W = true:=by rw [hW]; exact MO _
   have hWv : view 20 H2 W = some (.ag [z1,z2,.i .i64 g1,x4]):=by rw [hW]; exact Ik (k:=18) hvl
   rw [<- hW] at gW
   by_cases e5 : Bv t (l1 ++ l2) (xs1 ++ xs2.map (mvS l1.length dx dy)) g1 ov.1 = 0
   ·rw [e5] at gW hE
    have k2:=k3 hE.symm
    simp (maxSteps:=2000000) (disch:=omega) [Ab,-AE,hmT,hrx2,b5,b6,b7,b10,b14,cl (gsh _),cl (gov _),hW.symm,cl gW,hWc,hWv,ox4,cx4,y3,y7]
    exact k2
   ·have k2:=qe _ hE.symm e5
    generalize Bv t (l1 ++ l2) (xs1 ++ xs2.map (mvS l1.length dx dy)) g1 ov.1 = e at *
    have hz0 : mkAg [.m (.nl 4),.m (.nl 4),.m (.i .i64 0),.m (.nl 4)] = .m (.ag [.nl 4,.nl 4,.i .i64 0,.nl 4]):=rfl
    simp (maxSteps:=2000000) (disch:=omega) [Ab,-AE,hmT,hz0,hrx2,b5,b6,b7,b10,b14,cl (gsh _),cl (gov _),hW.symm,cl gW,e5,ox4,cx4]
    exact k2
 obtain ⟨x,H',g,rfl,hV⟩:=key
 exact ⟨x,hV,fun H=>AT (H:=H) (is:=[.ag [.i .i64 t.states,h,n],.ag [zs1,zx1,.i .i64 g1,vr1],.ag [zs2,zx2,.i .i64 g1,vr2],.i .i64 dx,.i .i64 dy]) rfl rfl g rfl (.inl ⟨by rcases hV with ⟨_,rfl⟩ | ⟨_,z,zx,vr,_,_,_,rfl⟩ <;> rfl,rfl⟩)⟩
end Go.Mx.Tryz
set_option maxHeartbeats 4000000
namespace Go.Mx.Tryz
open Go.Lib Go.Proofs
theorem ZD {t : TreeC} {l1 l2 : List Sh} {xs1 xs2 : List St5} {g1 g2 : Int} {r1 r2 : List Ce} {dx dy : Int} (h : GM t l1 l2 xs1 xs2 g1 g2 r1 r2 dx dy = 0) : Bv t (l1 ++ l2) (xs1 ++ xs2.map (mvS l1.length dx dy)) g1 (BV r1 (shF r2 dx dy).1).1 = 0:=by
 unfold GM at h
 by_cases c1 : Bv t l1 xs1 g1 r1 = 0
 rotate_left
 ·rw [Ads c1] at h; exact absurd h c1
 rw [Adu c1] at h
 by_cases c2 : Bv t l2 xs2 g2 r2 = 0
 rotate_left
 ·rw [Ads c2] at h; exact absurd h c2
 rw [Adu c2] at h
 by_cases c3 : g1 = g2
 rotate_left
 ·rw [Ads c3] at h; cases h
 rw [Adu c3] at h
 by_cases c4 : (-2097152 <= dx /\ dx <= 2097152) /\ (-2097152 <= dy /\ dy <= 2097152)
 rotate_left
 ·rw [Ads c4] at h; cases h
 rw [Adu c4] at h
 by_cases c5 : (xs2.all (okS t l2 dx dy)) = true
 rotate_left
 ·rw [Ads c5] at h; cases h
 rw [Adu c5] at h
 by_cases c6 : (shF r2 dx dy).2 = 0
 rotate_left
 ·rw [Ads c6] at h; cases h
 rw [Adu c6] at h
 by_cases c7 : (BV r1 (shF r2 dx dy).1).2 = 0
 rotate_left
 ·rw [Ads c7] at h; exact absurd h c7
 rw [Adu c7] at h
 exact h
theorem So {z z2 x x2 v w : I} {fs : List (List I)} {l : List Sh} {xs : List St5} {g : Int} {p : List Ce} (h1 : IsSl z fs) (h2 : IsSl z2 fs) (hs : FT fs l) (h3 : IsSl x (BN xs)) (h4 : IsSl x2 (BN xs)) (h5 : IsSl v (Af p)) (h6 : IsSl w (Af p)) (ll : l.length <= 1000000) (lx : xs.length <= 1000000) (lp : p.length <= 1000000) (H : Hp) : Gives G 20 [.m (.ag [z,x,.i .i64 g,v]),.m (.ag [z2,x2,.i .i64 g,w])] H (.m (.b true)) H:=by
 have r1:=h1.rules
 have r2:=h2.rules
 rw [hs.1] at r1 r2
 have r3:=h3.rules
 have r4:=h4.rules
 rw [BE] at r3 r4
 have ge:=fun H=>FI h5 h6 lp lp H
 rw [AdA (Fa.2 rfl)] at ge
 refine Ae rfl rfl rfl rfl rfl ?_
 simp (maxSteps:=2000000) (disch:=omega) [r1,r2,r3,r4,Ad,cl (ge _)]
 refine (?_ : ∀ (i : Nat) (B : List (Nat × List V)),i <= l.length -> getB B 2 = some [.m z,.m x,.m (.i .i64 g),.m v] -> getB B 3 = some [.m z2,.m x2,.m (.i .i64 g),.m w] -> Run G c20_B0 (S20_0 (.fa 2 0) (.fa 3 0) (.m (.i .i64 (l.length : Int))) (.m (.i .i64 (i : Int))) B []) _) 0 _ (Adz _) ?h1 ?h2
 case h1=>rfl
 case h2=>rfl
 refine Bi (fun i : Nat=>l.length - i) fun i ih B hi hB hC=>?_
 unfold c20_B0
 cases hx : l[i]? with
 | some s =>
  have hlt:=(Adq.1 hx).1
  have hlt' : (i : Int) < l.length:=by omega
  obtain ⟨hsl,u,hn,hu⟩:=hs.2 i s hx
  have gs:=fun H=>FI hu hu hsl hsl H
  rw [AdA (Fa.2 rfl)] at gs
  have wi : wr .i64 ((i : Int) + 1) = ((i + 1 : Nat) : Int):=Aa (by omega) (by omega)
  simp only [shI] at hn
  have k2:=ih (i + 1) (by omega) B (by omega) hB hC
  simp (maxSteps:=2000000) (disch:=omega) [r1,r2,hlt',hn,hB,hC,Ad,cl (gs _),wi,-Int.natCast_add]
  exact k2
 | none =>
  have : i = l.length:=by have:=Adv.1 hx; omega
  subst this
  clear ih hx hi
  simp (maxSteps:=2000000) (disch:=omega) [hB,r3]
  refine (?_ : ∀ (i : Nat) (B : List (Nat × List V)),i <= xs.length -> getB B 2 = some [.m z,.m x,.m (.i .i64 g),.m v] -> getB B 3 = some [.m z2,.m x2,.m (.i .i64 g),.m w] -> Run G c20_B1 (S20_1 (.fa 2 0) (.fa 3 0) (.m (.i .i64 (xs.length : Int))) (.m (.i .i64 (i : Int))) B []) _) 0 _ (Adz _) hB hC
  clear hB hC B
  refine Bi (fun i : Nat=>xs.length - i) fun i ih B hi hB hC=>?_
  unfold c20_B1
  cases hx : xs[i]? with
  | some y =>
   have hlt:=(Adq.1 hx).1
   have hlt' : (i : Int) < xs.length:=by omega
   have hn:=DG hx
   have wi : wr .i64 ((i : Int) + 1) = ((i + 1 : Nat) : Int):=Aa (by omega) (by omega)
   have k2:=ih (i + 1) (by omega) B (by omega) hB hC
   simp (maxSteps:=2000000) (disch:=omega) [r3,r4,hlt',hn,hB,hC,wi,-Int.natCast_add]
   exact k2
  | none =>
   have : i = xs.length:=by have:=Adv.1 hx; omega
   subst this
   simp (maxSteps:=2000000) (disch:=omega) []
theorem Vu (gw : Gives G 12 [] [] (.m (.b true)) []) {t : TreeC} {h n zs1 zx1 vr1 zs2 zx2 vr2 : I} {es fs1 fs2 : List (List I)} {l1 l2 : List Sh} {xs1 xs2 : List St5} {g1 g2 : Int} {r1 r2 : List Ce} (hT : TreeV t h n es) (hW1 : RecW zs1 zx1 vr1 fs1 l1 xs1 g1 r1) (hW2 : RecW zs2 zx2 vr2 fs2 l2 xs2 g2 r2) (dx dy : Int) : Gives G 4 [.m (.ag [.i .i64 t.states,h,n]),.m (.ag [zs1,zx1,.i .i64 g1,vr1,zs2,zx2,.i .i64 g2,vr2]),.m (.ag [.i .i64 dx,.i .i64 dy])] [] (.m (.b true)) []:=by
 have k1:=fun H=>AcV hT H
 have k2:=fun H=>AcU hW1 H
 have k3:=fun H=>AcU hW2 H
 refine Ae rfl rfl rfl rfl rfl ?_
 cases hf : Aao t with
 | false =>
  rw [hf] at k1
  simp (maxSteps:=2000000) (disch:=omega) [cl (k1 _),Ad,cl gw]
 | true =>
 rw [hf] at k1
 cases hf2 : Zw l1 xs1 g1 r1 with
 | false =>
  rw [hf2] at k2
  simp (maxSteps:=2000000) (disch:=omega) [cl (k1 _),cl (k2 _),Ad,cl gw]
 | true =>
 rw [hf2] at k2
 cases hf3 : Zw l2 xs2 g2 r2 with
 | false =>
  rw [hf3] at k3
  simp (maxSteps:=2000000) (disch:=omega) [cl (k1 _),cl (k2 _),cl (k3 _),Ad,cl gw]
 | true =>
 rw [hf3] at k3
 have hA:=WC hW1 hf2
 have hB:=WC hW2 hf3
 have hS:=Ca hT
 obtain ⟨x,hx,gs⟩:=Adh hT hA hB dx dy
 obtain ⟨y,hy,gr⟩:=Adi hT hA hB dx dy
 by_cases he : GM t l1 l2 xs1 xs2 g1 g2 r1 r2 dx dy = 0
 ·obtain ⟨z,zx,vr,i1,i2,i3,rfl⟩ : ∃ z zx vr,IsSl z (fs1 ++ fs2) /\ IsSl zx (BN (xs1 ++ xs2.map (mvS l1.length dx dy))) /\ IsSl vr (Af (BV r1 (shF r2 dx dy).1).1) /\ x = .tu [.m (.ag [z,zx,.i .i64 g1,vr]),.m (.i .i64 0)]:=by
   rcases hx with ⟨h,_⟩ | ⟨_,h⟩
   ·exact absurd he h
   ·exact h
  obtain ⟨z2,zx2',vr2',j1,j2,j3,rfl⟩ : ∃ z zx vr,IsSl z (fs1 ++ fs2) /\ IsSl zx (BN (xs1 ++ xs2.map (mvS l1.length dx dy))) /\ IsSl vr (Af (BV r1 (shF r2 dx dy).1).1) /\ y = .tu [.m (.ag [z,zx,.i .i64 g1,vr]),.m (.i .i64 0)]:=by
   rcases hy with ⟨h,_⟩ | ⟨_,h⟩
   ·exact absurd he h
   ·exact h
  have hc:=ZD he
  have hp:=IZ (FQ hc)
  have hll:=hp.2.1
  have hlp:=(Av (Bd hp.2.2.2.1).2.1).2.2
  have hsv:=HY hA.sv hB.sv
  have hA3 : RecA z zx vr (fs1 ++ fs2) (l1 ++ l2) (xs1 ++ xs2.map (mvS l1.length dx dy)) g1 (BV r1 (shF r2 dx dy).1).1:=⟨i1,hsv,i2,i3,by omega,by omega,by omega⟩
  have gc:=fun H=>Hh hT hA3 (by have:=Cu t (l1 ++ l2) (xs1 ++ xs2.map (mvS l1.length dx dy)) g1 (BV r1 (shF r2 dx dy).1).1; omega) (by have:=Fi hS (Bh t (l1 ++ l2) (xs1 ++ xs2.map (mvS l1.length dx dy)) g1 (BV r1 (shF r2 dx dy).1).1).1 g1; omega) H
  rw [hc] at gc
  have gm:=fun H=>So (g:=g1) i1 j1 hsv i2 j2 i3 j3 (by omega) (by omega) (by omega) H
  have o1:=CF i1
  have o2:=CF i2
  have o3:=CF i3
  have q1:=CF j1
  have q2:=CF j2
  have q3:=CF j3
  have p1 : Au (.m z) = some [.m z]:=FO i1
  have p2 : Au (.m zx) = some [.m zx]:=FO i2
  have p3 : Au (.m vr) = some [.m vr]:=FO i3
  have s1 : Au (.m z2) = some [.m z2]:=FO j1
  have s2 : Au (.m zx2') = some [.m zx2']:=FO j2
  have s3 : Au (.m vr2') = some [.m vr2']:=FO j3
  simp (maxSteps:=2000000) (disch:=omega) [Ab,cl (k1 _),cl (k2 _),cl (k3 _),Ad,cl (gs _),cl (gr _),cl (gm _),cl (gc _),cl gw,o1,o2,o3,q1,q2,q3]
 ·have ex : x = .tu [.m zrI,.m (.i .i64 (GM t l1 l2 xs1 xs2 g1 g2 r1 r2 dx dy))]:=by
   rcases hx with ⟨_,h⟩ | ⟨h,_⟩
   ·exact h
   ·exact absurd h he
  have ey : y = .tu [.m zrI,.m (.i .i64 (GM t l1 l2 xs1 xs2 g1 g2 r1 r2 dx dy))]:=by
   rcases hy with ⟨_,h⟩ | ⟨h,_⟩
   ·exact h
   ·exact absurd h he
  subst ex
  subst ey
  clear hx hy
  generalize GM t l1 l2 xs1 xs2 g1 g2 r1 r2 dx dy = e at *
  have gm:=fun H=>So (z:=.nl 4) (z2:=.nl 4) (x:=.nl 4) (x2:=.nl 4) (v:=.nl 4) (w:=.nl 4) (fs:=[]) (l:=[]) (xs:=[]) (p:=[]) (g:=0) AC AC ⟨rfl,fun i s hi=>by simp at hi⟩ AC AC AC AC (by simp) (by simp) (by simp) H
  simp only [zrI] at gs gr
  simp (maxSteps:=2000000) (disch:=omega) [Ab,cl (k1 _),cl (k2 _),cl (k3 _),Ad,cl (gs _),cl (gr _),cl (gm _),cl gw,he]
theorem MD (us : List V) (h : FU Go.Proofs.Tryz.prog maxLen 8 Go.Proofs.Tryz.f4.params.toList us) : Gives G 4 us [] (.m (.b true)) []:=by
 have e : Go.Proofs.Tryz.f4.params.toList = [25,41,43]:=by rw [Go.Proofs.Tryz.params4]
 have h:=e ▸ h
 obtain ⟨t,hh,nn,es,r,rfl,hT,h1⟩:=VO (n:=3) (by decide) h
 obtain ⟨l1,r1,rfl,hl1,h2⟩:=Fg h1
 obtain ⟨l2,r2,rfl,hl2,h3⟩:=Fg h2
 have:=PE h3
 subst this
 have ha : Cp Go.Proofs.Tryz.prog 41 = some true:=by unfold Cp; rw [Go.Proofs.Tryz.underlying41]; rfl
 have hb : Cp Go.Proofs.Tryz.prog 43 = some true:=by unfold Cp; rw [Go.Proofs.Tryz.underlying43]; rfl
 rw [Mu ha,Mu hb]
 obtain ⟨d,rfl⟩:=LC (n:=6) hl2
 unfold Fits at hl1
 rw [Go.Proofs.Tryz.underlying41] at hl1
 simp only at hl1
 obtain ⟨es,rfl,hlen,hes⟩:=hl1
 match es,hlen,hes with
 | [a,b],_,hes =>
  obtain ⟨zs,zx,vr,fs,sl,xs,g,res,rfl,hW⟩:=Ji (n:=1) (by decide) (hes a (by simp))
  obtain ⟨zs2,zx2,vr2,fs2,sl2,xs2,g2,res2,rfl,hW2⟩:=Ji (n:=1) (by decide) (hes b (by simp))
  exact Vu Zu hT hW hW2 d.1 d.2
end Go.Mx.Tryz
