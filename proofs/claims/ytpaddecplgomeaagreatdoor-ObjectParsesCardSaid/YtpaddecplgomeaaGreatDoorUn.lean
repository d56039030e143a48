/- Equal and Syms: walked. -/
import Derived.Test.YtpaddecplgomeaaGreatDoorUj
import Derived.Test.YtpaddecplgomeaaGreatDoorSz
set_option linter.unusedSimpArgs false
set_option linter.unusedVariables false
set_option linter.unusedSectionVars false
set_option maxRecDepth 100000
namespace Go.Mx.Tryz
open Go.Lib
theorem PH {l : List Int} {k v : Int} (h : atZ l k = some v) : ∃ n : Nat,k = (n : Int) /\ l[n]? = some v:=by
 cases k with
 | ofNat n=>exact ⟨n,rfl,by rw [<- AA]; exact h⟩
 | negSucc n=>cases h
theorem Pj {l : List Nd} {k : Int} {v : Nd} (h : ndZ l k = some v) : ∃ n : Nat,k = (n : Int) /\ l[n]? = some v:=by
 cases k with
 | ofNat n=>exact ⟨n,rfl,by rw [<- AA]; exact h⟩
 | negSucc n=>cases h
theorem Xn {d : Nat} {p : V} (h : Ax p = true) : nf1 d p = true:=by
 cases p with
 | fa k o=>cases h
 | _=>rfl
theorem Hj {k : Int} : Aar k = true ↔ -1000000000 <= k /\ k <= 1000000000:=by
 unfold Aar
 rw [AeH,Gv,Gv]
 simp
theorem optMap_get {α β : Type} {f : α -> Option β} : ∀ {l : List α} {m : List β},Af f l = some m -> m.length = l.length /\ ∀ (i : Nat) a,l[i]? = some a -> ∃ b,m[i]? = some b /\ f a = some b
 | [],m,h=>by
  cases h
  exact ⟨rfl,fun i a h=>by simp at h⟩
 | x :: r,m,h=>by
  simp only [Af,AeC,AeD] at h
  obtain ⟨y,hy,t,ht,rfl⟩:=h
  obtain ⟨h1,h2⟩:=optMap_get ht
  refine ⟨by simp [h1],fun i a hi=>?_⟩
  cases i with
  | zero=>simp at hi; subst hi; exact ⟨y,by simp,hy⟩
  | succ i=>simpa using h2 i a (by simpa using hi)
structure SwQ (H : Hp) (es : List (List I)) (nv : V) (to : List Int) (eb : List (List I)) (ob : V) (Hi : Hp) : Prop where
 bld : BldQ (H.length + 1) H.length eb ob Hi
 tor : ∃ b,b <= es.length /\ nth Hi (H.length + 2) = some (.cs 3 1 (onV (iI to)) b false)
 tl : to.length = es.length
 nd : L2 es nv Hi
 nr : ∀ r,AG nv = some r -> r < H.length
 len : H.length + 3 <= Hi.length
 old : ∀ r,r < H.length -> nth Hi r = nth H r
 ro : ∀ r,AG ob = some r -> H.length + 3 <= r
theorem SwQ.keep {H : Hp} {es : List (List I)} {nv : V} {to : List Int} {eb : List (List I)} {ob : V} {Hi H' : Hp} (h : SwQ H es nv to eb ob Hi) (hl : Hi.length <= H'.length) (hk : ∀ r,r < Hi.length -> (r < H.length + 3 \/ AG ob = some r) -> nth H' r = nth Hi r) : SwQ H es nv to eb ob H':=by
 obtain ⟨⟨⟨b,hb0,hb⟩,hm,hn,ok⟩,⟨bt,ht0,ht⟩,tl,nd,nr,len,old,ro⟩:=h
 exact ⟨⟨⟨b,hb0,by rw [hk _ (AI hb) (.inl (by omega))]; exact hb⟩,by rw [hk _ (AI hm) (.inl (by omega))]; exact hm,hn.keep fun r e hr=>hk r hr (.inr e),ok⟩,⟨bt,ht0,by rw [hk _ (AI ht) (.inl (by omega))]; exact ht⟩,tl,nd.keep fun r e hr=>hk r hr (.inl (by have:=nr r e; omega)),nr,by omega,fun r hr=>by rw [hk r (by omega) (.inl (by omega))]; exact old r hr,ro⟩
theorem SwQ.node {H : Hp} {es : List (List I)} {nv : V} {to : List Int} {eb : List (List I)} {ob : V} {Hi H2 : Hp} (h : SwQ H es nv to eb ob Hi) {eb2 : List (List I)} {ob2 nx : V} (hb : BldQ (H.length + 1) H.length eb2 ob2 H2) (hk : KpB (H.length + 1) H.length ob Hi ob2 H2 nx) (hx : ∀ r,AG nx = some r -> H.length + 3 <= r) : SwQ H es nv to eb2 ob2 H2:=by
 obtain ⟨_,⟨bt,ht0,ht⟩,tl,nd,nr,len,old,ro⟩:=h
 obtain ⟨k1,k2,k3⟩:=hk
 have hr : ∀ r,r < H.length + 3 -> r ≠ H.length + 1 -> r ≠ H.length -> nth H2 r = nth Hi r:=fun r h1 h2 h3=>k2 r (by omega) h2 h3 (fun e=>by have:=ro r e; omega) fun e=>by have:=hx r e; omega
 exact ⟨hb,⟨bt,ht0,(hr _ (by omega) (by omega) (by omega)).trans ht⟩,tl,nd.keep fun r e _=>by have:=nr r e; exact hr r (by omega) (by omega) (by omega),nr,by omega,fun r h=>(hr r (by omega) (by omega) (by omega)).trans (old r h),fun r e=>by
  rcases k3 r e with h | h
  ·exact ro r h
  ·omega⟩
set_option maxHeartbeats 8000000 in
theorem SH {S : Nat} {es : List (List I)} {nv : V} {H : Hp} (hv : Ky es) (hnv : L2 es nv H) (hS : 1 <= S /\ S <= 20) (hsh : shpZ S (es.map dNd) = true) (hl : 1 <= es.length /\ es.length <= 100000) {rh n : Nat} {i : Nat} (hi : i < n /\ n <= 1000) {bl : List Nd} {to : List Int} (hsw : Qt (es.map dNd) ((n : Int) - i) 0 (es.map dNd) [] (List.replicate es.length 0) = some (bl,to))
  (hbl : OkN bl) (hbn : bl.length <= 1000000) {m : Nat} (hm : to[es.length - 1]? = some (m : Int)) (hmb : m < bl.length) (Q : V -> Hp -> Prop)
  (hQ : ∀ eo oo H',L2 eo oo H' -> Ky eo -> eo.map dNd = (He bl 1000 m (List.replicate bl.length 0,[])).1.2 -> H.length <= H'.length -> (∀ r,r < H.length -> nth H' r = nth H r) -> (∀ r,AG oo = some r -> H.length <= r) -> Q (.ag [.m (.i .i64 S),.sl rh n 2 0 n false,oo]) H') :
  Ret G 105 [.ag [.m (.i .i64 S),.sl rh n 2 0 n false,nv],.m (.i .i64 i)] H Q:=by
 have hon:=hnv.nf
 have am : ∀ r,Bo [V.mp r] = none:=fun _=>rfl
 have cva : ∀ l,Ap (.ag l) = some l:=fun _=>rfl
 have omp : ∀ r,BH (.mp r) = true:=fun _=>rfl
 have onl : BH (.m (.nl 4)) = true:=rfl
 have w1 : ∀ x y z w : V,BD 2 [[x,y]] 0 0 [z,w] = some [[z,w]]:=fun _ _ _ _=>rfl
 have nfa : Ax (.ag [.m (.i .i64 S),.sl rh n 2 0 n false,nv]) = true:=rfl
 have wu : wr .i64 ((n : Int) - i) = (n : Int) - i:=wr_i64 (by omega) (by omega)
 have hb1 : es.length * 8 <= 281474976710656:=by omega
 refine AS mono rfl rfl rfl rfl rfl ?_
 simp (disch:=omega) [gd_in,gd_and,cva,nu1,su1,w1,am,omp,onl,wu,hon.2.2.2,Ag hon.1,hb1]
 have hrep:=TB es.length
 rw [hrep]
 refine (?key : ∀ (k : Nat) (to1 : List Int) (eb : List (List I)) (ob : V) (B : List (Nat × List V)) (Hi : Hp),k <= es.length -> getB B 2 = some [.m (.i .i64 S),.sl rh n 2 0 n false,nv] -> getB B 4 = some [.m (.i .i64 0),.m (.nl 4),.m (.nl 4)] -> SwQ H es nv to1 eb ob Hi ->
  Qt (es.map dNd) ((n : Int) - i) k ((es.map dNd).drop k) (eb.map dNd) to1 = some (bl,to) ->
  Run G c105_B2 (S105_2 (.fa 2 0) (.fa 4 0) (.m (.i .i64 ((n : Int) - i))) (.pt (H.length + 1) 1 0 0) (.sl (H.length + 2) es.length 1 0 es.length true) nv (.m (.i .i64 (es.length : Int))) (.m (.i .i64 (k : Int))) B Hi) _) 0 _ [] (.m (.nl 4)) _ _ (AeR _) rfl rfl ⟨⟨⟨1,AeI _,nu1 ..⟩,Au ..,.inl ⟨rfl,rfl⟩,fun e h=>(by simp at h)⟩,⟨0,AeR _,nu2 ..⟩,by simp,hnv.keep fun r _ hr=>BF _ _ _ hr,fun r e=>hnv.row_lt e,by simp,fun r hr=>BF _ _ _ hr,fun r h=>(by cases h)⟩ hsw
 have hup : ((n : Int) - i) <= 1000 /\ 1 <= (n : Int) - i:=by omega
 generalize (n : Int) - i = up at hsw hup ⊢
 refine BO (fun k : Nat=>es.length - k) fun k ih to1 eb ob B Hi hk hB2 hB4 hq hR=>?_
 unfold c105_B2
 by_cases hke : k < es.length
 ·have hke' : (k : Int) < es.length:=by omega
  obtain ⟨e,he⟩ : ∃ e,es[k]? = some e:=⟨es[k],AeK hke⟩
  obtain ⟨x,z,rfl,hz⟩:=hv e (AeO he)
  have hdr : (es.map dNd).drop k = (x,dIn z) :: (es.map dNd).drop (k + 1):=by
   have e1 : (es.map dNd)[k]? = some (x,dIn z):=by rw [Afg,he]; rfl
   obtain ⟨hlt,e2⟩:=AeG.1 e1
   rw [AfX hlt,e2]
  have hx:=AeQ.1 hsh (x,dIn z) (by
   rw [Afb]
   exact ⟨_,AeO he,rfl⟩)
  simp only [AeH,Gv,Afe] at hx
  obtain ⟨x1,⟨x2,x3⟩,x4⟩:=hx
  have x1 : (dIn z).length = S:=AeP x1
  generalize hc : dIn z = cc at *
  rw [hdr] at hR
  have hR : (LQ (es.map dNd) up k (x,cc) (eb.map dNd) to1).bind (fun p=>Qt (es.map dNd) up (k + 1) ((es.map dNd).drop (k + 1)) p.1 p.2) = some (bl,to):=hR
  obtain ⟨p,pq,p1,p2,p3,⟨p0,p4,p5,p6⟩,p7,p8,p9⟩:=hq.nd.rd he
  have oz:=GC hz
  have wu1 : wr .i64 (up - 1) = up - 1:=wr_i64 (by omega) (by omega)
  have wk : wr .i64 ((k : Int) + 1) = ((k + 1 : Nat) : Int):=wr_i64 (by omega) (by omega)
  by_cases hx1 : x = up - 1
  ·have hs : LQ (es.map dNd) up k (x,cc) (eb.map dNd) to1 = some (eb.map dNd,to1):=by
    unfold LQ
    rw [Dx,hx1]
    simp
   rw [hs] at hR
   have kk:=fun B=>ih (k + 1) (by omega) to1 eb ob B Hi (by omega)
   simp (disch:=omega) [gd_and,hke',p1,Xn p2,p3,oz,wu1,hx1,wk]
   exact kk _ (by rw [AE]; simpa using hB2) (by rw [AE]; simpa using hB4) hq hR
  ·have hxe : eqI x (up - 1) = false:=by rw [Dx]; simpa using hx1
   unfold LQ at hR
   simp only [hxe] at hR
   have hSb : S * 8 <= 281474976710656:=by omega
   have rz:=hz.rules
   simp (disch:=omega) [gd_in,gd_and,hke',p1,Xn p2,p3,oz,hB2,wu1,hx1,hSb,rz,x1,Da]
   have hrS:=TB S
   rw [hrS]
   obtain ⟨pr,hpr,hR⟩:=AeC.1 hR
   simp only [AeC,Ad,AeH,AeD] at hpr
   obtain ⟨qr,hkd,⟨hqb,hql⟩,hpr⟩:=hpr
   have hqb : ∀ k,k ∈ qr.2 -> -1000000000 <= k /\ k <= 1000000000:=fun k hk=>Hj.1 (AeQ.1 hqb k hk)
   have hql : qr.1.length <= 100000:=AfS hql
   refine (?key1 : ∀ (s : Nat) (acc : List Int) (eb1 : List (List I)) (ob1 : V) (B : List (Nat × List V)) (b : Nat) (H1 : Hp),s <= S -> acc.length = s -> b <= S -> getB B 2 = some [.m (.i .i64 S),.sl rh n 2 0 n false,nv] -> getB B 4 = some [.m (.i .i64 0),.m (.nl 4),.m (.nl 4)] -> getB B 9 = some [.m (.i .i64 x),.m z] -> SwQ H es nv to1 eb1 ob1 H1 ->
    nth H1 Hi.length = some (.cs 3 1 (onV (iI (acc ++ List.replicate (S - s) 0))) b false) -> OZ (es.map dNd) to1 up (x,cc) (eb1.map dNd) s (cc.drop s) acc = some qr ->
    Run G c105_B1 (S105_1 (.fa 2 0) (.fa 4 0) (.m (.i .i64 up)) (.pt (H.length + 1) 1 0 0) (.sl (H.length + 2) es.length 1 0 es.length true) (.m (.i .i64 (k : Int))) (.fa 9 0) (.sl Hi.length S 1 0 S true) nv (.m (.i .i64 (es.length : Int))) (.m (.i .i64 (k : Int))) (.m z) (.m (.i .i64 (S : Int))) (.m (.i .i64 (s : Int))) B H1) _) 0 [] eb ob _ 0 _ (AeR _) rfl (AeR _) (by rw [AE]; simpa using hB2) (by rw [AE]; simpa using hB4) (by rw [AE]; simp) (hq.keep (by simp) fun r hr _=>BF _ _ _ hr) (Dc Hi _ 0) hkd
   clear hB2 hB4 p3 p5 p6 p9 p8 p2 p1 p4 p7 pq p0 p B
   refine BO (fun s : Nat=>S - s) fun s ihs acc eb1 ob1 B b H1 hs hac hb hB2 hB4 hB9 hq1 hrow hR1=>?_
   unfold c105_B1
   have hHi:=hq.len
   have hgt : Hi.length < H1.length:=AI hrow
   have hob1 : ∀ r,AG ob1 = some r -> r ≠ Hi.length:=fun r e1 e2=>by
    subst e2
    have q:=hq1.bld.hn.row e1
    rw [hrow] at q
    simp at q
   by_cases hsS : s < S
   ·have hsS' : (s : Int) < S:=by omega
    obtain ⟨kd,hkd2⟩ : ∃ kd,cc[s]? = some kd:=⟨cc[s]'(by omega),AeK (by omega)⟩
    have hcd : cc.drop s = kd :: cc.drop (s + 1):=by
     rw [AfX (by omega)]
     have:=(AeG.1 hkd2).2
     rw [this]
    rw [hcd] at hR1
    have hR1 : (swEl (es.map dNd) to1 up (x,cc) (eb1.map dNd) s kd).bind (fun p=>OZ (es.map dNd) to1 up (x,cc) p.1 (s + 1) (cc.drop (s + 1)) (acc ++ [p.2])) = some qr:=hR1
    obtain ⟨pe,hpe,hR1⟩:=AeC.1 hR1
    have hkn : nth (Dj cc) s = some [.i .i64 kd]:=by rw [AA]; simp [Dj,hkd2]
    have ws : wr .i64 ((s : Int) + 1) = ((s + 1 : Nat) : Int):=wr_i64 (by omega) (by omega)
    have hal : (acc ++ List.replicate (S - s) 0).length = S:=by rw [AeL,List.length_replicate]; omega
    have hset : ∀ v : Int,AF (onV (iI (acc ++ List.replicate (S - s) 0))) s [.m (.i .i64 v)] = some (onV (iI (acc ++ v :: List.replicate (S - (s + 1)) 0))):=fun v=>by
     rw [Em (by rw [CR,hal]; exact hsS),GD]
     congr 3
     rw [Aga _ _ (by omega),hac,Nat.sub_self,show S - s = (S - (s + 1)) + 1 by omega,List.replicate_succ]
     simp
    have hn0 : nth (onV (iI (acc ++ List.replicate (S - s) 0))) s = some [.m (.i .i64 0)]:=Cl (CS (by
     rw [Afp (by omega),hac,Nat.sub_self,List.getElem?_replicate,AeJ (by omega)]))
    have hkk : ∀ (v : Int) (eb2 : List (List I)) (ob2 : V) (B : List (Nat × List V)) (H2 : Hp),getB B 2 = some [.m (.i .i64 S),.sl rh n 2 0 n false,nv] -> getB B 4 = some [.m (.i .i64 0),.m (.nl 4),.m (.nl 4)] -> getB B 9 = some [.m (.i .i64 x),.m z] -> SwQ H es nv to1 eb2 ob2 H2 -> pe = (eb2.map dNd,v) -> (∃ b,nth H2 Hi.length = some (.cs 3 1 (onV (iI (acc ++ List.replicate (S - s) 0))) b false)) -> (∀ r,AG ob2 = some r -> r ≠ Hi.length) -> _:=fun v eb2 ob2 B H2 h2 h4 h9 hq2 hpe ⟨b2,hrow2⟩ hob2=>ihs (s + 1) (by omega) (acc ++ [v]) eb2 ob2 B S (H2.set Hi.length (.cs 3 1 (onV (iI (acc ++ v :: List.replicate (S - (s + 1)) 0))) S false)) (by omega) (by simp [hac]) (AeI _) h2 h4 h9 (hq2.keep (by simp) fun r hr h=>Ar fun e=>by
      subst e
      rcases h with h | h
      ·omega
      ·exact hob2 _ h rfl) (by rw [AeS]; exact AO (AI hrow2)) (by rw [hpe] at hR1; exact hR1)
    by_cases hxu : x = up
    ·have hxf : eqI x up = true:=by rw [Dx]; simpa using hxu
     unfold swEl at hpe
     simp only [hxf,AeC,Ad,AeH,AeD] at hpe
     obtain ⟨inn,hinn,⟨hib,hie⟩,hpe⟩:=hpe
     have hib : ∀ k,k ∈ inn -> -1000000000 <= k /\ k <= 1000000000:=fun k hk=>Hj.1 (AeQ.1 hib k hk)
     have hie : (eb1.map dNd).length <= 100000:=AfS hie
     rw [AeX] at hie
     obtain ⟨hil,hig⟩:=optMap_get hinn
     have hzl : (List.replicate S (0 : Int)).length = S:=by simp
     have hSb2 : S * 8 <= 281474976710656:=by omega
     simp (disch:=omega) [gd_in,gd_and,hsS',rz,x1,hkn,hB9,hxu,hB2,Da,hSb2]
     rw [hrS]
     refine (?key0 : ∀ (r : Nat) (B : List (Nat × List V)) (b0 : Nat),r <= S -> b0 <= S -> getB B 2 = some [.m (.i .i64 S),.sl rh n 2 0 n false,nv] -> getB B 4 = some [.m (.i .i64 0),.m (.nl 4),.m (.nl 4)] -> getB B 9 = some [.m (.i .i64 x),.m z] ->
      Run G c105_B0 (S105_0 (.fa 2 0) (.fa 4 0) (.m (.i .i64 up)) (.pt (H.length + 1) 1 0 0) (.sl (H.length + 2) es.length 1 0 es.length true) (.m (.i .i64 (k : Int))) (.fa 9 0) (.sl Hi.length S 1 0 S true) (.m (.i .i64 (s : Int))) (.sl H1.length S 1 0 S true) nv (.m (.i .i64 (es.length : Int))) (.m (.i .i64 (k : Int))) (.m z) (.m (.i .i64 (S : Int))) (.m (.i .i64 (s : Int))) (.m z) (.m (.i .i64 (S : Int))) (.m (.i .i64 (r : Int))) B (H1 ++ [.cs 3 1 (onV (iI (inn.take r ++ List.replicate (S - r) 0))) b0 false])) _) 0 B 0 (AeR _) (AeR _) hB2 hB4 hB9
     clear hB2 hB4 hB9 B
     refine BO (fun r : Nat=>S - r) fun r ihr B b0 hr hb0 hB2 hB4 hB9=>?_
     unfold c105_B0
     have hml:=Tp inn (List.replicate S 0) r (by rw [hil,hzl,x1])
     rw [hzl,List.drop_replicate] at hml
     have hqr : SwQ H es nv to1 eb1 ob1 (H1 ++ [.cs 3 1 (onV (iI (inn.take r ++ List.replicate (S - r) 0))) b0 false]):=hq1.keep (by simp) fun q hq _=>BF _ _ _ hq
     have hq1l:=hq1.len
     by_cases hrS2 : r < S
     ·have hrS2' : (r : Int) < S:=by omega
      obtain ⟨oth,hoth⟩ : ∃ oth,cc[r]? = some oth:=⟨cc[r]'(by omega),AeK (by omega)⟩
      obtain ⟨iv,hiv,hin⟩:=hig r oth hoth
      unfold innZ at hin
      simp only [AeC] at hin
      obtain ⟨y,hy,w,hw,hin⟩:=hin
      obtain ⟨on,rfl,hy1⟩:=Pj hy
      rw [Afg] at hy1
      obtain ⟨ey,hey,hy2⟩:=Afv.1 hy1
      clear hy hy1
      obtain ⟨yl,zy,rfl,hzy⟩:=hv ey (AeO hey)
      have hyy : y = (yl,dIn zy):=hy2.symm
      subst hyy
      have hyl : (dIn zy).length = S:=by
       have:=AeQ.1 hsh (yl,dIn zy) (by rw [Afb]; exact ⟨_,AeO hey,rfl⟩)
       simp only [AeH] at this
       exact AeP this.1
      have hwn : nth (Dj (dIn zy)) s = some [.i .i64 w]:=by
       rw [AA] at hw ⊢
       simp only at hw
       simp [Dj,hw]
      have rzy:=hzy.rules
      have hon2 : nth (Dj cc) r = some [.i .i64 (on : Int)]:=by rw [AA]; simp [Dj,hoth]
      obtain ⟨p,q,p1,p2,p3,_,p7,p8,p9⟩:=hqr.nd.rd hey
      have wr1 : wr .i64 ((r : Int) + 1) = ((r + 1 : Nat) : Int):=wr_i64 (by omega) (by omega)
      have hmg:=Nv inn (List.replicate S 0) r (by rw [hil,hzl,x1])
      rw [List.getElem?_replicate,AeJ hrS2,List.drop_replicate] at hmg
      have hn1:=Cl (CS hmg)
      have hms:=Nu inn (List.replicate S 0) r iv (by rw [hil,hzl,x1]) hiv
      rw [List.drop_replicate,List.drop_replicate] at hms
      have kk:=fun B b1 h=>ihr (r + 1) (by omega) B b1 (by omega) h
      by_cases hu2 : 2 < up
      ·have hlt : ltI 2 up = true:=by rw [Cy]; simpa using hu2
       simp only [hlt] at hin
       obtain ⟨wn,rfl,hin2⟩:=PH hin
       obtain ⟨bt,ht0,ht⟩:=hqr.tor
       have hwl : wn < es.length:=by rw [<- hq1.tl]; exact (AeG.1 hin2).1
       have hwl' : (wn : Int) < es.length:=by omega
       have hnt:=Cl (CS hin2)
       have ht2 : ∀ row : Row,nth (H1 ++ [row]) (H.length + 2) = some (.cs 3 1 (onV (iI to1)) bt false):=fun row=>by
        rw [BF _ _ _ (by omega)]
        rwa [BF _ _ _ (by omega)] at ht
       have hs1 : AF (onV (iI (inn.take r ++ List.replicate (S - r) 0))) r [.m (.i .i64 (wn : Int))] = some (onV (iI ((inn.take r ++ List.replicate (S - r) 0).set r (wn : Int)))):=by rw [Em (by rw [CR,hml]; exact hrS2),GD]
       have hs2 : AF (onV (iI ((inn.take r ++ List.replicate (S - r) 0).set r (wn : Int)))) r [.m (.i .i64 iv)] = some (onV (iI (inn.take (r + 1) ++ List.replicate (S - (r + 1)) 0))):=by rw [Em (by rw [CR,AfH,hml]; exact hrS2),GD,List.set_set,hms]
       have hn2 : nth (onV (iI ((inn.take r ++ List.replicate (S - r) 0).set r (wn : Int)))) r = some [.m (.i .i64 (wn : Int))]:=Cl (CS (List.getElem?_set_self (by rw [hml]; exact hrS2)))
       have hl3 : ((inn.take r ++ List.replicate (S - r) 0).set r (wn : Int)).length = S:=by rw [AfH,hml]
       generalize inn.take r ++ List.replicate (S - r) 0 = D at hml hn1 hs1 hs2 hn2 hl3 p3 p9 ⊢
       generalize D.set r (wn : Int) = D1 at hs1 hs2 hn2 hl3
       simp (disch:=omega) [gd_and,hrS2',rz,x1,hon2,hB2,p1,p7,p9,rzy,hyl,hwn,Au,Al,hn1,hs1,hml,hu2,hn2,hl3,ht2,ht0,hnt,hs2,wr1,Da]
       exact kk _ S (AeI _) hB2 hB4 hB9
      ·have hlt : ltI 2 up = false:=by rw [Cy]; simpa using hu2
       simp only [hlt,AeD] at hin
       subst hin
       have hs1 : AF (onV (iI (inn.take r ++ List.replicate (S - r) 0))) r [.m (.i .i64 w)] = some (onV (iI (inn.take (r + 1) ++ List.replicate (S - (r + 1)) 0))):=by rw [Em (by rw [CR,hml]; exact hrS2),GD,hms]
       generalize inn.take r ++ List.replicate (S - r) 0 = D at hml hn1 hs1 p3 p9 ⊢
       simp (disch:=omega) [gd_and,hrS2',rz,x1,hon2,hB2,p1,p7,p9,rzy,hyl,hwn,Au,Al,hn1,hs1,hml,hu2,wr1,Da]
       exact kk _ S (AeI _) hB2 hB4 hB9
     ·have : r = S:=by omega
      subst this
      have hrS2' : ¬ (r : Int) < r:=by omega
      have hdM : inn.take r ++ List.replicate (r - r) 0 = inn:=by rw [Nat.sub_self,List.replicate_zero,Afd,AeY (by omega)]
      rw [hdM] at hqr ⊢
      generalize hHs : H1 ++ [.cs 3 1 (onV (iI inn)) b0 false] = Hs at hqr
      have hrow3 : nth Hs H1.length = some (.cs 3 1 (onV (iI inn)) b0 false):=by rw [<- hHs]; exact Dc H1 _ 0
      have hold3 : ∀ q,q < H1.length -> nth Hs q = nth H1 q:=fun q hq=>by rw [<- hHs]; exact BF _ _ _ hq
      have hIR : IR inn (.sl H1.length r 1 0 r true) Hs:=⟨H1.length,b0,true,by rw [hil,x1],hrow3,by omega⟩
      simp (disch:=omega) [hrS2',wu1]
      rw [Ak]
      refine Tk hqr.bld hIR (by omega) hib (by omega) (by omega) _ fun eb2 ob2 H2 hb2 he2 hk2=>?_
      have hq2:=hqr.node hb2 hk2 (fun q e=>by have e : _ = q:=AfD e; omega)
      have hlenS : Hs.length = H1.length + 1:=by rw [<- hHs]; simp
      have hrow4 : nth H2 Hi.length = some (.cs 3 1 (onV (iI (acc ++ List.replicate (r - s) 0))) b false):=by
       rw [hk2.2.1 _ (by omega) (by omega) (by omega) (fun e=>hob1 _ e rfl) (fun e=>by have e : H1.length = Hi.length:=AfD e; omega),hold3 _ hgt]
       exact hrow
      have hob2 : ∀ q,AG ob2 = some q -> q ≠ Hi.length:=fun q e1 e2=>by
       rcases hk2.2.2 q e1 with h | h
       ·exact hob1 q h e2
       ·omega
      have hse : AF H2 Hi.length (.cs 3 1 (onV (iI (acc ++ (((Es (eb1.map dNd) (up - 1,inn)).2 : Nat) : Int) :: List.replicate (r - (s + 1)) 0))) r false) = some (H2.set Hi.length (.cs 3 1 (onV (iI (acc ++ (((Es (eb1.map dNd) (up - 1,inn)).2 : Nat) : Int) :: List.replicate (r - (s + 1)) 0))) r false)):=Am _ _ _ (AI hrow4)
      have kk:=fun B h2 h4 h9=>hkk (((Es (eb1.map dNd) (up - 1,inn)).2 : Nat) : Int) eb2 ob2 B H2 h2 h4 h9 hq2 (by rw [he2]; exact hpe.symm) ⟨b,hrow4⟩ hob2
      simp (disch:=omega) [gd_and,hrow4,hn0,hset,hal,hse,ws]
      exact kk _ hB2 hB4 hB9
    ·have hxf : eqI x up = false:=by rw [Dx]; simpa using hxu
     unfold swEl at hpe
     simp only [hxf] at hpe
     by_cases hx2 : 1 < x
     ·have hlt : ltI 1 x = true:=by rw [Cy]; simpa using hx2
      simp only [hlt,AeC,AeD] at hpe
      obtain ⟨w,hw,hpe⟩:=hpe
      obtain ⟨kn,rfl,hw2⟩:=PH hw
      obtain ⟨bt,ht0,ht⟩:=hq1.tor
      have hkl : kn < es.length:=by rw [<- hq1.tl]; exact (AeG.1 hw2).1
      have hkl' : (kn : Int) < es.length:=by omega
      have hnt:=Cl (CS hw2)
      have hse : AF H1 Hi.length (.cs 3 1 (onV (iI (acc ++ w :: List.replicate (S - (s + 1)) 0))) S false) = some (H1.set Hi.length (.cs 3 1 (onV (iI (acc ++ w :: List.replicate (S - (s + 1)) 0))) S false)):=Am _ _ _ hgt
      have kk:=fun B h2 h4 h9=>hkk w eb1 ob1 B H1 h2 h4 h9 hq1 hpe.symm ⟨b,hrow⟩ hob1
      simp (disch:=omega) [gd_and,hsS',rz,x1,hkn,hB9,hxu,hx2,ht,ht0,hnt,hrow,hn0,hset,hal,hse,ws,Da]
      exact kk _ hB2 hB4 hB9
     ·have hlt : ltI 1 x = false:=by rw [Cy]; simpa using hx2
      simp only [hlt,AeD] at hpe
      have hse : AF H1 Hi.length (.cs 3 1 (onV (iI (acc ++ kd :: List.replicate (S - (s + 1)) 0))) S false) = some (H1.set Hi.length (.cs 3 1 (onV (iI (acc ++ kd :: List.replicate (S - (s + 1)) 0))) S false)):=Am _ _ _ hgt
      have kk:=fun B h2 h4 h9=>hkk kd eb1 ob1 B H1 h2 h4 h9 hq1 hpe.symm ⟨b,hrow⟩ hob1
      simp (disch:=omega) [gd_and,hsS',rz,x1,hkn,hB9,hxu,hx2,hrow,hn0,hset,hal,hse,ws,Da]
      exact kk _ hB2 hB4 hB9
   ·have : s = S:=by omega
    subst this
    have hsS' : ¬ (s : Int) < s:=by omega
    have hcd : cc.drop s = []:=by rw [<- x1]; exact AfR
    rw [hcd] at hR1
    have hR1 : some (eb1.map dNd,acc) = some qr:=hR1
    cases hR1
    rw [Nat.sub_self,List.replicate_zero,Afd] at hrow
    rw [AeX] at hql
    have hIR : IR acc (.sl Hi.length s 1 0 s true) H1:=⟨Hi.length,b,true,by rw [hac],hrow,by omega⟩
    simp (disch:=omega) [hsS',hB9]
    rw [Ak]
    refine Tk hq1.bld hIR (by omega) hqb (by omega) (by omega) _ fun eb2 ob2 H2 hb2 he2 hk2=>?_
    have hq2:=hq1.node hb2 hk2 (fun q e=>by have e : _ = q:=AfD e; omega)
    obtain ⟨bt,ht0,ht⟩:=hq2.tor
    have htl:=hq2.tl
    obtain ⟨v0,hv0⟩ : ∃ v0,to1[k]? = some v0:=⟨to1[k]'(by omega),AeK (by omega)⟩
    have hn3:=Cl (CS hv0)
    have hs3 : AF (onV (iI to1)) k [.m (.i .i64 (((Es (eb1.map dNd) (x,acc)).2 : Nat) : Int))] = some (onV (iI (to1.set k (((Es (eb1.map dNd) (x,acc)).2 : Nat) : Int)))):=by rw [Em (by rw [CR]; omega),GD]
    generalize hto2 : to1.set k (((Es (eb1.map dNd) (x,acc)).2 : Nat) : Int) = to2 at hs3
    have htl2 : to2.length = es.length:=by rw [<- hto2,AfH]; exact htl
    have hse : AF H2 (H.length + 2) (.cs 3 1 (onV (iI to2)) es.length false) = some (H2.set (H.length + 2) (.cs 3 1 (onV (iI to2)) es.length false)):=Am _ _ _ (AI ht)
    have hq3 : SwQ H es nv to2 eb2 ob2 (H2.set (H.length + 2) (.cs 3 1 (onV (iI to2)) es.length false)):=by
     obtain ⟨⟨⟨b5,hb50,hb5⟩,hm5,hn5,ok5⟩,_,_,nd5,nr5,len5,old5,ro5⟩:=hq2
     exact ⟨⟨⟨b5,hb50,by rw [Ar (by omega)]; exact hb5⟩,by rw [Ar (by omega)]; exact hm5,hn5.keep fun q e _=>Ar (by have:=ro5 q e; omega),ok5⟩,⟨es.length,AeI _,AO (AI ht)⟩,htl2,nd5.keep fun q e _=>Ar (by have:=nr5 q e; omega),nr5,by simpa using len5,fun q hq=>by rw [Ar (by omega)]; exact old5 q hq,ro5⟩
    have hpr2 : pr = (eb2.map dNd,to2):=by rw [<- hpr,he2,<- hto2]
    rw [hpr2] at hR
    have kk:=fun B h2 h4=>ih (k + 1) (by omega) to2 eb2 ob2 B _ (by omega) h2 h4 hq3 hR
    simp (disch:=omega) [gd_and,ht,hn3,hs3,htl,hse,wk]
    exact kk _ hB2 hB4
 ·have : k = es.length:=by omega
  subst this
  have hke' : ¬ (es.length : Int) < es.length:=by omega
  have hdr : (es.map dNd).drop es.length = []:=List.drop_eq_nil_of_le (by simp)
  rw [hdr] at hR
  have hR : some (eb.map dNd,to1) = some (bl,to):=hR
  cases hR
  obtain ⟨bb,hb0,hbb⟩:=hq.bld.hb
  obtain ⟨bt,ht0,ht⟩:=hq.tor
  have htl:=hq.tl
  have hnm:=Cl (CS hm)
  have hno:=hq.bld.hn.nf
  rw [AeX] at hmb hbn
  have wl : wr .i64 ((es.length : Int) - 1) = ((es.length - 1 : Nat) : Int):=by rw [wr_i64 (by omega) (by omega)]; omega
  have hlt : es.length - 1 < es.length:=by omega
  have hlt' : ((es.length - 1 : Nat) : Int) < es.length:=by omega
  simp (disch:=omega) [gd_and,hke',hB2,hbb,hb0,ZF,wl,ht,ht0,hnm]
  rw [Ak]
  have hlev : (ndU (eb.map dNd) m).1 <= ((1000 : Nat) : Int):=(hbl m (by rw [AeX]; exact hmb)).2.1
  refine LZ (n:=1000) hq.bld.ok hbl (by omega) hq.bld.hn hmb hlev _ fun eo oo H2 h2l h2n h2e h2len h2k h2r=>?_
  have hon2:=h2l.nf
  have hql:=hq.len
  have kk:=hQ eo oo H2 h2l h2n (by rw [h2e,AeX]) (by omega) (fun r hr=>by rw [h2k r (by omega)]; exact hq.old r hr) fun r hr=>by have:=h2r r hr; omega
  have ams : ∀ (a b c d e : Nat) (f : Bool) (l : List V),Bo (.sl a b c d e f :: l) = none:=fun _ _ _ _ _ _ _=>rfl
  have amm : ∀ (x : I) (l : List V),Bo (.m x :: l) = (Bo l).bind fun r=>some (x :: r):=fun _ _=>rfl
  have osl : ∀ (a b c d e : Nat) (f : Bool),BH (.sl a b c d e f) = true:=fun _ _ _ _ _ _=>rfl
  have oi : BH (.m (.i .i64 (S : Int))) = true:=rfl
  simp (disch:=omega) [gd_and,hon2.2.1,hon2.2.2.1,ams,amm,hB4,cva,osl,oi]
  exact kk
def okX (l : List Nd) (x : Nd) : Bool:=leI 1 x.1 && (leI x.1 1000 && (!x.2.isEmpty && (Nat.ble x.2.length 100 && (x.2.all Aar && (!ltI 1 x.1 || x.2.all fun k=>match ndZ l k with
 | some y=>ltI y.1 x.1
 | none=>false)))))
def okNb (l : List Nd) : Bool:=l.all (okX l)
theorem okN_b {l : List Nd} (h : okNb l = true) : OkN l:=fun i hi=>by
 have hg : l[i]? = some (ndU l i):=by
  unfold ndU
  rw [AeK hi]
  rfl
 have hx:=AeQ.1 h _ (AeO hg)
 unfold okX at hx
 simp only [AeH,Gv,Afe,AfV,Afm,AeQ,Cy,decide_eq_false_iff_not] at hx
 obtain ⟨a1,a2,a3,a4,a5,a6⟩:=hx
 refine ⟨a1,a2,fun e=>by rw [e] at a3; simp at a3,AfS a4,fun k hk=>Hj.1 (a5 k hk),fun hl k hk=>?_⟩
 rcases a6 with h | h
 ·exact absurd hl h
 ·have:=h k hk
  cases hy : ndZ l k with
  | none=>rw [hy] at this; cases this
  | some y =>
   rw [hy] at this
   simp only [Afe] at this
   obtain ⟨n,rfl,hn⟩:=Pj hy
   refine ⟨by omega,?_,?_⟩
   ·show n < l.length
    exact (AeG.1 hn).1
   ·show (ndU l n).1 < _
    rw [Tm hn]
    exact this
def swZ (S : Nat) (ns : List Nd) (up : Int) : Option (List Nd):=gd (shpZ S ns && (Nat.ble 1 ns.length && Nat.ble ns.length 100000)) ((Qt ns up 0 ns [] (List.replicate ns.length 0)).bind fun p=>(nth p.2 (ns.length - 1)).bind fun v=>(YF v).bind fun m =>
 gd (okNb p.1 && (Nat.ble p.1.length 1000000 && Nat.blt m p.1.length)) (some (He p.1 1000 m (List.replicate p.1.length 0,[])).1.2))
abbrev Hd:=List (Int × Int)
def inT (S : Nat) : Nat -> Nat -> Hd -> List Nd -> Bool -> Option (Hd × List Nd × Bool)
 | 0,_,hd,ns,srt=>some (hd,ns,srt)
 | r + 1,j,hd,ns,srt=>(nth hd j).bind fun a=>(nth hd (j + 1)).bind fun b=>match ltI 0 (QP a.1 a.2 b.1 b.2) with
  | true=>(swZ S ns ((hd.length : Int) - j)).bind fun ns2=>inT S r (j + 1) ((hd.set j b).set (j + 1) a) ns2 false
  | false=>inT S r (j + 1) hd ns srt
def Abh (S : Nat) : Nat -> Hd -> List Nd -> Option (Hd × List Nd)
 | 0,_,_=>none
 | f + 1,hd,ns=>(inT S (hd.length - 1) 0 hd ns true).bind fun q=>match q.2.2 with
  | true=>some (q.1,q.2.1)
  | false=>Abh S f q.1 q.2.1
def Iw (k : Int) (hd : Hd) : Hd:=hd.map fun p=>Co (DS k) p.1 p.2
def Ia (k : Int) (S : Nat) (hd : Hd) (ns : List Nd) : Option (Hd × List Nd):=Abh S 64 (Iw k hd) (VR ns)
theorem VJ {S : Nat} {ns r : List Nd} {up : Int} (h : swZ S ns up = some r) : shpZ S ns = true /\ (1 <= ns.length /\ ns.length <= 100000) /\ ∃ (bl : List Nd) (to : List Int) (m : Nat),Qt ns up 0 ns [] (List.replicate ns.length 0) = some (bl,to) /\ OkN bl /\ bl.length <= 1000000 /\ to[ns.length - 1]? = some (m : Int) /\ m < bl.length /\ r = (He bl 1000 m (List.replicate bl.length 0,[])).1.2:=by
 unfold swZ at h
 simp only [Ad,AeH,AeC,AeD] at h
 obtain ⟨⟨h1,h2,h3⟩,⟨bl,to⟩,h4,v,h5,m,h6,⟨h7,h8,h9⟩,h10⟩:=h
 refine ⟨h1,⟨AfS h2,AfS h3⟩,bl,to,m,h4,okN_b h7,AfS h8,?_,AfS h9,h10.symm⟩
 rw [<- AA]
 cases v with
 | ofNat n=>cases h6; exact h5
 | negSucc n=>cases h6
theorem Pl {α : Type} : ∀ (M c : List α) (s : Nat) (m : α),M.length = c.length -> M[s]? = some m -> (M.take s ++ c.drop s).set s m = M.take (s + 1) ++ c.drop (s + 1)
 | [],_,_,_,_,h=>by simp at h
 | a :: M,[],_,_,h,_=>by simp at h
 | a :: M,b :: c,0,m,_,h=>by simp at h; subst h; simp
 | a :: M,b :: c,s + 1,m,hl,h=>by
  have:=Pl M c s m (by simpa using hl) (by simpa using h)
  simp only [List.take_succ_cons,List.drop_succ_cons,Afo,List.set_cons_succ,this]
theorem Pm {α : Type} : ∀ (M c : List α) (s : Nat),M.length = c.length -> (M.take s ++ c.drop s)[s]? = c[s]?
 | [],[],_,_=>by simp
 | [],_ :: _,_,h=>by simp at h
 | a :: M,[],_,h=>by simp at h
 | a :: M,b :: c,0,_=>by simp
 | a :: M,b :: c,s + 1,hl=>by
  have:=Pm M c s (by simpa using hl)
  simpa using this
theorem Wc {α : Type} (M c : List α) (s : Nat) (h : M.length = c.length) : (M.take s ++ c.drop s).length = c.length:=by
 rw [AeL,AeZ,Afu]
 omega
def Bm (l : Hd) : List (List V):=l.map fun p=>[.m (.i .i64 p.1),.m (.i .i64 p.2)]
@[simp] theorem AdC (l : Hd) : (Bm l).length = l.length:=by simp [Bm]
theorem Tz (l : Hd) : BC (Ay l) = Bm l:=by
 unfold BC Ay Bm
 rw [AfW]
 rfl
theorem FI {l : Hd} {i : Nat} {p : Int × Int} (h : l[i]? = some p) : nth (Bm l) i = some [.m (.i .i64 p.1),.m (.i .i64 p.2)]:=by
 rw [AA]
 simp [Bm,h]
theorem If {l : Hd} {i : Nat} {p : Int × Int} (h : i < l.length) : AF (Bm l) i [.m (.i .i64 p.1),.m (.i .i64 p.2)] = some (Bm (l.set i p)):=by
 rw [Am _ _ _ (by simpa using h)]
 simp [Bm,List.map_set]
theorem wrP {es : List (List V)} {i : Nat} {a b x y : V} (h : nth es i = some [a,b]) : BD 2 es i 0 [x,y] = AF es i [x,y]:=by
 show Option.bind (nth es (i + 0)) _ = _
 rw [Nat.add_zero,h]
 rfl
theorem In {l : Hd} {r b k : Nat} {fz : Bool} {H : Hp} (h : nth H r = some (.cs 70 2 (Bm l) b fz)) (hb : b <= l.length) : Mx.view (k + 2) H (.sl r l.length 2 0 l.length false) = some (.sl (Ay l)):=by
 show Option.bind (Mx.elems H (.sl r l.length 2 0 l.length false)) _ = _
 rw [CO,h]
 show Option.bind (gd (Nat.ble b l.length && Nat.beq 2 2) (some (((Bm l).drop 0).take l.length))) _ = _
 rw [Bd,Afc hb,List.drop_zero,AeY (by simp),<- Tz]
 show Option.bind (Af (fun e=>Af (Mx.view (k + 1) H) e) (BC (Ay l))) _ = _
 rw [optN]
 rfl
theorem Zx {S : Int} {hs es : List (List I)} (hl : es.length <= 4096) (H : Hp) : Gives G 106 [.m (.ag [.i .i64 S,.sl hs,.sl es])] H (.tu [.m (.ag [.i .i64 S,.sl hs,.sl es]),.m (.i .i64 0)]) H:=by
 refine Ah rfl rfl rfl rfl rfl ?_
 have hl' : ¬ (4096 : Int) < es.length:=by omega
 have amm : ∀ (x : I) (l : List V),Bo (.m x :: l) = (Bo l).bind fun r=>some (x :: r):=fun _ _=>rfl
 have oi : ∀ x : Int,BH (.m (.i .i64 x)) = true:=fun _=>rfl
 have os : ∀ x,BH (.m (.sl x)) = true:=fun _=>rfl
 have am0 : Bo [] = some []:=rfl
 simp (disch:=omega) [gd_and,hl',amm,oi,os,am0]
set_option maxHeartbeats 1000000 in
theorem Zo {k : Int} {t : TreeC} {h n : I} {es : List (List I)} (hT : TreeV t h n es) (gt : ∀ H,Gives G 103 [.m (.ag [.i .i64 t.states,h,n])] H (.m (.b (CP t))) H) (hok : CP t = true) {hd : Hd} {ns : List Nd} (hZ : Ia k t.states.toNat t.hood t.nodes = some (hd,ns)) (hlen : 1 <= ns.length /\ ns.length <= 4096) (H : Hp) :
  ∃ eo,eo.map dNd = ns /\ Ky eo /\ Gives G 63 [.m (.i .i64 k),.m (.ag [.i .i64 t.states,h,n])] H (.tu [.m (.ag [.i .i64 t.states,.sl (Ay hd),.sl eo]),.m (.i .i64 0)]) H:=by
 have key : Ret G 63 [.m (.i .i64 k),.m (.ag [.i .i64 t.states,h,n])] H (fun v H'=>H' = H /\ ∃ eo,eo.map dNd = ns /\ Ky eo /\ v = .tu [.m (.ag [.i .i64 t.states,.sl (Ay hd),.sl eo]),.m (.i .i64 0)]):=by
  have gt0:=gt
  rw [hok] at gt
  obtain ⟨⟨hS1,hS2⟩,hho,_,_,_⟩:=Dy hok
  have hh:=Fl hho
  have amm : ∀ (x : I) (l : List V),Bo (.m x :: l) = (Bo l).bind fun r=>some (x :: r):=fun _ _=>rfl
  have am0 : Bo [] = some []:=rfl
  have oi : ∀ x : Int,BH (.m (.i .i64 x)) = true:=fun _=>rfl
  have onl : BH (.m (.nl 4)) = true:=rfl
  have oh:=GC hT.hd
  have on:=GC hT.nd
  refine Hw rfl rfl rfl rfl rfl ?_
  simp (disch:=omega) [cl (gt _),amm,am0]
  rw [Ak]
  refine JX hT gt0 _ (fun _ rh eo oo H1 k1 k2 k3 k4 k5 k6 k7 k8=>?_) (fun e=>by rw [hok] at e; cases e)
  have hon:=k2.nf
  have osl : ∀ (a b c d e : Nat) (f : Bool),BH (.sl a b c d e f) = true:=fun _ _ _ _ _ _=>rfl
  have cva : ∀ l,Ap (.ag l) = some l:=fun _=>rfl
  rw [Tz] at k1
  simp (disch:=omega) [gd_and,cva,osl,oi,hon.2.2.1]
  obtain ⟨S,hSe⟩:=AeV (show 0 <= t.states by omega)
  rw [hSe] at hZ hS1 hS2 ⊢
  simp only [Int.toNat_natCast] at hZ
  have hZ : Abh S 64 (Iw k t.hood) (VR t.nodes) = some (hd,ns):=hZ
  generalize hN : t.hood.length = N at *
  have hrl : (Iw k t.hood).length = t.hood.length:=by unfold Iw; simp
  refine (?key1 : ∀ (i : Nat) (B : List (Nat × List V)) (Hi : Hp) (b : Nat),i <= N -> getB B 4 = some [.m (.i .i64 0),.m (.nl 4),.m (.nl 4)] -> getB B 6 = some [.m (.i .i64 (S : Int)),.sl rh N 2 0 N false,oo] -> b <= N -> nth Hi rh = some (.cs 70 2 (Bm ((Iw k t.hood).take i ++ t.hood.drop i)) b false) -> L2 eo oo Hi ->
   Run G c63_B0 (S63_0 (.m (.i .i64 k)) (.fa 4 0) (.fa 6 0) (.sl rh N 2 0 N false) (.m (.i .i64 (N : Int))) (.m (.i .i64 (i : Int))) B Hi) _) 0 _ H1 0 (AeR _) rfl rfl (AeR _) k1 k2
  refine BO (fun i : Nat=>N - i) fun i ih B Hi b hi hB4 hB6 hb hrow hnd=>?_
  unfold c63_B0
  have hml:=Wc (Iw k t.hood) t.hood i hrl
  by_cases hiN : i < N
  ·have hiN' : (i : Int) < N:=by omega
   obtain ⟨p,hp⟩ : ∃ p,t.hood[i]? = some p:=⟨t.hood[i]'(by omega),AeK (by omega)⟩
   have hmg:=Pm (Iw k t.hood) t.hood i hrl
   rw [hp] at hmg
   have hn1:=FI hmg
   have hpo : Nt p = true:=by
    have h0:=hho
    unfold Mj at h0
    simp only [AeH] at h0
    exact Px t.hood none h0.2 p (AeO hp)
   unfold Nt at hpo
   simp only [Afe] at hpo
   have ga:=fun H=>Aaz k p.1 p.2 (by omega) (by omega) H
   have hq : (Iw k t.hood)[i]? = some (Co (DS k) p.1 p.2):=by
    unfold Iw
    rw [Afg,hp]
    rfl
   have hms:=Pl (Iw k t.hood) t.hood i (Co (DS k) p.1 p.2) hrl hq
   have hst : AF (Bm ((Iw k t.hood).take i ++ t.hood.drop i)) i [.m (.i .i64 (Co (DS k) p.1 p.2).1),.m (.i .i64 (Co (DS k) p.1 p.2).2)] = some (Bm ((Iw k t.hood).take (i + 1) ++ t.hood.drop (i + 1))):=by rw [If (by omega),hms]
   have hse : AF Hi rh (.cs 70 2 (Bm ((Iw k t.hood).take (i + 1) ++ t.hood.drop (i + 1))) N false) = some (Hi.set rh (.cs 70 2 (Bm ((Iw k t.hood).take (i + 1) ++ t.hood.drop (i + 1))) N false)):=Am _ _ _ (AI hrow)
   have wi : wr .i64 ((i : Int) + 1) = ((i + 1 : Nat) : Int):=wr_i64 (by omega) (by omega)
   have hnd2 : L2 eo oo (Hi.set rh (.cs 70 2 (Bm ((Iw k t.hood).take (i + 1) ++ t.hood.drop (i + 1))) N false)):=hnd.keep fun r e _=>Ar fun e2=>by
    subst e2
    have q:=hnd.row e
    rw [hrow] at q
    simp at q
   have kk:=fun B h4 h6=>ih (i + 1) (by omega) B _ N (by omega) h4 h6 (AeI _) (AO (AI hrow)) hnd2
   have hml2 : ((Iw k t.hood).take i ++ t.hood.drop i).length = N:=by rw [hml,hN]
   generalize (Iw k t.hood).take i ++ t.hood.drop i = D at hrow hn1 hst hml2
   generalize (Iw k t.hood).take (i + 1) ++ t.hood.drop (i + 1) = D1 at hst hse kk
   simp (disch:=omega) [gd_and,hiN',hrow,hb,rd2 hn1,wrP hn1,amm,am0,oi,hB6,cl (ga _),hst,hse,hml2,wi]
   exact kk _ (by rw [AE]; simpa using hB4) (by rw [AE]; simpa using hB6)
  ·have : i = N:=by omega
   subst this
   have hiN' : ¬ (i : Int) < i:=by omega
   have hD : (Iw k t.hood).take i ++ t.hood.drop i = Iw k t.hood:=by
    rw [List.drop_eq_nil_of_le (by omega),Afd,AeY (by omega)]
   rw [hD] at hrow
   simp (disch:=omega) [hiN']
   clear ih hml hD k1 k2
   refine (?key2 : ∀ (f : Nat) (srt : Bool) (hd1 : Hd) (e1 : List (List I)) (nv : V) (B : List (Nat × List V)) (Hi : Hp) (b : Nat),(match srt with
     | true=>some (hd1,e1.map dNd)
     | false=>Abh S f hd1 (e1.map dNd)) = some (hd,ns) -> hd1.length = i -> getB B 4 = some [.m (.i .i64 0),.m (.nl 4),.m (.nl 4)] -> getB B 6 = some [.m (.i .i64 (S : Int)),.sl rh i 2 0 i false,nv] -> b <= i -> nth Hi rh = some (.cs 70 2 (Bm hd1) b false) -> L2 e1 nv Hi -> Ky e1 ->
    Run G c63_B2 (S63_2 (.fa 4 0) (.fa 6 0) (.m (.b srt)) B Hi) _) 64 false (Iw k t.hood) eo oo B Hi b (by rw [k4]; exact hZ) (by omega) hB4 hB6 hb hrow hnd k3
   clear hB4 hB6 hrow hnd hb b Hi B
   refine BO (fun f : Nat=>f) fun f ihf srt hd1 e1 nv B Hi b hR hl1 hB4 hB6 hb hrow hnd hok1=>?_
   unfold c63_B2
   have hnvn:=hnd.nf
   cases srt with
   | true =>
    have hR : some (hd1,e1.map dNd) = some (hd,ns):=hR
    cases hR
    rw [AeX] at hlen
    have hne : e1 ≠ []:=fun e=>by rw [e] at hlen; simp at hlen
    have gz:=Zx (S:=(S : Int)) (hs:=Ay hd) (es:=e1) (by omega) []
    have hvh:=In (k:=17) hrow (by rw [hl1]; exact hb)
    rw [hl1] at hvh
    have hvn:=hnd.view hne 17
    have ams : ∀ (a b c d e : Nat) (f : Bool) (l : List V),Bo (.sl a b c d e f :: l) = none:=fun _ _ _ _ _ _ _=>rfl
    have hvs : Af (view 20 Hi) [V.ag [.m (.i .i64 (S : Int)),.sl rh i 2 0 i false,nv]] = some [.ag [.i .i64 (S : Int),.sl (Ay hd),.sl e1]]:=by
     show Option.bind (Option.bind (Af (view 19 Hi) [.m (.i .i64 (S : Int)),.sl rh i 2 0 i false,nv]) _) _ = _
     have e0 : Af (view 19 Hi) [.m (.i .i64 (S : Int)),.sl rh i 2 0 i false,nv] = some [.i .i64 (S : Int),.sl (Ay hd),.sl e1]:=by
      simp only [Af]
      rw [hvh,hvn]
      rfl
     rw [e0]
     rfl
    obtain ⟨rn,rfl⟩ : ∃ rn,nv = .sl rn e1.length 2 0 e1.length false:=by
     rcases hnd with ⟨h1,_⟩ | ⟨_,r,h1,_⟩
     ·exact absurd h1 hne
     ·exact ⟨r,h1⟩
    obtain ⟨bn,hrn⟩ : ∃ bn,nth Hi rn = some (.cs 94 2 (BC e1) bn false):=⟨0,hnd.row rfl⟩
    have hall1 : ((Bm hd).all fun e=>e.all isM) = true:=by
     rw [AeQ]
     intro e he
     obtain ⟨q,_,rfl⟩:=Afb.1 he
     rfl
    have hall2 : ((BC e1).all fun e=>e.all isM) = true:=by
     rw [AeQ]
     intro e he
     obtain ⟨q,_,rfl⟩:=Afb.1 he
     rw [AeQ]
     intro x hx
     obtain ⟨y,_,rfl⟩:=Afb.1 hx
     rfl
    have hrne : rh ≠ rn:=fun e=>by
     subst e
     rw [hrow] at hrn
     simp at hrn
    obtain ⟨H2,hfz⟩ : ∃ H2,AT [rh,rn] Hi = some H2:=by
     refine ⟨(Hi.set rh (.cs 70 2 (Bm hd) b true)).set rn (.cs 94 2 (BC e1) bn true),?_⟩
     show Option.bind (nth Hi rh) _ = _
     rw [hrow]
     show Option.bind (gd ((Bm hd).all fun e=>e.all isM) (some (Row.cs 70 2 (Bm hd) b true))) _ = _
     rw [hall1]
     show Option.bind (AF Hi rh _) _ = _
     rw [Am _ _ _ (AI hrow)]
     show Option.bind (nth (Hi.set rh _) rn) _ = _
     rw [Ar hrne,hrn]
     show Option.bind (gd ((BC e1).all fun e=>e.all isM) (some (Row.cs 94 2 (BC e1) bn true))) _ = _
     rw [hall2]
     show Option.bind (AF _ rn _) _ = _
     rw [Am _ _ _ (by rw [AfH]; exact AI hrn)]
     rfl
    have gF:=CA (vs:=[V.ag [.m (.i .i64 (S : Int)),.sl rh i 2 0 i false,.sl rn e1.length 2 0 e1.length false]]) (is:=[.ag [.i .i64 (S : Int),.sl (Ay hd),.sl e1]]) rfl rfl gz hvs (by simp [DT,GS]) rfl rfl hfz
    have os : ∀ x,BH (.m (.sl x)) = true:=fun _=>rfl
    simp (disch:=omega) [gd_and,hB6,hB4,amm,ams,am0,cl gF,oi,os]
    exact hok1
   | false =>
    have hR : Abh S f hd1 (e1.map dNd) = some (hd,ns):=hR
    cases f with
    | zero=>cases hR
    | succ f =>
     have hR : (inT S (hd1.length - 1) 0 hd1 (e1.map dNd) true).bind (fun q=>match q.2.2 with
      | true=>some (q.1,q.2.1)
      | false=>Abh S f q.1 q.2.1) = some (hd,ns):=hR
     obtain ⟨q,hq,hR⟩:=AeC.1 hR
     simp (disch:=omega) []
     refine (?key3 : ∀ (r j : Nat) (srt : Bool) (hd1 : Hd) (e1 : List (List I)) (nv : V) (B : List (Nat × List V)) (Hi : Hp) (b : Nat),inT S r j hd1 (e1.map dNd) srt = some q -> r + j + 1 = i -> hd1.length = i -> getB B 4 = some [.m (.i .i64 0),.m (.nl 4),.m (.nl 4)] -> getB B 6 = some [.m (.i .i64 (S : Int)),.sl rh i 2 0 i false,nv] -> b <= i -> nth Hi rh = some (.cs 70 2 (Bm hd1) b false) -> L2 e1 nv Hi -> Ky e1 ->
      Run G c63_B1 (S63_1 (.fa 4 0) (.fa 6 0) (.m (.b srt)) (.m (.i .i64 ((j : Int) + 1))) B Hi) _) (hd1.length - 1) 0 true hd1 e1 nv B Hi b hq (by omega) hl1 hB4 hB6 hb hrow hnd hok1
     clear hq hl1 hB4 hB6 hb hrow hnd hok1
     refine BO (fun r : Nat=>r) fun r ihr j srt hd1 e1 nv B Hi b hq hrj hl1 hB4 hB6 hb hrow hnd hok1=>?_
     unfold c63_B1
     cases r with
     | zero =>
      have hq : some (hd1,e1.map dNd,srt) = some q:=hq
      cases hq
      have hji : ¬ ((j : Int) + 1 < i):=by omega
      have kk:=fun B h4 h6=>ihf f (by omega) srt hd1 e1 nv B Hi b hR hl1 h4 h6 hb hrow hnd hok1
      simp (disch:=omega) [hB6,hji]
      exact kk _ hB4 hB6
     | succ r =>
      have hji : (j : Int) + 1 < i:=by omega
      have hji2 : j + 1 < i:=by omega
      have hji3 : (j : Int) < i:=by omega
      have hji4 : j < i:=by omega
      have hq : (nth hd1 j).bind (fun a=>(nth hd1 (j + 1)).bind fun b=>match ltI 0 (QP a.1 a.2 b.1 b.2) with
       | true=>(swZ S (e1.map dNd) ((hd1.length : Int) - j)).bind fun ns2=>inT S r (j + 1) ((hd1.set j b).set (j + 1) a) ns2 false
       | false=>inT S r (j + 1) hd1 (e1.map dNd) srt) = some q:=hq
      obtain ⟨pa,ha,hq⟩:=AeC.1 hq
      obtain ⟨pb,hpb,hq⟩:=AeC.1 hq
      rw [AA] at ha hpb
      have hna:=FI ha
      have hnb:=FI hpb
      have gc:=fun H=>Xi pa.1 pa.2 pb.1 pb.2 H
      have wj : wr .i64 ((j : Int) + 1 + 1) = ((j + 1 : Nat) : Int) + 1:=by rw [wr_i64 (by omega) (by omega)]; omega
      have wj0 : wr .i64 (j : Int) = (j : Int):=wr_i64 (by omega) (by omega)
      by_cases hg : 0 < QP pa.1 pa.2 pb.1 pb.2
      ·have hgt : ltI 0 (QP pa.1 pa.2 pb.1 pb.2) = true:=by rw [Cy]; simpa using hg
       simp only [hgt] at hq
       obtain ⟨ns2,hsw,hq⟩:=AeC.1 hq
       obtain ⟨z1,z2,bl,to,m,z3,z4,z5,z6,z7,rfl⟩:=VJ hsw
       rw [AeX] at z2 z3 z6
       rw [hl1] at z3
       have hnvn:=hnd.nf
       have ams : ∀ (a b c d e : Nat) (f : Bool) (l : List V),Bo (.sl a b c d e f :: l) = none:=fun _ _ _ _ _ _ _=>rfl
       simp (disch:=omega) [gd_and,hB6,hji,hrow,hb,hl1,rd2 hna,rd2 hnb,amm,ams,am0,cl (gc _),hg,wj0]
       rw [Ak]
       refine SH hok1 hnd (by omega) z1 z2 (by omega) z3 z4 z5 z6 z7 _ fun eo2 oo2 H2 m1 m2 m3 m4 m5 m6=>?_
       have hon2:=m1.nf
       have hrow2 : nth H2 rh = some (.cs 70 2 (Bm hd1) b false):=by rw [m5 rh (AI hrow)]; exact hrow
       have hs1 : AF (Bm hd1) j [.m (.i .i64 pb.1),.m (.i .i64 pb.2)] = some (Bm (hd1.set j pb)):=If (by omega)
       have hs2 : AF (Bm (hd1.set j pb)) (j + 1) [.m (.i .i64 pa.1),.m (.i .i64 pa.2)] = some (Bm ((hd1.set j pb).set (j + 1) pa)):=If (by rw [AfH]; omega)
       have hnb2 : nth (Bm (hd1.set j pb)) (j + 1) = some [.m (.i .i64 pb.1),.m (.i .i64 pb.2)]:=FI (by rw [AfC (by omega)]; exact hpb)
       have hl2 : (hd1.set j pb).length = i:=by rw [AfH]; exact hl1
       have hl3 : ((hd1.set j pb).set (j + 1) pa).length = i:=by rw [AfH,AfH]; exact hl1
       generalize hd1.set j pb = D1 at hs1 hs2 hnb2 hl2 hl3 hq
       generalize D1.set (j + 1) pa = D2 at hs2 hl3 hq
       have se1 : AF H2 rh (.cs 70 2 (Bm D1) i false) = some (H2.set rh (.cs 70 2 (Bm D1) i false)):=Am _ _ _ (AI hrow2)
       have hr3 : nth (H2.set rh (.cs 70 2 (Bm D1) i false)) rh = some (.cs 70 2 (Bm D1) i false):=AO (AI hrow2)
       have se2 : AF (H2.set rh (.cs 70 2 (Bm D1) i false)) rh (.cs 70 2 (Bm D2) i false) = some ((H2.set rh (.cs 70 2 (Bm D1) i false)).set rh (.cs 70 2 (Bm D2) i false)):=Am _ _ _ (AI hr3)
       have hrow3 : nth (H2.set rh (.cs 70 2 (Bm D2) i false)) rh = some (.cs 70 2 (Bm D2) i false):=AO (AI hrow2)
       have hnd3 : L2 eo2 oo2 (H2.set rh (.cs 70 2 (Bm D2) i false)):=m1.keep fun r e _=>by
        have hne : rh ≠ r:=fun e2=>by
         subst e2
         have q:=m1.row e
         rw [hrow2] at q
         simp at q
        rw [Ar hne]
       have kk:=fun B h4 h6=>ihr r (by omega) (j + 1) false D2 eo2 oo2 B _ i (by rw [m3]; exact hq) (by omega) hl3 h4 h6 (AeI _) hrow3 hnd3 m2
       have cva : ∀ l,Ap (.ag l) = some l:=fun _=>rfl
       simp (disch:=omega) [gd_and,hB6,cva,osl,oi,hon2.2.2.1,hrow2,hb,rd2 hna,rd2 hnb,amm,am0,hl1,wj0,wrP hna,hs1,se1,hr3,wrP hnb2,hs2,se2,hl2,wj]
       have ej : ((j : Int) + 1 + 1) = ((j + 1 : Nat) : Int) + 1:=by omega
       rw [ej]
       exact kk _ (by rw [AE]; simpa using hB4) (by rw [AE]; simp)
      ·have hgt : ltI 0 (QP pa.1 pa.2 pb.1 pb.2) = false:=by rw [Cy]; simpa using hg
       simp only [hgt] at hq
       have kk:=fun B h4 h6=>ihr r (by omega) (j + 1) srt hd1 e1 nv B Hi b hq (by omega) hl1 h4 h6 hb hrow hnd hok1
       simp (disch:=omega) [gd_and,hB6,hji,hrow,hb,hl1,rd2 hna,rd2 hnb,amm,am0,cl (gc _),hg,wj,wj0]
       exact kk _ hB4 hB6
 obtain ⟨v,H',g,rfl,eo,h1,h2,rfl⟩:=BX key
 exact ⟨eo,h1,h2,g⟩
end Go.Mx.Tryz
set_option maxHeartbeats 4000000
namespace Go.Mx.Tryz
open Go.Lib
def bdN (ns : List Nd) : Bool:=ns.all fun x=>x.2.all Aar && Nat.ble x.2.length 1000
theorem Tj {es : List (List I)} (h : Ky es) (hb : bdN (es.map dNd) = true) : TZ es:=fun e he=>by
 obtain ⟨x,z,rfl,hz⟩:=h e he
 have hx:=AeQ.1 hb (x,dIn z) (by rw [Afb]; exact ⟨_,he,rfl⟩)
 simp only [AeH] at hx
 have hl:=AfS hx.2
 exact ⟨x,z,rfl,hz,by omega,fun k hk=>by have:=Hj.1 (AeQ.1 hx.1 k hk); omega⟩
theorem Aal {t : TreeC} {es : List (List I)} (hT : TreeV t (.sl (Ay t.hood)) (.sl es) es) (gt : ∀ H,Gives G 103 [.m (.ag [.i .i64 t.states,.sl (Ay t.hood),.sl es])] H (.m (.b (CP t))) H)
  (gh : ∀ H,Gives G 107 [.m (.sl (Ay t.hood)),.m (.sl (Ay t.hood))] H (.m (.b true)) H)
  (gs : Gives G 108 [.m (.ag [.i .i64 t.states,.sl (Ay t.hood),.sl es]),.m (.ag [.i .i64 t.states,.sl (Ay t.hood),.sl es])] [] (.m (.b true)) [])
  (hok : CP t = true) (hr : VR t.nodes = t.nodes) (he : ∀ eo,Ky eo -> eo.map dNd = t.nodes -> eo = es) (H : Hp) :
  Gives G 64 [.m (.ag [.i .i64 t.states,.sl (Ay t.hood),.sl es]),.m (.ag [.i .i64 t.states,.sl (Ay t.hood),.sl es])] H (.m (.b true)) H:=by
 have ga:=gt
 rw [hok] at ga
 have amm : ∀ (x : I) (l : List V),Bo (.m x :: l) = (Bo l).bind fun r=>some (x :: r):=fun _ _=>rfl
 have am0 : Bo [] = some []:=rfl
 have oi : ∀ x : Int,BH (.m (.i .i64 x)) = true:=fun _=>rfl
 have oh:=GC hT.hd
 have on:=GC hT.nd
 obtain ⟨_,_,⟨hn1,_⟩,_,_⟩:=Dy hok
 have hne : t.nodes ≠ []:=fun e=>by rw [e] at hn1; simp at hn1
 refine Ah rfl rfl rfl rfl rfl ?_
 simp (disch:=omega) [Aa,cl (ga _),cl (gh _),amm,am0]
 rw [Ak]
 refine JX hT gt _ (fun _ rh eo oo H1 k1 k2 k3 k4 k5 k6 k7 k8=>?_) (fun e=>by rw [hok] at e; cases e)
 simp (disch:=omega) [Aa]
 rw [Ak]
 refine JX hT gt _ (fun _ rh2 eo2 oo2 H2 m1 m2 m3 m4 m5 m6 m7 m8=>?_) (fun e=>by rw [hok] at e; cases e)
 obtain rfl:=he eo k3 (k4.trans hr)
 obtain rfl:=he eo2 m3 (m4.trans hr)
 have hne1 : eo2 ≠ []:=fun e=>hne (by rw [<- k4.trans hr,e]; rfl)
 rw [Tz] at k1 m1
 have q1 : nth H2 rh = some (.cs 70 2 (Bm t.hood) 0 false):=by rw [m6 rh (AI k1)]; exact k1
 have q2 : L2 eo2 oo H2:=k2.keep fun r _ hr=>m6 r hr
 have v1:=In (k:=17) q1 (AeR _)
 have v2:=In (k:=17) m1 (AeR _)
 have v3:=q2.view hne1 17
 have v4:=m2.view hne1 17
 have hvs : Af (view 20 H2) [V.ag [.m (.i .i64 t.states),.sl rh t.hood.length 2 0 t.hood.length false,oo],V.ag [.m (.i .i64 t.states),.sl rh2 t.hood.length 2 0 t.hood.length false,oo2]] = some [.ag [.i .i64 t.states,.sl (Ay t.hood),.sl eo2],.ag [.i .i64 t.states,.sl (Ay t.hood),.sl eo2]]:=by
  have e0 : Af (view 19 H2) [.m (.i .i64 t.states),.sl rh t.hood.length 2 0 t.hood.length false,oo] = some [.i .i64 t.states,.sl (Ay t.hood),.sl eo2]:=by
   simp only [Af]
   rw [v1,v3]
   rfl
  have e1 : Af (view 19 H2) [.m (.i .i64 t.states),.sl rh2 t.hood.length 2 0 t.hood.length false,oo2] = some [.i .i64 t.states,.sl (Ay t.hood),.sl eo2]:=by
   simp only [Af]
   rw [v2,v4]
   rfl
  show Option.bind (Option.bind (Af (view 19 H2) [.m (.i .i64 t.states),.sl rh t.hood.length 2 0 t.hood.length false,oo]) _) _ = _
  rw [e0]
  show Option.bind (Option.bind (Option.bind (Af (view 19 H2) [.m (.i .i64 t.states),.sl rh2 t.hood.length 2 0 t.hood.length false,oo2]) _) _) _ = _
  rw [e1]
  rfl
 have gF:=Du (H:=H2) rfl rfl gs hvs (.inr ⟨by simp [DT,GS],rfl⟩)
 simp (disch:=omega) [Aa,cl gF]
def QM (k : Nat) : List Int:=(List.range k).map fun j : Nat=>(j : Int)
theorem SC (k : Nat) : QM (k + 1) = QM k ++ [(k : Int)]:=by simp [QM,List.range_succ]
theorem AdA {t : TreeC} {es : List (List I)} (hT : TreeV t (.sl (Ay t.hood)) (.sl es) es) (gt : ∀ H,Gives G 103 [.m (.ag [.i .i64 t.states,.sl (Ay t.hood),.sl es])] H (.m (.b (CP t))) H)
  (gh : ∀ H,Gives G 107 [.m (.sl (Ay t.hood)),.m (.sl (Ay t.hood))] H (.m (.b true)) H)
  (gs : Gives G 108 [.m (.ag [.i .i64 t.states,.sl (Ay t.hood),.sl es]),.m (.ag [.i .i64 t.states,.sl (Ay t.hood),.sl es])] [] (.m (.b true)) [])
  (he : ∀ eo,Ky eo -> eo.map dNd = t.nodes -> eo = es) (hok : CP t = true) (hr : VR t.nodes = t.nodes) (hZ : ∀ k : Nat,k < 8 -> Ia (k : Int) t.states.toNat t.hood t.nodes = some (t.hood,t.nodes)) (H : Hp) :
  Gives G 28 [.m (.ag [.i .i64 t.states,.sl (Ay t.hood),.sl es])] H (.m (.sl (Dj (QM 8)))) H:=by
 obtain ⟨_,hho,⟨hn1,hn2⟩,_,_⟩:=Dy hok
 have amm : ∀ (x : I) (l : List V),Bo (.m x :: l) = (Bo l).bind fun r=>some (x :: r):=fun _ _=>rfl
 have am0 : Bo [] = some []:=rfl
 have oi : ∀ x : Int,BH (.m (.i .i64 x)) = true:=fun _=>rfl
 have os : ∀ x,BH (.m (.sl x)) = true:=fun _=>rfl
 have oh:=GC hT.hd
 have on:=GC hT.nd
 have hne : t.nodes ≠ []:=fun e=>by rw [e] at hn1; simp at hn1
 refine Ah rfl rfl rfl rfl rfl ?_
 simp (disch:=omega) []
 refine (?key : ∀ (k : Nat) (o : V) (B : List (Nat × List V)) (Hi : Hp),k <= 8 -> getB B 1 = some [.m (.i .i64 t.states),.m (.sl (Ay t.hood)),.m (.sl es)] -> LR 3 (iI (QM k)) o Hi Hk ->
  Run G c28_B0 (S28_0 (.fa 1 0) o (.m (.i .i64 (k : Int))) B Hi) _) 0 (.m (.nl 4)) _ _ (by omega) rfl (.inl ⟨rfl,rfl⟩)
 refine BO (fun k : Nat=>8 - k) fun k ih o B Hi hk hB hl=>?_
 unfold c28_B0
 have hon:=hl.nf
 by_cases hk8 : k < 8
 ·have hk8' : (k : Int) < 8:=by omega
  obtain ⟨eo,he1,he2,gu⟩:=Zo hT gt hok (hZ k hk8) ⟨hn1,hn2⟩ Hi
  obtain rfl:=he eo he2 he1
  have ge:=Aal hT gt gh gs hok hr he
  obtain ⟨o1,H1,a1,a2,a3,_,_⟩:=hl.push1 (b:=8) (by omega) (y:=.i .i64 (k : Int)) (by unfold QM; simp; omega) rfl
  have e1 : iI (QM k) ++ [.i .i64 (k : Int)] = iI (QM (k + 1)):=by rw [SC]; simp [iI]
  rw [e1] at a3
  have wk : wr .i64 ((k : Int) + 1) = ((k + 1 : Nat) : Int):=wr_i64 (by omega) (by omega)
  have kk:=fun B h=>ih (k + 1) (by omega) o1 B H1 (by omega) h a3
  simp (disch:=omega) [gd_and,hk8',hB,amm,am0,oi,os,cl gu,cl (ge _),Aa,a1,Ag a2,wk]
  exact kk _ (by rw [AE]; simpa using hB)
 ·have : k = 8:=by omega
  subst this
  have hv:=hl.viewR
  have hz : zL (iI (QM 8)) = .sl (Dj (QM 8)):=by
   unfold zL
   rw [AeF (by simp [iI,QM]),Ma]
  rw [hz] at hv
  simp (disch:=omega) [Ag hon.1,hon.1,hv]
end Go.Mx.Tryz
