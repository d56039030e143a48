/- Histories of the reference. -/
import Derived.Test.YtlhjjcaifenlbaaGreatDoorRc
import Derived.Test.YtlhjjcaifenlbaaGreatDoorRb
import Derived.Test.YtlhjjcaifenlbaaGreatDoorVn
set_option linter.unusedSimpArgs false
set_option linter.unusedVariables false
set_option linter.unusedSectionVars false
set_option maxRecDepth 100000
set_option maxHeartbeats 4000000
namespace Go.Mx.Tryz
open Go.Lib Go.Proofs
theorem Nz {α : Type} (l : List α) (x y : α) : Bl (l ++ [x]) l.length y = some (l ++ [y]):=by
 rw [BF _ _ _ (by simp)]
 simp
theorem VR {α : Type} (l : List α) (x : α) : nth (l ++ [x]) l.length = some x:=by rw [AV]; simp
def FN (l : List (Int × Int)) : List (List V):=l.map fun p=>[.m (.i .i64 p.1),.m (.i .i64 p.2)]
@[simp] theorem RK (l : List (Int × Int)) : (FN l).length = l.length:=by simp [FN]
def z2 (l : List (Int × Int)) : I:=if l = [] then .nl 4 else .sl (Dt l)
theorem z2_sl (l : List (Int × Int)) : IsSl (z2 l) (Dt l):=by
 unfold z2
 split
 ·rename_i h; subst h; exact AH
 ·exact Be _
def SS (acc : List (Int × Int)) (o : V) (H : Hp) : Prop:=(acc = [] /\ o = .m (.nl 4)) \/ (acc ≠ [] /\ ∃ r,o = .sl r acc.length 2 0 acc.length false /\ nth H r = some (.cs 43 2 (FN acc) 0 false))
theorem KK {acc : List (Int × Int)} {o : V} {H : Hp} (h : SS acc o H) (hl : acc.length <= 1000000) (x y : Int) : ∃ o1 H1,(∀ B,EJ ⟨B,H⟩ 43 2 16 o [[.m (.i .i64 x),.m (.i .i64 y)]] = some (o1,⟨B,H1⟩)) /\ AB o1 = true /\ SS (acc ++ [(x,y)]) o1 H1:=by
 rcases h with ⟨rfl,rfl⟩ | ⟨hne,r,rfl,h1⟩
 ·refine ⟨.sl H.length 1 2 0 1 false,H ++ [.cs 43 2 (FN [(x,y)]) 0 false],fun B=>rfl,rfl,.inr ⟨by simp,H.length,rfl,Sk H _ 0⟩⟩
 ·have ha:=fun B=>Dc (M:=⟨B,H⟩) (r:=r) (bytes:=16) (xs:=[[.m (.i .i64 x),.m (.i .i64 y)]]) h1 (by simp) (by simp; omega) rfl
  have es : FN acc ++ [[V.m (.i .i64 x),.m (.i .i64 y)]] = FN (acc ++ [(x,y)]):=by simp [FN]
  simp only [RK,Adk,Adp,AdF,es] at ha
  refine ⟨_,_,ha,rfl,.inr ⟨by simp,r,by simp,?_⟩⟩
  exact HF (Mc h1)
theorem Sa {acc : List (Int × Int)} {o : V} {H : Hp} (h : SS acc o H) (x : Row) : SS acc o (H ++ [x]):=by
 rcases h with h | ⟨hne,r,h1,h2⟩
 ·exact .inl h
 ·exact .inr ⟨hne,r,h1,by rw [Sl _ _ _ (Mc h2)]; exact h2⟩
theorem opt2 (k : Nat) (H : Hp) : ∀ l : List (Int × Int),Ak (fun e=>Ak (view (k + 1) H) e) (FN l) = some (Dt l)
 | []=>rfl
 | x :: r=>by
  show Option.bind (some [I.i .i64 x.1,.i .i64 x.2]) _ = _
  simp only [AcG]
  have:=opt2 k H r
  show Option.bind (Ak _ (FN r)) _ = _
  rw [this]
  rfl
theorem view2 {H : Hp} {r : Nat} {f : List (Int × Int)} (h : nth H r = some (.cs 43 2 (FN f) 0 false)) (k : Nat) : view (k + 2) H (.sl r f.length 2 0 f.length false) = some (.sl (Dt f)):=by
 have e : elems H (.sl r f.length 2 0 f.length false) = some (FN f):=by
  show Option.bind (nth H r) _ = _
  rw [h]
  show gd (Nat.ble 0 f.length && Nat.beq 2 2) (some (((FN f).drop 0).take f.length)) = _
  rw [BG,AcI (AcF _),List.drop_zero,AcP (by simp)]
  rfl
 show Option.bind (elems H (.sl r f.length 2 0 f.length false)) _ = _
 rw [e]
 show Option.bind (Ak _ (FN f)) _ = _
 rw [opt2]
 rfl
theorem Do {acc : List (Int × Int)} {o : V} {H : Hp} (h : SS acc o H) : view 20 H o = some (z2 acc) /\ AB o = true:=by
 rcases h with ⟨rfl,rfl⟩ | ⟨hne,r,rfl,h1⟩
 ·exact ⟨rfl,rfl⟩
 ·refine ⟨?_,rfl⟩
  unfold z2
  rw [Acz hne]
  exact view2 h1 18
theorem RZ {acc : List (Int × Int)} {o : V} {H : Hp} (h : SS acc o H) : viewR H o = some (.m (z2 acc)):=by
 have hv:=(Do h).1
 rcases h with ⟨rfl,rfl⟩ | ⟨hne,r,rfl,h1⟩
 ·rfl
 ·show (view 20 _ _).bind _ = _
  rw [hv]
  rfl
def nr (c : Ce) (k : Int × Int) : Prop:=(-2 <= k.1 - c.x /\ k.1 - c.x <= 2) /\ (-2 <= k.2 - c.y /\ k.2 - c.y <= 2)
instance (c : Ce) (k : Int × Int) : Decidable (nr c k):=by unfold nr; infer_instance
def nrs (p : List Ce) (i : Nat) (k : Int × Int) : Prop:=∃ c,c ∈ p.take i /\ nr c k
theorem NH {p : List Ce} {i : Nat} {c : Ce} (hx : p[i]? = some c) (k : Int × Int) : nrs p (i + 1) k ↔ nrs p i k \/ nr c k:=by
 unfold nrs
 rw [Ap hx]
 constructor
 ·rintro ⟨d,hd,h⟩
  rcases Adx.1 hd with hd | hd
  ·exact .inl ⟨d,hd,h⟩
  ·rw [AcZ.1 hd] at h; exact .inr h
 ·rintro (⟨d,hd,h⟩ | h)
  ·exact ⟨d,by simp [hd],h⟩
  ·exact ⟨c,by simp,h⟩
structure NearQ (p : List Ce) (acc : List (Int × Int)) : Prop where
 nd : acc.Nodup
 all : ∀ c k,c ∈ p -> nr c k -> k ∈ acc
 len : acc.length <= 1000000
 bnd : ∀ k,k ∈ acc -> (-4000000 <= k.1 /\ k.1 <= 4000000) /\ (-4000000 <= k.2 /\ k.2 <= 4000000)
theorem SH {p : List Ce} {v : I} {fl : Bool} {bx by_ w h : Int} {cs : I} (hv : IsSl v (Ag p)) (hl : p.length <= 5000) (hg : ∀ c,c ∈ p -> Cj c = true) (i : Nat) (hi : i <= p.length) (k : Int × Int) (hk : (-4000000 <= k.1 /\ k.1 <= 4000000) /\ (-4000000 <= k.2 /\ k.2 <= 4000000)) (H : Hp) : ∃ b,(b = true ↔ nrs p i k) /\ Gives G 130 [.m (KV fl bx by_ w h cs v),.m (.i .i64 (i : Int)),.m (.ag [.i .i64 k.1,.i .i64 k.2])] H (.m (.b b)) H:=by
 have hrv:=hv.rules
 simp only [show (Ag p).length = p.length from by simp [Ag]] at hrv
 have key : ∃ x H',Gives G 130 [.m (KV fl bx by_ w h cs v),.m (.i .i64 (i : Int)),.m (.ag [.i .i64 k.1,.i .i64 k.2])] H x H' /\ (H' = H /\ ∃ b,(b = true ↔ nrs p i k) /\ x = .m (.b b)):=by
  refine AQ ?_
  refine Cu rfl rfl rfl rfl rfl ?_
  generalize hQ : (fun (x : V) (H' : Hp)=>H' = H /\ ∃ b,(b = true ↔ nrs p i k) /\ x = .m (.b b)) = Q
  have qt : nrs p i k -> Q (.m (.b true)) H:=fun hh=>by rw [<- hQ]; exact ⟨rfl,true,⟨fun _=>hh,fun _=>rfl⟩,rfl⟩
  have qf : ¬ nrs p i k -> Q (.m (.b false)) H:=fun hh=>by rw [<- hQ]; exact ⟨rfl,false,⟨fun h=>(by cases h),fun h=>absurd h hh⟩,rfl⟩
  clear hQ
  unfold KV
  simp (maxSteps:=2000000) (disch:=omega) []
  refine (?key : ∀ (j : Nat) (B : List (Nat × List V)),j <= i -> getB B 3 = some [.m (.b fl),.m (.i .i64 bx),.m (.i .i64 by_),.m (.i .i64 w),.m (.i .i64 h),.m cs,.m v] -> getB B 5 = some [.m (.i .i64 k.1),.m (.i .i64 k.2)] -> ¬ nrs p j k -> Run G c130_B0 (S130_0 (.m (.i .i64 (i : Int))) (.fa 3 0) (.fa 5 0) (.m (.i .i64 (j : Int))) B []) _) 0 _ (AcF _) rfl rfl (fun ⟨c,hc,_⟩=>by simp at hc)
  refine Bk (fun j : Nat=>i - j) fun j ih B hj hB3 hB5 hno=>?_
  unfold c130_B0
  by_cases hji : j < i
  ·have hji2 : (j : Int) < i:=by omega
   obtain ⟨c,hx⟩ : ∃ c,p[j]? = some c:=⟨_,AcA (by omega)⟩
   have hlt:=(Al hx).1
   have hlt' : (j : Int) < p.length:=by omega
   have hn:=An hx
   have hcb : (-1048576 <= c.x /\ c.x <= 1048576) /\ (-1048576 <= c.y /\ c.y <= 1048576):=by
    have:=hg c (AcE hx)
    unfold Cj AE at this
    simp only [Acx,AcK] at this
    omega
   obtain ⟨dx,hdx⟩ : ∃ dx,dx = k.1 - c.x:=⟨_,rfl⟩
   obtain ⟨dy,hdy⟩ : ∃ dy,dy = k.2 - c.y:=⟨_,rfl⟩
   have w1 : wr .i64 (k.1 - c.x) = dx:=by rw [hdx]; exact Aa (by omega) (by omega)
   have w2 : wr .i64 (k.2 - c.y) = dy:=by rw [hdy]; exact Aa (by omega) (by omega)
   have w3 : wr .i64 (-dx) = -dx:=Aa (by omega) (by omega)
   have w4 : wr .i64 (-dy) = -dy:=Aa (by omega) (by omega)
   have wj : wr .i64 ((j : Int) + 1) = ((j + 1 : Nat) : Int):=Aa (by omega) (by omega)
   have hnr : nr c k ↔ max dx (-dx) <= 2 /\ max dy (-dy) <= 2:=by
    unfold nr
    rw [<- hdx,<- hdy]
    omega
   have hsn:=NH hx k
   by_cases h1 : max dx (-dx) <= 2
   ·by_cases h2 : max dy (-dy) <= 2
    ·have k1:=qt (by
      obtain ⟨d,hd,hh⟩:=hsn.2 (.inr (hnr.2 ⟨h1,h2⟩))
      refine ⟨d,?_,hh⟩
      obtain ⟨m,hm⟩:=Adz.1 hd
      have hml:=(Al hm).1
      rw [AcL] at hml
      rw [AcW] at hm
      split at hm
      ·exact Adz.2 ⟨m,by rw [AcW,AcC (by omega)]; exact hm⟩
      ·cases hm)
     simp (maxSteps:=2000000) (disch:=omega) [hrv,hji2,hn,hB3,hB5,w1,w2,w3,w4,h1,h2]
     exact k1
    ·have k1:=ih (j + 1) (by omega) B (by omega) hB3 hB5 (fun hh=>(hsn.1 hh).elim hno fun h=>h2 (hnr.1 h).2)
     simp (maxSteps:=2000000) (disch:=omega) [hrv,hji2,hn,hB3,hB5,w1,w2,w3,w4,h1,h2,wj,-Int.natCast_add]
     exact k1
   ·have k1:=ih (j + 1) (by omega) B (by omega) hB3 hB5 (fun hh=>(hsn.1 hh).elim hno fun h=>h1 (hnr.1 h).1)
    simp (maxSteps:=2000000) (disch:=omega) [hrv,hji2,hn,hB3,hB5,w1,w2,w3,h1,wj,-Int.natCast_add]
    exact k1
  ·have : j = i:=by omega
   subst this
   have k1:=qf hno
   simp (maxSteps:=2000000) (disch:=omega) []
   exact k1
 obtain ⟨x,H',h1,rfl,b,h2,rfl⟩:=key
 exact ⟨b,h2,h1⟩
theorem Yx {p : List Ce} {v : I} {bx by_ : Int} {w h : Nat} {cs : I} (hwh : (w + 4) * (h + 4) <= 1000000) (hw4 : w <= 1000000 /\ h <= 1000000) (hbx : -1048576 <= bx /\ bx <= 1048576) (hby : -1048576 <= by_ /\ by_ <= 1048576) (hin : ∀ c,c ∈ p -> (bx <= c.x /\ c.x < bx + w) /\ (by_ <= c.y /\ c.y < by_ + h)) (H : Hp) :
  ∃ acc,NearQ p acc /\ Gives G 99 [.m (KV true bx by_ w h cs v)] H (.m (z2 acc)) H:=by
 have key : ∃ x H',Gives G 99 [.m (KV true bx by_ w h cs v)] H x H' /\ (H' = H /\ ∃ acc,NearQ p acc /\ x = .m (z2 acc)):=by
  refine AQ ?_
  refine Cu rfl rfl rfl rfl rfl ?_
  generalize hQ : (fun (x : V) (H' : Hp)=>H' = H /\ ∃ acc,NearQ p acc /\ x = .m (z2 acc)) = Q
  have qk : ∀ acc,NearQ p acc -> Q (.m (z2 acc)) H:=fun acc hh=>by rw [<- hQ]; exact ⟨rfl,acc,hh,rfl⟩
  clear hQ
  have y0 : wr .i64 (by_ - 2) = by_ - 2:=Aa (by omega) (by omega)
  have x0 : wr .i64 (bx - 2) = bx - 2:=Aa (by omega) (by omega)
  have yh : wr .i64 (by_ + (h : Int)) = by_ + h:=Aa (by omega) (by omega)
  have yh2 : wr .i64 (by_ + (h : Int) + 2) = by_ + h + 2:=Aa (by omega) (by omega)
  have xw : wr .i64 (bx + (w : Int)) = bx + w:=Aa (by omega) (by omega)
  have xw2 : wr .i64 (bx + (w : Int) + 2) = bx + w + 2:=Aa (by omega) (by omega)
  unfold KV
  simp (maxSteps:=2000000) (disch:=omega) [y0]
  refine (?key : ∀ (r : Nat) (yy : Int) (acc : List (Int × Int)) (o : V) (B : List (Nat × List V)) (H1 : Hp),r <= h + 4 -> yy = by_ - 2 + (r : Int) -> getB B 1 = some [.m (.b true),.m (.i .i64 bx),.m (.i .i64 by_),.m (.i .i64 w),.m (.i .i64 h),.m cs,.m v] -> acc.Nodup -> (∀ u z,(u,z) ∈ acc ↔ (bx - 2 <= u /\ u < bx + w + 2) /\ (by_ - 2 <= z /\ z < by_ - 2 + r)) -> acc.length = r * (w + 4) -> SS acc o H1 -> Run G c99_B1 (S99_1 (.fa 1 0) o (.m (.i .i64 yy)) B H1) _) 0 (by_ - 2) [] _ _ _ (AcF _) (by simp) rfl .nil (fun u z=>⟨fun h=>by simp at h,fun h=>by omega⟩) (by simp) (.inl ⟨rfl,rfl⟩)
  refine Bk (fun r : Nat=>h + 4 - r) fun r ih yy acc o B H1 hr hyy hB hnd hmem hlen ho=>?_
  unfold c99_B1
  obtain ⟨hvw,hnf⟩:=Do ho
  by_cases hrh : r < h + 4
  ·have t1 : yy < by_ + h + 2:=by omega
   have wr1 : wr .i64 (yy + 1) = yy + 1:=Aa (by omega) (by omega)
   simp (maxSteps:=2000000) (disch:=omega) [hB,yh,yh2,t1,x0]
   refine (?key2 : ∀ (q : Nat) (xx : Int) (acc : List (Int × Int)) (o : V) (B : List (Nat × List V)) (H1 : Hp),q <= w + 4 -> xx = bx - 2 + (q : Int) -> getB B 1 = some [.m (.b true),.m (.i .i64 bx),.m (.i .i64 by_),.m (.i .i64 w),.m (.i .i64 h),.m cs,.m v] -> acc.Nodup -> (∀ u z,(u,z) ∈ acc ↔ ((bx - 2 <= u /\ u < bx + w + 2) /\ (by_ - 2 <= z /\ z < by_ - 2 + r)) \/ (z = by_ - 2 + r /\ (bx - 2 <= u /\ u < bx - 2 + q))) -> acc.length = r * (w + 4) + q -> SS acc o H1 -> Run G c99_B0 (S99_0 (.fa 1 0) o (.m (.i .i64 yy)) (.m (.i .i64 xx)) B H1) _) 0 (bx - 2) acc o _ H1 (AcF _) (by simp) hB hnd (fun u z=>(hmem u z).trans ⟨fun h=>.inl h,fun h=>h.elim id fun h=>by omega⟩) (by omega) ho
   clear hvw hnf hmem hnd hlen ho hB acc o B H1
   refine Bk (fun q : Nat=>w + 4 - q) fun q ihq xx acc o B H1 hq hxx hB hnd hmem hlen ho=>?_
   unfold c99_B0
   obtain ⟨hvw,hnf⟩:=Do ho
   by_cases hqw : q < w + 4
   ·have t2 : xx < bx + w + 2:=by omega
    have wq1 : wr .i64 (xx + 1) = xx + 1:=Aa (by omega) (by omega)
    have hlb : acc.length <= 1000000:=by
     have h1 : r * (w + 4) + (w + 4) <= (w + 4) * (h + 4):=by
      rw [AdK (w + 4) (h + 4),<- Nat.succ_mul]
      exact Adh _ hrh
     omega
    obtain ⟨o1,H2,hap,hn1,ho1⟩:=KK ho hlb xx yy
    have k:=ihq (q + 1) (by omega) (xx + 1) (acc ++ [(xx,yy)]) o1 B H2 (by omega) (by omega) hB (by
     rw [List.nodup_append]
     refine ⟨hnd,by simp,fun a ha b hb=>?_⟩
     rw [AcZ.1 hb]
     intro e
     subst e
     have:=(hmem _ _).1 ha
     omega) (fun u z=>by
     rw [Adx,AcZ,hmem,Acw]
     constructor
     ·rintro ((h1 | h1) | h1)
      ·exact .inl h1
      ·exact .inr (by omega)
      ·exact .inr (by omega)
     ·rintro (h1 | h1)
      ·exact .inl (.inl h1)
      ·by_cases hu : u < bx - 2 + q
       ·exact .inl (.inr (by omega))
       ·exact .inr (by omega)) (by simp; omega) ho1
    simp (maxSteps:=2000000) (disch:=omega) [hB,xw,xw2,t2,hap,wq1,As hn1,-Int.natCast_add]
    exact k
   ·have : q = w + 4:=by omega
    subst this
    have t2 : ¬ xx < bx + w + 2:=by omega
    have k:=ih (r + 1) (by omega) (yy + 1) acc o B H1 (by omega) (by omega) hB hnd (fun u z=>(hmem u z).trans (by
     constructor
     ·rintro (h1 | h1)
      ·omega
      ·omega
     ·intro h1
      by_cases hz : z < by_ - 2 + r
      ·exact .inl (by omega)
      ·exact .inr (by omega))) (by rw [hlen,Nat.succ_mul]) ho
    simp (maxSteps:=2000000) (disch:=omega) [hB,xw,xw2,t2,wr1,-Int.natCast_add]
    exact k
  ·have : r = h + 4:=by omega
   subst this
   have t1 : ¬ yy < by_ + h + 2:=by omega
   have k:=qk acc ⟨hnd,fun c k hc hk=>by
    have:=hin c hc
    obtain ⟨a,b⟩:=k
    unfold nr at hk
    dsimp only at hk
    exact (hmem a b).2 (by omega),by rw [hlen,AdK]; omega,fun k hk=>by
    obtain ⟨a,b⟩:=k
    have:=(hmem a b).1 hk
    dsimp only
    omega⟩
   have hvr:=RZ ho
   simp (maxSteps:=2000000) (disch:=omega) [hB,yh,yh2,t1,As hnf,hvr,-Int.natCast_add]
   first | exact k | exact ⟨hnf,k⟩
 obtain ⟨x,H',h1,rfl,acc,h2,rfl⟩:=key
 exact ⟨acc,h2,h1⟩
theorem Yw {p : List Ce} {v : I} {bx by_ w h : Int} {cs : I} (hv : IsSl v (Ag p)) (hl : p.length <= 5000) (hg : ∀ c,c ∈ p -> Cj c = true) (H : Hp) :
  ∃ acc,NearQ p acc /\ Gives G 99 [.m (KV false bx by_ w h cs v)] H (.m (z2 acc)) H:=by
 have hrv:=hv.rules
 simp only [show (Ag p).length = p.length from by simp [Ag]] at hrv
 have ge:=fun i hi k hk H=>SH (fl:=false) (bx:=bx) (by_:=by_) (w:=w) (h:=h) (cs:=cs) hv hl hg i hi k hk H
 have key : ∃ x H',Gives G 99 [.m (KV false bx by_ w h cs v)] H x H' /\ (H' = H /\ ∃ acc,NearQ p acc /\ x = .m (z2 acc)):=by
  refine AQ ?_
  refine Cu rfl rfl rfl rfl rfl ?_
  generalize hQ : (fun (x : V) (H' : Hp)=>H' = H /\ ∃ acc,NearQ p acc /\ x = .m (z2 acc)) = Q
  have qk : ∀ acc,NearQ p acc -> Q (.m (z2 acc)) H:=fun acc hh=>by rw [<- hQ]; exact ⟨rfl,acc,hh,rfl⟩
  clear hQ
  unfold KV at ge ⊢
  simp (maxSteps:=2000000) (disch:=omega) []
  refine (?key : ∀ (i : Nat) (acc : List (Int × Int)) (o : V) (B : List (Nat × List V)) (H1 : Hp),i <= p.length -> getB B 1 = some [.m (.b false),.m (.i .i64 bx),.m (.i .i64 by_),.m (.i .i64 w),.m (.i .i64 h),.m cs,.m v] -> acc.Nodup -> (∀ k,k ∈ acc ↔ nrs p i k) -> acc.length <= 25 * i -> SS acc o H1 -> Run G c99_B4 (S99_4 (.fa 1 0) o (.m (.i .i64 (i : Int))) B H1) _) 0 [] _ _ _ (AcF _) rfl .nil (fun k=>⟨fun h=>by simp at h,fun ⟨c,hc,_⟩=>by simp at hc⟩) (by simp) (.inl ⟨rfl,rfl⟩)
  refine Bk (fun i : Nat=>p.length - i) fun i ih acc o B H1 hi hB hnd hmem hlen ho=>?_
  unfold c99_B4
  obtain ⟨hvw,hnf⟩:=Do ho
  cases hx : p[i]? with
  | none =>
   have : i = p.length:=by have:=AcB.1 hx; omega
   subst this
   have hvr:=RZ ho
   have k:=qk acc ⟨hnd,fun c k hc hk=>(hmem k).2 ⟨c,by rw [AcV]; exact hc,hk⟩,by omega,fun k hk=>by
    obtain ⟨c,hc,hn⟩:=(hmem k).1 hk
    rw [AcV] at hc
    have:=hg c hc
    unfold Cj AE at this
    simp only [Acx,AcK] at this
    unfold nr at hn
    omega⟩
   simp (maxSteps:=2000000) (disch:=omega) [hrv,hB,As hnf,hvr]
   first | exact k | exact ⟨hnf,k⟩
  | some c =>
   have hlt:=(Al hx).1
   have hlt' : (i : Int) < p.length:=by omega
   have hn:=An hx
   have wi : wr .i64 ((i : Int) + 1) = ((i + 1 : Nat) : Int):=Aa (by omega) (by omega)
   have hcb : (-1048576 <= c.x /\ c.x <= 1048576) /\ (-1048576 <= c.y /\ c.y <= 1048576):=by
    have:=hg c (AcE hx)
    unfold Cj AE at this
    simp only [Acx,AcK] at this
    omega
   simp (maxSteps:=2000000) (disch:=omega) [hrv,hlt',hB]
   refine (?key2 : ∀ (r : Nat) (yy : Int) (acc : List (Int × Int)) (o : V) (B : List (Nat × List V)) (H1 : Hp),r <= 5 -> yy = -2 + (r : Int) -> getB B 1 = some [.m (.b false),.m (.i .i64 bx),.m (.i .i64 by_),.m (.i .i64 w),.m (.i .i64 h),.m cs,.m v] -> acc.Nodup -> (∀ k,k ∈ acc ↔ nrs p i k \/ (nr c k /\ k.2 - c.y < yy)) -> acc.length <= 25 * i + 5 * r -> SS acc o H1 -> Run G c99_B3 (S99_3 (.fa 1 0) o (.m (.i .i64 (i : Int))) (.m (.i .i64 yy)) B H1) _) 0 (-2) acc o _ H1 (AcF _) (by simp) hB hnd (fun k=>(hmem k).trans ⟨fun h=>.inl h,fun h=>h.elim id fun h=>by unfold nr at h; omega⟩) (by omega) ho
   clear hvw hnf hmem hnd hlen ho hB acc o B H1
   refine Bk (fun r : Nat=>5 - r) fun r ihr yy acc o B H1 hr hyy hB hnd hmem hlen ho=>?_
   unfold c99_B3
   obtain ⟨hvw,hnf⟩:=Do ho
   by_cases hr5 : r < 5
   ·have t1 : yy <= 2:=by omega
    have wy1 : wr .i64 (yy + 1) = yy + 1:=Aa (by omega) (by omega)
    simp (maxSteps:=2000000) (disch:=omega) [t1]
    refine (?key3 : ∀ (q : Nat) (xx : Int) (acc : List (Int × Int)) (o : V) (B : List (Nat × List V)) (H1 : Hp),q <= 5 -> xx = -2 + (q : Int) -> getB B 1 = some [.m (.b false),.m (.i .i64 bx),.m (.i .i64 by_),.m (.i .i64 w),.m (.i .i64 h),.m cs,.m v] -> acc.Nodup -> (∀ k,k ∈ acc ↔ nrs p i k \/ (nr c k /\ (k.2 - c.y < yy \/ (k.2 - c.y = yy /\ k.1 - c.x < xx)))) -> acc.length <= 25 * i + 5 * r + q -> SS acc o H1 -> Run G c99_B2 (S99_2 (.fa 1 0) o (.m (.i .i64 (i : Int))) (.m (.i .i64 yy)) (.m (.i .i64 xx)) B H1) _) 0 (-2) acc o _ H1 (AcF _) (by simp) hB hnd (fun k=>(hmem k).trans ⟨fun h=>h.elim .inl fun h=>.inr ⟨h.1,.inl h.2⟩,fun h=>h.elim .inl fun h=>.inr ⟨h.1,by have:=h.1; unfold nr at this; omega⟩⟩) (by omega) ho
    clear hvw hnf hmem hnd hlen ho hB acc o B H1
    refine Bk (fun q : Nat=>5 - q) fun q ihq xx acc o B H1 hq hxx hB hnd hmem hlen ho=>?_
    unfold c99_B2
    obtain ⟨hvw,hnf⟩:=Do ho
    by_cases hq5 : q < 5
    ·have t2 : xx <= 2:=by omega
     have wx1 : wr .i64 (xx + 1) = xx + 1:=Aa (by omega) (by omega)
     obtain ⟨X,hX⟩ : ∃ X,X = c.x + xx:=⟨_,rfl⟩
     obtain ⟨Y,hY⟩ : ∃ Y,Y = c.y + yy:=⟨_,rfl⟩
     have wX : wr .i64 (c.x + xx) = X:=by rw [hX]; exact Aa (by omega) (by omega)
     have wY : wr .i64 (c.y + yy) = Y:=by rw [hY]; exact Aa (by omega) (by omega)
     have hnrk : nr c (X,Y):=by unfold nr; dsimp only; omega
     have ho':=Sa ho (.cs 43 2 [[.m (.i .i64 X),.m (.i .i64 Y)]] 1 false)
     obtain ⟨b,hb,gE⟩:=ge i (by omega) (X,Y) (by dsimp only; omega) (H1 ++ [.cs 43 2 [[.m (.i .i64 X),.m (.i .i64 Y)]] 1 false])
     dsimp only at gE
     have w22 : ∀ a b c d : V,DD 2 [[a,b]] 0 0 [c,d] = some [[c,d]]:=fun _ _ _ _=>rfl
     have r22 : ∀ a b : V,DU 2 [[a,b]] 0 0 2 = some [a,b]:=fun _ _=>rfl
     cases b with
     | true =>
      have hold:=hb.1 rfl
      have k:=ihq (q + 1) (by omega) (xx + 1) acc o B (H1 ++ [.cs 43 2 [[.m (.i .i64 X),.m (.i .i64 Y)]] 1 false]) (by omega) (by omega) hB hnd (fun k=>(hmem k).trans (by
       constructor
       ·rintro (h1 | ⟨h1,h2⟩)
        ·exact .inl h1
        ·exact .inr ⟨h1,by omega⟩
       ·rintro (h1 | ⟨h1,h2⟩)
        ·exact .inl h1
        ·by_cases e : k = (X,Y)
         ·subst e; exact .inl hold
         ·refine .inr ⟨h1,?_⟩
          have : ¬ (k.1 = X /\ k.2 = Y):=fun h=>e (Prod.ext h.1 h.2)
          omega)) (by omega) ho'
      simp (maxSteps:=2000000) (disch:=omega) [Ab,t2,hB,hrv,hn,wX,wY,Nz,VR,w22,r22,cl gE,wx1]
      exact k
     | false =>
      have hnew : ¬ nrs p i (X,Y):=fun h=>by have:=hb.2 h; cases this
      obtain ⟨o1,H2,hap,hn1,ho1⟩:=KK ho' (by omega) X Y
      have k:=ihq (q + 1) (by omega) (xx + 1) (acc ++ [(X,Y)]) o1 B H2 (by omega) (by omega) hB (by
       rw [List.nodup_append]
       refine ⟨hnd,by simp,fun a ha b hb=>?_⟩
       rw [AcZ.1 hb]
       intro e
       subst e
       rcases (hmem _).1 ha with h1 | ⟨_,h2⟩
       ·exact hnew h1
       ·dsimp only at h2; omega) (fun k=>by
       rw [Adx,AcZ,hmem]
       constructor
       ·rintro ((h1 | ⟨h1,h2⟩) | rfl)
        ·exact .inl h1
        ·exact .inr ⟨h1,by omega⟩
        ·exact .inr ⟨hnrk,by dsimp only; omega⟩
       ·rintro (h1 | ⟨h1,h2⟩)
        ·exact .inl (.inl h1)
        ·by_cases e : k = (X,Y)
         ·exact .inr e
         ·refine .inl (.inr ⟨h1,?_⟩)
          have : ¬ (k.1 = X /\ k.2 = Y):=fun h=>e (Prod.ext h.1 h.2)
          omega) (by simp; omega) ho1
      simp (maxSteps:=2000000) (disch:=omega) [Ab,t2,hB,hrv,hn,wX,wY,Nz,VR,w22,r22,cl gE,hap,wx1,As hn1]
      exact k
    ·have : q = 5:=by omega
     subst this
     have t2 : ¬ xx <= 2:=by omega
     have k:=ihr (r + 1) (by omega) (yy + 1) acc o B H1 (by omega) (by omega) hB hnd (fun k=>(hmem k).trans (by
      constructor
      ·rintro (h1 | ⟨h1,h2⟩)
       ·exact .inl h1
       ·exact .inr ⟨h1,by omega⟩
      ·rintro (h1 | ⟨h1,h2⟩)
       ·exact .inl h1
       ·refine .inr ⟨h1,?_⟩
        unfold nr at h1
        omega)) (by omega) ho
     simp (maxSteps:=2000000) (disch:=omega) [t2,wy1]
     exact k
   ·have : r = 5:=by omega
    subst this
    have t1 : ¬ yy <= 2:=by omega
    have k:=ih (i + 1) (by omega) acc o B H1 (by omega) hB hnd (fun k=>(hmem k).trans (by
     rw [NH hx]
     constructor
     ·rintro (h1 | ⟨h1,h2⟩)
      ·exact .inl h1
      ·exact .inr h1
     ·rintro (h1 | h1)
      ·exact .inl h1
      ·exact .inr ⟨h1,by unfold nr at h1; omega⟩)) (by omega) ho
    simp (maxSteps:=2000000) (disch:=omega) [t1,wi,-Int.natCast_add]
    exact k
 obtain ⟨x,H',h1,rfl,acc,h2,rfl⟩:=key
 exact ⟨acc,h2,h1⟩
def dmp (D : List (Int × Int)) : Row:=mPB (D.map fun k=>(k,true))
theorem UI (D : List (Int × Int)) (k : Int × Int) : (CW (D.map fun k=>(k,true)) k).getD false = decide (k ∈ D):=by
 induction D with
 | nil=>rfl
 | cons a r ih =>
  by_cases h : a = k
  ·subst h; simp [CW]
  ·have h2 : ¬ k = a:=fun e=>h e.symm
   simp only [Adi,CW,Acz h,ih,AcU,h2,false_or]
theorem YK (D : List (Int × Int)) (x y : Int) : Ff ⟨true,[1,1]⟩ [.m (.b false)] false false (dmp D) (.ag [.i .i64 x,.i .i64 y]) = some (.m (.b (decide ((x,y) ∈ D)))):=by
 have:=Xh (D.map fun k=>(k,true)) x y false
 rw [UI] at this
 exact this
theorem Acf {D : List (Int × Int)} {x y : Int} (h : (x,y) ∉ D) : TK ⟨true,[1,1]⟩ (dmp D) (.ag [.i .i64 x,.i .i64 y]) (.m (.b true)) = some (dmp (D ++ [(x,y)])):=by
 have:=Aaj (D.map fun k=>(k,true)) x y true
 rw [ML] at this
 ·rw [show dmp (D ++ [(x,y)]) = mPB (D.map (fun k=>(k,true)) ++ [((x,y),true)]) from by unfold dmp; rw [List.map_append]; rfl]
  exact this
 ·rw [List.map_map]
  intro hm
  obtain ⟨k,hk,e⟩:=Adc.1 hm
  have e : k = (x,y):=e
  exact h (e ▸ hk)
def YU (D : List (Int × Int)) (f : List Ce) (o : V) (H : Hp) : Prop:=(f = [] /\ o = .m (.nl 4) /\ H = [dmp D]) \/ (f ≠ [] /\ o = .sl 1 f.length 3 0 f.length false /\ H = [dmp D,.cs 73 3 (Aw f) 0 false])
theorem VP {D : List (Int × Int)} {f : List Ce} {o : V} {H : Hp} (h : YU D f o H) : nth H 0 = some (dmp D) /\ AB o = true /\ ∀ D',Bl H 0 (dmp D') = some (H.set 0 (dmp D')) /\ YU D' f o (H.set 0 (dmp D')):=by
 rcases h with ⟨rfl,rfl,rfl⟩ | ⟨hne,rfl,rfl⟩
 ·exact ⟨rfl,rfl,fun D'=>⟨rfl,.inl ⟨rfl,rfl,rfl⟩⟩⟩
 ·exact ⟨rfl,rfl,fun D'=>⟨rfl,.inr ⟨hne,rfl,rfl⟩⟩⟩
theorem RX {D : List (Int × Int)} {f : List Ce} {o : V} {H : Hp} (h : YU D f o H) (hl : f.length <= 1000000) (c : Ce) : ∃ o1 H1,(∀ B,EJ ⟨B,H⟩ 73 3 24 o [[.m (.i .i64 c.x),.m (.i .i64 c.y),.m (.i .i64 c.s)]] = some (o1,⟨B,H1⟩)) /\ AB o1 = true /\ YU D (f ++ [c]) o1 H1:=by
 rcases h with ⟨rfl,rfl,rfl⟩ | ⟨hne,rfl,rfl⟩
 ·exact ⟨_,_,fun B=>rfl,rfl,.inr ⟨by simp,rfl,rfl⟩⟩
 ·have ha:=fun B=>Dc (M:=⟨B,[dmp D,.cs 73 3 (Aw f) 0 false]⟩) (r:=1) (bytes:=24) (xs:=[[.m (.i .i64 c.x),.m (.i .i64 c.y),.m (.i .i64 c.s)]]) rfl (by simp) (by simp; omega) rfl
  simp only [BH,Adk,Adp,AdF,List.set_cons_succ,List.set_cons_zero] at ha
  have e : Aw f ++ [[.m (.i .i64 c.x),.m (.i .i64 c.y),.m (.i .i64 c.s)]] = Aw (f ++ [c]):=by simp [Aw,Oc,Ce.i]
  rw [e] at ha
  exact ⟨_,_,ha,rfl,.inr ⟨by simp,by simp,rfl⟩⟩
theorem RY {F : Nat} {D : List (Int × Int)} {f : List Ce} {o x : V} {H : Hp} (hp : G.prim F = none) (hs : G.sh F = false) (ho : YU D f o H) (h : ∀ H,Gives G F [.m (zP f)] H x H) : ∃ H2,Gives G F [o] H x H2:=by
 rcases ho with ⟨rfl,rfl,rfl⟩ | ⟨hne,rfl,rfl⟩
 ·exact ⟨_,h _⟩
 ·have hz : zP f = .sl (Ag f):=by unfold zP; rw [Acz hne]
  rw [hz] at h
  have hv : Ak (view 20 [dmp D,Row.cs 73 3 (Aw f) 0 false]) [V.sl 1 f.length 3 0 f.length false] = some [.sl (Ag f)]:=by
   have:=Rp (H:=[dmp D,Row.cs 73 3 (Aw f) 0 false]) (r:=1) (b:=0) (q:=f) rfl (AcF _) 18
   show (view 20 _ _).bind _ = _
   rw [this]
   rfl
  cases hf : Gg x with
  | true=>exact ⟨_,Ba (is:=[.sl (Ag f)]) hp hs (h []) hv (.inr ⟨by simp [DN,GP],hf⟩)⟩
  | false =>
   have hfz : AR ([V.sl 1 f.length 3 0 f.length false].flatMap DN) [dmp D,Row.cs 73 3 (Aw f) 0 false] = some [dmp D,Row.cs 73 3 (Aw f) 0 true]:=by
    show Option.bind (gd ((Aw f).all fun e=>e.all isM) (some (Row.cs 73 3 (Aw f) 0 true))) _ = _
    rw [Hx]
    rfl
   exact ⟨_,Dy (is:=[.sl (Ag f)]) hp hs (h []) hv (by simp [DN,GP]) hf rfl hfz⟩
def Pm (t : TreeC) (p : List Ce) (x : V) : Prop:=∃ q e,Dd t p (q,e) /\ x = .tu [.m (zP q),.m (.i .i64 e)]
set_option maxHeartbeats 4000000 in
theorem VI {t : TreeC} {h n v : I} {es : List (List I)} {p : List Ce} (hT : TreeV t h n es) (hv : IsSl v (Ag p)) (hc : BR t p = 0) (H : Hp) : ∃ x,Pm t p x /\ Gives G 82 [.m (.ag [.i .i64 t.states,h,n]),.m v] H x H:=by
 obtain ⟨hq,hr,ht⟩:=BI hc
 have hR:=Db hq
 obtain ⟨pw,hg,hl⟩:=Cs hr
 have hrv:=hv.rules
 simp only [show (Ag p).length = p.length from by simp [Ag]] at hrv
 have hrh:=hT.hd.rules
 simp only [Bb] at hrh
 have hh:=BN hR.hood
 have key : ∃ x H',Gives G 82 [.m (.ag [.i .i64 t.states,h,n]),.m v] H x H' /\ (H' = H /\ Pm t p x):=by
  refine AQ ?_
  refine Cu rfl rfl rfl rfl rfl ?_
  generalize hQ : (fun (x : V) (H' : Hp)=>H' = H /\ Pm t p x) = Q
  have q5 : Dd t p ([],5) -> Q (.tu [.m (.nl 4),.m (.i .i64 5)]) H:=fun hs=>by rw [<- hQ]; exact ⟨rfl,[],5,hs,rfl⟩
  have qa : ∀ q e,Dd t p (q,e) -> Q (.tu [.m (zP q),.m (.i .i64 e)]) H:=fun q e hs=>by rw [<- hQ]; exact ⟨rfl,q,e,hs,rfl⟩
  clear hQ
  have g1:=fun H=>of_m hv hr H
  simp (maxSteps:=2000000) (disch:=omega) [cl (g1 _),hrv]
  refine (?key : ∀ (i : Nat) (D : List (Int × Int)) (l : List Ce) (o : V) (B : List (Nat × List V)) (H1 : Hp),i <= p.length -> getB B 2 = some [.m (.i .i64 t.states),.m h,.m n] -> StI t p D l -> (∀ (a : Nat) c o,a < i -> p[a]? = some c -> o ∈ t.hood -> (c.x - o.1,c.y - o.2) ∈ D) -> l.length <= 25 * i -> YU D l o H1 -> Run G c82_B1 (S82_1 (.fa 2 0) (.m (fzm (Jp p))) (.mp 0) o (.m v) (.m (.i .i64 p.length)) (.m (.i .i64 (i : Int))) B H1) _) 0 [] [] _ _ _ (AcF _) rfl (XU t p) (fun a c o h=>by omega) (by simp) (.inl ⟨rfl,rfl,rfl⟩)
  refine Bk (fun i : Nat=>p.length - i) fun i ih D l o B H1 hi hB hI hall hll ho=>?_
  unfold c82_B1
  obtain ⟨n0,hnf,hset0⟩:=VP ho
  cases hx : p[i]? with
  | none =>
   have : i = p.length:=by have:=AcB.1 hx; omega
   subst this
   have hall2 : ∀ c o,c ∈ p -> o ∈ t.hood -> (c.x - o.1,c.y - o.2) ∈ D:=fun c o hc ho2=>by
    obtain ⟨a,ha⟩:=Adz.1 hc
    exact hall a c o (Al ha).1 ha ho2
   have hgl:=Uw hR ht hI
   rcases VT (Cr l) (by omega) [] with ⟨e,he,_⟩ | ⟨he,q,hqp,hasc,g0⟩
   ·rw [GD hgl] at he
    cases he
   ·obtain ⟨_,k1,k2,k3⟩:=Ux hR ht hI hqp hasc
    have hst:=XV hq hI hall2 k1 k2
    have gA:=fun H=>Ba (H:=H) (vs:=[.m (zP l)]) (is:=[zP l]) rfl rfl g0 rfl (.inl ⟨rfl,rfl⟩)
    obtain ⟨H2,gF⟩:=RY rfl rfl ho gA
    rw [k3] at gF
    by_cases h5 : 5000 < q.length
    ·rw [AcC h5] at gF hst
     have k:=qa [] 6 hst
     simp (maxSteps:=2000000) (disch:=omega) [cl gF]
     exact k
    ·rw [Acz h5] at gF hst
     have k:=qa q 0 hst
     generalize zP q = zz at *
     simp (maxSteps:=2000000) (disch:=omega) [cl gF]
     exact k
  | some c =>
   have hlt:=(Al hx).1
   have hlt' : (i : Int) < p.length:=by omega
   have hn:=An hx
   have wi : wr .i64 ((i : Int) + 1) = ((i + 1 : Nat) : Int):=Aa (by omega) (by omega)
   have hcg:=hg c (AcE hx)
   have hcb : (-1048576 <= c.x /\ c.x <= 1048576) /\ (-1048576 <= c.y /\ c.y <= 1048576):=by
    unfold Cj AE at hcg
    simp only [Acx,AcK] at hcg
    omega
   simp (maxSteps:=2000000) (disch:=omega) [Ab,hrv,hlt',hn,hB,hrh]
   refine (?key2 : ∀ (j : Nat) (D : List (Int × Int)) (l : List Ce) (o : V) (B : List (Nat × List V)) (H1 : Hp),j <= t.hood.length -> getB B 2 = some [.m (.i .i64 t.states),.m h,.m n] -> getB B 10 = some [.m (.i .i64 c.x),.m (.i .i64 c.y),.m (.i .i64 c.s)] -> StI t p D l -> (∀ (a : Nat) c o,a < i -> p[a]? = some c -> o ∈ t.hood -> (c.x - o.1,c.y - o.2) ∈ D) -> (∀ (b : Nat) o,b < j -> t.hood[b]? = some o -> (c.x - o.1,c.y - o.2) ∈ D) -> l.length <= 25 * i + j -> YU D l o H1 -> Run G c82_B0 (S82_0 (.fa 2 0) (.m (fzm (Jp p))) (.mp 0) o (.fa 10 0) (.m v) (.m (.i .i64 p.length)) (.m (.i .i64 (i : Int))) (.m h) (.m (.i .i64 t.hood.length)) (.m (.i .i64 (j : Int))) B H1) _) 0 D l o _ H1 (AcF _) (by simpa using hB) (by simp) hI hall (fun b o h=>by omega) (by omega) ho
   clear hset0 hI hall hll ho n0 hnf hB B H1 o l D
   refine Bk (fun j : Nat=>t.hood.length - j) fun j ihj D l o B H1 hj hB hA hI hall hbj hll ho=>?_
   unfold c82_B0
   obtain ⟨n0,hnf,hset⟩:=VP ho
   cases hy : t.hood[j]? with
   | none =>
    have : j = t.hood.length:=by have:=AcB.1 hy; omega
    subst this
    have k:=ih (i + 1) (by omega) D l o B H1 (by omega) hB hI (fun a c' o' ha hc' ho'=>by
     by_cases e : a < i
     ·exact hall a c' o' e hc' ho'
     ·have : a = i:=by omega
      subst this
      rw [hx] at hc'
      cases hc'
      obtain ⟨b,hb⟩:=Adz.1 ho'
      exact hbj b o' (Al hb).1 hb) (by omega) ho
    simp (maxSteps:=2000000) (disch:=omega) [wi,-Int.natCast_add]
    exact k
   | some o2 =>
    have hjl:=(Al hy).1
    have hjl2 : (j : Int) < t.hood.length:=by omega
    have hox:=BX hy
    have hob:=Dp hR.hood o2 (AcE hy)
    have wj : wr .i64 ((j : Int) + 1) = ((j + 1 : Nat) : Int):=Aa (by omega) (by omega)
    obtain ⟨qx,hqx⟩ : ∃ qx,qx = c.x - o2.1:=⟨_,rfl⟩
    obtain ⟨qy,hqy⟩ : ∃ qy,qy = c.y - o2.2:=⟨_,rfl⟩
    have wx : wr .i64 (c.x - o2.1) = qx:=by rw [hqx]; exact Aa (by omega) (by omega)
    have wy : wr .i64 (c.y - o2.2) = qy:=by rw [hqy]; exact Aa (by omega) (by omega)
    have hdg:=YK D qx qy
    have hbj2 : ∀ D' : List (Int × Int),(∀ k,k ∈ D -> k ∈ D') -> (qx,qy) ∈ D' -> ∀ (b : Nat) o,b < j + 1 -> t.hood[b]? = some o -> (c.x - o.1,c.y - o.2) ∈ D':=fun D' h1 h2 b o' hb ho'=>by
     by_cases e : b < j
     ·exact h1 _ (hbj b o' e ho')
     ·have : b = j:=by omega
      subst this
      rw [hy] at ho'
      cases ho'
      rw [<- hqx,<- hqy]
      exact h2
    by_cases hD : (qx,qy) ∈ D
    ·rw [AcI hD] at hdg
     have k:=fun B'=>ihj (j + 1) (by omega) D l o B' H1 (by omega)
     simp (maxSteps:=2000000) (disch:=omega) [Ab,hrh,hjl2,hox,hA,wx,wy,n0,hdg,wj,-Int.natCast_add]
     exact k _ (by simpa using hB) (by simpa using hA) hI hall (hbj2 D (fun _ h=>h) hD) (by omega) ho
    ·rw [AcH hD] at hdg
     have hup:=Acf hD
     obtain ⟨hs1,ho1⟩:=hset (D ++ [(qx,qy)])
     have gn:=fun H=>AbO hT hR ht qx qy (by omega) (by omega) H
     have hrg:=Ey hR ht qx qy
     have hsub : ∀ k,k ∈ D -> k ∈ D ++ [(qx,qy)]:=fun k hk=>by simp [hk]
     have hall3 : ∀ (a : Nat) c o,a < i -> p[a]? = some c -> o ∈ t.hood -> (c.x - o.1,c.y - o.2) ∈ D ++ [(qx,qy)]:=fun a c o h1 h2 h3=>hsub _ (hall a c o h1 h2 h3)
     by_cases hz : Bg t p qx qy = 0
     ·rw [hz] at gn
      have k:=fun B'=>ihj (j + 1) (by omega) (D ++ [(qx,qy)]) l o B' (H1.set 0 (dmp (D ++ [(qx,qy)]))) (by omega)
      simp (maxSteps:=2000000) (disch:=omega) [Ab,hrh,hjl2,hox,hA,hB,wx,wy,n0,hdg,hup,hs1,cl (gn _),wj,-Int.natCast_add]
      exact k _ (by simpa using hB) (by simpa using hA) (Uv hI hz) hall3 (hbj2 _ hsub (by simp)) (by omega) ho1
     ·have hpos : 0 < Bg t p qx qy:=by omega
      have gp:=fun H=>Yi qx qy H
      cases hpl : AE qx qy with
      | false =>
       rw [hpl] at gp
       have k:=q5 (RA hz hpl)
       generalize Bg t p qx qy = nx at *
       simp (maxSteps:=2000000) (disch:=omega) [Ab,hrh,hjl2,hox,hA,hB,wx,wy,n0,hdg,hup,hs1,cl (gn _),hpos,cl (gp _),-Int.natCast_add]
       exact k
      | true =>
       rw [hpl] at gp
       obtain ⟨o3,H3,ha,hn3,ho3⟩:=RX ho1 (by omega) ⟨qx,qy,Bg t p qx qy⟩
       dsimp only at ha
       have hI3:=XW hI hD hz hpl
       have k:=fun B'=>ihj (j + 1) (by omega) (D ++ [(qx,qy)]) (l ++ [⟨qx,qy,Bg t p qx qy⟩]) o3 B' H3 (by omega)
       generalize Bg t p qx qy = nx at *
       simp (maxSteps:=2000000) (disch:=omega) [Ab,hrh,hjl2,hox,hA,hB,wx,wy,n0,hdg,hup,hs1,cl (gn _),hpos,cl (gp _),ha,wj,As hn3,-Int.natCast_add]
       exact k _ (by simpa using hB) (by simpa using hA) hI3 hall3 (hbj2 _ hsub (by simp)) (by simp; omega) ho3
 obtain ⟨x,H',h1,rfl,h2⟩:=key
 exact ⟨x,h2,h1⟩
def ED (vs : List I) : List (List I):=vs.map fun v=>[v]
def CZ (vs : List I) : List (List V):=vs.map fun v=>[.m v]
@[simp] theorem HC (vs : List I) : (ED vs).length = vs.length:=by simp [ED]
@[simp] theorem Hw (vs : List I) : (CZ vs).length = vs.length:=by simp [CZ]
theorem KL {vs : List I} {i : Nat} {u : I} (h : vs[i]? = some u) : nth (ED vs) i = some [u]:=by rw [AV]; simp [ED,h]
theorem RI {vs : List I} {i : Nat} {u : I} (h : vs[i]? = some u) : nth (CZ vs) i = some [.m u]:=by rw [AV]; simp [CZ,h]
theorem Sx (vs : List I) : DG (ED vs) = CZ vs:=by
 unfold DG ED CZ
 rw [List.map_map]
 rfl
def SR (vs : List I) (ps : List (List Ce)) : Prop:=vs.length = ps.length /\ ∀ (i : Nat) u q,vs[i]? = some u -> ps[i]? = some q -> IsSl u (Ag q)
theorem KH {vs : List I} {ps : List (List Ce)} (h : SR vs ps) {u : I} {q : List Ce} (hu : IsSl u (Ag q)) : SR (vs ++ [u]) (ps ++ [q]):=by
 obtain ⟨h1,h2⟩:=h
 refine ⟨by simp [h1],fun i u' q' hi hq=>?_⟩
 by_cases hl : i < vs.length
 ·rw [AcS hl] at hi
  rw [AcS (by omega)] at hq
  exact h2 i u' q' hi hq
 ·have hi2:=(Acy.1 hi).1
  have : i = vs.length:=by simp at hi2; omega
  subst this
  simp at hi
  rw [h1] at hq
  simp at hq
  subst hi hq
  exact hu
def ZA (vs : List I) (o : V) (H : Hp) : Prop:=vs ≠ [] /\ ((o = .ls (ED vs) /\ H = []) \/ (o = .sl 0 vs.length 1 0 vs.length false /\ H = [.cs 29 1 (CZ vs) 0 false]))
theorem Yq {vs : List I} {o : V} {H : Hp} (h : ZA vs o H) : AB o = true /\ Ao (.len false) [o] = some (.m (.i .i64 vs.length)):=by
 rcases h with ⟨_,⟨rfl,rfl⟩ | ⟨rfl,rfl⟩⟩
 ·exact ⟨rfl,by show some (V.m (.i .i64 ((ED vs).length : Nat))) = _; rw [HC]⟩
 ·exact ⟨rfl,rfl⟩
theorem Yp {vs : List I} {o : V} {H : Hp} (h : ZA vs o H) {i : Nat} {u : I} (hx : vs[i]? = some u) (hl : vs.length <= 1000000) : ∃ p,Ao (.ixa 1) [o,.m (.i .i64 (i : Int))] = some p /\ ∀ B,readX ⟨B,H⟩ (.ld false 1) [p] = some (.m u):=by
 have hlt:=(Al hx).1
 rcases h with ⟨_,⟨rfl,rfl⟩ | ⟨rfl,rfl⟩⟩
 ·have hn:=KL hx
  refine ⟨.m (.pt [u]),?_,fun B=>rfl⟩
  simp (maxSteps:=2000000) (disch:=omega) [hn,HC]
 ·have hn:=RI hx
  refine ⟨.pt 0 vs.length i 0,?_,fun B=>?_⟩
  ·simp (maxSteps:=2000000) (disch:=omega) []
  ·simp (maxSteps:=2000000) (disch:=omega) [Ab,hn]
theorem UC (vs : List I) (h : ∀ u,u ∈ vs -> CR (.m u) = true) : ((CZ vs).all fun e=>Nat.beq e.length 1 && e.all CR) = true:=by
 unfold CZ
 rw [List.all_map,AcO]
 intro u hu
 show (Nat.beq 1 1 && (CR (.m u) && true)) = true
 rw [h u hu]
 rfl
theorem RV {vs : List I} {o : V} {H : Hp} (h : ZA vs o H) (hl : vs.length <= 1000000) (ho : ∀ u,u ∈ vs -> CR (.m u) = true) {u : I} (hu : CR (.m u) = true) : ∃ o1 H1,(∀ B,EJ ⟨B,H⟩ 29 1 24 o [[.m u]] = some (o1,⟨B,H1⟩)) /\ AB o1 = true /\ ZA (vs ++ [u]) o1 H1:=by
 have hall : ∀ x,x ∈ vs ++ [u] -> CR (.m x) = true:=fun x hx=>by
  rcases Adx.1 hx with hx | hx
  ·exact ho x hx
  ·rw [AcZ.1 hx]; exact hu
 have es : CZ vs ++ [[V.m u]] = CZ (vs ++ [u]):=by simp [CZ]
 rcases h with ⟨hne,⟨rfl,rfl⟩ | ⟨rfl,rfl⟩⟩
 ·refine ⟨.sl 0 (vs ++ [u]).length 1 0 (vs ++ [u]).length false,[.cs 29 1 (CZ (vs ++ [u])) 0 false],fun B=>?_,rfl,by simp,.inr ⟨rfl,rfl⟩⟩
  show Bu ⟨B,[]⟩ 29 1 24 (DG (ED vs) ++ [[V.m u]]) = _
  rw [Sx,es]
  have h1 : Nat.ble ((CZ (vs ++ [u])).length * 24) 140737488355328 = true:=by
   rw [BG]
   refine AcI ?_
   rw [Hw,AcN,List.length_singleton]
   omega
  unfold Bu
  rw [h1,UC _ hall,Hw]
  rfl
 ·have ha:=fun B=>Dc (M:=⟨B,[.cs 29 1 (CZ vs) 0 false]⟩) (r:=0) (bytes:=24) (xs:=[[.m u]]) rfl (by simp) (by simp; omega) (by simp [hu])
  simp only [Hw,Adk,Adp,AdF,es,List.set_cons_zero] at ha
  exact ⟨_,_,ha,rfl,by simp,.inr ⟨by simp,rfl⟩⟩
theorem optP (k : Nat) (H : Hp) : ∀ vs : List I,Ak (fun e=>Ak (view (k + 1) H) e) (CZ vs) = some (ED vs)
 | []=>rfl
 | x :: r=>by
  show Option.bind (some [x]) _ = _
  simp only [AcG]
  have:=optP k H r
  show Option.bind (Ak _ (CZ r)) _ = _
  rw [this]
  rfl
theorem Abi {H : Hp} {r : Nat} {vs : List I} (h : nth H r = some (.cs 29 1 (CZ vs) 0 false)) (k : Nat) : view (k + 2) H (.sl r vs.length 1 0 vs.length false) = some (.sl (ED vs)):=by
 have e : elems H (.sl r vs.length 1 0 vs.length false) = some (CZ vs):=by
  show Option.bind (nth H r) _ = _
  rw [h]
  show gd (Nat.ble 0 vs.length && Nat.beq 1 1) (some (((CZ vs).drop 0).take vs.length)) = _
  rw [BG,AcI (AcF _),List.drop_zero,AcP (by simp)]
  rfl
 show Option.bind (elems H (.sl r vs.length 1 0 vs.length false)) _ = _
 rw [e]
 show Option.bind (Ak _ (CZ vs)) _ = _
 rw [optP]
 rfl
theorem RU {vs : List I} {o : V} {H : Hp} (h : ZA vs o H) (k : Nat) : view (k + 2) H o = some (.sl (ED vs)):=by
 rcases h with ⟨_,⟨rfl,rfl⟩ | ⟨rfl,rfl⟩⟩
 ·rfl
 ·exact Abi rfl k
theorem YM {u : I} {es : List (List I)} (h : IsSl u es) (c : Bc) (B : List (Nat × List V)) (H : Hp) : Am c ⟨B,H⟩ (.bsf 1 [.m (.nl 4)] 1 [0]) [.m u] = some (.ls [[u]],⟨B,H⟩):=by
 rcases h with rfl | ⟨rfl,_⟩ <;> rfl
theorem Aci {t : TreeC} {q : List Ce} (hq : AI t = true) (h1 : q.Pairwise (fun a b=>AW a b = true)) (h2 : ∀ c,c ∈ q -> Cj c = true) (h3 : q.length <= 5000) (ht : Gi t q) : BR t q = 0:=by
 unfold BR
 rw [AcC hq,AcC (Fn h1 h2 h3),AcC ((Ht (by have:=(Db hq).s2; omega) _ q rfl).2 fun c hc=>(ht c hc).2)]
def HisV (t : TreeC) (p : List Ce) (n : Nat) (x : V) : Prop:=∃ ps e,HisQ t p n (ps,e) /\ ((¬ e = 0 /\ x = .tu [.m (.nl 4),.m (.i .i64 e)]) \/ (e = 0 /\ ∃ vs,SR vs ps /\ x = .tu [.m (.sl (ED vs)),.m (.i .i64 0)]))
theorem XM (x y : Int) (H : Hp) : Gives G 101 [.m (.i .i64 x),.m (.i .i64 y)] H (.m (.b (AE x y))) H:=by
 refine Ae rfl rfl rfl rfl rfl ?_
 simp (contextual:=true) [Ai,-Int.not_lt,-Int.not_le,-Nat.not_lt,-Nat.not_le,-List.map_take,AE]
theorem AbP {p : List Ce} {v f : I} (hv : IsSl v (Ag p)) (hl : p.length <= 5000) (hg : ∀ c,c ∈ p -> Cj c = true) (hF : FldV p v f) (H : Hp) : ∃ acc,NearQ p acc /\ Gives G 99 [.m f] H (.m (z2 acc)) H:=by
 obtain ⟨bx,by_,w,h,fl,cs,rfl,hwh,hbx,hby,hin,hne,hfl,_⟩:=hF.ex
 cases fl with
 | false=>exact Yw hv hl hg H
 | true =>
  have hP:=(hfl rfl).1
  have h4 : (w + 4) * (h + 4) <= 1000000 /\ w <= 1000000 /\ h <= 1000000:=by
   have e : (w + 4) * (h + 4) = w * h + w * 4 + 4 * h + 16:=by rw [Add,Nat.mul_add,Nat.mul_add]; omega
   rw [e]
   rcases hne with ⟨h1,h2⟩ | ⟨rfl,rfl⟩
   ·have a1:=Nat.le_mul_of_pos_right w h2
    have a2:=Nat.le_mul_of_pos_left h h1
    generalize w * h = P at *
    omega
   ·omega
  exact Yx h4.1 h4.2 hbx hby hin H
theorem Jq {F : Nat} {f : List Ce} {o x : V} {H : Hp} (hp : G.prim F = none) (hs : G.sh F = false) (ho : JC f o H) (h : ∀ H,Gives G F [.m (zP f)] H x H) : ∃ H2,Gives G F [o] H x H2:=by
 rcases ho with ⟨rfl,rfl,rfl⟩ | ⟨hne,rfl,rfl⟩
 ·exact ⟨_,h _⟩
 ·have hz : zP f = .sl (Ag f):=by unfold zP; rw [Acz hne]
  rw [hz] at h
  have hv : Ak (view 20 [Row.cs 73 3 (Aw f) 0 false]) [V.sl 0 f.length 3 0 f.length false] = some [.sl (Ag f)]:=by
   have:=LS (r:=0) (b:=0) (X:=[]) (A:=[]) (q:=f) (n:=f.length) rfl (AcF _) 18
   show (view 20 _ _).bind _ = _
   rw [this]
   rfl
  cases hf : Gg x with
  | true=>exact ⟨_,Ba (is:=[.sl (Ag f)]) hp hs (h []) hv (.inr ⟨by simp [DN,GP],hf⟩)⟩
  | false =>
   have hfz : AR ([V.sl 0 f.length 3 0 f.length false].flatMap DN) [Row.cs 73 3 (Aw f) 0 false] = some [Row.cs 73 3 (Aw f) 0 true]:=by
    show Option.bind (gd ((Aw f).all fun e=>e.all isM) (some (Row.cs 73 3 (Aw f) 0 true))) _ = _
    rw [Hx]
    rfl
   exact ⟨_,Dy (is:=[.sl (Ag f)]) hp hs (h []) hv (by simp [DN,GP]) hf rfl hfz⟩
theorem RT {f : List Ce} {o : V} {H : Hp} (h : JC f o H) : Ao (.len false) [o] = some (.m (.i .i64 (f.length : Nat))):=by
 rcases h with ⟨rfl,rfl,rfl⟩ | ⟨_,rfl,_⟩ <;> rfl
def stepL (t : TreeC) (p : List Ce) (acc : List (Int × Int)) : List Ce:=(acc.filter fun k=>!decide (Bg t p k.1 k.2 = 0)).map fun k=>⟨k.1,k.2,Bg t p k.1 k.2⟩
def LV (t : TreeC) (p : List Ce) (acc : List (Int × Int)) : Bool:=acc.any fun k=>!decide (Bg t p k.1 k.2 = 0) && !AE k.1 k.2
theorem OU (t : TreeC) (p : List Ce) (acc : List (Int × Int)) (k : Int × Int) : stepL t p (acc ++ [k]) = stepL t p acc ++ if Bg t p k.1 k.2 = 0 then [] else [⟨k.1,k.2,Bg t p k.1 k.2⟩]:=by
 unfold stepL
 rw [List.filter_append]
 by_cases h : Bg t p k.1 k.2 = 0 <;> simp [h]
theorem OT (t : TreeC) (p : List Ce) (acc : List (Int × Int)) (k : Int × Int) : LV t p (acc ++ [k]) = (LV t p acc || (!decide (Bg t p k.1 k.2 = 0) && !AE k.1 k.2)):=by
 unfold LV
 simp
theorem Rx {t : TreeC} {p : List Ce} {acc : List (Int × Int)} {c : Ce} : c ∈ stepL t p acc ↔ (c.x,c.y) ∈ acc /\ c.s = Bg t p c.x c.y /\ ¬ c.s = 0:=by
 unfold stepL
 rw [Adc]
 constructor
 ·rintro ⟨k,hk,rfl⟩
  obtain ⟨h1,h2⟩:=List.mem_filter.1 hk
  exact ⟨h1,rfl,by simpa using h2⟩
 ·rintro ⟨h1,h2,h3⟩
  refine ⟨(c.x,c.y),List.mem_filter.2 ⟨h1,?_⟩,?_⟩
  ·dsimp only
   rw [<- h2]
   simpa using h3
  ·obtain ⟨a,b,s⟩:=c
   dsimp only at h2 ⊢
   rw [<- h2]
theorem LW {t : TreeC} {p : List Ce} {acc : List (Int × Int)} (h : acc.Nodup) : (stepL t p acc).Pairwise apart:=by
 unfold stepL
 rw [List.pairwise_map]
 exact (h.sublist List.filter_sublist).imp fun {a b} hab ⟨h1,h2⟩=>hab (Prod.ext h1 h2)
theorem NI {t : TreeC} (hq : AI t = true) {p : List Ce} {acc : List (Int × Int)} (hN : NearQ p acc) {x y : Int} (h : ¬ Bg t p x y = 0) : (x,y) ∈ acc:=by
 obtain ⟨c,o,hc,ho,rfl,rfl⟩:=Gv hq h
 have:=Dp (Db hq).hood o ho
 refine hN.all c _ hc ?_
 unfold nr
 dsimp only
 omega
theorem Ry (t : TreeC) (p : List Ce) (acc : List (Int × Int)) : (stepL t p acc).length <= acc.length:=by
 unfold stepL
 rw [AcR]
 exact List.length_filter_le _ _
set_option maxHeartbeats 4000000 in
theorem Ru {t : TreeC} {h n v : I} {es : List (List I)} {p : List Ce} (hT : TreeV t h n es) (hv : IsSl v (Ag p)) (hc : BR t p = 0) (H : Hp) : ∃ x,Pm t p x /\ Gives G 58 [.m (.ag [.i .i64 t.states,h,n]),.m v] H x H:=by
 obtain ⟨hq,hr,ht⟩:=BI hc
 have hR:=Db hq
 obtain ⟨pw,hg,hl⟩:=Cs hr
 have g1:=fun H=>IE hT hv (by omega) H
 rw [hc] at g1
 obtain ⟨f,hF,g2⟩:=Uu hv hr []
 have g4:=fun x y hx hy H=>AbN hT hR hv hl hF ht x y hx hy H
 obtain ⟨acc,hN,g3⟩:=AbP hv hl hg hF []
 obtain ⟨bx,by_,w,k,fl,cs,rfl,_,_,_,_,_,_,hcs⟩:=hF.ex
 have hv1:=FY hv
 have key : ∃ x H',Gives G 58 [.m (.ag [.i .i64 t.states,h,n]),.m v] H x H' /\ (H' = H /\ Pm t p x):=by
  refine AQ ?_
  refine Cu rfl rfl rfl rfl rfl ?_
  generalize hQ : (fun (x : V) (H' : Hp)=>H' = H /\ Pm t p x) = Q
  have qn : ∀ e,Dd t p ([],e) -> Q (.tu [.m (.nl 4),.m (.i .i64 e)]) H:=fun e hs=>by rw [<- hQ]; exact ⟨rfl,[],e,hs,rfl⟩
  have qa : ∀ q,Dd t p (q,0) -> Q (.tu [.m (zP q),.m (.i .i64 0)]) H:=fun q hs=>by rw [<- hQ]; exact ⟨rfl,q,0,hs,rfl⟩
  clear hQ
  have hra:=(z2_sl acc).rules
  simp only [Bb] at hra
  unfold KV at g2 g3 g4
  simp (maxSteps:=2000000) (disch:=omega) [Ab,cl (g1 _),cl g2,cl g3,hcs,hv1]
  refine (?key : ∀ (i : Nat) (b : Bool) (o : V) (B : List (Nat × List V)) (H1 : Hp),i <= acc.length -> getB B 2 = some [.m (.i .i64 t.states),.m h,.m n] -> getB B 7 = some [.m (.b fl),.m (.i .i64 bx),.m (.i .i64 by_),.m (.i .i64 w),.m (.i .i64 k),.m cs,.m v] -> b = LV t p (acc.take i) -> JC (stepL t p (acc.take i)) o H1 -> Run G c58_B0 (S58_0 (.fa 2 0) (.fa 7 0) (.m (z2 acc)) o (.m (.b b)) (.m (.i .i64 (i : Int))) B H1) _) 0 false _ _ _ (AcF _) rfl rfl rfl (.inl ⟨rfl,rfl,rfl⟩)
  refine Bk (fun i : Nat=>acc.length - i) fun i ih b o B H1 hi hB2 hB7 hb ho=>?_
  unfold c58_B0
  have hnf:=(Cb ho).2
  have hol:=RT ho
  have hlen:=hN.len
  have hsl:=Ry t p (acc.take i)
  cases hx : acc[i]? with
  | none =>
   have : i = acc.length:=by have:=AcB.1 hx; omega
   subst this
   rw [AcV] at hb ho hol hsl
   cases b with
   | true =>
    have hb:=hb.symm
    unfold LV at hb
    obtain ⟨k,hk,hk2⟩:=List.any_eq_true.1 hb
    rw [Acx,Ada,decide_eq_false_iff_not,Ada] at hk2
    have k1:=qn 5 (RA hk2.1 hk2.2)
    simp (maxSteps:=2000000) (disch:=omega) [hra]
    exact k1
   | false =>
    have hpl : ∀ x y,¬ Bg t p x y = 0 -> AE x y = true:=fun x y hn=>by
     have hm:=NI hq hN hn
     cases hpp : AE x y with
     | true=>rfl
     | false =>
      exfalso
      have : LV t p acc = true:=by
       unfold LV
       refine List.any_eq_true.2 ⟨(x,y),hm,?_⟩
       dsimp only
       rw [hpp,AcH hn]
       rfl
      rw [this] at hb
      cases hb
    have hmem : ∀ c,c ∈ stepL t p acc ↔ c.s = Bg t p c.x c.y /\ ¬ c.s = 0:=fun c=>Rx.trans ⟨fun h=>h.2,fun h=>⟨NI hq hN (by rw [<- h.1]; exact h.2),h⟩⟩
    have hap:=LW (t:=t) (p:=p) hN.nd
    have hgood : ∀ c,c ∈ stepL t p acc -> Cj c = true:=fun c hc=>by
     obtain ⟨h1,h2⟩:=(hmem c).1 hc
     have h3:=hpl c.x c.y (by rw [<- h1]; exact h2)
     have h4:=Ey hR ht c.x c.y
     rw [<- h1] at h4
     have:=hR.s8
     unfold Cj
     rw [h3]
     simp only [AdB,Acx,AcK]
     omega
    have hst : Dd t p (if 5000 < (Ci (stepL t p acc)).length then ([],6) else (Ci (stepL t p acc),0)):=.inr ⟨hpl,_,Gr hap,fun c=>((Ev _).mem_iff).trans (hmem c),rfl⟩
    rw [Ef] at hst
    by_cases h5 : 5000 < (stepL t p acc).length
    ·have h5' : (5000 : Int) < (stepL t p acc).length:=by omega
     rw [AcC h5] at hst
     have k1:=qn 6 hst
     simp (maxSteps:=2000000) (disch:=omega) [hra,hol,h5']
     exact k1
    ·have h5' : ¬ (5000 : Int) < (stepL t p acc).length:=by omega
     rw [Acz h5] at hst
     have k1:=qa _ hst
     have gF:=fun H=>HA (Cr (stepL t p acc)) (by omega) hgood hap H
     obtain ⟨H2,gG⟩:=Jq rfl rfl ho gF
     generalize zP (Ci (stepL t p acc)) = zz at *
     simp (maxSteps:=2000000) (disch:=omega) [hra,hol,h5',cl gG]
     exact k1
  | some k0 =>
   obtain ⟨x,y⟩:=k0
   have hlt:=(Al hx).1
   have hlt' : (i : Int) < acc.length:=by omega
   have hox:=BX hx
   have hbk:=hN.bnd _ (AcE hx)
   have wi : wr .i64 ((i : Int) + 1) = ((i + 1 : Nat) : Int):=Aa (by omega) (by omega)
   dsimp only at hox hbk
   have gn:=fun H=>g4 x y (by omega) (by omega) H
   have gp:=fun H=>XM x y H
   have hrg:=Ey hR ht x y
   have eL:=OU t p (acc.take i) (x,y)
   have eO:=OT t p (acc.take i) (x,y)
   rw [<- Ap hx] at eL eO
   dsimp only at eL eO
   by_cases hz : Bg t p x y = 0
   ·rw [AcC hz,Adw] at eL
    rw [AcI hz,Bool.not_true,Bool.false_and,Bool.or_false] at eO
    rw [hz] at gn
    have kk:=fun B'=>ih (i + 1) (by omega) b o B' H1 (by omega)
    simp (maxSteps:=2000000) (disch:=omega) [Ab,hra,hlt',hox,hB2,hB7,cl (gn _),wi,-Int.natCast_add]
    exact kk _ (by simpa using hB2) (by simpa using hB7) (by rw [eO]; exact hb) (by rw [eL]; exact ho)
   ·rw [Acz hz] at eL
    rw [AcH hz,Bool.not_false,AdB,<- hb] at eO
    obtain ⟨o1,H2,hap,hn1,ho1⟩:=BP ho (by rw [AcL] at hsl; omega) ⟨x,y,Bg t p x y⟩
    dsimp only at hap
    rw [<- eL] at ho1
    have kk:=fun b' B'=>ih (i + 1) (by omega) b' o1 B' H2 (by omega)
    generalize Bg t p x y = nx at *
    cases b with
    | true =>
     simp (maxSteps:=2000000) (disch:=omega) [Ab,Ad,hra,hlt',hox,hB2,hB7,cl (gn _),hz,hap,wi,As hn1,-Int.natCast_add]
     exact kk true _ (by simpa using hB2) (by simpa using hB7) (by rw [eO]; rfl) ho1
    | false =>
     cases hpp : AE x y with
     | true =>
      rw [hpp] at gp eO
      simp (maxSteps:=2000000) (disch:=omega) [Ab,Ad,hra,hlt',hox,hB2,hB7,cl (gn _),hz,hap,cl (gp _),wi,As hn1,-Int.natCast_add]
      exact kk false _ (by simpa using hB2) (by simpa using hB7) (by rw [eO]; rfl) ho1
     | false =>
      rw [hpp] at gp eO
      simp (maxSteps:=2000000) (disch:=omega) [Ab,Ad,hra,hlt',hox,hB2,hB7,cl (gn _),hz,hap,cl (gp _),wi,As hn1,-Int.natCast_add]
      exact kk true _ (by simpa using hB2) (by simpa using hB7) (by rw [eO]; rfl) ho1
 obtain ⟨x,H',h1,rfl,h2⟩:=key
 exact ⟨x,h2,h1⟩
set_option maxHeartbeats 4000000 in
theorem his_r {t : TreeC} {h n v : I} {es : List (List I)} {p : List Ce} (hT : TreeV t h n es) (hv : IsSl v (Ag p)) (hc : BR t p = 0) (m : Nat) (hm : m <= 10000) (H : Hp) : ∃ x,HisV t p m x /\ Gives G 84 [.m (.ag [.i .i64 t.states,h,n]),.m v,.m (.i .i64 (m : Int))] H x H:=by
 obtain ⟨hq,hr,ht⟩:=BI hc
 have hR:=Db hq
 obtain ⟨pw,hg,hl⟩:=Cs hr
 have key : ∃ x H',Gives G 84 [.m (.ag [.i .i64 t.states,h,n]),.m v,.m (.i .i64 (m : Int))] H x H' /\ (H' = H /\ HisV t p m x):=by
  refine AQ ?_
  refine Cu rfl rfl rfl rfl rfl ?_
  generalize hQ : (fun (x : V) (H' : Hp)=>H' = H /\ HisV t p m x) = Q
  have qe : ∀ ps e,HisQ t p m (ps,e) -> ¬ e = 0 -> Q (.tu [.m (.nl 4),.m (.i .i64 e)]) H:=fun ps e h1 h2=>by rw [<- hQ]; exact ⟨rfl,ps,e,h1,.inl ⟨h2,rfl⟩⟩
  have qk : ∀ ps vs,HisQ t p m (ps,0) -> SR vs ps -> Q (.tu [.m (.sl (ED vs)),.m (.i .i64 0)]) H:=fun ps vs h1 h2=>by rw [<- hQ]; exact ⟨rfl,ps,0,h1,.inr ⟨rfl,vs,h2,rfl⟩⟩
  clear hQ
  have g1:=fun H=>IE hT hv (by omega) H
  rw [hc] at g1
  have m0 : ¬ (m : Int) < 0:=by omega
  have m1 : ¬ (10000 : Int) < m:=by omega
  have m2 : ¬ 10000 < m:=by omega
  have hb1:=fun c B H=>YM hv c B H
  simp (maxSteps:=2000000) (disch:=omega) [cl (g1 _),m0,m1,hb1]
  refine (?key : ∀ (i : Nat) (vs : List I) (ps : List (List Ce)) (a : List Ce) (o : V) (B : List (Nat × List V)) (H1 : Hp),i <= m -> getB B 3 = some [.m (.i .i64 t.states),.m h,.m n] -> HisR t p (ps ++ [a]) -> ps.length = i -> SR vs (ps ++ [a]) -> BR t a = 0 -> (∀ u,u ∈ vs -> CR (.m u) = true) -> ZA vs o H1 -> Run G c84_B0 (S84_0 (.m (.i .i64 (m : Int))) (.fa 3 0) o (.m (.i .i64 (i : Int))) B H1) _) 0 [v] [] p _ _ _ (AcF _) rfl .one rfl ⟨rfl,fun i u q hi hq=>by
   cases i with
   | zero=>cases hi; cases hq; exact hv
   | succ i=>simp at hi⟩ hc (fun u hu=>by rw [AcZ.1 hu]; exact FY hv) ⟨by simp,.inl ⟨rfl,rfl⟩⟩
  refine Bk (fun i : Nat=>m - i) fun i ih vs ps a o B H1 hi hB hH hps hP hca hone ho=>?_
  unfold c84_B0
  obtain ⟨hnf,hlen⟩:=Yq ho
  have hvl : vs.length = i + 1:=by rw [hP.1]; simp [hps]
  by_cases him : i < m
  ·have him2 : (i : Int) < m:=by omega
   obtain ⟨u,hu⟩ : ∃ u,vs[i]? = some u:=⟨_,AcA (by omega)⟩
   have hua : IsSl u (Ag a):=hP.2 i u a hu (by simp [<- hps])
   obtain ⟨pt,r1,r2⟩:=Yp ho hu (by omega)
   have w1 : wr .i64 ((vs.length : Int) - 1) = (i : Int):=by rw [Aa (by omega) (by omega)]; omega
   have wi : wr .i64 ((i : Int) + 1) = ((i + 1 : Nat) : Int):=Aa (by omega) (by omega)
   obtain ⟨x,⟨q,e,hst,rfl⟩,_⟩:=Ru hT hua hca []
   have gs : ∀ H,Gives G 58 [.m (.ag [.i .i64 t.states,h,n]),.m u] H (.tu [.m (zP q),.m (.i .i64 e)]) H:=fun H=>by
    obtain ⟨x',⟨q',e',hst',rfl⟩,g⟩:=Ru hT hua hca H
    have:=It hst hst'
    cases this
    exact g
   by_cases he : e = 0
   ·subst he
    obtain ⟨hq2,hr2,ht2⟩:=BI hca
    obtain ⟨k1,k2,k3,k4⟩:=Nt hR ht2 hst
    have hcq:=Aci hq k1 k2 k3 k4
    have hoz:=FY (Cr q)
    obtain ⟨o1,H2,ha,hn1,ho1⟩:=RV ho (by omega) hone hoz
    have hb2:=fun c B H=>YM (Cr q) c B H
    have k:=fun B'=>ih (i + 1) (by omega) (vs ++ [zP q]) (ps ++ [a]) q o1 B' H2 (by omega)
    simp (maxSteps:=2000000) (disch:=omega) [him2,hB,r1,r2,cl (gs _),hb2,ha,wi,As hn1,-Int.natCast_add]
    exact k _ hB (hH.snoc hst) (by simp [hps]) (KH hP (Cr q)) hcq (fun x hx=>by
     rcases Adx.1 hx with hx | hx
     ·exact hone x hx
     ·rw [AcZ.1 hx]; exact hoz) ho1
   ·have hq0 : q = []:=by
     rcases hst with ⟨e1,_⟩ | ⟨_,r,_,_,e1⟩
     ·exact congrArg Prod.fst e1
     ·split at e1
      ·exact congrArg Prod.fst e1
      ·exact absurd (congrArg Prod.snd e1) he
    subst hq0
    have k:=qe [] e (.inr ⟨ps,a,by omega,hH,hst,he,rfl⟩) he
    simp (maxSteps:=2000000) (disch:=omega) [him2,hB,r1,r2,cl (gs _),he]
    exact k
  ·have : i = m:=by omega
   subst this
   have hvw : view 20 H1 o = some (.sl (ED vs)):=RU ho 18
   have k:=qk (ps ++ [a]) vs (.inl ⟨rfl,by simp [hps],hH⟩) hP
   simp (maxSteps:=2000000) (disch:=omega) [As hnf,hvw]
   exact ⟨hnf,k⟩
 obtain ⟨x,H',h1,rfl,h2⟩:=key
 exact ⟨x,h2,h1⟩
theorem AbW {t : TreeC} {h n v : I} {es : List (List I)} {p : List Ce} (hT : TreeV t h n es) (hv : IsSl v (Ag p)) (hl : (p.length : Int) <= 9223372036854775806) (hc : ¬ BR t p = 0) (m : Int) (H : Hp) : Gives G 84 [.m (.ag [.i .i64 t.states,h,n]),.m v,.m (.i .i64 m)] H (.tu [.m (.nl 4),.m (.i .i64 (BR t p))]) H:=by
 have g1:=fun H=>IE hT hv hl H
 refine Ae rfl rfl rfl rfl rfl ?_
 simp (maxSteps:=2000000) (disch:=omega) [cl (g1 _),hc]
theorem AbV {t : TreeC} {h n v : I} {es : List (List I)} {p : List Ce} (hT : TreeV t h n es) (hv : IsSl v (Ag p)) (hl : (p.length : Int) <= 9223372036854775806) (hc : BR t p = 0) (m : Int) (hm : m < 0 \/ 10000 < m) (H : Hp) : Gives G 84 [.m (.ag [.i .i64 t.states,h,n]),.m v,.m (.i .i64 m)] H (.tu [.m (.nl 4),.m (.i .i64 2)]) H:=by
 have g1:=fun H=>IE hT hv hl H
 rw [hc] at g1
 refine Ae rfl rfl rfl rfl rfl ?_
 by_cases h0 : m < 0
 ·simp (maxSteps:=2000000) (disch:=omega) [cl (g1 _),h0]
 ·have h1 : (10000 : Int) < m:=by omega
  simp (maxSteps:=2000000) (disch:=omega) [cl (g1 _),h0,h1]
end Go.Mx.Tryz
