/- Histories of the reference. -/
import Derived.Test.YtlhjjcaifenlbaaGreatDoorRc
import Derived.Test.YtlhjjcaifenlbaaGreatDoorRb
import Derived.Test.YtlhjjcaifenlbaaGreatDoorVn
set_option linter.unusedSimpArgs false
set_option linter.unusedVariables false
set_option linter.unusedSectionVars false
set_option maxRecDepth 100000
set_option maxHeartbeats 4000000
namespace Go.Mx.Tryz
open Go.Lib Go.Proofs
theorem Oj {α : Type} (l : List α) (x y : α) : Bk (l ++ [x]) l.length y = some (l ++ [y]):=by
 rw [BA _ _ _ (by simp)]
 simp
theorem Wz {α : Type} (l : List α) (x : α) : nth (l ++ [x]) l.length = some x:=by rw [AS]; simp
def Gq (l : List (Int × Int)) : List (List V):=l.map fun p=>[.m (.i .i64 p.1),.m (.i .i64 p.2)]
@[simp] theorem Su (l : List (Int × Int)) : (Gq l).length = l.length:=by simp [Gq]
def z2 (l : List (Int × Int)) : I:=if l = [] then .nl 4 else .sl (DF l)
theorem z2_sl (l : List (Int × Int)) : IsSl (z2 l) (DF l):=by
 unfold z2
 split
 ·rename_i h; subst h; exact AC
 ·exact Ba _
def TB (acc : List (Int × Int)) (o : V) (H : Hp) : Prop:=(acc = [] /\ o = .m (.nl 4)) \/ (acc ≠ [] /\ ∃ r,o = .sl r acc.length 2 0 acc.length false /\ nth H r = some (.cs 43 2 (Gq acc) 0 false))
theorem Lo {acc : List (Int × Int)} {o : V} {H : Hp} (h : TB acc o H) (hl : acc.length <= 1000000) (x y : Int) : ∃ o1 H1,(∀ B,Ea ⟨B,H⟩ 43 2 16 o [[.m (.i .i64 x),.m (.i .i64 y)]] = some (o1,⟨B,H1⟩)) /\ AA o1 = true /\ TB (acc ++ [(x,y)]) o1 H1:=by
 rcases h with ⟨rfl,rfl⟩ | ⟨hne,r,rfl,h1⟩
 ·refine ⟨.sl H.length 1 2 0 1 false,H ++ [.cs 43 2 (Gq [(x,y)]) 0 false],fun B=>rfl,rfl,.inr ⟨by simp,H.length,rfl,Lt H _ 0⟩⟩
 ·have ha:=fun B=>CJ (M:=⟨B,H⟩) (r:=r) (bytes:=16) (xs:=[[.m (.i .i64 x),.m (.i .i64 y)]]) h1 (by simp) (by simp; omega) rfl
  have es : Gq acc ++ [[V.m (.i .i64 x),.m (.i .i64 y)]] = Gq (acc ++ [(x,y)]):=by simp [Gq]
  simp only [Su,AdZ,Aeh,Aey,es] at ha
  refine ⟨_,_,ha,rfl,.inr ⟨by simp,r,by simp,?_⟩⟩
  exact FM (GL h1)
theorem SN {acc : List (Int × Int)} {o : V} {H : Hp} (h : TB acc o H) (x : Row) : TB acc o (H ++ [x]):=by
 rcases h with h | ⟨hne,r,h1,h2⟩
 ·exact .inl h
 ·exact .inr ⟨hne,r,h1,by rw [Lu _ _ _ (GL h2)]; exact h2⟩
theorem opt2 (k : Nat) (H : Hp) : ∀ l : List (Int × Int),Ah (fun e=>Ah (view (k + 1) H) e) (Gq l) = some (DF l)
 | []=>rfl
 | x :: r=>by
  show Option.bind (some [I.i .i64 x.1,.i .i64 x.2]) _ = _
  simp only [Adx]
  have:=opt2 k H r
  show Option.bind (Ah _ (Gq r)) _ = _
  rw [this]
  rfl
theorem view2 {H : Hp} {r : Nat} {f : List (Int × Int)} (h : nth H r = some (.cs 43 2 (Gq f) 0 false)) (k : Nat) : view (k + 2) H (.sl r f.length 2 0 f.length false) = some (.sl (DF f)):=by
 have e : elems H (.sl r f.length 2 0 f.length false) = some (Gq f):=by
  show Option.bind (nth H r) _ = _
  rw [h]
  show gd (Nat.ble 0 f.length && Nat.beq 2 2) (some (((Gq f).drop 0).take f.length)) = _
  rw [Bc,AdA (Adz _),AeC,AdI (by simp)]
  rfl
 show Option.bind (elems H (.sl r f.length 2 0 f.length false)) _ = _
 rw [e]
 show Option.bind (Ah _ (Gq f)) _ = _
 rw [opt2]
 rfl
theorem DB {acc : List (Int × Int)} {o : V} {H : Hp} (h : TB acc o H) : view 20 H o = some (z2 acc) /\ AA o = true:=by
 rcases h with ⟨rfl,rfl⟩ | ⟨hne,r,rfl,h1⟩
 ·exact ⟨rfl,rfl⟩
 ·refine ⟨?_,rfl⟩
  unfold z2
  rw [Ads hne]
  exact view2 h1 18
theorem SM {acc : List (Int × Int)} {o : V} {H : Hp} (h : TB acc o H) : viewR H o = some (.m (z2 acc)):=by
 have hv:=(DB h).1
 rcases h with ⟨rfl,rfl⟩ | ⟨hne,r,rfl,h1⟩
 ·rfl
 ·show (view 20 _ _).bind _ = _
  rw [hv]
  rfl
def nr (c : Ce) (k : Int × Int) : Prop:=(-2 <= k.1 - c.x /\ k.1 - c.x <= 2) /\ (-2 <= k.2 - c.y /\ k.2 - c.y <= 2)
instance (c : Ce) (k : Int × Int) : Decidable (nr c k):=by unfold nr; infer_instance
def nrs (p : List Ce) (i : Nat) (k : Int × Int) : Prop:=∃ c,c ∈ p.take i /\ nr c k
theorem Ox {p : List Ce} {i : Nat} {c : Ce} (hx : p[i]? = some c) (k : Int × Int) : nrs p (i + 1) k ↔ nrs p i k \/ nr c k:=by
 unfold nrs
 rw [Ao hx]
 constructor
 ·rintro ⟨d,hd,h⟩
  rcases AdX.1 hd with hd | hd
  ·exact .inl ⟨d,hd,h⟩
  ·rw [AdO.1 hd] at h; exact .inr h
 ·rintro (⟨d,hd,h⟩ | h)
  ·exact ⟨d,by simp [hd],h⟩
  ·exact ⟨c,by simp,h⟩
structure NearQ (p : List Ce) (acc : List (Int × Int)) : Prop where
 nd : acc.Nodup
 all : ∀ c k,c ∈ p -> nr c k -> k ∈ acc
 len : acc.length <= 1000000
 bnd : ∀ k,k ∈ acc -> (-4000000 <= k.1 /\ k.1 <= 4000000) /\ (-4000000 <= k.2 /\ k.2 <= 4000000)
theorem Tp {p : List Ce} {v : I} {fl : Bool} {bx by_ w h : Int} {cs : I} (hv : IsSl v (Af p)) (hl : p.length <= 5000) (hg : ∀ c,c ∈ p -> Cr c = true) (i : Nat) (hi : i <= p.length) (k : Int × Int) (hk : (-4000000 <= k.1 /\ k.1 <= 4000000) /\ (-4000000 <= k.2 /\ k.2 <= 4000000)) (H : Hp) : ∃ b,(b = true ↔ nrs p i k) /\ Gives G 130 [.m (LA fl bx by_ w h cs v),.m (.i .i64 (i : Int)),.m (.ag [.i .i64 k.1,.i .i64 k.2])] H (.m (.b b)) H:=by
 have hrv:=hv.rules
 simp only [show (Af p).length = p.length from by simp [Af]] at hrv
 have key : ∃ x H',Gives G 130 [.m (LA fl bx by_ w h cs v),.m (.i .i64 (i : Int)),.m (.ag [.i .i64 k.1,.i .i64 k.2])] H x H' /\ (H' = H /\ ∃ b,(b = true ↔ nrs p i k) /\ x = .m (.b b)):=by
  refine AI ?_
  refine Cl rfl rfl rfl rfl rfl ?_
  generalize hQ : (fun (x : V) (H' : Hp)=>H' = H /\ ∃ b,(b = true ↔ nrs p i k) /\ x = .m (.b b)) = Q
  have qt : nrs p i k -> Q (.m (.b true)) H:=fun hh=>by rw [<- hQ]; exact ⟨rfl,true,⟨fun _=>hh,fun _=>rfl⟩,rfl⟩
  have qf : ¬ nrs p i k -> Q (.m (.b false)) H:=fun hh=>by rw [<- hQ]; exact ⟨rfl,false,⟨fun h=>(by cases h),fun h=>absurd h hh⟩,rfl⟩
  clear hQ
  unfold LA
  simp (maxSteps:=2000000) (disch:=omega) []
  refine (?key : ∀ (j : Nat) (B : List (Nat × List V)),j <= i -> getB B 3 = some [.m (.b fl),.m (.i .i64 bx),.m (.i .i64 by_),.m (.i .i64 w),.m (.i .i64 h),.m cs,.m v] -> getB B 5 = some [.m (.i .i64 k.1),.m (.i .i64 k.2)] -> ¬ nrs p j k -> Run G c130_B0 (S130_0 (.m (.i .i64 (i : Int))) (.fa 3 0) (.fa 5 0) (.m (.i .i64 (j : Int))) B []) _) 0 _ (Adz _) rfl rfl (fun ⟨c,hc,_⟩=>by simp at hc)
  refine Bi (fun j : Nat=>i - j) fun j ih B hj hB3 hB5 hno=>?_
  unfold c130_B0
  by_cases hji : j < i
  ·have hji2 : (j : Int) < i:=by omega
   obtain ⟨c,hx⟩ : ∃ c,p[j]? = some c:=⟨_,Adt (by omega)⟩
   have hlt:=(Al hx).1
   have hlt' : (j : Int) < p.length:=by omega
   have hn:=An hx
   have hcb : (-1048576 <= c.x /\ c.x <= 1048576) /\ (-1048576 <= c.y /\ c.y <= 1048576):=by
    have:=hg c (Ady hx)
    unfold Cr AF at this
    simp only [Adr,AdF] at this
    omega
   obtain ⟨dx,hdx⟩ : ∃ dx,dx = k.1 - c.x:=⟨_,rfl⟩
   obtain ⟨dy,hdy⟩ : ∃ dy,dy = k.2 - c.y:=⟨_,rfl⟩
   have w1 : wr .i64 (k.1 - c.x) = dx:=by rw [hdx]; exact Aa (by omega) (by omega)
   have w2 : wr .i64 (k.2 - c.y) = dy:=by rw [hdy]; exact Aa (by omega) (by omega)
   have w3 : wr .i64 (-dx) = -dx:=Aa (by omega) (by omega)
   have w4 : wr .i64 (-dy) = -dy:=Aa (by omega) (by omega)
   have wj : wr .i64 ((j : Int) + 1) = ((j + 1 : Nat) : Int):=Aa (by omega) (by omega)
   have hnr : nr c k ↔ max dx (-dx) <= 2 /\ max dy (-dy) <= 2:=by
    unfold nr
    rw [<- hdx,<- hdy]
    omega
   have hsn:=Ox hx k
   by_cases h1 : max dx (-dx) <= 2
   ·by_cases h2 : max dy (-dy) <= 2
    ·have k1:=qt (by
      obtain ⟨d,hd,hh⟩:=hsn.2 (.inr (hnr.2 ⟨h1,h2⟩))
      refine ⟨d,?_,hh⟩
      obtain ⟨m,hm⟩:=Aet.1 hd
      have hml:=(Al hm).1
      rw [AdE] at hml
      rw [AdS] at hm
      split at hm
      ·exact Aet.2 ⟨m,by rw [AdS,Adu (by omega)]; exact hm⟩
      ·cases hm)
     simp (maxSteps:=2000000) (disch:=omega) [hrv,hji2,hn,hB3,hB5,w1,w2,w3,w4,h1,h2]
     exact k1
    ·have k1:=ih (j + 1) (by omega) B (by omega) hB3 hB5 (fun hh=>(hsn.1 hh).elim hno fun h=>h2 (hnr.1 h).2)
     simp (maxSteps:=2000000) (disch:=omega) [hrv,hji2,hn,hB3,hB5,w1,w2,w3,w4,h1,h2,wj,-Int.natCast_add]
     exact k1
   ·have k1:=ih (j + 1) (by omega) B (by omega) hB3 hB5 (fun hh=>(hsn.1 hh).elim hno fun h=>h1 (hnr.1 h).1)
    simp (maxSteps:=2000000) (disch:=omega) [hrv,hji2,hn,hB3,hB5,w1,w2,w3,h1,wj,-Int.natCast_add]
    exact k1
  ·have : j = i:=by omega
   subst this
   have k1:=qf hno
   simp (maxSteps:=2000000) (disch:=omega) []
   exact k1
 obtain ⟨x,H',h1,rfl,b,h2,rfl⟩:=key
 exact ⟨b,h2,h1⟩
theorem Zm {p : List Ce} {v : I} {bx by_ : Int} {w h : Nat} {cs : I} (hwh : (w + 4) * (h + 4) <= 1000000) (hw4 : w <= 1000000 /\ h <= 1000000) (hbx : -1048576 <= bx /\ bx <= 1048576) (hby : -1048576 <= by_ /\ by_ <= 1048576) (hin : ∀ c,c ∈ p -> (bx <= c.x /\ c.x < bx + w) /\ (by_ <= c.y /\ c.y < by_ + h)) (H : Hp) :
  ∃ acc,NearQ p acc /\ Gives G 99 [.m (LA true bx by_ w h cs v)] H (.m (z2 acc)) H:=by
 have key : ∃ x H',Gives G 99 [.m (LA true bx by_ w h cs v)] H x H' /\ (H' = H /\ ∃ acc,NearQ p acc /\ x = .m (z2 acc)):=by
  refine AI ?_
  refine Cl rfl rfl rfl rfl rfl ?_
  generalize hQ : (fun (x : V) (H' : Hp)=>H' = H /\ ∃ acc,NearQ p acc /\ x = .m (z2 acc)) = Q
  have qk : ∀ acc,NearQ p acc -> Q (.m (z2 acc)) H:=fun acc hh=>by rw [<- hQ]; exact ⟨rfl,acc,hh,rfl⟩
  clear hQ
  have y0 : wr .i64 (by_ - 2) = by_ - 2:=Aa (by omega) (by omega)
  have x0 : wr .i64 (bx - 2) = bx - 2:=Aa (by omega) (by omega)
  have yh : wr .i64 (by_ + (h : Int)) = by_ + h:=Aa (by omega) (by omega)
  have yh2 : wr .i64 (by_ + (h : Int) + 2) = by_ + h + 2:=Aa (by omega) (by omega)
  have xw : wr .i64 (bx + (w : Int)) = bx + w:=Aa (by omega) (by omega)
  have xw2 : wr .i64 (bx + (w : Int) + 2) = bx + w + 2:=Aa (by omega) (by omega)
  unfold LA
  simp (maxSteps:=2000000) (disch:=omega) [y0]
  refine (?key : ∀ (r : Nat) (yy : Int) (acc : List (Int × Int)) (o : V) (B : List (Nat × List V)) (H1 : Hp),r <= h + 4 -> yy = by_ - 2 + (r : Int) -> getB B 1 = some [.m (.b true),.m (.i .i64 bx),.m (.i .i64 by_),.m (.i .i64 w),.m (.i .i64 h),.m cs,.m v] -> acc.Nodup -> (∀ u z,(u,z) ∈ acc ↔ (bx - 2 <= u /\ u < bx + w + 2) /\ (by_ - 2 <= z /\ z < by_ - 2 + r)) -> acc.length = r * (w + 4) -> TB acc o H1 -> Run G c99_B1 (S99_1 (.fa 1 0) o (.m (.i .i64 yy)) B H1) _) 0 (by_ - 2) [] _ _ _ (Adz _) (by simp) rfl .nil (fun u z=>⟨fun h=>by simp at h,fun h=>by omega⟩) (by simp) (.inl ⟨rfl,rfl⟩)
  refine Bi (fun r : Nat=>h + 4 - r) fun r ih yy acc o B H1 hr hyy hB hnd hmem hlen ho=>?_
  unfold c99_B1
  obtain ⟨hvw,hnf⟩:=DB ho
  by_cases hrh : r < h + 4
  ·have t1 : yy < by_ + h + 2:=by omega
   have wr1 : wr .i64 (yy + 1) = yy + 1:=Aa (by omega) (by omega)
   simp (maxSteps:=2000000) (disch:=omega) [hB,yh,yh2,t1,x0]
   refine (?key2 : ∀ (q : Nat) (xx : Int) (acc : List (Int × Int)) (o : V) (B : List (Nat × List V)) (H1 : Hp),q <= w + 4 -> xx = bx - 2 + (q : Int) -> getB B 1 = some [.m (.b true),.m (.i .i64 bx),.m (.i .i64 by_),.m (.i .i64 w),.m (.i .i64 h),.m cs,.m v] -> acc.Nodup -> (∀ u z,(u,z) ∈ acc ↔ ((bx - 2 <= u /\ u < bx + w + 2) /\ (by_ - 2 <= z /\ z < by_ - 2 + r)) \/ (z = by_ - 2 + r /\ (bx - 2 <= u /\ u < bx - 2 + q))) -> acc.length = r * (w + 4) + q -> TB acc o H1 -> Run G c99_B0 (S99_0 (.fa 1 0) o (.m (.i .i64 yy)) (.m (.i .i64 xx)) B H1) _) 0 (bx - 2) acc o _ H1 (Adz _) (by simp) hB hnd (fun u z=>(hmem u z).trans ⟨fun h=>.inl h,fun h=>h.elim id fun h=>by omega⟩) (by omega) ho
   clear hvw hnf hmem hnd hlen ho hB acc o B H1
   refine Bi (fun q : Nat=>w + 4 - q) fun q ihq xx acc o B H1 hq hxx hB hnd hmem hlen ho=>?_
   unfold c99_B0
   obtain ⟨hvw,hnf⟩:=DB ho
   by_cases hqw : q < w + 4
   ·have t2 : xx < bx + w + 2:=by omega
    have wq1 : wr .i64 (xx + 1) = xx + 1:=Aa (by omega) (by omega)
    have hlb : acc.length <= 1000000:=by
     have h1 : r * (w + 4) + (w + 4) <= (w + 4) * (h + 4):=by
      rw [AeH (w + 4) (h + 4),<- Nat.succ_mul]
      exact Aed _ hrh
     omega
    obtain ⟨o1,H2,hap,hn1,ho1⟩:=Lo ho hlb xx yy
    have k:=ihq (q + 1) (by omega) (xx + 1) (acc ++ [(xx,yy)]) o1 B H2 (by omega) (by omega) hB (by
     rw [List.nodup_append]
     refine ⟨hnd,by simp,fun a ha b hb=>?_⟩
     rw [AdO.1 hb]
     intro e
     subst e
     have:=(hmem _ _).1 ha
     omega) (fun u z=>by
     rw [AdX,AdO,hmem,Adp]
     constructor
     ·rintro ((h1 | h1) | h1)
      ·exact .inl h1
      ·exact .inr (by omega)
      ·exact .inr (by omega)
     ·rintro (h1 | h1)
      ·exact .inl (.inl h1)
      ·by_cases hu : u < bx - 2 + q
       ·exact .inl (.inr (by omega))
       ·exact .inr (by omega)) (by simp; omega) ho1
    simp (maxSteps:=2000000) (disch:=omega) [hB,xw,xw2,t2,hap,wq1,Ap hn1,-Int.natCast_add]
    exact k
   ·have : q = w + 4:=by omega
    subst this
    have t2 : ¬ xx < bx + w + 2:=by omega
    have k:=ih (r + 1) (by omega) (yy + 1) acc o B H1 (by omega) (by omega) hB hnd (fun u z=>(hmem u z).trans (by
     constructor
     ·rintro (h1 | h1)
      ·omega
      ·omega
     ·intro h1
      by_cases hz : z < by_ - 2 + r
      ·exact .inl (by omega)
      ·exact .inr (by omega))) (by rw [hlen,Nat.succ_mul]) ho
    simp (maxSteps:=2000000) (disch:=omega) [hB,xw,xw2,t2,wr1,-Int.natCast_add]
    exact k
  ·have : r = h + 4:=by omega
   subst this
   have t1 : ¬ yy < by_ + h + 2:=by omega
   have k:=qk acc ⟨hnd,fun c k hc hk=>by
    have:=hin c hc
    obtain ⟨a,b⟩:=k
    unfold nr at hk
    dsimp only at hk
    exact (hmem a b).2 (by omega),by rw [hlen,AeH]; omega,fun k hk=>by
    obtain ⟨a,b⟩:=k
    have:=(hmem a b).1 hk
    dsimp only
    omega⟩
   have hvr:=SM ho
   simp (maxSteps:=2000000) (disch:=omega) [hB,yh,yh2,t1,Ap hnf,hvr,-Int.natCast_add]
   first | exact k | exact ⟨hnf,k⟩
 obtain ⟨x,H',h1,rfl,acc,h2,rfl⟩:=key
 exact ⟨acc,h2,h1⟩
theorem Zl {p : List Ce} {v : I} {bx by_ w h : Int} {cs : I} (hv : IsSl v (Af p)) (hl : p.length <= 5000) (hg : ∀ c,c ∈ p -> Cr c = true) (H : Hp) :
  ∃ acc,NearQ p acc /\ Gives G 99 [.m (LA false bx by_ w h cs v)] H (.m (z2 acc)) H:=by
 have hrv:=hv.rules
 simp only [show (Af p).length = p.length from by simp [Af]] at hrv
 have ge:=fun i hi k hk H=>Tp (fl:=false) (bx:=bx) (by_:=by_) (w:=w) (h:=h) (cs:=cs) hv hl hg i hi k hk H
 have key : ∃ x H',Gives G 99 [.m (LA false bx by_ w h cs v)] H x H' /\ (H' = H /\ ∃ acc,NearQ p acc /\ x = .m (z2 acc)):=by
  refine AI ?_
  refine Cl rfl rfl rfl rfl rfl ?_
  generalize hQ : (fun (x : V) (H' : Hp)=>H' = H /\ ∃ acc,NearQ p acc /\ x = .m (z2 acc)) = Q
  have qk : ∀ acc,NearQ p acc -> Q (.m (z2 acc)) H:=fun acc hh=>by rw [<- hQ]; exact ⟨rfl,acc,hh,rfl⟩
  clear hQ
  unfold LA at ge ⊢
  simp (maxSteps:=2000000) (disch:=omega) []
  refine (?key : ∀ (i : Nat) (acc : List (Int × Int)) (o : V) (B : List (Nat × List V)) (H1 : Hp),i <= p.length -> getB B 1 = some [.m (.b false),.m (.i .i64 bx),.m (.i .i64 by_),.m (.i .i64 w),.m (.i .i64 h),.m cs,.m v] -> acc.Nodup -> (∀ k,k ∈ acc ↔ nrs p i k) -> acc.length <= 25 * i -> TB acc o H1 -> Run G c99_B4 (S99_4 (.fa 1 0) o (.m (.i .i64 (i : Int))) B H1) _) 0 [] _ _ _ (Adz _) rfl .nil (fun k=>⟨fun h=>by simp at h,fun ⟨c,hc,_⟩=>by simp at hc⟩) (by simp) (.inl ⟨rfl,rfl⟩)
  refine Bi (fun i : Nat=>p.length - i) fun i ih acc o B H1 hi hB hnd hmem hlen ho=>?_
  unfold c99_B4
  obtain ⟨hvw,hnf⟩:=DB ho
  cases hx : p[i]? with
  | none =>
   have : i = p.length:=by have:=Adv.1 hx; omega
   subst this
   have hvr:=SM ho
   have k:=qk acc ⟨hnd,fun c k hc hk=>(hmem k).2 ⟨c,by rw [AdQ]; exact hc,hk⟩,by omega,fun k hk=>by
    obtain ⟨c,hc,hn⟩:=(hmem k).1 hk
    rw [AdQ] at hc
    have:=hg c hc
    unfold Cr AF at this
    simp only [Adr,AdF] at this
    unfold nr at hn
    omega⟩
   simp (maxSteps:=2000000) (disch:=omega) [hrv,hB,Ap hnf,hvr]
   first | exact k | exact ⟨hnf,k⟩
  | some c =>
   have hlt:=(Al hx).1
   have hlt' : (i : Int) < p.length:=by omega
   have hn:=An hx
   have wi : wr .i64 ((i : Int) + 1) = ((i + 1 : Nat) : Int):=Aa (by omega) (by omega)
   have hcb : (-1048576 <= c.x /\ c.x <= 1048576) /\ (-1048576 <= c.y /\ c.y <= 1048576):=by
    have:=hg c (Ady hx)
    unfold Cr AF at this
    simp only [Adr,AdF] at this
    omega
   simp (maxSteps:=2000000) (disch:=omega) [hrv,hlt',hB]
   refine (?key2 : ∀ (r : Nat) (yy : Int) (acc : List (Int × Int)) (o : V) (B : List (Nat × List V)) (H1 : Hp),r <= 5 -> yy = -2 + (r : Int) -> getB B 1 = some [.m (.b false),.m (.i .i64 bx),.m (.i .i64 by_),.m (.i .i64 w),.m (.i .i64 h),.m cs,.m v] -> acc.Nodup -> (∀ k,k ∈ acc ↔ nrs p i k \/ (nr c k /\ k.2 - c.y < yy)) -> acc.length <= 25 * i + 5 * r -> TB acc o H1 -> Run G c99_B3 (S99_3 (.fa 1 0) o (.m (.i .i64 (i : Int))) (.m (.i .i64 yy)) B H1) _) 0 (-2) acc o _ H1 (Adz _) (by simp) hB hnd (fun k=>(hmem k).trans ⟨fun h=>.inl h,fun h=>h.elim id fun h=>by unfold nr at h; omega⟩) (by omega) ho
   clear hvw hnf hmem hnd hlen ho hB acc o B H1
   refine Bi (fun r : Nat=>5 - r) fun r ihr yy acc o B H1 hr hyy hB hnd hmem hlen ho=>?_
   unfold c99_B3
   obtain ⟨hvw,hnf⟩:=DB ho
   by_cases hr5 : r < 5
   ·have t1 : yy <= 2:=by omega
    have wy1 : wr .i64 (yy + 1) = yy + 1:=Aa (by omega) (by omega)
    simp (maxSteps:=2000000) (disch:=omega) [t1]
    refine (?key3 : ∀ (q : Nat) (xx : Int) (acc : List (Int × Int)) (o : V) (B : List (Nat × List V)) (H1 : Hp),q <= 5 -> xx = -2 + (q : Int) -> getB B 1 = some [.m (.b false),.m (.i .i64 bx),.m (.i .i64 by_),.m (.i .i64 w),.m (.i .i64 h),.m cs,.m v] -> acc.Nodup -> (∀ k,k ∈ acc ↔ nrs p i k \/ (nr c k /\ (k.2 - c.y < yy \/ (k.2 - c.y = yy /\ k.1 - c.x < xx)))) -> acc.length <= 25 * i + 5 * r + q -> TB acc o H1 -> Run G c99_B2 (S99_2 (.fa 1 0) o (.m (.i .i64 (i : Int))) (.m (.i .i64 yy)) (.m (.i .i64 xx)) B H1) _) 0 (-2) acc o _ H1 (Adz _) (by simp) hB hnd (fun k=>(hmem k).trans ⟨fun h=>h.elim .inl fun h=>.inr ⟨h.1,.inl h.2⟩,fun h=>h.elim .inl fun h=>.inr ⟨h.1,by have:=h.1; unfold nr at this; omega⟩⟩) (by omega) ho
    clear hvw hnf hmem hnd hlen ho hB acc o B H1
    refine Bi (fun q : Nat=>5 - q) fun q ihq xx acc o B H1 hq hxx hB hnd hmem hlen ho=>?_
    unfold c99_B2
    obtain ⟨hvw,hnf⟩:=DB ho
    by_cases hq5 : q < 5
    ·have t2 : xx <= 2:=by omega
     have wx1 : wr .i64 (xx + 1) = xx + 1:=Aa (by omega) (by omega)
     obtain ⟨X,hX⟩ : ∃ X,X = c.x + xx:=⟨_,rfl⟩
     obtain ⟨Y,hY⟩ : ∃ Y,Y = c.y + yy:=⟨_,rfl⟩
     have wX : wr .i64 (c.x + xx) = X:=by rw [hX]; exact Aa (by omega) (by omega)
     have wY : wr .i64 (c.y + yy) = Y:=by rw [hY]; exact Aa (by omega) (by omega)
     have hnrk : nr c (X,Y):=by unfold nr; dsimp only; omega
     have ho':=SN ho (.cs 43 2 [[.m (.i .i64 X),.m (.i .i64 Y)]] 1 false)
     obtain ⟨b,hb,gE⟩:=ge i (by omega) (X,Y) (by dsimp only; omega) (H1 ++ [.cs 43 2 [[.m (.i .i64 X),.m (.i .i64 Y)]] 1 false])
     dsimp only at gE
     have w22 : ∀ a b c d : V,DS 2 [[a,b]] 0 0 [c,d] = some [[c,d]]:=fun _ _ _ _=>rfl
     have r22 : ∀ a b : V,Ej 2 [[a,b]] 0 0 2 = some [a,b]:=fun _ _=>rfl
     cases b with
     | true =>
      have hold:=hb.1 rfl
      have k:=ihq (q + 1) (by omega) (xx + 1) acc o B (H1 ++ [.cs 43 2 [[.m (.i .i64 X),.m (.i .i64 Y)]] 1 false]) (by omega) (by omega) hB hnd (fun k=>(hmem k).trans (by
       constructor
       ·rintro (h1 | ⟨h1,h2⟩)
        ·exact .inl h1
        ·exact .inr ⟨h1,by omega⟩
       ·rintro (h1 | ⟨h1,h2⟩)
        ·exact .inl h1
        ·by_cases e : k = (X,Y)
         ·subst e; exact .inl hold
         ·refine .inr ⟨h1,?_⟩
          have : ¬ (k.1 = X /\ k.2 = Y):=fun h=>e (Prod.ext h.1 h.2)
          omega)) (by omega) ho'
      simp (maxSteps:=2000000) (disch:=omega) [Ab,t2,hB,hrv,hn,wX,wY,Oj,Wz,w22,r22,cl gE,wx1]
      exact k
     | false =>
      have hnew : ¬ nrs p i (X,Y):=fun h=>by have:=hb.2 h; cases this
      obtain ⟨o1,H2,hap,hn1,ho1⟩:=Lo ho' (by omega) X Y
      have k:=ihq (q + 1) (by omega) (xx + 1) (acc ++ [(X,Y)]) o1 B H2 (by omega) (by omega) hB (by
       rw [List.nodup_append]
       refine ⟨hnd,by simp,fun a ha b hb=>?_⟩
       rw [AdO.1 hb]
       intro e
       subst e
       rcases (hmem _).1 ha with h1 | ⟨_,h2⟩
       ·exact hnew h1
       ·dsimp only at h2; omega) (fun k=>by
       rw [AdX,AdO,hmem]
       constructor
       ·rintro ((h1 | ⟨h1,h2⟩) | rfl)
        ·exact .inl h1
        ·exact .inr ⟨h1,by omega⟩
        ·exact .inr ⟨hnrk,by dsimp only; omega⟩
       ·rintro (h1 | ⟨h1,h2⟩)
        ·exact .inl (.inl h1)
        ·by_cases e : k = (X,Y)
         ·exact .inr e
         ·refine .inl (.inr ⟨h1,?_⟩)
          have : ¬ (k.1 = X /\ k.2 = Y):=fun h=>e (Prod.ext h.1 h.2)
          omega) (by simp; omega) ho1
      simp (maxSteps:=2000000) (disch:=omega) [Ab,t2,hB,hrv,hn,wX,wY,Oj,Wz,w22,r22,cl gE,hap,wx1,Ap hn1]
      exact k
    ·have : q = 5:=by omega
     subst this
     have t2 : ¬ xx <= 2:=by omega
     have k:=ihr (r + 1) (by omega) (yy + 1) acc o B H1 (by omega) (by omega) hB hnd (fun k=>(hmem k).trans (by
      constructor
      ·rintro (h1 | ⟨h1,h2⟩)
       ·exact .inl h1
       ·exact .inr ⟨h1,by omega⟩
      ·rintro (h1 | ⟨h1,h2⟩)
       ·exact .inl h1
       ·refine .inr ⟨h1,?_⟩
        unfold nr at h1
        omega)) (by omega) ho
     simp (maxSteps:=2000000) (disch:=omega) [t2,wy1]
     exact k
   ·have : r = 5:=by omega
    subst this
    have t1 : ¬ yy <= 2:=by omega
    have k:=ih (i + 1) (by omega) acc o B H1 (by omega) hB hnd (fun k=>(hmem k).trans (by
     rw [Ox hx]
     constructor
     ·rintro (h1 | ⟨h1,h2⟩)
      ·exact .inl h1
      ·exact .inr h1
     ·rintro (h1 | h1)
      ·exact .inl h1
      ·exact .inr ⟨h1,by unfold nr at h1; omega⟩)) (by omega) ho
    simp (maxSteps:=2000000) (disch:=omega) [t1,wi,-Int.natCast_add]
    exact k
 obtain ⟨x,H',h1,rfl,acc,h2,rfl⟩:=key
 exact ⟨acc,h2,h1⟩
def dmp (D : List (Int × Int)) : Row:=mPB (D.map fun k=>(k,true))
theorem Vr (D : List (Int × Int)) (k : Int × Int) : (Dj (D.map fun k=>(k,true)) k).getD false = decide (k ∈ D):=by
 induction D with
 | nil=>rfl
 | cons a r ih =>
  by_cases h : a = k
  ·subst h; simp [Dj]
  ·have h2 : ¬ k = a:=fun e=>h e.symm
   simp only [Aee,Dj,Ads h,ih,AdP,h2,false_or]
theorem Zz (D : List (Int × Int)) (x y : Int) : Fw ⟨true,[1,1]⟩ [.m (.b false)] false false (dmp D) (.ag [.i .i64 x,.i .i64 y]) = some (.m (.b (decide ((x,y) ∈ D)))):=by
 have:=XP (D.map fun k=>(k,true)) x y false
 rw [Vr] at this
 exact this
theorem AcY {D : List (Int × Int)} {x y : Int} (h : (x,y) ∉ D) : Us ⟨true,[1,1]⟩ (dmp D) (.ag [.i .i64 x,.i .i64 y]) (.m (.b true)) = some (dmp (D ++ [(x,y)])):=by
 have:=AaZ (D.map fun k=>(k,true)) x y true
 rw [Ny] at this
 ·rw [show dmp (D ++ [(x,y)]) = mPB (D.map (fun k=>(k,true)) ++ [((x,y),true)]) from by unfold dmp; rw [List.map_append]; rfl]
  exact this
 ·rw [List.map_map]
  intro hm
  obtain ⟨k,hk,e⟩:=AdU.1 hm
  have e : k = (x,y):=e
  exact h (e ▸ hk)
def ZL (D : List (Int × Int)) (f : List Ce) (o : V) (H : Hp) : Prop:=(f = [] /\ o = .m (.nl 4) /\ H = [dmp D]) \/ (f ≠ [] /\ o = .sl 1 f.length 3 0 f.length false /\ H = [dmp D,.cs 73 3 (Ax f) 0 false])
theorem Wx {D : List (Int × Int)} {f : List Ce} {o : V} {H : Hp} (h : ZL D f o H) : nth H 0 = some (dmp D) /\ AA o = true /\ ∀ D',Bk H 0 (dmp D') = some (H.set 0 (dmp D')) /\ ZL D' f o (H.set 0 (dmp D')):=by
 rcases h with ⟨rfl,rfl,rfl⟩ | ⟨hne,rfl,rfl⟩
 ·exact ⟨rfl,rfl,fun D'=>⟨rfl,.inl ⟨rfl,rfl,rfl⟩⟩⟩
 ·exact ⟨rfl,rfl,fun D'=>⟨rfl,.inr ⟨hne,rfl,rfl⟩⟩⟩
theorem SJ {D : List (Int × Int)} {f : List Ce} {o : V} {H : Hp} (h : ZL D f o H) (hl : f.length <= 1000000) (c : Ce) : ∃ o1 H1,(∀ B,Ea ⟨B,H⟩ 73 3 24 o [[.m (.i .i64 c.x),.m (.i .i64 c.y),.m (.i .i64 c.s)]] = some (o1,⟨B,H1⟩)) /\ AA o1 = true /\ ZL D (f ++ [c]) o1 H1:=by
 rcases h with ⟨rfl,rfl,rfl⟩ | ⟨hne,rfl,rfl⟩
 ·exact ⟨_,_,fun B=>rfl,rfl,.inr ⟨by simp,rfl,rfl⟩⟩
 ·have ha:=fun B=>CJ (M:=⟨B,[dmp D,.cs 73 3 (Ax f) 0 false]⟩) (r:=1) (bytes:=24) (xs:=[[.m (.i .i64 c.x),.m (.i .i64 c.y),.m (.i .i64 c.s)]]) rfl (by simp) (by simp; omega) rfl
  simp only [BD,AdZ,Aeh,Aey,List.set_cons_succ,AeE] at ha
  have e : Ax f ++ [[.m (.i .i64 c.x),.m (.i .i64 c.y),.m (.i .i64 c.s)]] = Ax (f ++ [c]):=by simp [Ax,OX,Ce.i]
  rw [e] at ha
  exact ⟨_,_,ha,rfl,.inr ⟨by simp,by simp,rfl⟩⟩
theorem SL {F : Nat} {D : List (Int × Int)} {f : List Ce} {o x : V} {H : Hp} (hp : G.prim F = none) (hs : G.sh F = false) (ho : ZL D f o H) (h : ∀ H,Gives G F [.m (zP f)] H x H) : ∃ H2,Gives G F [o] H x H2:=by
 rcases ho with ⟨rfl,rfl,rfl⟩ | ⟨hne,rfl,rfl⟩
 ·exact ⟨_,h _⟩
 ·have hz : zP f = .sl (Af f):=by unfold zP; rw [Ads hne]
  rw [hz] at h
  have hv : Ah (view 20 [dmp D,Row.cs 73 3 (Ax f) 0 false]) [V.sl 1 f.length 3 0 f.length false] = some [.sl (Af f)]:=by
   have:=Oc (H:=[dmp D,Row.cs 73 3 (Ax f) 0 false]) (r:=1) (b:=0) (q:=f) rfl (Adz _) 18
   show (view 20 _ _).bind _ = _
   rw [this]
   rfl
  cases hf : Fy x with
  | true=>exact ⟨_,AT (is:=[.sl (Af f)]) hp hs (h []) hv (.inr ⟨by simp [DH,GH],hf⟩)⟩
  | false =>
   have hfz : AV ([V.sl 1 f.length 3 0 f.length false].flatMap DH) [dmp D,Row.cs 73 3 (Ax f) 0 false] = some [dmp D,Row.cs 73 3 (Ax f) 0 true]:=by
    show Option.bind (gd ((Ax f).all fun e=>e.all isM) (some (Row.cs 73 3 (Ax f) 0 true))) _ = _
    rw [FG]
    rfl
   exact ⟨_,CM (is:=[.sl (Af f)]) hp hs (h []) hv (by simp [DH,GH]) hf rfl hfz⟩
def PV (t : TreeC) (p : List Ce) (x : V) : Prop:=∃ q e,Do t p (q,e) /\ x = .tu [.m (zP q),.m (.i .i64 e)]
set_option maxHeartbeats 4000000 in
theorem Wq {t : TreeC} {h n v : I} {es : List (List I)} {p : List Ce} (hT : TreeV t h n es) (hv : IsSl v (Af p)) (hc : BY t p = 0) (H : Hp) : ∃ x,PV t p x /\ Gives G 82 [.m (.ag [.i .i64 t.states,h,n]),.m v] H x H:=by
 obtain ⟨hq,hr,ht⟩:=Bd hc
 have hR:=Dn hq
 obtain ⟨pw,hg,hl⟩:=CE hr
 have hrv:=hv.rules
 simp only [show (Af p).length = p.length from by simp [Af]] at hrv
 have hrh:=hT.hd.rules
 simp only [Be] at hrh
 have hh:=BS hR.hood
 have key : ∃ x H',Gives G 82 [.m (.ag [.i .i64 t.states,h,n]),.m v] H x H' /\ (H' = H /\ PV t p x):=by
  refine AI ?_
  refine Cl rfl rfl rfl rfl rfl ?_
  generalize hQ : (fun (x : V) (H' : Hp)=>H' = H /\ PV t p x) = Q
  have q5 : Do t p ([],5) -> Q (.tu [.m (.nl 4),.m (.i .i64 5)]) H:=fun hs=>by rw [<- hQ]; exact ⟨rfl,[],5,hs,rfl⟩
  have qa : ∀ q e,Do t p (q,e) -> Q (.tu [.m (zP q),.m (.i .i64 e)]) H:=fun q e hs=>by rw [<- hQ]; exact ⟨rfl,q,e,hs,rfl⟩
  clear hQ
  have g1:=fun H=>of_m hv hr H
  simp (maxSteps:=2000000) (disch:=omega) [cl (g1 _),hrv]
  refine (?key : ∀ (i : Nat) (D : List (Int × Int)) (l : List Ce) (o : V) (B : List (Nat × List V)) (H1 : Hp),i <= p.length -> getB B 2 = some [.m (.i .i64 t.states),.m h,.m n] -> StI t p D l -> (∀ (a : Nat) c o,a < i -> p[a]? = some c -> o ∈ t.hood -> (c.x - o.1,c.y - o.2) ∈ D) -> l.length <= 25 * i -> ZL D l o H1 -> Run G c82_B1 (S82_1 (.fa 2 0) (.m (fzm (JS p))) (.mp 0) o (.m v) (.m (.i .i64 p.length)) (.m (.i .i64 (i : Int))) B H1) _) 0 [] [] _ _ _ (Adz _) rfl (YD t p) (fun a c o h=>by omega) (by simp) (.inl ⟨rfl,rfl,rfl⟩)
  refine Bi (fun i : Nat=>p.length - i) fun i ih D l o B H1 hi hB hI hall hll ho=>?_
  unfold c82_B1
  obtain ⟨n0,hnf,hset0⟩:=Wx ho
  cases hx : p[i]? with
  | none =>
   have : i = p.length:=by have:=Adv.1 hx; omega
   subst this
   have hall2 : ∀ c o,c ∈ p -> o ∈ t.hood -> (c.x - o.1,c.y - o.2) ∈ D:=fun c o hc ho2=>by
    obtain ⟨a,ha⟩:=Aet.1 hc
    exact hall a c o (Al ha).1 ha ho2
   have hgl:=Vf hR ht hI
   rcases WB (Ch l) (by omega) [] with ⟨e,he,_⟩ | ⟨he,q,hqp,hasc,g0⟩
   ·rw [Hi hgl] at he
    cases he
   ·obtain ⟨_,k1,k2,k3⟩:=Vg hR ht hI hqp hasc
    have hst:=YE hq hI hall2 k1 k2
    have gA:=fun H=>AT (H:=H) (vs:=[.m (zP l)]) (is:=[zP l]) rfl rfl g0 rfl (.inl ⟨rfl,rfl⟩)
    obtain ⟨H2,gF⟩:=SL rfl rfl ho gA
    rw [k3] at gF
    by_cases h5 : 5000 < q.length
    ·rw [Adu h5] at gF hst
     have k:=qa [] 6 hst
     simp (maxSteps:=2000000) (disch:=omega) [cl gF]
     exact k
    ·rw [Ads h5] at gF hst
     have k:=qa q 0 hst
     generalize zP q = zz at *
     simp (maxSteps:=2000000) (disch:=omega) [cl gF]
     exact k
  | some c =>
   have hlt:=(Al hx).1
   have hlt' : (i : Int) < p.length:=by omega
   have hn:=An hx
   have wi : wr .i64 ((i : Int) + 1) = ((i + 1 : Nat) : Int):=Aa (by omega) (by omega)
   have hcg:=hg c (Ady hx)
   have hcb : (-1048576 <= c.x /\ c.x <= 1048576) /\ (-1048576 <= c.y /\ c.y <= 1048576):=by
    unfold Cr AF at hcg
    simp only [Adr,AdF] at hcg
    omega
   simp (maxSteps:=2000000) (disch:=omega) [Ab,hrv,hlt',hn,hB,hrh]
   refine (?key2 : ∀ (j : Nat) (D : List (Int × Int)) (l : List Ce) (o : V) (B : List (Nat × List V)) (H1 : Hp),j <= t.hood.length -> getB B 2 = some [.m (.i .i64 t.states),.m h,.m n] -> getB B 10 = some [.m (.i .i64 c.x),.m (.i .i64 c.y),.m (.i .i64 c.s)] -> StI t p D l -> (∀ (a : Nat) c o,a < i -> p[a]? = some c -> o ∈ t.hood -> (c.x - o.1,c.y - o.2) ∈ D) -> (∀ (b : Nat) o,b < j -> t.hood[b]? = some o -> (c.x - o.1,c.y - o.2) ∈ D) -> l.length <= 25 * i + j -> ZL D l o H1 -> Run G c82_B0 (S82_0 (.fa 2 0) (.m (fzm (JS p))) (.mp 0) o (.fa 10 0) (.m v) (.m (.i .i64 p.length)) (.m (.i .i64 (i : Int))) (.m h) (.m (.i .i64 t.hood.length)) (.m (.i .i64 (j : Int))) B H1) _) 0 D l o _ H1 (Adz _) (by simpa using hB) (by simp) hI hall (fun b o h=>by omega) (by omega) ho
   clear hset0 hI hall hll ho n0 hnf hB B H1 o l D
   refine Bi (fun j : Nat=>t.hood.length - j) fun j ihj D l o B H1 hj hB hA hI hall hbj hll ho=>?_
   unfold c82_B0
   obtain ⟨n0,hnf,hset⟩:=Wx ho
   cases hy : t.hood[j]? with
   | none =>
    have : j = t.hood.length:=by have:=Adv.1 hy; omega
    subst this
    have k:=ih (i + 1) (by omega) D l o B H1 (by omega) hB hI (fun a c' o' ha hc' ho'=>by
     by_cases e : a < i
     ·exact hall a c' o' e hc' ho'
     ·have : a = i:=by omega
      subst this
      rw [hx] at hc'
      cases hc'
      obtain ⟨b,hb⟩:=Aet.1 ho'
      exact hbj b o' (Al hb).1 hb) (by omega) ho
    simp (maxSteps:=2000000) (disch:=omega) [wi,-Int.natCast_add]
    exact k
   | some o2 =>
    have hjl:=(Al hy).1
    have hjl2 : (j : Int) < t.hood.length:=by omega
    have hox:=Cg hy
    have hob:=DC hR.hood o2 (Ady hy)
    have wj : wr .i64 ((j : Int) + 1) = ((j + 1 : Nat) : Int):=Aa (by omega) (by omega)
    obtain ⟨qx,hqx⟩ : ∃ qx,qx = c.x - o2.1:=⟨_,rfl⟩
    obtain ⟨qy,hqy⟩ : ∃ qy,qy = c.y - o2.2:=⟨_,rfl⟩
    have wx : wr .i64 (c.x - o2.1) = qx:=by rw [hqx]; exact Aa (by omega) (by omega)
    have wy : wr .i64 (c.y - o2.2) = qy:=by rw [hqy]; exact Aa (by omega) (by omega)
    have hdg:=Zz D qx qy
    have hbj2 : ∀ D' : List (Int × Int),(∀ k,k ∈ D -> k ∈ D') -> (qx,qy) ∈ D' -> ∀ (b : Nat) o,b < j + 1 -> t.hood[b]? = some o -> (c.x - o.1,c.y - o.2) ∈ D':=fun D' h1 h2 b o' hb ho'=>by
     by_cases e : b < j
     ·exact h1 _ (hbj b o' e ho')
     ·have : b = j:=by omega
      subst this
      rw [hy] at ho'
      cases ho'
      rw [<- hqx,<- hqy]
      exact h2
    by_cases hD : (qx,qy) ∈ D
    ·rw [AdA hD] at hdg
     have k:=fun B'=>ihj (j + 1) (by omega) D l o B' H1 (by omega)
     simp (maxSteps:=2000000) (disch:=omega) [Ab,hrh,hjl2,hox,hA,wx,wy,n0,hdg,wj,-Int.natCast_add]
     exact k _ (by simpa using hB) (by simpa using hA) hI hall (hbj2 D (fun _ h=>h) hD) (by omega) ho
    ·rw [AdB hD] at hdg
     have hup:=AcY hD
     obtain ⟨hs1,ho1⟩:=hset (D ++ [(qx,qy)])
     have gn:=fun H=>AcH hT hR ht qx qy (by omega) (by omega) H
     have hrg:=EL hR ht qx qy
     have hsub : ∀ k,k ∈ D -> k ∈ D ++ [(qx,qy)]:=fun k hk=>by simp [hk]
     have hall3 : ∀ (a : Nat) c o,a < i -> p[a]? = some c -> o ∈ t.hood -> (c.x - o.1,c.y - o.2) ∈ D ++ [(qx,qy)]:=fun a c o h1 h2 h3=>hsub _ (hall a c o h1 h2 h3)
     by_cases hz : Bl t p qx qy = 0
     ·rw [hz] at gn
      have k:=fun B'=>ihj (j + 1) (by omega) (D ++ [(qx,qy)]) l o B' (H1.set 0 (dmp (D ++ [(qx,qy)]))) (by omega)
      simp (maxSteps:=2000000) (disch:=omega) [Ab,hrh,hjl2,hox,hA,hB,wx,wy,n0,hdg,hup,hs1,cl (gn _),wj,-Int.natCast_add]
      exact k _ (by simpa using hB) (by simpa using hA) (Ve hI hz) hall3 (hbj2 _ hsub (by simp)) (by omega) ho1
     ·have hpos : 0 < Bl t p qx qy:=by omega
      have gp:=fun H=>YR qx qy H
      cases hpl : AF qx qy with
      | false =>
       rw [hpl] at gp
       have k:=q5 (Sg hz hpl)
       generalize Bl t p qx qy = nx at *
       simp (maxSteps:=2000000) (disch:=omega) [Ab,hrh,hjl2,hox,hA,hB,wx,wy,n0,hdg,hup,hs1,cl (gn _),hpos,cl (gp _),-Int.natCast_add]
       exact k
      | true =>
       rw [hpl] at gp
       obtain ⟨o3,H3,ha,hn3,ho3⟩:=SJ ho1 (by omega) ⟨qx,qy,Bl t p qx qy⟩
       dsimp only at ha
       have hI3:=YF hI hD hz hpl
       have k:=fun B'=>ihj (j + 1) (by omega) (D ++ [(qx,qy)]) (l ++ [⟨qx,qy,Bl t p qx qy⟩]) o3 B' H3 (by omega)
       generalize Bl t p qx qy = nx at *
       simp (maxSteps:=2000000) (disch:=omega) [Ab,hrh,hjl2,hox,hA,hB,wx,wy,n0,hdg,hup,hs1,cl (gn _),hpos,cl (gp _),ha,wj,Ap hn3,-Int.natCast_add]
       exact k _ (by simpa using hB) (by simpa using hA) hI3 hall3 (hbj2 _ hsub (by simp)) (by simp; omega) ho3
 obtain ⟨x,H',h1,rfl,h2⟩:=key
 exact ⟨x,h2,h1⟩
def ER (vs : List I) : List (List I):=vs.map fun v=>[v]
def Dm (vs : List I) : List (List V):=vs.map fun v=>[.m v]
@[simp] theorem If (vs : List I) : (ER vs).length = vs.length:=by simp [ER]
@[simp] theorem Ib (vs : List I) : (Dm vs).length = vs.length:=by simp [Dm]
theorem Lp {vs : List I} {i : Nat} {u : I} (h : vs[i]? = some u) : nth (ER vs) i = some [u]:=by rw [AS]; simp [ER,h]
theorem Sr {vs : List I} {i : Nat} {u : I} (h : vs[i]? = some u) : nth (Dm vs) i = some [.m u]:=by rw [AS]; simp [Dm,h]
theorem Tg (vs : List I) : Cn (ER vs) = Dm vs:=by
 unfold Cn ER Dm
 rw [List.map_map]
 rfl
def TA (vs : List I) (ps : List (List Ce)) : Prop:=vs.length = ps.length /\ ∀ (i : Nat) u q,vs[i]? = some u -> ps[i]? = some q -> IsSl u (Af q)
theorem Lm {vs : List I} {ps : List (List Ce)} (h : TA vs ps) {u : I} {q : List Ce} (hu : IsSl u (Af q)) : TA (vs ++ [u]) (ps ++ [q]):=by
 obtain ⟨h1,h2⟩:=h
 refine ⟨by simp [h1],fun i u' q' hi hq=>?_⟩
 by_cases hl : i < vs.length
 ·rw [AdK hl] at hi
  rw [AdK (by omega)] at hq
  exact h2 i u' q' hi hq
 ·have hi2:=(Adq.1 hi).1
  have : i = vs.length:=by simp at hi2; omega
  subst this
  simp at hi
  rw [h1] at hq
  simp at hq
  subst hi hq
  exact hu
def Aaq (vs : List I) (o : V) (H : Hp) : Prop:=vs ≠ [] /\ ((o = .ls (ER vs) /\ H = []) \/ (o = .sl 0 vs.length 1 0 vs.length false /\ H = [.cs 29 1 (Dm vs) 0 false]))
theorem Zd {vs : List I} {o : V} {H : Hp} (h : Aaq vs o H) : AA o = true /\ Aq (.len false) [o] = some (.m (.i .i64 vs.length)):=by
 rcases h with ⟨_,⟨rfl,rfl⟩ | ⟨rfl,rfl⟩⟩
 ·exact ⟨rfl,by show some (V.m (.i .i64 ((ER vs).length : Nat))) = _; rw [If]⟩
 ·exact ⟨rfl,rfl⟩
theorem Zc {vs : List I} {o : V} {H : Hp} (h : Aaq vs o H) {i : Nat} {u : I} (hx : vs[i]? = some u) (hl : vs.length <= 1000000) : ∃ p,Aq (.ixa 1) [o,.m (.i .i64 (i : Int))] = some p /\ ∀ B,readX ⟨B,H⟩ (.ld false 1) [p] = some (.m u):=by
 have hlt:=(Al hx).1
 rcases h with ⟨_,⟨rfl,rfl⟩ | ⟨rfl,rfl⟩⟩
 ·have hn:=Lp hx
  refine ⟨.m (.pt [u]),?_,fun B=>rfl⟩
  simp (maxSteps:=2000000) (disch:=omega) [hn,If]
 ·have hn:=Sr hx
  refine ⟨.pt 0 vs.length i 0,?_,fun B=>?_⟩
  ·simp (maxSteps:=2000000) (disch:=omega) []
  ·simp (maxSteps:=2000000) (disch:=omega) [Ab,hn]
theorem Vj (vs : List I) (h : ∀ u,u ∈ vs -> Cv (.m u) = true) : ((Dm vs).all fun e=>Nat.beq e.length 1 && e.all Cv) = true:=by
 unfold Dm
 rw [List.all_map,AdH]
 intro u hu
 show (Nat.beq 1 1 && (Cv (.m u) && true)) = true
 rw [h u hu]
 rfl
theorem SH {vs : List I} {o : V} {H : Hp} (h : Aaq vs o H) (hl : vs.length <= 1000000) (ho : ∀ u,u ∈ vs -> Cv (.m u) = true) {u : I} (hu : Cv (.m u) = true) : ∃ o1 H1,(∀ B,Ea ⟨B,H⟩ 29 1 24 o [[.m u]] = some (o1,⟨B,H1⟩)) /\ AA o1 = true /\ Aaq (vs ++ [u]) o1 H1:=by
 have hall : ∀ x,x ∈ vs ++ [u] -> Cv (.m x) = true:=fun x hx=>by
  rcases AdX.1 hx with hx | hx
  ·exact ho x hx
  ·rw [AdO.1 hx]; exact hu
 have es : Dm vs ++ [[V.m u]] = Dm (vs ++ [u]):=by simp [Dm]
 rcases h with ⟨hne,⟨rfl,rfl⟩ | ⟨rfl,rfl⟩⟩
 ·refine ⟨.sl 0 (vs ++ [u]).length 1 0 (vs ++ [u]).length false,[.cs 29 1 (Dm (vs ++ [u])) 0 false],fun B=>?_,rfl,by simp,.inr ⟨rfl,rfl⟩⟩
  show Bp ⟨B,[]⟩ 29 1 24 (Cn (ER vs) ++ [[V.m u]]) = _
  rw [Tg,es]
  have h1 : Nat.ble ((Dm (vs ++ [u])).length * 24) 140737488355328 = true:=by
   rw [Bc]
   refine AdA ?_
   rw [Ib,AdC,List.length_singleton]
   omega
  unfold Bp
  rw [h1,Vj _ hall,Ib]
  rfl
 ·have ha:=fun B=>CJ (M:=⟨B,[.cs 29 1 (Dm vs) 0 false]⟩) (r:=0) (bytes:=24) (xs:=[[.m u]]) rfl (by simp) (by simp; omega) (by simp [hu])
  simp only [Ib,AdZ,Aeh,Aey,es,AeE] at ha
  exact ⟨_,_,ha,rfl,by simp,.inr ⟨by simp,rfl⟩⟩
theorem optP (k : Nat) (H : Hp) : ∀ vs : List I,Ah (fun e=>Ah (view (k + 1) H) e) (Dm vs) = some (ER vs)
 | []=>rfl
 | x :: r=>by
  show Option.bind (some [x]) _ = _
  simp only [Adx]
  have:=optP k H r
  show Option.bind (Ah _ (Dm r)) _ = _
  rw [this]
  rfl
theorem AbZ {H : Hp} {r : Nat} {vs : List I} (h : nth H r = some (.cs 29 1 (Dm vs) 0 false)) (k : Nat) : view (k + 2) H (.sl r vs.length 1 0 vs.length false) = some (.sl (ER vs)):=by
 have e : elems H (.sl r vs.length 1 0 vs.length false) = some (Dm vs):=by
  show Option.bind (nth H r) _ = _
  rw [h]
  show gd (Nat.ble 0 vs.length && Nat.beq 1 1) (some (((Dm vs).drop 0).take vs.length)) = _
  rw [Bc,AdA (Adz _),AeC,AdI (by simp)]
  rfl
 show Option.bind (elems H (.sl r vs.length 1 0 vs.length false)) _ = _
 rw [e]
 show Option.bind (Ah _ (Dm vs)) _ = _
 rw [optP]
 rfl
theorem SG {vs : List I} {o : V} {H : Hp} (h : Aaq vs o H) (k : Nat) : view (k + 2) H o = some (.sl (ER vs)):=by
 rcases h with ⟨_,⟨rfl,rfl⟩ | ⟨rfl,rfl⟩⟩
 ·rfl
 ·exact AbZ rfl k
theorem ZC {u : I} {es : List (List I)} (h : IsSl u es) (c : Bf) (B : List (Nat × List V)) (H : Hp) : Am c ⟨B,H⟩ (.bsf 1 [.m (.nl 4)] 1 [0]) [.m u] = some (.ls [[u]],⟨B,H⟩):=by
 rcases h with rfl | ⟨rfl,_⟩ <;> rfl
theorem Adb {t : TreeC} {q : List Ce} (hq : AJ t = true) (h1 : q.Pairwise (fun a b=>AO a b = true)) (h2 : ∀ c,c ∈ q -> Cr c = true) (h3 : q.length <= 5000) (ht : GK t q) : BY t q = 0:=by
 unfold BY
 rw [Adu hq,Adu (FH h1 h2 h3),Adu ((HX (by have:=(Dn hq).s2; omega) _ q rfl).2 fun c hc=>(ht c hc).2)]
def HisV (t : TreeC) (p : List Ce) (n : Nat) (x : V) : Prop:=∃ ps e,HisQ t p n (ps,e) /\ ((¬ e = 0 /\ x = .tu [.m (.nl 4),.m (.i .i64 e)]) \/ (e = 0 /\ ∃ vs,TA vs ps /\ x = .tu [.m (.sl (ER vs)),.m (.i .i64 0)]))
theorem Yu (x y : Int) (H : Hp) : Gives G 101 [.m (.i .i64 x),.m (.i .i64 y)] H (.m (.b (AF x y))) H:=by
 refine Ae rfl rfl rfl rfl rfl ?_
 simp (contextual:=true) [Aj,-Int.not_lt,-Int.not_le,-Nat.not_lt,-Nat.not_le,-List.map_take,AF]
theorem AcI {p : List Ce} {v f : I} (hv : IsSl v (Af p)) (hl : p.length <= 5000) (hg : ∀ c,c ∈ p -> Cr c = true) (hF : FldV p v f) (H : Hp) : ∃ acc,NearQ p acc /\ Gives G 99 [.m f] H (.m (z2 acc)) H:=by
 obtain ⟨bx,by_,w,h,fl,cs,rfl,hwh,hbx,hby,hin,hne,hfl,_⟩:=hF.ex
 cases fl with
 | false=>exact Zl hv hl hg H
 | true =>
  have hP:=(hfl rfl).1
  have h4 : (w + 4) * (h + 4) <= 1000000 /\ w <= 1000000 /\ h <= 1000000:=by
   have e : (w + 4) * (h + 4) = w * h + w * 4 + 4 * h + 16:=by rw [AdY,Nat.mul_add,Nat.mul_add]; omega
   rw [e]
   rcases hne with ⟨h1,h2⟩ | ⟨rfl,rfl⟩
   ·have a1:=Nat.le_mul_of_pos_right w h2
    have a2:=Nat.le_mul_of_pos_left h h1
    generalize w * h = P at *
    omega
   ·omega
  exact Zm h4.1 h4.2 hbx hby hin H
theorem GX {F : Nat} {f : List Ce} {o x : V} {H : Hp} (hp : G.prim F = none) (hs : G.sh F = false) (ho : Jl f o H) (h : ∀ H,Gives G F [.m (zP f)] H x H) : ∃ H2,Gives G F [o] H x H2:=by
 rcases ho with ⟨rfl,rfl,rfl⟩ | ⟨hne,rfl,rfl⟩
 ·exact ⟨_,h _⟩
 ·have hz : zP f = .sl (Af f):=by unfold zP; rw [Ads hne]
  rw [hz] at h
  have hv : Ah (view 20 [Row.cs 73 3 (Ax f) 0 false]) [V.sl 0 f.length 3 0 f.length false] = some [.sl (Af f)]:=by
   have:=My (r:=0) (b:=0) (X:=[]) (A:=[]) (q:=f) (n:=f.length) rfl (Adz _) 18
   show (view 20 _ _).bind _ = _
   rw [this]
   rfl
  cases hf : Fy x with
  | true=>exact ⟨_,AT (is:=[.sl (Af f)]) hp hs (h []) hv (.inr ⟨by simp [DH,GH],hf⟩)⟩
  | false =>
   have hfz : AV ([V.sl 0 f.length 3 0 f.length false].flatMap DH) [Row.cs 73 3 (Ax f) 0 false] = some [Row.cs 73 3 (Ax f) 0 true]:=by
    show Option.bind (gd ((Ax f).all fun e=>e.all isM) (some (Row.cs 73 3 (Ax f) 0 true))) _ = _
    rw [FG]
    rfl
   exact ⟨_,CM (is:=[.sl (Af f)]) hp hs (h []) hv (by simp [DH,GH]) hf rfl hfz⟩
theorem SF {f : List Ce} {o : V} {H : Hp} (h : Jl f o H) : Aq (.len false) [o] = some (.m (.i .i64 (f.length : Nat))):=by
 rcases h with ⟨rfl,rfl,rfl⟩ | ⟨_,rfl,_⟩ <;> rfl
def stepL (t : TreeC) (p : List Ce) (acc : List (Int × Int)) : List Ce:=(acc.filter fun k=>!decide (Bl t p k.1 k.2 = 0)).map fun k=>⟨k.1,k.2,Bl t p k.1 k.2⟩
def MA (t : TreeC) (p : List Ce) (acc : List (Int × Int)) : Bool:=acc.any fun k=>!decide (Bl t p k.1 k.2 = 0) && !AF k.1 k.2
theorem PG (t : TreeC) (p : List Ce) (acc : List (Int × Int)) (k : Int × Int) : stepL t p (acc ++ [k]) = stepL t p acc ++ if Bl t p k.1 k.2 = 0 then [] else [⟨k.1,k.2,Bl t p k.1 k.2⟩]:=by
 unfold stepL
 rw [List.filter_append]
 by_cases h : Bl t p k.1 k.2 = 0 <;> simp [h]
theorem PF (t : TreeC) (p : List Ce) (acc : List (Int × Int)) (k : Int × Int) : MA t p (acc ++ [k]) = (MA t p acc || (!decide (Bl t p k.1 k.2 = 0) && !AF k.1 k.2)):=by
 unfold MA
 simp
theorem Se {t : TreeC} {p : List Ce} {acc : List (Int × Int)} {c : Ce} : c ∈ stepL t p acc ↔ (c.x,c.y) ∈ acc /\ c.s = Bl t p c.x c.y /\ ¬ c.s = 0:=by
 unfold stepL
 rw [AdU]
 constructor
 ·rintro ⟨k,hk,rfl⟩
  obtain ⟨h1,h2⟩:=List.mem_filter.1 hk
  exact ⟨h1,rfl,by simpa using h2⟩
 ·rintro ⟨h1,h2,h3⟩
  refine ⟨(c.x,c.y),List.mem_filter.2 ⟨h1,?_⟩,?_⟩
  ·dsimp only
   rw [<- h2]
   simpa using h3
  ·obtain ⟨a,b,s⟩:=c
   dsimp only at h2 ⊢
   rw [<- h2]
theorem MB {t : TreeC} {p : List Ce} {acc : List (Int × Int)} (h : acc.Nodup) : (stepL t p acc).Pairwise apart:=by
 unfold stepL
 rw [List.pairwise_map]
 exact (h.sublist List.filter_sublist).imp fun {a b} hab ⟨h1,h2⟩=>hab (Prod.ext h1 h2)
theorem Oy {t : TreeC} (hq : AJ t = true) {p : List Ce} {acc : List (Int × Int)} (hN : NearQ p acc) {x y : Int} (h : ¬ Bl t p x y = 0) : (x,y) ∈ acc:=by
 obtain ⟨c,o,hc,ho,rfl,rfl⟩:=GY hq h
 have:=DC (Dn hq).hood o ho
 refine hN.all c _ hc ?_
 unfold nr
 dsimp only
 omega
theorem Sf (t : TreeC) (p : List Ce) (acc : List (Int × Int)) : (stepL t p acc).length <= acc.length:=by
 unfold stepL
 rw [AdJ]
 exact Aeu _ _
set_option maxHeartbeats 4000000 in
theorem Sc {t : TreeC} {h n v : I} {es : List (List I)} {p : List Ce} (hT : TreeV t h n es) (hv : IsSl v (Af p)) (hc : BY t p = 0) (H : Hp) : ∃ x,PV t p x /\ Gives G 58 [.m (.ag [.i .i64 t.states,h,n]),.m v] H x H:=by
 obtain ⟨hq,hr,ht⟩:=Bd hc
 have hR:=Dn hq
 obtain ⟨pw,hg,hl⟩:=CE hr
 have g1:=fun H=>Jh hT hv (by omega) H
 rw [hc] at g1
 obtain ⟨f,hF,g2⟩:=Vc hv hr []
 have g4:=fun x y hx hy H=>AcG hT hR hv hl hF ht x y hx hy H
 obtain ⟨acc,hN,g3⟩:=AcI hv hl hg hF []
 obtain ⟨bx,by_,w,k,fl,cs,rfl,_,_,_,_,_,_,hcs⟩:=hF.ex
 have hv1:=CF hv
 have key : ∃ x H',Gives G 58 [.m (.ag [.i .i64 t.states,h,n]),.m v] H x H' /\ (H' = H /\ PV t p x):=by
  refine AI ?_
  refine Cl rfl rfl rfl rfl rfl ?_
  generalize hQ : (fun (x : V) (H' : Hp)=>H' = H /\ PV t p x) = Q
  have qn : ∀ e,Do t p ([],e) -> Q (.tu [.m (.nl 4),.m (.i .i64 e)]) H:=fun e hs=>by rw [<- hQ]; exact ⟨rfl,[],e,hs,rfl⟩
  have qa : ∀ q,Do t p (q,0) -> Q (.tu [.m (zP q),.m (.i .i64 0)]) H:=fun q hs=>by rw [<- hQ]; exact ⟨rfl,q,0,hs,rfl⟩
  clear hQ
  have hra:=(z2_sl acc).rules
  simp only [Be] at hra
  unfold LA at g2 g3 g4
  simp (maxSteps:=2000000) (disch:=omega) [Ab,cl (g1 _),cl g2,cl g3,hcs,hv1]
  refine (?key : ∀ (i : Nat) (b : Bool) (o : V) (B : List (Nat × List V)) (H1 : Hp),i <= acc.length -> getB B 2 = some [.m (.i .i64 t.states),.m h,.m n] -> getB B 7 = some [.m (.b fl),.m (.i .i64 bx),.m (.i .i64 by_),.m (.i .i64 w),.m (.i .i64 k),.m cs,.m v] -> b = MA t p (acc.take i) -> Jl (stepL t p (acc.take i)) o H1 -> Run G c58_B0 (S58_0 (.fa 2 0) (.fa 7 0) (.m (z2 acc)) o (.m (.b b)) (.m (.i .i64 (i : Int))) B H1) _) 0 false _ _ _ (Adz _) rfl rfl rfl (.inl ⟨rfl,rfl,rfl⟩)
  refine Bi (fun i : Nat=>acc.length - i) fun i ih b o B H1 hi hB2 hB7 hb ho=>?_
  unfold c58_B0
  have hnf:=(BW ho).2
  have hol:=SF ho
  have hlen:=hN.len
  have hsl:=Sf t p (acc.take i)
  cases hx : acc[i]? with
  | none =>
   have : i = acc.length:=by have:=Adv.1 hx; omega
   subst this
   rw [AdQ] at hb ho hol hsl
   cases b with
   | true =>
    have hb:=hb.symm
    unfold MA at hb
    obtain ⟨k,hk,hk2⟩:=List.any_eq_true.1 hb
    rw [Adr,AdV,decide_eq_false_iff_not,AdV] at hk2
    have k1:=qn 5 (Sg hk2.1 hk2.2)
    simp (maxSteps:=2000000) (disch:=omega) [hra]
    exact k1
   | false =>
    have hpl : ∀ x y,¬ Bl t p x y = 0 -> AF x y = true:=fun x y hn=>by
     have hm:=Oy hq hN hn
     cases hpp : AF x y with
     | true=>rfl
     | false =>
      exfalso
      have : MA t p acc = true:=by
       unfold MA
       refine List.any_eq_true.2 ⟨(x,y),hm,?_⟩
       dsimp only
       rw [hpp,AdB hn]
       rfl
      rw [this] at hb
      cases hb
    have hmem : ∀ c,c ∈ stepL t p acc ↔ c.s = Bl t p c.x c.y /\ ¬ c.s = 0:=fun c=>Se.trans ⟨fun h=>h.2,fun h=>⟨Oy hq hN (by rw [<- h.1]; exact h.2),h⟩⟩
    have hap:=MB (t:=t) (p:=p) hN.nd
    have hgood : ∀ c,c ∈ stepL t p acc -> Cr c = true:=fun c hc=>by
     obtain ⟨h1,h2⟩:=(hmem c).1 hc
     have h3:=hpl c.x c.y (by rw [<- h1]; exact h2)
     have h4:=EL hR ht c.x c.y
     rw [<- h1] at h4
     have:=hR.s8
     unfold Cr
     rw [h3]
     simp only [Aev,Adr,AdF]
     omega
    have hst : Do t p (if 5000 < (Ci (stepL t p acc)).length then ([],6) else (Ci (stepL t p acc),0)):=.inr ⟨hpl,_,FE hap,fun c=>((DA _).mem_iff).trans (hmem c),rfl⟩
    rw [CD] at hst
    by_cases h5 : 5000 < (stepL t p acc).length
    ·have h5' : (5000 : Int) < (stepL t p acc).length:=by omega
     rw [Adu h5] at hst
     have k1:=qn 6 hst
     simp (maxSteps:=2000000) (disch:=omega) [hra,hol,h5']
     exact k1
    ·have h5' : ¬ (5000 : Int) < (stepL t p acc).length:=by omega
     rw [Ads h5] at hst
     have k1:=qa _ hst
     have gF:=fun H=>Ic (Ch (stepL t p acc)) (by omega) hgood hap H
     obtain ⟨H2,gG⟩:=GX rfl rfl ho gF
     generalize zP (Ci (stepL t p acc)) = zz at *
     simp (maxSteps:=2000000) (disch:=omega) [hra,hol,h5',cl gG]
     exact k1
  | some k0 =>
   obtain ⟨x,y⟩:=k0
   have hlt:=(Al hx).1
   have hlt' : (i : Int) < acc.length:=by omega
   have hox:=Cg hx
   have hbk:=hN.bnd _ (Ady hx)
   have wi : wr .i64 ((i : Int) + 1) = ((i + 1 : Nat) : Int):=Aa (by omega) (by omega)
   dsimp only at hox hbk
   have gn:=fun H=>g4 x y (by omega) (by omega) H
   have gp:=fun H=>Yu x y H
   have hrg:=EL hR ht x y
   have eL:=PG t p (acc.take i) (x,y)
   have eO:=PF t p (acc.take i) (x,y)
   rw [<- Ao hx] at eL eO
   dsimp only at eL eO
   by_cases hz : Bl t p x y = 0
   ·rw [Adu hz,Ael] at eL
    rw [AdA hz,Bool.not_true,Bool.false_and,Bool.or_false] at eO
    rw [hz] at gn
    have kk:=fun B'=>ih (i + 1) (by omega) b o B' H1 (by omega)
    simp (maxSteps:=2000000) (disch:=omega) [Ab,hra,hlt',hox,hB2,hB7,cl (gn _),wi,-Int.natCast_add]
    exact kk _ (by simpa using hB2) (by simpa using hB7) (by rw [eO]; exact hb) (by rw [eL]; exact ho)
   ·rw [Ads hz] at eL
    rw [AdB hz,Bool.not_false,Aev,<- hb] at eO
    obtain ⟨o1,H2,hap,hn1,ho1⟩:=BM ho (by rw [AdE] at hsl; omega) ⟨x,y,Bl t p x y⟩
    dsimp only at hap
    rw [<- eL] at ho1
    have kk:=fun b' B'=>ih (i + 1) (by omega) b' o1 B' H2 (by omega)
    generalize Bl t p x y = nx at *
    cases b with
    | true =>
     simp (maxSteps:=2000000) (disch:=omega) [Ab,Ad,hra,hlt',hox,hB2,hB7,cl (gn _),hz,hap,wi,Ap hn1,-Int.natCast_add]
     exact kk true _ (by simpa using hB2) (by simpa using hB7) (by rw [eO]; rfl) ho1
    | false =>
     cases hpp : AF x y with
     | true =>
      rw [hpp] at gp eO
      simp (maxSteps:=2000000) (disch:=omega) [Ab,Ad,hra,hlt',hox,hB2,hB7,cl (gn _),hz,hap,cl (gp _),wi,Ap hn1,-Int.natCast_add]
      exact kk false _ (by simpa using hB2) (by simpa using hB7) (by rw [eO]; rfl) ho1
     | false =>
      rw [hpp] at gp eO
      simp (maxSteps:=2000000) (disch:=omega) [Ab,Ad,hra,hlt',hox,hB2,hB7,cl (gn _),hz,hap,cl (gp _),wi,Ap hn1,-Int.natCast_add]
      exact kk true _ (by simpa using hB2) (by simpa using hB7) (by rw [eO]; rfl) ho1
 obtain ⟨x,H',h1,rfl,h2⟩:=key
 exact ⟨x,h2,h1⟩
set_option maxHeartbeats 4000000 in
theorem his_r {t : TreeC} {h n v : I} {es : List (List I)} {p : List Ce} (hT : TreeV t h n es) (hv : IsSl v (Af p)) (hc : BY t p = 0) (m : Nat) (hm : m <= 10000) (H : Hp) : ∃ x,HisV t p m x /\ Gives G 84 [.m (.ag [.i .i64 t.states,h,n]),.m v,.m (.i .i64 (m : Int))] H x H:=by
 obtain ⟨hq,hr,ht⟩:=Bd hc
 have hR:=Dn hq
 obtain ⟨pw,hg,hl⟩:=CE hr
 have key : ∃ x H',Gives G 84 [.m (.ag [.i .i64 t.states,h,n]),.m v,.m (.i .i64 (m : Int))] H x H' /\ (H' = H /\ HisV t p m x):=by
  refine AI ?_
  refine Cl rfl rfl rfl rfl rfl ?_
  generalize hQ : (fun (x : V) (H' : Hp)=>H' = H /\ HisV t p m x) = Q
  have qe : ∀ ps e,HisQ t p m (ps,e) -> ¬ e = 0 -> Q (.tu [.m (.nl 4),.m (.i .i64 e)]) H:=fun ps e h1 h2=>by rw [<- hQ]; exact ⟨rfl,ps,e,h1,.inl ⟨h2,rfl⟩⟩
  have qk : ∀ ps vs,HisQ t p m (ps,0) -> TA vs ps -> Q (.tu [.m (.sl (ER vs)),.m (.i .i64 0)]) H:=fun ps vs h1 h2=>by rw [<- hQ]; exact ⟨rfl,ps,0,h1,.inr ⟨rfl,vs,h2,rfl⟩⟩
  clear hQ
  have g1:=fun H=>Jh hT hv (by omega) H
  rw [hc] at g1
  have m0 : ¬ (m : Int) < 0:=by omega
  have m1 : ¬ (10000 : Int) < m:=by omega
  have m2 : ¬ 10000 < m:=by omega
  have hb1:=fun c B H=>ZC hv c B H
  simp (maxSteps:=2000000) (disch:=omega) [cl (g1 _),m0,m1,hb1]
  refine (?key : ∀ (i : Nat) (vs : List I) (ps : List (List Ce)) (a : List Ce) (o : V) (B : List (Nat × List V)) (H1 : Hp),i <= m -> getB B 3 = some [.m (.i .i64 t.states),.m h,.m n] -> HisR t p (ps ++ [a]) -> ps.length = i -> TA vs (ps ++ [a]) -> BY t a = 0 -> (∀ u,u ∈ vs -> Cv (.m u) = true) -> Aaq vs o H1 -> Run G c84_B0 (S84_0 (.m (.i .i64 (m : Int))) (.fa 3 0) o (.m (.i .i64 (i : Int))) B H1) _) 0 [v] [] p _ _ _ (Adz _) rfl .one rfl ⟨rfl,fun i u q hi hq=>by
   cases i with
   | zero=>cases hi; cases hq; exact hv
   | succ i=>simp at hi⟩ hc (fun u hu=>by rw [AdO.1 hu]; exact CF hv) ⟨by simp,.inl ⟨rfl,rfl⟩⟩
  refine Bi (fun i : Nat=>m - i) fun i ih vs ps a o B H1 hi hB hH hps hP hca hone ho=>?_
  unfold c84_B0
  obtain ⟨hnf,hlen⟩:=Zd ho
  have hvl : vs.length = i + 1:=by rw [hP.1]; simp [hps]
  by_cases him : i < m
  ·have him2 : (i : Int) < m:=by omega
   obtain ⟨u,hu⟩ : ∃ u,vs[i]? = some u:=⟨_,Adt (by omega)⟩
   have hua : IsSl u (Af a):=hP.2 i u a hu (by simp [<- hps])
   obtain ⟨pt,r1,r2⟩:=Zc ho hu (by omega)
   have w1 : wr .i64 ((vs.length : Int) - 1) = (i : Int):=by rw [Aa (by omega) (by omega)]; omega
   have wi : wr .i64 ((i : Int) + 1) = ((i + 1 : Nat) : Int):=Aa (by omega) (by omega)
   obtain ⟨x,⟨q,e,hst,rfl⟩,_⟩:=Sc hT hua hca []
   have gs : ∀ H,Gives G 58 [.m (.ag [.i .i64 t.states,h,n]),.m u] H (.tu [.m (zP q),.m (.i .i64 e)]) H:=fun H=>by
    obtain ⟨x',⟨q',e',hst',rfl⟩,g⟩:=Sc hT hua hca H
    have:=IW hst hst'
    cases this
    exact g
   by_cases he : e = 0
   ·subst he
    obtain ⟨hq2,hr2,ht2⟩:=Bd hca
    obtain ⟨k1,k2,k3,k4⟩:=Of hR ht2 hst
    have hcq:=Adb hq k1 k2 k3 k4
    have hoz:=CF (Ch q)
    obtain ⟨o1,H2,ha,hn1,ho1⟩:=SH ho (by omega) hone hoz
    have hb2:=fun c B H=>ZC (Ch q) c B H
    have k:=fun B'=>ih (i + 1) (by omega) (vs ++ [zP q]) (ps ++ [a]) q o1 B' H2 (by omega)
    simp (maxSteps:=2000000) (disch:=omega) [him2,hB,r1,r2,cl (gs _),hb2,ha,wi,Ap hn1,-Int.natCast_add]
    exact k _ hB (hH.snoc hst) (by simp [hps]) (Lm hP (Ch q)) hcq (fun x hx=>by
     rcases AdX.1 hx with hx | hx
     ·exact hone x hx
     ·rw [AdO.1 hx]; exact hoz) ho1
   ·have hq0 : q = []:=by
     rcases hst with ⟨e1,_⟩ | ⟨_,r,_,_,e1⟩
     ·exact congrArg Prod.fst e1
     ·split at e1
      ·exact congrArg Prod.fst e1
      ·exact absurd (congrArg Prod.snd e1) he
    subst hq0
    have k:=qe [] e (.inr ⟨ps,a,by omega,hH,hst,he,rfl⟩) he
    simp (maxSteps:=2000000) (disch:=omega) [him2,hB,r1,r2,cl (gs _),he]
    exact k
  ·have : i = m:=by omega
   subst this
   have hvw : view 20 H1 o = some (.sl (ER vs)):=SG ho 18
   have k:=qk (ps ++ [a]) vs (.inl ⟨rfl,by simp [hps],hH⟩) hP
   simp (maxSteps:=2000000) (disch:=omega) [Ap hnf,hvw]
   exact ⟨hnf,k⟩
 obtain ⟨x,H',h1,rfl,h2⟩:=key
 exact ⟨x,h2,h1⟩
theorem AcO {t : TreeC} {h n v : I} {es : List (List I)} {p : List Ce} (hT : TreeV t h n es) (hv : IsSl v (Af p)) (hl : (p.length : Int) <= 9223372036854775806) (hc : ¬ BY t p = 0) (m : Int) (H : Hp) : Gives G 84 [.m (.ag [.i .i64 t.states,h,n]),.m v,.m (.i .i64 m)] H (.tu [.m (.nl 4),.m (.i .i64 (BY t p))]) H:=by
 have g1:=fun H=>Jh hT hv hl H
 refine Ae rfl rfl rfl rfl rfl ?_
 simp (maxSteps:=2000000) (disch:=omega) [cl (g1 _),hc]
theorem AcN {t : TreeC} {h n v : I} {es : List (List I)} {p : List Ce} (hT : TreeV t h n es) (hv : IsSl v (Af p)) (hl : (p.length : Int) <= 9223372036854775806) (hc : BY t p = 0) (m : Int) (hm : m < 0 \/ 10000 < m) (H : Hp) : Gives G 84 [.m (.ag [.i .i64 t.states,h,n]),.m v,.m (.i .i64 m)] H (.tu [.m (.nl 4),.m (.i .i64 2)]) H:=by
 have g1:=fun H=>Jh hT hv hl H
 rw [hc] at g1
 refine Ae rfl rfl rfl rfl rfl ?_
 by_cases h0 : m < 0
 ·simp (maxSteps:=2000000) (disch:=omega) [cl (g1 _),h0]
 ·have h1 : (10000 : Int) < m:=by omega
  simp (maxSteps:=2000000) (disch:=omega) [cl (g1 _),h0,h1]
end Go.Mx.Tryz
