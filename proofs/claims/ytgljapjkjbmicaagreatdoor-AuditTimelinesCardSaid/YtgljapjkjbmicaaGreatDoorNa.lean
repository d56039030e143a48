/- A list of numbers that grows: none, or row 0. -/
import Derived.Test.YtgljapjkjbmicaaGreatDoorWa
import Derived.Test.YtgljapjkjbmicaaGreatDoorCfg
import Derived.Test.YtgljapjkjbmicaaGreatDoorSeav
import Derived.Test.YtgljapjkjbmicaaGreatDoorLaw
import Derived.Test.YtgljapjkjbmicaaGreatDoorWb
import Derived.Test.YtgljapjkjbmicaaGreatDoorSrx
import Derived.KernelRfl
import Derived.Test.YtgljapjkjbmicaaGreatDoorSz
set_option linter.unusedSimpArgs false
set_option linter.unusedVariables false
set_option linter.unusedSectionVars false
namespace Go.Mx.Tryz
open Go.Proofs
theorem Ud : AQ G 100000 6 [] [] = some (.m (.b true),[]):=by kernel_rfl
theorem Lz : Gives G 6 [] [] (.m (.b true)) []:=⟨_,Ud⟩
end Go.Mx.Tryz
set_option maxRecDepth 100000
namespace Go.Mx.Tryz
structure Ce where
 x : Int
 y : Int
 s : Int
def Ce.i (c : Ce) : List I:=[.i .i64 c.x,.i .i64 c.y,.i .i64 c.s]
def Al (p : List Ce) : List (List I):=p.map Ce.i
@[simp] theorem OE (p : List Ce) : (Al p).length = p.length:=by simp [Al]
theorem Aq {p : List Ce} {i : Nat} {c : Ce} (h : p[i]? = some c) : nth (Al p) i = some [.i .i64 c.x,.i .i64 c.y,.i .i64 c.s]:=by
 rw [Bb]
 simp [Al,h,Ce.i]
def AG (x y : Int) : Bool:=decide (-1048576 <= x /\ x <= 1048576 /\ -1048576 <= y /\ y <= 1048576)
def Bm (a b : Ce) : Bool:=decide (a.y < b.y \/ (a.y = b.y /\ a.x < b.x))
def Co (c : Ce) : Bool:=AG c.x c.y && decide (1 <= c.s) && decide (c.s < 8)
def CA : Option Ce -> List Ce -> Bool
 | _,[]=>true
 | none,c :: r=>Co c && CA (some c) r
 | some a,c :: r=>Co c && Bm a c && CA (some c) r
def Bo (p : List Ce) : Bool:=decide (p.length <= 5000) && CA none p
theorem IQ (x y : Int) (H : Hp) : Gives G 84 [.m (.ag [.i .i64 x,.i .i64 y])] H (.m (.b (AG x y))) H:=by
 refine Ak rfl rfl rfl rfl rfl ?_
 simp (contextual:=true) [Ae,Af,Ac,Ag,-Int.not_lt,-Int.not_le,-Nat.not_lt,-Nat.not_le,-List.map_take,AG]
 grind
theorem Gr (x y : Int) (H : Hp) : Gives G 57 [.m (.i .i64 x),.m (.i .i64 y)] H (.m (.b (AG x y))) H:=by
 refine Ak rfl rfl rfl rfl rfl ?_
 simp (contextual:=true) [Ae,Af,Ac,Ag,-Int.not_lt,-Int.not_le,-Nat.not_lt,-Nat.not_le,-List.map_take,AG]
theorem XT (c : Ce) (H : Hp) : Gives G 85 [.m (.ag [.i .i64 c.x,.i .i64 c.y,.i .i64 c.s])] H (.m (.ag [.i .i64 c.x,.i .i64 c.y])) H:=by
 refine Ak rfl rfl rfl rfl rfl ?_
 simp
theorem nan_s (x : Int) (H : Hp) : Gives G 124 [.m (.i .i64 x)] H (.m (.b false)) H:=by
 refine Ak rfl rfl rfl rfl rfl ?_
 simp
def DA (x y : Int) : Int:=if x < y then -1 else if y < x then 1 else 0
theorem cmp_s (x y : Int) (H : Hp) : Gives G 103 [.m (.i .i64 x),.m (.i .i64 y)] H (.m (.i .i64 (DA x y))) H:=by
 refine Ak rfl rfl rfl rfl rfl ?_
 simp (contextual:=true) [Ae,Af,Ac,Ag,-Int.not_lt,-Int.not_le,-Nat.not_lt,-Nat.not_le,-List.map_take,cl (nan_s _ _),DA]
theorem or2_s (a b : Int) (H : Hp) : Gives G 102 [.m (.sl [[.i .i64 a],[.i .i64 b]])] H (.m (.i .i64 (if a = 0 then b else a))) H:=by
 refine Ak rfl rfl rfl rfl rfl ?_
 simp (contextual:=true) [Ae,Af,Ac,Ag,-Int.not_lt,-Int.not_le,-Nat.not_lt,-Nat.not_le,-List.map_take,Aa,c102_B0]
def FQ (x y z w : Int) : Int:=if DA y w = 0 then DA x z else DA y w
theorem Rc (x y z w : Int) (H : Hp) : Gives G 70 [.m (.ag [.i .i64 x,.i .i64 y]),.m (.ag [.i .i64 z,.i .i64 w])] H (.m (.i .i64 (FQ x y z w))) H:=by
 refine Ak rfl rfl rfl rfl rfl ?_
 have hv:=AX (vs:=[.ls [[.i .i64 (DA y w)],[.i .i64 (DA x z)]]]) (H:=[]) rfl rfl (or2_s (DA y w) (DA x z) []) rfl (.inl ⟨rfl,rfl⟩)
 simp [cl (cmp_s _ _ _),cl hv,FQ]
theorem Rp (a b : Ce) (H : Hp) : Gives G 86 [.m (.ag [.i .i64 a.x,.i .i64 a.y,.i .i64 a.s]),.m (.ag [.i .i64 b.x,.i .i64 b.y,.i .i64 b.s])] H (.m (.i .i64 (FQ a.x a.y b.x b.y))) H:=by
 refine Ak rfl rfl rfl rfl rfl ?_
 simp [cl (XT _ _),cl (Rc _ _ _ _ _)]
theorem RS (a b : Ce) : (0 <= FQ a.x a.y b.x b.y) ↔ Bm a b = false:=by
 unfold Bm FQ DA
 grind
theorem Gt (a b : Ce) (H : Hp) : Gives G 58 [.m (.ag [.i .i64 a.x,.i .i64 a.y,.i .i64 a.s]),.m (.ag [.i .i64 b.x,.i .i64 b.y,.i .i64 b.s])] H (.m (.b (Bm a b))) H:=by
 refine Ak rfl rfl rfl rfl rfl ?_
 simp (contextual:=true) [Ae,Af,Ac,Ag,-Int.not_lt,-Int.not_le,-Nat.not_lt,-Nat.not_le,-List.map_take,Bm]
def Jb (p : List Ce) : Nat -> Option Ce
 | 0=>none
 | i + 1=>p[i]?
theorem Ig {p : List Ce} {i : Nat} {c : Ce} (hx : p[i]? = some c) (hi : ∀ j,i = j + 1 -> j < p.length) : CA (Jb p i) (c :: p.drop (i + 1)) = (Co c && (match Jb p i with | none=>true | some a=>Bm a c) && CA (Jb p (i + 1)) (p.drop (i + 1))):=by
 have : Jb p (i + 1) = some c:=hx
 rw [this]
 cases Jb p i with
 | none=>show (Co c && CA (some c) _) = _; simp
 | some a=>show (Co c && Bm a c && CA (some c) _) = _; simp
theorem IN {v : I} {p : List Ce} (hv : IsSl v (Al p)) (hl : (p.length : Int) <= 9223372036854775807) (H : Hp) : Gives G 48 [.m v] H (.m (.b (Bo p))) H:=by
 refine Ak rfl rfl rfl rfl rfl ?_
 simp (contextual:=true) [Ae,Af,Ac,Ag,-Int.not_lt,-Int.not_le,-Nat.not_lt,-Nat.not_le,-List.map_take,hv.rules]
 refine ⟨fun h=>?_,fun h=>?_⟩
 ·unfold Bo
  grind
 refine (?key : ∀ (i : Nat) (B : List (Nat × List V)),i <= p.length -> Bo p = CA (Jb p i) (p.drop i) -> Run G c48_B0 (S48_0 (.m v) (.m v) (.m (.i .i64 p.length)) (.m (.i .i64 i)) B []) _) 0 [] (AaT _) ?_
 case key =>
  refine Bd (fun i : Nat=>p.length - i) fun i ih B hi hr=>?_
  unfold c48_B0
  cases hx : p[i]? with
  | none =>
   have : i = p.length:=by have:=AaM.1 hx; omega
   subst this
   have : CA (Jb p p.length) [] = true:=by cases Jb p p.length <;> rfl
   simp [hr,this]
  | some c =>
   have hlt:=(Aj hx).1
   have hn:=Aq hx
   rw [(Aj hx).2,Ig hx (by omega)] at hr
   have hg : Co c = (AG c.x c.y && decide (1 <= c.s) && decide (c.s < 8)):=rfl
   cases i with
   | zero =>
    simp (contextual:=true) (maxSteps:=2000000) (disch:=omega) [Ae,Af,Ac,Ag,-Int.not_lt,-Int.not_le,-Nat.not_lt,-Nat.not_le,-List.map_take,hv.rules,hn,hlt,cl (XT _ _),cl (IQ _ _ _),Aa]
    repeat' first | with_reducible apply And.intro | intro _
    all_goals first
     | (refine ih 1 (by omega) _ (by omega) ?_; grind [Jb])
     | grind [Jb]
   | succ j =>
    obtain ⟨c0,hx0⟩ : ∃ c0,p[j]? = some c0:=⟨p[j],AaK (by omega)⟩
    have hn0:=Aq hx0
    have e3 : (j : Int) + 1 < p.length:=by omega
    have e4 : (j : Int) < p.length:=by omega
    have e6 : (0 : Int) <= j + 1:=by omega
    have e7 : ((j : Int) + 1).toNat = j + 1:=by omega
    have hp0 : Jb p (j + 1) = some c0:=hx0
    simp only [hp0] at hr
    simp (contextual:=true) (maxSteps:=2000000) (disch:=omega) [Ae,Af,Ac,Ag,-Int.not_lt,-Int.not_le,-Nat.not_lt,-Nat.not_le,-List.map_take,hv.rules,hn,hn0,e3,e4,e6,e7,hlt,cl (XT _ _),cl (IQ _ _ _),cl (Rp _ _ _),Aa,RS]
    repeat' first | with_reducible apply And.intro | intro _
    all_goals first
     | (refine ih (j + 2) (by omega) _ (by omega) ?_; grind)
     | grind
 ·have : p.length <= 5000:=by omega
  simp [Bo,this,Jb]
theorem Hl {v : I} {p : List Ce} (hv : IsSl v (Al p)) (hl : (p.length : Int) <= 9223372036854775807) (H : Hp) : Gives G 21 [.m v] H (.m (.b (Bo p))) H:=by
 refine Ak rfl rfl rfl rfl rfl ?_
 simp (contextual:=true) (maxSteps:=2000000) (disch:=omega) [Ae,Af,Ac,Ag,-Int.not_lt,-Int.not_le,-Nat.not_lt,-Nat.not_le,-List.map_take,hv.rules]
 refine (?key : ∀ (i : Nat) (B : List (Nat × List V)),i <= p.length -> CA none p = CA (Jb p i) (p.drop i) -> Run G c21_B0 (S21_0 (.m v) (.m (.i .i64 i)) B []) _) 0 [] (AaT _) rfl
 refine Bd (fun i : Nat=>p.length - i) fun i ih B hi hr=>?_
 unfold c21_B0
 have hR : Bo p = (decide (p.length <= 5000) && CA none p):=rfl
 cases hx : p[i]? with
 | none =>
  have : i = p.length:=by have:=AaM.1 hx; omega
  subst this
  have : CA (Jb p p.length) [] = true:=by cases Jb p p.length <;> rfl
  simp [hv.rules,hR,hr,this]
  omega
 | some c =>
  have hlt:=(Aj hx).1
  have hn:=Aq hx
  rw [(Aj hx).2,Ig hx (by omega)] at hr
  have hg : Co c = (AG c.x c.y && decide (1 <= c.s) && decide (c.s < 8)):=rfl
  cases i with
  | zero =>
   simp (contextual:=true) (maxSteps:=2000000) (disch:=omega) [Ae,Af,Ac,Ag,-Int.not_lt,-Int.not_le,-Nat.not_lt,-Nat.not_le,-List.map_take,hv.rules,hn,hlt,cl (Gr _ _ _),Aa]
   repeat' first | with_reducible apply And.intro | intro _
   all_goals first
    | (refine ih 1 (by omega) _ (by omega) ?_; grind [Jb])
    | grind [Jb]
  | succ j =>
   obtain ⟨c0,hx0⟩ : ∃ c0,p[j]? = some c0:=⟨p[j],AaK (by omega)⟩
   have hn0:=Aq hx0
   have e3 : (j : Int) + 1 < p.length:=by omega
   have e4 : (j : Int) < p.length:=by omega
   have e6 : (0 : Int) <= j + 1:=by omega
   have e7 : ((j : Int) + 1).toNat = j + 1:=by omega
   have hp0 : Jb p (j + 1) = some c0:=hx0
   simp only [hp0] at hr
   simp (contextual:=true) (maxSteps:=2000000) (disch:=omega) [Ae,Af,Ac,Ag,-Int.not_lt,-Int.not_le,-Nat.not_lt,-Nat.not_le,-List.map_take,hv.rules,hn,hn0,e3,e4,e6,e7,hlt,cl (Gt _ _ _),cl (Gr _ _ _),Aa]
   repeat' first | with_reducible apply And.intro | intro _
   all_goals first
    | (refine ih (j + 2) (by omega) _ (by omega) ?_; grind)
    | grind
theorem BL {B n : Nat} {l : List I} (h : Fits Go.Proofs.Tryz.prog B (n + 1) 3 l) : ∃ x : Int,l = [.i .i64 x] /\ -9223372036854775808 <= x /\ x <= 9223372036854775807:=by
 unfold Fits at h
 rw [Go.Proofs.Tryz.underlying3] at h
 simp only at h
 obtain ⟨x,rfl,hx⟩:=h
 have e1 : IntKind.i64.min = -9223372036854775808:=by decide
 have e2 : IntKind.i64.max = 9223372036854775807:=by decide
 rw [e1,e2] at hx
 exact ⟨x,rfl,hx⟩
theorem TY {B n : Nat} {l : List I} (h : Fits Go.Proofs.Tryz.prog B (n + 2) 90 l) : ∃ d : Ce,l = d.i:=by
 unfold Fits at h
 rw [Go.Proofs.Tryz.underlying90] at h
 simp only [Gg] at h
 obtain ⟨x1,y1,rfl,k1,x2,y2,rfl,k2,x3,y3,rfl,k3,rfl⟩:=h
 obtain ⟨u,rfl,_⟩:=BL k1
 obtain ⟨v,rfl,_⟩:=BL k2
 obtain ⟨w,rfl,_⟩:=BL k3
 exact ⟨⟨u,v,w⟩,rfl⟩
theorem RL {es : List (List I)} (h : ∀ x,x ∈ es -> ∃ d : Ce,x = d.i) : ∃ p : List Ce,es = Al p:=by
 induction es with
 | nil=>exact ⟨[],rfl⟩
 | cons x r ih =>
  obtain ⟨d,rfl⟩:=h x (by simp)
  obtain ⟨p,rfl⟩:=ih fun x hx=>h x (by simp [hx])
  exact ⟨d :: p,rfl⟩
theorem Xc {B n : Nat} {l : List I} (h : Fits Go.Proofs.Tryz.prog B (n + 3) 41 l) : ∃ (p : List Ce) (v : I),l = [v] /\ IsSl v (Al p) /\ p.length <= B:=by
 unfold Fits at h
 rw [Go.Proofs.Tryz.underlying41] at h
 simp only at h
 rcases h with rfl | ⟨es,rfl,hle,hes⟩
 ·exact ⟨[],_,rfl,AR,by simp⟩
 ·obtain ⟨p,rfl⟩:=RL fun x hx=>TY (hes x hx)
  exact ⟨p,_,rfl,BF _,by rw [OE] at hle; exact hle⟩
def mnF (m : Int) (l : List Int) : Int:=l.foldl min m
def mxF (m : Int) (l : List Int) : Int:=l.foldl max m
theorem TJ (m : Int) (l : List Int) (x : Int) : mnF m (l ++ [x]) = min (mnF m l) x:=by simp [mnF]
theorem TI (m : Int) (l : List Int) (x : Int) : mxF m (l ++ [x]) = max (mxF m l) x:=by simp [mxF]
def Xl (p : List Ce) : List Int:=match p with
 | []=>[0,0,0,0]
 | c :: r=>if Bo (c :: r) = true then
   [mnF c.x ((c :: r).map Ce.x),c.y,wr .i64 (wr .i64 (mxF c.x ((c :: r).map Ce.x) - mnF c.x ((c :: r).map Ce.x)) + 1),wr .i64 (wr .i64 (((c :: r).getLast (by simp)).y - c.y) + 1)]
  else [0,0,0,0]
def Aax (p : List Ce) : V:=.tu [.m (.ag ((Xl p).map (.i .i64))),.m (.b (!p.isEmpty && Bo p))]
theorem IV {α β : Type} {p : List α} {i : Nat} {c : α} (f : α -> β) (h : p[i]? = some c) : (p.take (i + 1)).map f = (p.take i).map f ++ [f c]:=by rw [Au h]; simp
theorem Ic {a b c : Ce} (h1 : Bm a b = true) (h2 : Bm b c = true) : Bm a c = true:=by
 unfold Bm at *
 grind
theorem KB : ∀ (p : List Ce) (o : Option Ce),CA o p = true -> p.Pairwise (fun a b=>Bm a b = true) /\ (∀ a,o = some a -> ∀ d,d ∈ p -> Bm a d = true) /\ ∀ d,d ∈ p -> Co d = true
 | [],_,_=>⟨.nil,fun _ _ d hd=>by simp at hd,fun d hd=>by simp at hd⟩
 | c :: r,o,h=>by
  have h' : Co c = true /\ (∀ a,o = some a -> Bm a c = true) /\ CA (some c) r = true:=by
   cases o with
   | none =>
    have : (Co c && CA (some c) r) = true:=h
    rw [AaJ] at this
    exact ⟨this.1,fun _ h=>(by cases h),this.2⟩
   | some a =>
    have : (Co c && Bm a c && CA (some c) r) = true:=h
    simp only [AaJ] at this
    exact ⟨this.1.1,fun _ h=>(by cases h; exact this.1.2),this.2⟩
  obtain ⟨g1,g2,g3⟩:=h'
  obtain ⟨i1,i2,i3⟩:=KB r (some c) g3
  refine ⟨Abw.2 ⟨fun d hd=>i2 c rfl d hd,i1⟩,fun a ha d hd=>?_,fun d hd=>?_⟩
  ·rcases Abd.1 hd with rfl | hd
   ·exact g2 a ha
   ·exact Ic (g2 a ha) (i2 c rfl d hd)
  ·rcases Abd.1 hd with rfl | hd
   ·exact g1
   ·exact i3 d hd
theorem Bh {p : List Ce} (h : Bo p = true) : p.Pairwise (fun a b=>Bm a b = true) /\ (∀ d,d ∈ p -> Co d = true) /\ p.length <= 5000:=by
 unfold Bo at h
 simp only [AaJ,AaU] at h
 have:=KB p none h.2
 exact ⟨this.1,this.2.2,h.1⟩
theorem RA : ∀ (l : List Int) (m x : Int),(x <= m /\ ∀ y,y ∈ l -> x <= y) -> x <= mnF m l
 | [],m,x,h=>h.1
 | y :: r,m,x,h=>RA r (min m y) x ⟨by have:=h.1; have:=h.2 y (by simp); omega,fun z hz=>h.2 z (by simp [hz])⟩
theorem Nm : ∀ (l : List Int) (m : Int),mnF m l <= m /\ ∀ y,y ∈ l -> mnF m l <= y
 | [],m=>⟨Int.le_refl _,fun y hy=>by simp at hy⟩
 | y :: r,m=>by
  obtain ⟨h1,h2⟩:=Nm r (min m y)
  refine ⟨by show mnF (min m y) r <= m; omega,fun z hz=>?_⟩
  show mnF (min m y) r <= z
  rcases Abd.1 hz with rfl | hz
  ·omega
  ·exact h2 z hz
theorem Nk : ∀ (l : List Int) (m : Int),m <= mxF m l /\ ∀ y,y ∈ l -> y <= mxF m l
 | [],m=>⟨Int.le_refl _,fun y hy=>by simp at hy⟩
 | y :: r,m=>by
  obtain ⟨h1,h2⟩:=Nk r (max m y)
  refine ⟨by show m <= mxF (max m y) r; omega,fun z hz=>?_⟩
  show z <= mxF (max m y) r
  rcases Abd.1 hz with rfl | hz
  ·omega
  ·exact h2 z hz
theorem Rz : ∀ (l : List Int) (m x : Int),(m <= x /\ ∀ y,y ∈ l -> y <= x) -> mxF m l <= x
 | [],m,x,h=>h.1
 | y :: r,m,x,h=>Rz r (max m y) x ⟨by have:=h.1; have:=h.2 y (by simp); omega,fun z hz=>h.2 z (by simp [hz])⟩
theorem MZ {c d : Ce} {r : List Ce} (h : Bo (c :: r) = true) (hd : (c :: r)[(c :: r).length - 1]? = some d) : mnF c.y ((c :: r).map Ce.y) = c.y /\ mxF c.y ((c :: r).map Ce.y) = d.y:=by
 obtain ⟨pw,_,_⟩:=Bh h
 have first : ∀ y,y ∈ (c :: r).map Ce.y -> c.y <= y:=fun y hy=>by
  obtain ⟨e,he,rfl⟩:=Abz.1 hy
  rcases Abd.1 he with rfl | he
  ·exact Int.le_refl _
  ·have:=(Abw.1 pw).1 e he
   unfold Bm at this
   simp only [AaU] at this
   omega
 have last : ∀ y,y ∈ (c :: r).map Ce.y -> y <= d.y:=fun y hy=>by
  obtain ⟨e,he,rfl⟩:=Abz.1 hy
  obtain ⟨i,hi,rfl⟩:=List.mem_iff_getElem.1 he
  by_cases hil : i = (c :: r).length - 1
  ·subst hil
   rw [AaK hi] at hd
   cases hd
   exact Int.le_refl _
  ·have hj : (c :: r).length - 1 < (c :: r).length:=by simp
   have:=AbH.1 pw i ((c :: r).length - 1) hi hj (by omega)
   rw [AaK hj] at hd
   cases hd
   unfold Bm at this
   simp only [AaU] at this
   omega
 have dm : d.y ∈ (c :: r).map Ce.y:=Abz.2 ⟨d,AaS hd,rfl⟩
 have c0:=Nm ((c :: r).map Ce.y) c.y
 have c1:=RA ((c :: r).map Ce.y) c.y c.y ⟨Int.le_refl _,first⟩
 have c2:=Nk ((c :: r).map Ce.y) c.y
 have c3:=Rz ((c :: r).map Ce.y) c.y d.y ⟨last _ (by simp),last⟩
 have c4:=c2.2 _ dm
 constructor <;> omega
theorem box_r {v : I} {p : List Ce} (hv : IsSl v (Al p)) (hl : (p.length : Int) <= 9223372036854775807) (H : Hp) : Gives G 131 [.m v] H (Aax p) H:=by
 refine Ak rfl rfl rfl rfl rfl ?_
 have g:=Hl hv hl []
 cases hp : p with
 | nil=>subst hp; simp (contextual:=true) (maxSteps:=2000000) (disch:=omega) [Ae,Af,Ac,Ag,-Int.not_lt,-Int.not_le,-Nat.not_lt,-Nat.not_le,-List.map_take,hv.rules,Aax,Xl]
 | cons c r =>
  rw [<- hp]
  have h0 : p[0]? = some c:=by rw [hp]; rfl
  have hn0:=Aq h0
  have e1 : 0 < p.length:=by rw [hp]; simp
  obtain ⟨cl,hcl⟩ : ∃ d,p[p.length - 1]? = some d:=⟨p[p.length - 1],AaK (by omega)⟩
  have hla : ∀ h,(c :: r).getLast h = cl:=fun h=>by
   have : p.getLast (by rw [hp]; simp) = cl:=by rw [List.getLast_eq_getElem,<- AaG,<- hcl,AaK]
   simpa [hp] using this
  have e2 : ¬ ((p.length : Int) = 0):=by omega
  have e4 : ¬ p = []:=by rw [hp]; simp
  simp (contextual:=true) (maxSteps:=2000000) (disch:=omega) [Ae,Af,Ac,Ag,-Int.not_lt,-Int.not_le,-Nat.not_lt,-Nat.not_le,-List.map_take,hv.rules,Mx.Tryz.cl g,hn0,Aa,e1,e2,e4]
  refine ⟨fun hr=>?_,fun hr=>?_⟩
  ·rw [hp] at hr ⊢; simp [Aax,Xl,hr]
  refine (?key : ∀ (i : Nat) (B : List (Nat × List V)),i <= p.length -> (∃ a b d e,getB B 2 = some [a,b,d,e]) -> Run G c131_B0 (S131_0 (.m v) (.fa 2 0) (.m (.i .i64 (mnF c.x ((p.take i).map Ce.x)))) (.m (.i .i64 (mnF c.y ((p.take i).map Ce.y)))) (.m (.i .i64 (mxF c.x ((p.take i).map Ce.x)))) (.m (.i .i64 (mxF c.y ((p.take i).map Ce.y)))) (.m (.i .i64 i)) B []) _) 0 _ (AaT _) ⟨_,_,_,_,rfl⟩
  refine Bd (fun i : Nat=>p.length - i) fun i ih B hi hB=>?_
  unfold c131_B0
  cases hx : p[i]? with
  | none =>
   have : i = p.length:=by have:=AaM.1 hx; omega
   subst this
   obtain ⟨a,b,d,e,hB⟩:=hB
   have hy:=MZ (hp ▸ hr) (hp ▸ hcl)
   simp (contextual:=true) (maxSteps:=2000000) (disch:=omega) [hv.rules,hB,Aa,Ae,Af,Ac,Ag,-Int.not_lt,-Int.not_le,-Nat.not_lt,-Nat.not_le,-List.map_take]
   rw [hp] at hr ⊢
   simp only [Abr] at hy
   simp [Aax,Xl,hr,hla,hy.1,hy.2]
  | some d =>
   have hlt:=(Aj hx).1
   have hn:=Aq hx
   have ih:=ih (i + 1) (by omega)
   simp only [IV _ hx,TJ,TI] at ih
   simp (contextual:=true) (maxSteps:=2000000) (disch:=omega) [Ae,Af,Ac,Ag,-Int.not_lt,-Int.not_le,-Nat.not_lt,-Nat.not_le,-List.map_take,hv.rules,hn,hlt,Aa]
   exact ih _ (by omega) hB
def By (p : List Ce) (x y : Int) : Int:=match p with
 | []=>0
 | c :: r=>if c.x = x /\ c.y = y then c.s else By r x y
theorem Aah {v : I} {p : List Ce} (hv : IsSl v (Al p)) (hl : (p.length : Int) <= 9223372036854775807) (x y : Int) (H : Hp) : Gives G 62 [.m v,.m (.i .i64 x),.m (.i .i64 y)] H (.m (.i .i64 (By p x y))) H:=by
 refine Ak rfl rfl rfl rfl rfl ?_
 simp (contextual:=true) (maxSteps:=2000000) (disch:=omega) [Ae,Af,Ac,Ag,-Int.not_lt,-Int.not_le,-Nat.not_lt,-Nat.not_le,-List.map_take]
 refine (?key : ∀ (i : Nat),i <= p.length -> By p x y = By (p.drop i) x y -> Run G c62_B0 (S62_0 (.m v) (.m (.i .i64 x)) (.m (.i .i64 y)) (.m (.i .i64 i)) [] []) _) 0 (AaT _) rfl
 refine Bd (fun i : Nat=>p.length - i) fun i ih hi hr=>?_
 unfold c62_B0
 cases hx : p[i]? with
 | none =>
  have : i = p.length:=by have:=AaM.1 hx; omega
  subst this
  simp (contextual:=true) (maxSteps:=2000000) (disch:=omega) [hv.rules,hr,By]
 | some d =>
  have hlt:=(Aj hx).1
  have hn:=Aq hx
  rw [(Aj hx).2] at hr
  simp (contextual:=true) (maxSteps:=2000000) (disch:=omega) [Ae,Af,Ac,Ag,-Int.not_lt,-Int.not_le,-Nat.not_lt,-Nat.not_le,-List.map_take,hv.rules,hn,hlt,Aa]
  repeat' first | with_reducible apply And.intro | intro _
  all_goals first
   | (refine ih (i + 1) (by omega) (by omega) ?_; grind [By])
   | grind [By]
open Go.Lib
structure TreeC where
 states : Int
 hood : List (Int × Int)
 nodes : List (Int × List Int)
def Ku (a b : Int × Int) : Bool:=decide (a.2 < b.2 \/ (a.2 = b.2 /\ a.1 < b.1))
def Ho (p : Int × Int) : Bool:=decide ((-2 <= p.1 /\ p.1 <= 2) /\ (-2 <= p.2 /\ p.2 <= 2))
def Jd : Option (Int × Int) -> List (Int × Int) -> Bool
 | _,[]=>true
 | none,p :: r=>Ho p && Jd (some p) r
 | some a,p :: r=>Ho p && Ku a p && Jd (some p) r
def BO (l : List (Int × Int)) : Bool:=decide (1 <= l.length /\ l.length <= 25) && Jd none l
theorem NB : ∀ (l : List (Int × Int)) (a : Option (Int × Int)),Jd a l = true -> ∀ p,p ∈ l -> Ho p = true
 | [],_,_,p,hp=>by cases hp
 | q :: r,a,h,p,hp=>by
  have h' : Ho q = true /\ Jd (some q) r = true:=by
   cases a with
   | none=>exact (AaJ _ _).mp h
   | some b =>
    have h : (Ho q && Ku b q && Jd (some q) r) = true:=h
    rw [AaJ,AaJ] at h
    exact ⟨h.1.1,h.2⟩
  rcases Abd.1 hp with rfl | hp
  ·exact h'.1
  ·exact NB r _ h'.2 p hp
def levAt (nodes : List (Int × List Int)) (k : Int) : Int:=match nodes[k.toNat]? with
 | some n=>n.1
 | none=>0
def OX (t : TreeC) (i : Nat) (lev k : Int) : Bool:=decide (¬ k < 0 /\ ¬ (lev = 1 /\ t.states <= k) /\ ¬ (1 < lev /\ ((i : Int) <= k \/ ¬ levAt t.nodes k = lev - 1)))
def Ez (t : TreeC) (i : Nat) (n : Int × List Int) : Bool:=decide (1 <= n.1 /\ n.1 <= t.hood.length /\ (n.2.length : Int) = t.states) && n.2.all (OX t i n.1)
def nodesOk (t : TreeC) : Nat -> List (Int × List Int) -> Bool
 | _,[]=>true
 | i,n :: r=>Ez t i n && nodesOk t (i + 1) r
def Bk (t : TreeC) : Bool:=decide (2 <= t.states /\ t.states <= 8) && (BO t.hood && (decide (1 <= t.nodes.length /\ t.nodes.length <= 4096) && (decide (levAt t.nodes (t.nodes.length - 1) = t.hood.length) && nodesOk t 0 t.nodes)))
theorem Ib (t : TreeC) : ∀ (l : List (Int × List Int)) (i : Nat),nodesOk t i l = true -> ∀ (j : Nat) n,l[j]? = some n -> Ez t (i + j) n = true
 | [],_,_,j,n,h=>by simp at h
 | m :: r,i,h,j,n,hn=>by
  have h : (Ez t i m && nodesOk t (i + 1) r) = true:=h
  rw [AaJ] at h
  cases j with
  | zero=>simp at hn; subst hn; exact h.1
  | succ j =>
   have:=Ib t r (i + 1) h.2 j n (by simpa using hn)
   rw [show i + (j + 1) = i + 1 + j from by omega]
   exact this
structure TreeR (t : TreeC) : Prop where
 s2 : 2 <= t.states
 s8 : t.states <= 8
 hood : BO t.hood = true
 n1 : 1 <= t.nodes.length
 n2 : t.nodes.length <= 4096
 root : levAt t.nodes (t.nodes.length - 1) = t.hood.length
 node : ∀ (j : Nat) n,t.nodes[j]? = some n -> Ez t j n = true
theorem Gq {t : TreeC} (h : Bk t = true) : TreeR t:=by
 unfold Bk at h
 simp only [AaJ,AaU] at h
 obtain ⟨⟨a,b⟩,c,⟨d,e⟩,f,g⟩:=h
 exact ⟨a,b,c,d,e,f,fun j n hn=>by have:=Ib t _ 0 g j n hn; rwa [Nat.zero_add] at this⟩
theorem BC {l : List (Int × Int)} (h : BO l = true) : 1 <= l.length /\ l.length <= 25:=by
 unfold BO at h
 simp only [AaJ,AaU] at h
 exact h.1
theorem El {l : List (Int × Int)} (h : BO l = true) : ∀ p,p ∈ l -> (-2 <= p.1 /\ p.1 <= 2) /\ (-2 <= p.2 /\ p.2 <= 2):=fun p hp=>by
 unfold BO at h
 rw [AaJ] at h
 have:=NB _ _ h.2 p hp
 unfold Ho at this
 exact of_decide_eq_true this
def Fp (nodes : List (Int × List Int)) (k s : Int) : Int:=match nodes[k.toNat]? with
 | some n=>(n.2[s.toNat]?).getD 0
 | none=>0
def valF (nodes : List (Int × List Int)) : Int -> List Int -> Int
 | k,[]=>k
 | k,s :: r=>valF nodes (Fp nodes k s) r
theorem Kc (nodes : List (Int × List Int)) : ∀ (l : List Int) (k s : Int),valF nodes k (l ++ [s]) = Fp nodes (valF nodes k l) s
 | [],_,_=>rfl
 | x :: r,k,s=>Kc nodes r (Fp nodes k x) s
def IK (t : TreeC) (ins : List Int) : Int:=valF t.nodes (t.nodes.length - 1) ins
theorem DV (t : TreeC) (l : List Int) (s : Int) : IK t (l ++ [s]) = Fp t.nodes (IK t l) s:=Kc _ _ _ _
def Sa (t : TreeC) (lev : Int) (k : Int) : Prop:=∃ (j : Nat) (n : Int × List Int),k = j /\ t.nodes[j]? = some n /\ n.1 = lev /\ (n.2.length : Int) = t.states
theorem Kp {t : TreeC} (h : TreeR t) {lev k s : Int} (ha : Sa t lev k) (hs : 0 <= s /\ s < t.states) : (lev = 1 -> 0 <= Fp t.nodes k s /\ Fp t.nodes k s < t.states) /\ (1 < lev -> Sa t (lev - 1) (Fp t.nodes k s)) /\ 1 <= lev:=by
 obtain ⟨j,n,rfl,hn,hl,hlen⟩:=ha
 have hok:=h.node j n hn
 unfold Ez at hok
 simp only [AaJ,AaU,AaZ] at hok
 obtain ⟨⟨a1,a2,a3⟩,a4⟩:=hok
 have hsl : s.toNat < n.2.length:=by omega
 have e : Fp t.nodes j s = n.2[s.toNat]:=by
  unfold Fp
  rw [show ((j : Int)).toNat = j from rfl,hn]
  dsimp only
  rw [AaK hsl]
  rfl
 have hel:=a4 (n.2[s.toNat]) (List.getElem_mem hsl)
 rw [<- e] at hel
 unfold OX at hel
 have hel:=of_decide_eq_true hel
 refine ⟨fun h1=>?_,fun h1=>?_,by omega⟩
 ·have:=hel.2.1; omega
 ·have h2:=hel.2.2
  have h3 : ¬ (j : Int) <= Fp t.nodes j s:=fun hh=>h2 ⟨by omega,.inl hh⟩
  have h4 : levAt t.nodes (Fp t.nodes j s) = n.1 - 1:=Classical.byContradiction fun hh=>h2 ⟨by omega,.inr hh⟩
  generalize Fp t.nodes j s = k' at *
  have h0 : ¬ k' < 0:=hel.1
  obtain ⟨i,rfl⟩:=Abs (show 0 <= k' by omega)
  have hjl:=(AaI.1 hn).1
  have hil : i < t.nodes.length:=by omega
  refine ⟨i,t.nodes[i],rfl,AaK hil,?_,?_⟩
  ·unfold levAt at h4
   rw [show ((i : Int)).toNat = i from rfl,AaK hil] at h4
   dsimp only at h4
   omega
  ·have:=h.node i _ (AaK hil)
   unfold Ez at this
   simp only [AaJ,AaU] at this
   exact this.1.2.2
theorem Kb {t : TreeC} (h : TreeR t) : ∀ (m : Nat) (ins : List Int),ins.length = m -> m < t.hood.length -> (∀ s,s ∈ ins -> 0 <= s /\ s < t.states) -> Sa t (t.hood.length - m) (IK t ins)
 | 0,ins,hl,hm,hs=>by
  have : ins = []:=Abf hl
  subst this
  have h1:=h.n1
  have hlt : t.nodes.length - 1 < t.nodes.length:=by omega
  refine ⟨t.nodes.length - 1,t.nodes[t.nodes.length - 1],?_,AaK hlt,?_,?_⟩
  ·show ((t.nodes.length : Int) - 1) = _
   omega
  ·have:=h.root
   unfold levAt at this
   rw [show ((t.nodes.length : Int) - 1).toNat = t.nodes.length - 1 from by omega,AaK hlt] at this
   dsimp only at this
   rw [this]
   simp
  ·have:=h.node _ _ (AaK hlt)
   unfold Ez at this
   simp only [AaJ,AaU] at this
   exact this.1.2.2
 | m + 1,ins,hl,hm,hs=>by
  obtain ⟨q,c,rfl⟩ : ∃ q c,ins = q ++ [c]:=⟨ins.dropLast,ins.getLast (by intro e; rw [e] at hl; simp at hl),(List.dropLast_concat_getLast _).symm⟩
  have ih:=Kb h m q (by simpa using hl) (by omega) fun s hs'=>hs s (by simp [hs'])
  rw [DV]
  have:=(Kp h ih (hs c (by simp))).2.1 (by omega)
  rw [show ((t.hood.length : Int) - ((m + 1 : Nat) : Int)) = t.hood.length - m - 1 from by omega]
  exact this
theorem Wz {t : TreeC} (h : TreeR t) {ins : List Int} (hl : ins.length = t.hood.length) (hs : ∀ s,s ∈ ins -> 0 <= s /\ s < t.states) : 0 <= IK t ins /\ IK t ins < t.states:=by
 have h1:=(BC h.hood).1
 obtain ⟨q,c,rfl⟩ : ∃ q c,ins = q ++ [c]:=⟨ins.dropLast,ins.getLast (by intro e; rw [e] at hl; simp at hl; omega),(List.dropLast_concat_getLast _).symm⟩
 have hlq : q.length + 1 = t.hood.length:=by simpa using hl
 have ih:=Kb h q.length q rfl (by omega) fun s hs'=>hs s (by simp [hs'])
 rw [DV]
 exact (Kp h ih (hs c (by simp))).1 (by omega)
def AS (t : TreeC) : Bool:=Bk t && decide (IK t (List.replicate t.hood.length 0) = 0)
def Kr (t : TreeC) (p : List Ce) (x y : Int) : List Int:=t.hood.map fun o=>By p (x + o.1) (y + o.2)
def Bj (t : TreeC) (p : List Ce) (x y : Int) : Int:=IK t (Kr t p x y)
def Gd (t : TreeC) (p : List Ce) : Prop:=∀ c,c ∈ p -> 0 <= c.s /\ c.s < t.states
theorem IX {t : TreeC} (h : TreeR t) : ∀ {p : List Ce},Gd t p -> ∀ x y,0 <= By p x y /\ By p x y < t.states
 | [],_,x,y=>by have:=h.s2; show 0 <= (0 : Int) /\ (0 : Int) < t.states; omega
 | c :: r,hp,x,y=>by
  have e : By (c :: r) x y = if c.x = x /\ c.y = y then c.s else By r x y:=rfl
  rw [e]
  split
  ·exact hp c (Abq ..)
  ·exact IX h (fun d hd=>hp d (List.mem_cons_of_mem _ hd)) x y
theorem IU {t : TreeC} (h : TreeR t) {p : List Ce} (hp : Gd t p) {x y : Int} : ∀ s,s ∈ Kr t p x y -> 0 <= s /\ s < t.states:=fun s hs=>by
 obtain ⟨o,_,rfl⟩:=Abz.1 hs
 exact IX h hp _ _
theorem Fq (t : TreeC) (p : List Ce) (x y : Int) : (Kr t p x y).length = t.hood.length:=by unfold Kr; simp
theorem Ek {t : TreeC} (h : TreeR t) {p : List Ce} (hp : Gd t p) (x y : Int) : 0 <= Bj t p x y /\ Bj t p x y < t.states:=Wz h (Fq t p x y) (IU h hp)
theorem Ry {t : TreeC} (hq : AS t = true) {p : List Ce} {x y : Int} (h : ∀ o,o ∈ t.hood -> By p (x + o.1) (y + o.2) = 0) : Bj t p x y = 0:=by
 unfold AS at hq
 rw [AaJ,AaU] at hq
 have e : Kr t p x y = List.replicate t.hood.length 0:=by
  unfold Kr
  rw [List.map_congr_left h,List.map_const']
 unfold Bj
 rw [e]
 exact hq.2
theorem Dz {t : TreeC} (hq : AS t = true) : TreeR t:=by
 unfold AS at hq
 rw [AaJ] at hq
 exact Gq hq.1
theorem Ns {p : List Ce} {x y : Int} (h : ¬ By p x y = 0) : ∃ c,c ∈ p /\ c.x = x /\ c.y = y /\ c.s = By p x y:=by
 induction p with
 | nil=>exact absurd rfl h
 | cons c r ih =>
  have e : By (c :: r) x y = if c.x = x /\ c.y = y then c.s else By r x y:=rfl
  rw [e] at h ⊢
  by_cases hc : c.x = x /\ c.y = y
  ·rw [AaN hc]
   exact ⟨c,Abq ..,hc.1,hc.2,rfl⟩
  ·rw [AaL hc] at h ⊢
   obtain ⟨d,h1,h2⟩:=ih h
   exact ⟨d,List.mem_cons_of_mem _ h1,h2⟩
theorem Ni {t : TreeC} (hq : AS t = true) {p : List Ce} {x y : Int} (h : ¬ Bj t p x y = 0) : ∃ c o,c ∈ p /\ o ∈ t.hood /\ x = c.x - o.1 /\ y = c.y - o.2:=by
 have : ∃ o,o ∈ t.hood /\ ¬ By p (x + o.1) (y + o.2) = 0:=Classical.byContradiction fun hn=>h (Ry hq fun o ho=>Classical.byContradiction fun hh=>hn ⟨o,ho,hh⟩)
 obtain ⟨o,ho,hg⟩:=this
 obtain ⟨c,hc,h1,h2,_⟩:=Ns hg
 exact ⟨c,o,hc,ho,by omega,by omega⟩
def CW (p : List Ce) : List ((Int × Int) × Int):=p.map fun c=>((c.x,c.y),c.s)
theorem QZ (p : List Ce) : (CW p).map Prod.fst = p.map fun c=>(c.x,c.y):=by simp [CW]
theorem Oy (p : List Ce) (x y : Int) : (Dc (CW p) (x,y)).getD 0 = By p x y:=by
 induction p with
 | nil=>rfl
 | cons c r ih =>
  by_cases h : c.x = x /\ c.y = y
  ·simp [CW,Dc,By,h]
  ·have : ¬ (c.x,c.y) = (x,y):=by simpa using h
   simp only [CW,Abr,Dc,AaL this,By,AaL h]
   exact ih
theorem Ks {q r : List Ce} {c : Ce} (h : (q ++ c :: r).Pairwise fun a b=>Bm a b = true) : NU (CW q) (c.x,c.y) c.s = CW (q ++ [c]):=by
 rw [Ml]
 ·simp [CW]
 ·rw [QZ]
  intro hm
  obtain ⟨d,hd,he⟩:=Abz.1 hm
  have:=(AbN.1 h).2.2 d hd c (by simp)
  unfold Bm at this
  grind
theorem UJ : ∀ {p q : List Ce},p.Pairwise (fun a b=>Bm a b = true) -> q.Pairwise (fun a b=>Bm a b = true) -> (∀ c,c ∈ p ↔ c ∈ q) -> p = q
 | [],[],_,_,_=>rfl
 | [],d :: s,_,_,h=>by have:=(h d).2 (Abq ..); cases this
 | c :: r,[],_,_,h=>by have:=(h c).1 (Abq ..); cases this
 | c :: r,d :: s,hp,hq,h=>by
  obtain ⟨p1,p2⟩:=Abw.1 hp
  obtain ⟨q1,q2⟩:=Abw.1 hq
  have irr : ∀ a : Ce,¬ Bm a a = true:=fun a ha=>by unfold Bm at ha; simp at ha
  have e : c = d:=by
   rcases Abd.1 ((h c).1 (Abq ..)) with e | h1
   ·exact e
   ·rcases Abd.1 ((h d).2 (Abq ..)) with e | h2
    ·exact e.symm
    ·exact absurd (Ic (p1 d h2) (q1 c h1)) (irr c)
  subst e
  congr 1
  refine UJ p2 q2 fun x=>⟨fun hx=>?_,fun hx=>?_⟩
  ·rcases Abd.1 ((h x).1 (List.mem_cons_of_mem _ hx)) with rfl | h1
   ·exact absurd (p1 _ hx) (irr _)
   ·exact h1
  ·rcases Abd.1 ((h x).2 (List.mem_cons_of_mem _ hx)) with rfl | h1
   ·exact absurd (q1 _ hx) (irr _)
   ·exact h1
def Dr (t : TreeC) (p : List Ce) (res : List Ce × Int) : Prop :=
 (res = ([],5) /\ ∃ x y,¬ Bj t p x y = 0 /\ AG x y = false) \/
 ((∀ x y,¬ Bj t p x y = 0 -> AG x y = true) /\ ∃ q : List Ce,q.Pairwise (fun a b=>Bm a b = true) /\ (∀ c,c ∈ q ↔ c.s = Bj t p c.x c.y /\ ¬ c.s = 0) /\ res = if 5000 < q.length then ([],6) else (q,0))
theorem HZ {t : TreeC} {p : List Ce} {a b : List Ce × Int} (ha : Dr t p a) (hb : Dr t p b) : a = b:=by
 rcases ha with ⟨rfl,x,y,h1,h2⟩ | ⟨h1,q,h2,h3,rfl⟩ <;> rcases hb with ⟨rfl,u,v,k1,k2⟩ | ⟨k1,r,k2,k3,rfl⟩
 ·rfl
 ·rw [k1 x y h1] at h2; cases h2
 ·rw [h1 u v k1] at k2; cases k2
 ·rw [UJ h2 k2 fun c=>(h3 c).trans (k3 c).symm]
theorem MV {t : TreeC} (h : TreeR t) {p q : List Ce} (hp : Gd t p) (hs : Dr t p (q,0)) : q.Pairwise (fun a b=>Bm a b = true) /\ (∀ c,c ∈ q -> Co c = true) /\ q.length <= 5000 /\ Gd t q:=by
 rcases hs with ⟨e,_⟩ | ⟨h1,r,h2,h3,e⟩
 ·cases e
 ·split at e
  ·cases e
  ·rename_i hl
   cases e
   have hr:=fun c (hc : c ∈ q)=>Ek h hp c.x c.y
   have s8:=h.s8
   refine ⟨h2,fun c hc=>?_,by omega,fun c hc=>?_⟩
   ·have k1:=(h3 c).1 hc
    have k2:=h1 c.x c.y (by rw [<- k1.1]; exact k1.2)
    have k3:=hr c hc
    rw [<- k1.1] at k3
    have k4:=k1.2
    unfold Co
    rw [k2]
    simp only [Abl,AaJ,AaU]
    omega
   ·have k1:=(h3 c).1 hc
    have k3:=hr c hc
    rw [<- k1.1] at k3
    exact k3
open Go.Proofs
def Dq (l : List (Int × Int)) : List (List I):=l.map fun p=>[.i .i64 p.1,.i .i64 p.2]
@[simp] theorem AY (l : List (Int × Int)) : (Dq l).length = l.length:=by simp [Dq]
theorem BQ {l : List (Int × Int)} {i : Nat} {c : Int × Int} (h : l[i]? = some c) : nth (Dq l) i = some [.i .i64 c.1,.i .i64 c.2]:=by
 rw [Bb]; simp [Dq,h]
def DW (p : List (Int × Int)) : Nat -> Option (Int × Int)
 | 0=>none
 | i + 1=>p[i]?
theorem KA {p : List (Int × Int)} {i : Nat} {c : Int × Int} (hx : p[i]? = some c) : Jd (DW p i) (c :: p.drop (i + 1)) = (Ho c && (match DW p i with | none=>true | some a=>Ku a c) && Jd (DW p (i + 1)) (p.drop (i + 1))):=by
 have : DW p (i + 1) = some c:=hx
 rw [this]
 cases DW p i with
 | none=>show (Ho c && Jd (some c) _) = _; simp
 | some a=>show (Ho c && Ku a c && Jd (some c) _) = _; simp
theorem OD (a b : Int × Int) : (0 <= FQ a.1 a.2 b.1 b.2) ↔ Ku a b = false:=by
 unfold Ku FQ DA
 grind
theorem Ko (c : Int × Int) : Ho c = (decide (-2 <= c.1) && decide (c.1 <= 2) && decide (-2 <= c.2) && decide (c.2 <= 2)):=by
 unfold Ho
 grind
set_option maxHeartbeats 1000000 in
theorem Aac {v : I} {p : List (Int × Int)} (hv : IsSl v (Dq p)) (hl : (p.length : Int) <= 9223372036854775807) (H : Hp) : Gives G 33 [.m v] H (.m (.b (BO p))) H:=by
 have hr0:=hv.rules
 simp only [AY] at hr0
 refine Ak rfl rfl rfl rfl rfl ?_
 by_cases h1 : 1 <= p.length /\ p.length <= 25
 rotate_left
 ·have e : BO p = false:=by unfold BO; rw [AaO h1]; rfl
  by_cases h2 : (p.length : Int) < 1
  ·simp (maxSteps:=2000000) (disch:=omega) [Ad,Ab,Aa,hr0,h2,e]
  ·have h3 : (25 : Int) < p.length:=by omega
   simp (maxSteps:=2000000) (disch:=omega) [Ad,Ab,Aa,hr0,h2,h3,e]
 have h2 : ¬ (p.length : Int) < 1:=by omega
 have h3 : ¬ (25 : Int) < p.length:=by omega
 have hR : BO p = Jd none p:=by unfold BO; rw [AaP h1]; rfl
 rw [hR]
 simp (maxSteps:=2000000) (disch:=omega) [Ad,Ab,Aa,hr0,h2,h3]
 refine (?key : ∀ (i : Nat) (B : List (Nat × List V)),i <= p.length -> Jd none p = Jd (DW p i) (p.drop i) -> Run G c33_B0 (S33_0 (.m v) (.m v) (.m (.i .i64 p.length)) (.m (.i .i64 i)) B []) _) 0 [] (AaT _) rfl
 refine Bd (fun i : Nat=>p.length - i) fun i ih B hi hr=>?_
 unfold c33_B0
 cases hx : p[i]? with
 | none =>
  have : i = p.length:=by have:=AaM.1 hx; omega
  subst this
  have : Jd (DW p p.length) [] = true:=by cases DW p p.length <;> rfl
  simp [hr0,hr,this]
 | some c =>
  have hlt:=(Aj hx).1
  have hn:=BQ hx
  rw [(Aj hx).2,KA hx,Ko] at hr
  cases i with
  | zero =>
   simp (contextual:=true) (maxSteps:=2000000) (disch:=omega) [Ae,Af,Ac,Ag,-Int.not_lt,-Int.not_le,-Nat.not_lt,-Nat.not_le,-List.map_take,hr0,hn,hlt,Aa]
   repeat' first | with_reducible apply And.intro | intro _
   all_goals first
    | (refine ih 1 (by omega) _ (by omega) ?_; grind [DW])
    | grind [DW]
  | succ j =>
   obtain ⟨c0,hx0⟩ : ∃ c0,p[j]? = some c0:=⟨p[j],AaK (by omega)⟩
   have hn0:=BQ hx0
   have e3 : (j : Int) + 1 < p.length:=by omega
   have e4 : (j : Int) < p.length:=by omega
   have e6 : (0 : Int) <= j + 1:=by omega
   have e7 : ((j : Int) + 1).toNat = j + 1:=by omega
   have hp0 : DW p (j + 1) = some c0:=hx0
   simp only [hp0] at hr
   simp (contextual:=true) (maxSteps:=2000000) (disch:=omega) [Ae,Af,Ac,Ag,-Int.not_lt,-Int.not_le,-Nat.not_lt,-Nat.not_le,-List.map_take,hr0,hn,hn0,e3,e4,e6,e7,hlt,cl (Rc _ _ _ _ _),Aa,OD]
   repeat' first | with_reducible apply And.intro | intro _
   all_goals first
    | (refine ih (j + 2) (by omega) _ (by omega) ?_; grind)
    | grind
theorem Ao {y : I} {es : List (List I)} (h : IsSl y es) : CS (.m y) = true:=by
 rcases h with rfl | ⟨rfl,_⟩ <;> rfl
def dEn : List I -> Int
 | [.i _ x]=>x
 | _=>0
def dIn : I -> List Int
 | .sl es=>es.map dEn
 | _=>[]
def dNd : List I -> Int × List Int
 | [.i _ x,z]=>(x,dIn z)
 | _=>(0,[])
def UV (es : List (List I)) : Prop:=∀ e,e ∈ es -> ∃ (x : Int) (z : I),e = [.i .i64 x,z] /\ IsSl z (DU (dIn z)) /\ (dIn z).length <= 9223372036854775807 /\ ∀ k,k ∈ dIn z -> -9223372036854775808 <= k /\ k <= 9223372036854775807
structure TreeV (t : TreeC) (h n : I) (es : List (List I)) : Prop where
 hd : IsSl h (Dq t.hood)
 nd : IsSl n es
 ok : UV es
 eq : t.nodes = es.map dNd
 hl : t.hood.length <= 9223372036854775807
 nl : es.length <= 9223372036854775807
theorem Dj {t : TreeC} {h n : I} {es : List (List I)} (hT : TreeV t h n es) : t.nodes.length = es.length:=by rw [hT.eq,Abe]
theorem Cl {t : TreeC} {h n : I} {es : List (List I)} (hT : TreeV t h n es) {j : Nat} {nd : Int × List Int} (hj : t.nodes[j]? = some nd) : ∃ z,nth es j = some [.i .i64 nd.1,z] /\ IsSl z (DU nd.2) /\ nd.2.length <= 9223372036854775807 /\ ∀ k,k ∈ nd.2 -> -9223372036854775808 <= k /\ k <= 9223372036854775807:=by
 rw [hT.eq,Abb] at hj
 cases he : es[j]? with
 | none=>rw [he] at hj; cases hj
 | some e =>
  rw [he] at hj
  cases hj
  obtain ⟨x,z,rfl,h1,h2,h3⟩:=hT.ok e (AaS he)
  exact ⟨z,by rw [Bb]; exact he,h1,h2,h3⟩
theorem FV (t : TreeC) (i : Nat) (n : Int × List Int) (r : List (Int × List Int)) : nodesOk t i (n :: r) = (Ez t i n && nodesOk t (i + 1) r):=rfl
theorem Gs {nodes : List (Int × List Int)} {j : Nat} {nd : Int × List Int} (h : nodes[j]? = some nd) : levAt nodes (j : Int) = nd.1:=by
 unfold levAt
 rw [show ((j : Int)).toNat = j from rfl,h]
def XS (t : TreeC) : Bool:=decide (t.hood.length <= 40) && (decide (t.nodes.length <= 400) && t.nodes.all fun n=>decide (n.2.length <= 20))
set_option maxHeartbeats 1000000 in
theorem Aaq {t : TreeC} {h n : I} {es : List (List I)} (hT : TreeV t h n es) (H : Hp) : Gives G 4 [.m (.ag [.i .i64 t.states,h,n])] H (.m (.b (XS t))) H:=by
 have hrn:=hT.nd.rules
 have hln:=Dj hT
 have hrh:=hT.hd.rules
 simp only [AY] at hrh
 have hl1:=hT.hl
 have hl2:=hT.nl
 have eF : XS t = (decide (t.hood.length <= 40) && (decide (t.nodes.length <= 400) && t.nodes.all fun n=>decide (n.2.length <= 20))):=rfl
 refine Ak rfl rfl rfl rfl rfl ?_
 by_cases h1 : (40 : Int) < t.hood.length
 ·have e : XS t = false:=by rw [eF,AaO (by omega)]; rfl
  simp (maxSteps:=2000000) (disch:=omega) [Ad,Ab,Aa,hrn,hrh,h1,e]
 by_cases h2 : (400 : Int) < es.length
 ·have e : XS t = false:=by rw [eF,AaO (by omega : ¬ t.nodes.length <= 400)]; simp
  simp (maxSteps:=2000000) (disch:=omega) [Ad,Ab,Aa,hrn,hrh,h1,h2,e]
 have e : XS t = t.nodes.all fun n=>decide (n.2.length <= 20):=by rw [eF,AaP (by omega),AaP (by omega : t.nodes.length <= 400)]; simp
 rw [e]
 simp (maxSteps:=2000000) (disch:=omega) [Ad,Ab,Aa,hrn,hrh,h1,h2]
 refine (?key : ∀ (i : Nat) (B : List (Nat × List V)),i <= es.length -> getB B 1 = some [.m (.i .i64 t.states),.m h,.m n] -> (t.nodes.all fun n=>decide (n.2.length <= 20)) = ((t.nodes.drop i).all fun n=>decide (n.2.length <= 20)) -> Run G c4_B0 (S4_0 (.fa 1 0) (.m (.i .i64 es.length)) (.m (.i .i64 (i : Int))) B []) _) 0 _ (AaT _) rfl rfl
 refine Bd (fun i : Nat=>es.length - i) fun i ih B hi hB hI=>?_
 unfold c4_B0
 cases hx : t.nodes[i]? with
 | none =>
  have : i = es.length:=by have:=AaM.1 hx; omega
  subst this
  rw [<- hln,Abj] at hI
  have hI : (t.nodes.all fun n=>decide (n.2.length <= 20)) = true:=hI
  simp (maxSteps:=2000000) (disch:=omega) [Ad,Ab,Aa,hI]
 | some nd =>
  have hlt:=(Aj hx).1
  have hlt1 : i < es.length:=by omega
  have hlt2 : (i : Int) < es.length:=by omega
  obtain ⟨z,hz,hzs,hzl,_⟩:=Cl hT hx
  have hrz:=hzs.rules
  simp only [Ck] at hrz
  have wi : wr .i64 ((i : Int) + 1) = ((i + 1 : Nat) : Int):=Aa (by omega) (by omega)
  rw [(Aj hx).2,List.all_cons] at hI
  by_cases h20 : (20 : Int) < nd.2.length
  ·have e : (t.nodes.all fun n=>decide (n.2.length <= 20)) = false:=by rw [hI,AaO (by omega : ¬ nd.2.length <= 20)]; rfl
   simp (maxSteps:=2000000) (disch:=omega) [Ad,Ab,Aa,hrn,hlt1,hlt2,hz,hrz,hB,h20,e]
  ·rw [AaP (by omega : nd.2.length <= 20),Abl] at hI
   have k:=ih (i + 1) (by omega) B (by omega) hB hI
   simp (maxSteps:=2000000) (disch:=omega) [Ad,Ab,Aa,hrn,hlt1,hlt2,hz,hrz,hB,h20,wi,-Int.natCast_add]
   exact k
theorem RK {B n : Nat} {l : List I} (h : Fits Go.Proofs.Tryz.prog B (n + 2) 46 l) : ∃ x : Int × Int,l = [.i .i64 x.1,.i .i64 x.2]:=by
 unfold Fits at h
 rw [Go.Proofs.Tryz.underlying46] at h
 simp only [Gg] at h
 obtain ⟨x1,y1,rfl,k1,x2,y2,rfl,k2,rfl⟩:=h
 obtain ⟨u,rfl,_⟩:=BL k1
 obtain ⟨v,rfl,_⟩:=BL k2
 exact ⟨(u,v),rfl⟩
theorem OA {es : List (List I)} (h : ∀ x,x ∈ es -> ∃ d : Int × Int,x = [.i .i64 d.1,.i .i64 d.2]) : ∃ p,es = Dq p:=by
 induction es with
 | nil=>exact ⟨[],rfl⟩
 | cons x r ih =>
  obtain ⟨d,rfl⟩:=h x (by simp)
  obtain ⟨p,rfl⟩:=ih fun x hx=>h x (by simp [hx])
  exact ⟨d :: p,rfl⟩
theorem RV : ∀ {es : List (List I)},(∀ x,x ∈ es -> ∃ y : Int,x = [.i .i64 y]) -> es = DU (es.map dEn)
 | [],_=>rfl
 | e :: r,h=>by
  obtain ⟨y,rfl⟩:=h e (by simp)
  have:=RV (es:=r) fun x hx=>h x (by simp [hx])
  show _ :: r = [I.i .i64 (dEn [I.i .i64 y])] :: DU (r.map dEn)
  rw [<- this]
  rfl
theorem TV {B n : Nat} {l : List I} (h : Fits Go.Proofs.Tryz.prog B (n + 2) 37 l) : ∃ z : I,l = [z] /\ IsSl z (DU (dIn z)) /\ (dIn z).length <= B /\ ∀ k,k ∈ dIn z -> -9223372036854775808 <= k /\ k <= 9223372036854775807:=by
 unfold Fits at h
 rw [Go.Proofs.Tryz.underlying37] at h
 simp only at h
 rcases h with rfl | ⟨es,rfl,hle,hes⟩
 ·exact ⟨_,rfl,AR,by simp [dIn],by simp [dIn]⟩
 ·refine ⟨_,rfl,?_,by simpa [dIn] using hle,fun k hk=>?_⟩
  ·show IsSl (.sl es) (DU (es.map dEn))
   rw [<- RV fun x hx=>let ⟨y,h1,_⟩:=BL (hes x hx); ⟨y,h1⟩]
   exact BF _
  ·have hk : k ∈ es.map dEn:=hk
   obtain ⟨e,he,rfl⟩:=Abz.1 hk
   obtain ⟨y,rfl,hy⟩:=BL (hes e he)
   exact hy
theorem TU {B n : Nat} {l : List I} (h : Fits Go.Proofs.Tryz.prog B (n + 3) 39 l) : ∃ (x : Int) (z : I),l = [.i .i64 x,z] /\ IsSl z (DU (dIn z)) /\ (dIn z).length <= B /\ ∀ k,k ∈ dIn z -> -9223372036854775808 <= k /\ k <= 9223372036854775807:=by
 unfold Fits at h
 rw [Go.Proofs.Tryz.underlying39] at h
 simp only [Gg] at h
 obtain ⟨x1,y1,rfl,k1,x2,y2,rfl,k2,rfl⟩:=h
 obtain ⟨u,rfl,_⟩:=BL k1
 obtain ⟨z,rfl,h1,h2,h3⟩:=TV k2
 exact ⟨u,z,rfl,h1,h2,h3⟩
theorem Xn : BZ Go.Proofs.Tryz.prog 25 = some true:=by unfold BZ; rw [Go.Proofs.Tryz.underlying25]; rfl
theorem Uf {B n : Nat} {ts : List TypeId} {us : List V} (hB : B <= 9223372036854775807) (h : Ea Go.Proofs.Tryz.prog B (n + 5) (25 :: ts) us) :
  ∃ (t : TreeC) (hh nn : I) (es : List (List I)) (r : List V),us = .m (.ag [.i .i64 t.states,hh,nn]) :: r /\ TreeV t hh nn es /\ Ea Go.Proofs.Tryz.prog B (n + 5) ts r:=by
 obtain ⟨l,r,rfl,hl,h'⟩:=Hf h
 unfold Fits at hl
 rw [Go.Proofs.Tryz.underlying25] at hl
 simp only [Gg] at hl
 obtain ⟨x1,y1,rfl,k1,x2,y2,rfl,k2,x3,y3,rfl,k3,rfl⟩:=hl
 obtain ⟨u,rfl,_⟩:=BL k1
 unfold Fits at k2 k3
 rw [Go.Proofs.Tryz.underlying22] at k2
 rw [Go.Proofs.Tryz.underlying23] at k3
 simp only at k2 k3
 have hh : ∃ (v : I) (p : List (Int × Int)),x2 = [v] /\ IsSl v (Dq p) /\ p.length <= B:=by
  rcases k2 with rfl | ⟨es,rfl,hle,hes⟩
  ·exact ⟨_,[],rfl,AR,by simp⟩
  ·obtain ⟨p,rfl⟩:=OA fun x hx=>RK (hes x hx)
   exact ⟨_,p,rfl,BF _,by simpa using hle⟩
 have hn : ∃ (v : I) (es : List (List I)),x3 = [v] /\ IsSl v es /\ UV es /\ es.length <= B:=by
  rcases k3 with rfl | ⟨es,rfl,hle,hes⟩
  ·exact ⟨_,[],rfl,AR,fun e he=>(by cases he),by simp⟩
  ·refine ⟨_,es,rfl,BF _,fun e he=>?_,hle⟩
   obtain ⟨x,z,h1,h2,h3,h4⟩:=TU (hes e he)
   exact ⟨x,z,h1,h2,by omega,h4⟩
 obtain ⟨hv,p,rfl,h1,h2⟩:=hh
 obtain ⟨nv,es,rfl,h3,h4,h5⟩:=hn
 rw [Lp Xn]
 exact ⟨⟨u,p,es.map dNd⟩,hv,nv,es,r,rfl,⟨h1,h3,h4,rfl,by show p.length <= _; omega,by omega⟩,h'⟩
end Go.Mx.Tryz
namespace Go.Mx.Tryz
@[simp] theorem rx_ldb (M : Mem) (ag : Bool) (sz d off : Nat) : readX M (.ldb ag sz) [.fa d off] = (readA M sz (.fa d off)).bind fun cs=>CD ag cs:=rfl
@[simp] theorem px_slc_r (esz : Nat) (lo hi mx : Bool) (r ver e st len : Nat) (lim : Bool) (vs : List V) : Ap (.slc esz lo hi mx) (.sl r ver e st len lim :: vs) = gd (eqB false (Nat.beq esz 0)) (gd (Nat.beq esz e) ((Ja len lo hi mx vs).bind fun p=>some (.sl r ver e (st + p.1) (p.2 - p.1) (mx || (lim && Nat.beq p.2 len))))):=rfl
@[simp] theorem allM_sl (a b c d e : Nat) (f : Bool) (r : List V) : Cc (.sl a b c d e f :: r) = none:=rfl
@[simp] theorem Zv (H : Hp) (cs : List V) : view 20 H (.ag cs) = (Ai (view 19 H) cs).bind fun l=>some (.ag l):=rfl
@[simp] theorem eqB_ff : eqB false false = true:=rfl
theorem Rx {α : Type} {l : List α} {i : Nat} {x : α} (h : nth l i = some x) : i < l.length:=by
 rw [Bb] at h
 exact (AaI.1 h).1
theorem ZU {α : Type} (l : List α) (i j : Nat) (x : α) (h : i < l.length) : nth (l.set i x) j = if i = j then some x else nth l j:=by
 rw [Bb,Bb,List.getElem?_set]
 by_cases e : i = j
 ·subst e; simp [h]
 ·simp [e]
theorem Rv {α : Type} {l : List α} {i : Nat} {x : α} (h : i < l.length) : nth (l.set i x) i = some x:=by
 rw [ZU _ _ _ _ h,AaN rfl]
theorem ZW {α : Type} (l m : List α) (j : Nat) (h : j < l.length) : nth (l ++ m) j = nth l j:=by
 rw [Bb,Bb,Aba h]
theorem ZV {α : Type} (l m : List α) (j : Nat) : nth (l ++ m) (l.length + j) = nth m j:=by
 rw [Bb,Bb,AbK (by omega)]
 congr 1
 omega
theorem Hu {M : Mem} {ty esz bytes r base : Nat} {es xs : List (List V)} (h : nth M.H r = some (.cs ty esz es base false)) (hx : xs ≠ []) (hb : (es.length + xs.length) * bytes <= 140737488355328) (hal : (xs.all fun e=>Nat.beq e.length esz && e.all CS) = true) :
  EG M ty esz bytes (.sl r es.length esz 0 es.length false) xs = some (.sl r (es.length + xs.length) esz 0 (es.length + xs.length) false,{ M with H:=M.H.set r (.cs ty esz (es ++ xs) base false) }):=by
 obtain ⟨x,t,rfl⟩:=List.exists_cons_of_ne_nil hx
 have e:=BX M.H r (.cs ty esz (es ++ x :: t) base false) (Rx h)
 have h2 : Nat.ble ((es.length + (x :: t).length) * bytes) 140737488355328 = true:=by rw [Cr]; exact AaP hb
 show Option.bind (nth M.H r) _ = _
 rw [h]
 show gd (!false && Nat.beq ty ty && Nat.beq esz esz && Nat.beq esz esz && Nat.beq 0 0 && Nat.beq es.length es.length && Nat.beq es.length es.length && Nat.ble ((es.length + (x :: t).length) * bytes) 140737488355328 && ((x :: t).all fun e=>Nat.beq e.length esz && e.all CS)) _ = _
 simp only [Nat.beq_refl,h2,hal,Bool.and_self,Bool.not_false,gd]
 rw [e]
 rfl
@[reducible] def strR (s : List Nat) (b : Nat) : Row:=.cs 9 1 [[.m (.s s)]] b false
@[reducible] def zerR (b : Nat) : Row:=.cs 3 1 [[.m (.i .i64 0)]] b false
def ZH (ws : List (List Nat)) : List (List V):=ws.map fun w=>[.m (.s w)]
@[simp] theorem ZG (ws : List (List Nat)) : (ZH ws).length = ws.length:=by simp [ZH]
theorem AC {s : St} {n : Nat} {x : V} (h : AE x = true) : DE s (.v n) x = some { s with E:=BT s.E n x }:=by
 cases x with
 | fa d o=>cases h
 | _=>first | rfl | simp
open Go.Sort Go.Lib
instance : Inhabited Ce:=⟨⟨0,0,0⟩⟩
def US : Rw Ce 3 true where
 enc c:=c.i.map .m
 val c:=.m (.ag c.i)
 len c:=rfl
 pos:=by decide
 one c:=rfl
 ld c:=by simp [Ce.i]
 st c:=by simp [Ce.i]
def ceCmp (A : Hp) : Cmp US A 86 Bm where
 ok _:=True
 ext _ _ _:=AbL
 cmp a b:=FQ a.x a.y b.x b.y
 neg a b:=by
  unfold FQ Bm
  grind [DA]
 run a b row C _:=Rp a b _
theorem TL : SWO Bm where
 irrefl x:=by simp [Bm]
 trans x y z h1 h2:=by simp only [Bm,AaU] at *; omega
 ntrans x y z h1 h2:=by simp only [Bm,decide_eq_false_iff_not] at *; omega
open Go.Proofs
def KD (c : Ce) : Option Int:=if AG c.x c.y = false then some 5 else if c.s < 0 \/ 8 <= c.s then some 10 else none
def bad : List Ce -> Option Int
 | []=>none
 | c :: r=>match KD c with
  | some e=>some e
  | none=>bad r
def liv (p : List Ce) : List Ce:=p.filter fun c=>decide (0 < c.s)
def AJ (p : List Ce) : List (List V):=p.map US.enc
@[simp] theorem Kf (p : List Ce) : (AJ p).length = p.length:=by simp [AJ]
theorem Ke {p : List Ce} {i : Nat} {c : Ce} (h : p[i]? = some c) : nth (AJ p) i = some [.m (.i .i64 c.x),.m (.i .i64 c.y),.m (.i .i64 c.s)]:=by
 rw [Bb]
 simp [AJ,h,US,Ce.i]
def zP (p : List Ce) : I:=if p = [] then .nl 4 else .sl (Al p)
theorem Eo (p : List Ce) : IsSl (zP p) (Al p):=by
 unfold zP
 split
 ·rename_i h; subst h; exact AR
 ·exact BF _
def RY (f : List Ce) (o : V) (H : Hp) : Prop:=(f = [] /\ o = .m (.nl 4) /\ H = []) \/ (f ≠ [] /\ o = .sl 0 f.length 3 0 f.length false /\ H = [.cs 90 3 (AJ f) 0 false])
theorem Ca {f : List Ce} {o : V} {H : Hp} (h : RY f o H) (hl : f.length <= 1000000) (c : Ce) : ∃ o1 H1,(∀ B,EG ⟨B,H⟩ 90 3 24 o [[.m (.i .i64 c.x),.m (.i .i64 c.y),.m (.i .i64 c.s)]] = some (o1,⟨B,H1⟩)) /\ AE o1 = true /\ RY (f ++ [c]) o1 H1:=by
 rcases h with ⟨rfl,rfl,rfl⟩ | ⟨hne,rfl,rfl⟩
 ·exact ⟨_,_,fun B=>rfl,rfl,.inr ⟨by simp,rfl,rfl⟩⟩
 ·have ha:=fun B=>Hu (M:=⟨B,[.cs 90 3 (AJ f) 0 false]⟩) (r:=0) (bytes:=24) (xs:=[[.m (.i .i64 c.x),.m (.i .i64 c.y),.m (.i .i64 c.s)]]) rfl (by simp) (by simp; omega) rfl
  simp only [Kf,AbD,AbP,Nat.zero_add,List.set_cons_zero] at ha
  have e : AJ f ++ [[.m (.i .i64 c.x),.m (.i .i64 c.y),.m (.i .i64 c.s)]] = AJ (f ++ [c]):=by simp [AJ,US,Ce.i]
  rw [e] at ha
  exact ⟨_,_,ha,rfl,.inr ⟨by simp,by simp,rfl⟩⟩
def tw : List Ce -> Bool
 | []=>false
 | [_]=>false
 | a :: b :: r=>decide (a.x = b.x /\ a.y = b.y) || tw (b :: r)
def XQ (q : List Ce) : V:=if tw q = true then .tu [.m (.nl 4),.m (.i .i64 8)] else if 5000 < q.length then .tu [.m (.nl 4),.m (.i .i64 6)] else .tu [.m (zP q),.m (.i .i64 0)]
def Asc (q : List Ce) : Prop:=∀ (i j : Nat) (a b : Ce),i < j -> q[i]? = some a -> q[j]? = some b -> Bm b a = false
theorem TA (H : Hp) : Gives G 111 [.m (.nl 4),.m (.fn 86 [])] H (.tu []) H:=⟨40,by kernel_rfl⟩
theorem Ww {r b n : Nat} {X A : Hp} {q : List Ce} (hn : q.length = n) (hb : b <= n) (k : Nat) : view (k + 2) (.cs 90 3 (AJ q) b false :: X) (.sl 0 n 3 0 n false) = some (.sl (Al q)):=by
 have e : elems (.cs 90 3 (AJ q) b false :: X) (.sl 0 n 3 0 n false) = some (AJ q):=by
  show gd (Nat.ble b n && Nat.beq 3 3) (some (((AJ q).drop 0).take n)) = _
  rw [Cr,AaP hb,AbV,Abc (by simp; omega)]
  rfl
 show Option.bind (elems _ (.sl 0 n 3 0 n false)) _ = _
 rw [e]
 show Option.bind (Ai _ (AJ q)) _ = _
 have ho : ∀ (H : Hp) (m : List Ce),Ai (fun e=>Ai (view (k + 1) H) e) (AJ m) = some (Al m):=by
  intro H m
  induction m with
  | nil=>rfl
  | cons x t ih =>
   show Option.bind (some [I.i .i64 x.x,.i .i64 x.y,.i .i64 x.s]) _ = _
   simp only [AaR]
   show Option.bind (Ai _ (AJ t)) _ = _
   rw [ih]
   rfl
 rw [ho]
 rfl
theorem Ow {f : List Ce} {d' : Array Ce} (h : PermIn 0 f.length f.toArray d') : d'.toList.Perm f /\ d'.size = f.length:=by
 have hs : d'.size = f.length:=by rw [h.1]; simp
 refine ⟨?_,hs⟩
 have hp:=h.2.2
 have e1 : (d'.extract 0 f.length) = d':=by rw [<- hs]; simp
 have e2 : (f.toArray.extract 0 f.length) = f.toArray:=by
  have : f.length = f.toArray.size:=by simp
  rw [this]; simp
 rw [e1,e2] at hp
 simpa using hp
theorem Aay {d' : Array Ce} {n : Nat} (hs : d'.size = n) (h : SortedIn Bm 0 n d') : Asc d'.toList:=fun i j a b hij ha hb=>by
 obtain ⟨h1,rfl⟩:=AaI.1 ha
 obtain ⟨h2,rfl⟩:=AaI.1 hb
 have h1' : i < d'.size:=by simpa using h1
 have h2' : j < d'.size:=by simpa using h2
 have:=h i j (AaT _) hij (by omega)
 rw [getElem!_pos d' j h2',getElem!_pos d' i h1'] at this
 simpa using this
theorem QX (es : List (List V)) (ix : Nat) : DF 3 es ix 0 3 = (nth es ix).bind fun e=>CN 3 e:=rfl
set_option maxHeartbeats 2000000 in
theorem UO {v : I} {p : List Ce} (hv : IsSl v (Al p)) (hl : p.length <= 1000000) (H : Hp) :
  (∃ e,bad p = some e /\ Gives G 79 [.m v] H (.tu [.m (.nl 4),.m (.i .i64 e)]) H) \/ (bad p = none /\ ∃ q,q.Perm (liv p) /\ Asc q /\ Gives G 79 [.m v] H (XQ q) H):=by
 have hr:=hv.rules
 have key : ∃ x H',Gives G 79 [.m v] H x H' /\ (H' = H /\ ((∃ e,bad p = some e /\ x = .tu [.m (.nl 4),.m (.i .i64 e)]) \/ (bad p = none /\ ∃ q,q.Perm (liv p) /\ Asc q /\ x = XQ q))):=by
  refine Ba ?_
  refine Dv rfl rfl rfl rfl rfl ?_
  simp (maxSteps:=2000000) (disch:=omega) [Ad,Ab,Aa,hr]
  refine (?key : ∀ (i : Nat) (o : V) (B : List (Nat × List V)) (H1 : Hp),i <= p.length -> RY (liv (p.take i)) o H1 -> bad (p.take i) = none -> bad p = bad (p.drop i) -> Run G c79_B0 (S79_0 o (.m v) (.m (.i .i64 p.length)) (.m (.i .i64 (i : Int))) B H1) _) 0 (.m (.nl 4)) [] [] (AaT _) (.inl ⟨rfl,rfl,rfl⟩) rfl rfl
  refine Bd (fun i : Nat=>p.length - i) fun i ih o B H1 hi ho hbt hb=>?_
  have hnf : AE o = true:=by
   rcases ho with ⟨_,rfl,_⟩ | ⟨_,rfl,_⟩ <;> rfl
  have hfl : (liv (p.take i)).length <= i:=AbF (AbX _ _) (by rw [AaW]; omega)
  unfold c79_B0
  cases hx : p[i]? with
  | some c =>
   have hlt:=(Aj hx).1
   have hlt' : (i : Int) < p.length:=by omega
   have hn:=Aq hx
   have wi : wr .i64 ((i : Int) + 1) = (i : Int) + 1:=Aa (by omega) (by omega)
   have g1:=fun H=>XT c H
   have g2:=fun H=>IQ c.x c.y H
   have e1 : bad (c :: p.drop (i + 1)) = match KD c with | some e=>some e | none=>bad (p.drop (i + 1)):=rfl
   rw [(Aj hx).2,e1] at hb
   have htk : p.take (i + 1) = p.take i ++ [c]:=Au hx
   by_cases hp : AG c.x c.y = true
   ·rw [hp] at g2
    by_cases hs0 : c.s < 0
    ·have hbc : KD c = some 10:=by unfold KD; rw [AaL (by rw [hp]; simp),AaN (.inl hs0)]
     rw [hbc] at hb
     simp (maxSteps:=2000000) (disch:=omega) [Ad,Ab,Aa,hr,hlt,hlt',hn,cl (g1 _),cl (g2 _),hs0,hb]
    by_cases hs8 : 8 <= c.s
    ·have hbc : KD c = some 10:=by unfold KD; rw [AaL (by rw [hp]; simp),AaN (.inr hs8)]
     rw [hbc] at hb
     simp (maxSteps:=2000000) (disch:=omega) [Ad,Ab,Aa,hr,hlt,hlt',hn,cl (g1 _),cl (g2 _),hs0,hs8,hb]
    have hbc : KD c = none:=by unfold KD; rw [AaL (by rw [hp]; simp),AaL (by omega)]
    rw [hbc] at hb
    replace hb : bad p = bad (p.drop (i + 1)):=hb
    have hbt2 : bad (p.take (i + 1)) = none:=by
     rw [htk]
     have : ∀ l : List Ce,bad l = none -> bad (l ++ [c]) = none:=fun l=>by
      induction l with
      | nil=>intro _; show (match KD c with | some e=>some e | none=>none) = none; rw [hbc]
      | cons d r ih =>
       intro h
       have f1 : bad (d :: r) = match KD d with | some e=>some e | none=>bad r:=rfl
       have f2 : bad (d :: (r ++ [c])) = match KD d with | some e=>some e | none=>bad (r ++ [c]):=rfl
       rw [AbQ,f2]
       rw [f1] at h
       cases hd : KD d with
       | some e=>rw [hd] at h; cases h
       | none=>rw [hd] at h; exact ih h
     exact this _ hbt
    by_cases hs1 : 0 < c.s
    ·have hlv : liv (p.take (i + 1)) = liv (p.take i) ++ [c]:=by
      rw [htk]
      unfold liv
      rw [AbT]
      simp [hs1]
     obtain ⟨o1,H2,ha,hn1,ho1⟩:=Ca ho (by omega) c
     rw [<- hlv] at ho1
     simp (maxSteps:=2000000) (disch:=omega) [Ad,Ab,Aa,hr,hlt,hlt',hn,cl (g1 _),cl (g2 _),hs0,hs8,hs1,ha,AC hn1,wi]
     exact ih (i + 1) (by omega) _ _ _ (by omega) ho1 hbt2 hb
    ·have hlv : liv (p.take (i + 1)) = liv (p.take i):=by
      rw [htk]
      unfold liv
      rw [AbT]
      simp [hs1]
     rw [<- hlv] at ho
     simp (maxSteps:=2000000) (disch:=omega) [Ad,Ab,Aa,hr,hlt,hlt',hn,cl (g1 _),cl (g2 _),hs0,hs8,hs1,wi]
     exact ih (i + 1) (by omega) _ _ _ (by omega) ho hbt2 hb
   ·rw [Bool.not_eq_true] at hp
    rw [hp] at g2
    have hbc : KD c = some 5:=by unfold KD; rw [AaN hp]
    rw [hbc] at hb
    simp (maxSteps:=2000000) (disch:=omega) [Ad,Ab,Aa,hr,hlt,hlt',hn,cl (g1 _),cl (g2 _),hb]
  | none =>
   have : i = p.length:=by have:=AaM.1 hx; omega
   subst this
   have hb0 : bad p = none:=by rw [hb,Abj]; rfl
   rw [Aby] at ho
   rcases ho with ⟨hf,rfl,rfl⟩ | ⟨hf,rfl,rfl⟩
   ·have gs:=fun H=>TA H
    simp (maxSteps:=2000000) (disch:=omega) [Ad,Ab,Aa,hr,cl (gs _),hb0]
    unfold c79_B1
    simp (maxSteps:=2000000) (disch:=omega) [Ad,Ab,Aa,hr,hb0]
    exact ⟨[],by rw [hf],fun i j a b _ h=>by simp at h,rfl⟩
   ·generalize hfe : liv p = f at *
    clear ih hx
    have hfl2 : f.length <= 1000000:=by rw [<- hfe]; exact AbF (AbX _ _) (by omega)
    simp (maxSteps:=2000000) (disch:=omega) [Ad,Ab,Aa,hr]
    rw [As]
    have hrow : Row.cs 90 3 (AJ f) 0 false = .cs 90 3 (AT US f.toArray) 0 false:=by simp [AT,AJ]
    rw [hrow]
    refine WI (A:=[]) (ceCmp []) TL (n:=f.length) (by omega) [] AbL f.toArray 0 (by simp) (AaT _) _ fun d' b1 X hp hso hb1=>?_
    obtain ⟨hperm,hsz⟩:=Ow hp
    have hasc:=Aay hsz hso
    have hrow2 : AT US d' = AJ d'.toList:=rfl
    have hql : d'.toList.length = f.length:=by simpa using hsz
    rw [hrow2]
    generalize d'.toList = q at *
    have hres : XQ q = if tw q = true then .tu [.m (.nl 4),.m (.i .i64 8)] else if 5000 < q.length then .tu [.m (.nl 4),.m (.i .i64 6)] else .tu [.m (zP q),.m (.i .i64 0)]:=rfl
    have hq0 : q ≠ []:=fun e=>by subst e; simp at hql; exact hf (Abf hql.symm)
    obtain ⟨a0,r0,hqe⟩:=List.exists_cons_of_ne_nil hq0
    simp (maxSteps:=2000000) (disch:=omega) [Ad,Ab,Aa,hr]
    refine (?key2 : ∀ (j : Nat) (B : List (Nat × List V)),1 <= j -> j <= q.length -> tw q = tw (q.drop (j - 1)) -> Run G c79_B1 (S79_1 (.sl 0 f.length 3 0 f.length false) (.m (.i .i64 (j : Int))) B (.cs 90 3 (AJ q) b1 false :: X)) _) 1 _ (AaQ _) (by have:=List.length_pos_iff.2 hq0; omega) rfl
    refine Bd (fun j : Nat=>q.length - j) fun j ih B h1j hj htw=>?_
    unfold c79_B1
    have wj : wr .i64 ((j : Int) + 1) = (j : Int) + 1:=Aa (by omega) (by omega)
    have wj1 : wr .i64 ((j : Int) - 1) = (j : Int) - 1:=Aa (by omega) (by omega)
    cases hx : q[j]? with
    | some c =>
     have hlt:=(Aj hx).1
     obtain ⟨a,ha⟩ : ∃ a,q[j - 1]? = some a:=⟨q[j - 1]'(by omega),AaK _⟩
     have hlt' : (j : Int) < f.length:=by omega
     have hltn : j < f.length:=by omega
     have hltm : (j : Int) - 1 < f.length:=by omega
     have h0m : (0 : Int) <= (j : Int) - 1:=by omega
     have htn : ((j : Int) - 1).toNat = j - 1:=by omega
     have hn:=Ke hx
     have hna:=Ke ha
     have e0 : q.drop (j - 1) = a :: c :: q.drop (j + 1):=by
      have:=(Aj ha).2
      rw [this,show j - 1 + 1 = j by omega,(Aj hx).2]
     have e1 : tw (a :: c :: q.drop (j + 1)) = (decide (a.x = c.x /\ a.y = c.y) || tw (c :: q.drop (j + 1))):=rfl
     rw [e0,e1] at htw
     have g1:=fun H=>XT a H
     have g2:=fun H=>XT c H
     by_cases heq : a.x = c.x /\ a.y = c.y
     ·rw [AaP heq,Bool.true_or] at htw
      rw [htw,AaN rfl] at hres
      have heq1 : (decide (a.x = c.x) && decide (a.y = c.y)) = true:=by simpa using heq
      simp (maxSteps:=2000000) (disch:=omega) [Ad,Ab,Aa,hlt',hltn,hltm,h0m,htn,wj1,hb1,QX,hn,hna,cl (g1 _),cl (g2 _),heq1,hb0]
      exact ⟨q,hperm,hasc,hres.symm⟩
     ·rw [AaO heq,Bool.false_or] at htw
      have heq2 : (decide (a.x = c.x) && decide (a.y = c.y)) = false:=by
       rw [Bool.eq_false_iff]
       simpa using heq
      simp (maxSteps:=2000000) (disch:=omega) [Ad,Ab,Aa,hlt',hltn,hltm,h0m,htn,wj1,hb1,QX,hn,hna,cl (g1 _),cl (g2 _),heq2,wj]
      exact ih (j + 1) (by omega) _ (by omega) (by omega) (by rw [htw,show j + 1 - 1 = j by omega,(Aj hx).2])
    | none =>
     have : j = q.length:=by have:=AaM.1 hx; omega
     have hlt' : ¬ (j : Int) < f.length:=by omega
     have htw0 : tw q = false:=by
      rw [htw]
      have : (q.drop (j - 1)).length = 1:=by rw [Abt]; omega
      match hm : q.drop (j - 1),this with
      | [x],_=>rfl
     rw [htw0,AaL (by simp)] at hres
     by_cases h5 : 5000 < q.length
     ·have h5' : (5000 : Int) < f.length:=by omega
      rw [AaN h5] at hres
      simp (maxSteps:=2000000) (disch:=omega) [Ad,Ab,Aa,hlt',h5',hb0]
      exact ⟨q,hperm,hasc,hres.symm⟩
     ·have h5' : ¬ (5000 : Int) < f.length:=by omega
      rw [AaL h5] at hres
      have hv:=Ww (r:=0) (X:=X) (A:=[]) hql hb1 18
      simp (maxSteps:=2000000) (disch:=omega) [Ad,Ab,Aa,hlt',h5',hb0,hv]
      refine ⟨q,hperm,hasc,?_⟩
      rw [hres]
      unfold zP
      rw [AaL hq0]
 obtain ⟨x,H',h1,rfl,h2⟩:=key
 rcases h2 with ⟨e,h3,rfl⟩ | ⟨h3,q,h4,h5,rfl⟩
 ·exact .inl ⟨e,h3,h1⟩
 ·exact .inr ⟨h3,q,h4,h5,h1⟩
end Go.Mx.Tryz
namespace Go.Mx.Tryz
open Go.Lib
theorem QI {H : Hp} {r b : Nat} {q : List Ce} (h : nth H r = some (.cs 90 3 (AJ q) b false)) (hb : b <= q.length) (k : Nat) : view (k + 2) H (.sl r q.length 3 0 q.length false) = some (.sl (Al q)):=by
 have e : elems H (.sl r q.length 3 0 q.length false) = some (AJ q):=by
  show Option.bind (nth H r) _ = _
  rw [h]
  show gd (Nat.ble b q.length && Nat.beq 3 3) (some (((AJ q).drop 0).take q.length)) = _
  rw [Cr,AaP hb,AbV,Abc (by simp)]
  rfl
 show Option.bind (elems H (.sl r q.length 3 0 q.length false)) _ = _
 rw [e]
 show Option.bind (Ai _ (AJ q)) _ = _
 have ho : ∀ (H : Hp) (m : List Ce),Ai (fun e=>Ai (view (k + 1) H) e) (AJ m) = some (Al m):=by
  intro H m
  induction m with
  | nil=>rfl
  | cons x t ih =>
   show Option.bind (some [I.i .i64 x.x,.i .i64 x.y,.i .i64 x.s]) _ = _
   simp only [AaR]
   show Option.bind (Ai _ (AJ t)) _ = _
   rw [ih]
   rfl
 rw [ho]
 rfl
theorem Fm (q : List Ce) : ((AJ q).all fun e=>e.all isM) = true:=by
 simp [AJ,US,Ce.i,isM]
def apart (a b : Ce) : Prop:=¬ (a.x = b.x /\ a.y = b.y)
theorem NC : ∀ (p : List Ce) (o : Option Ce),CA o p = true -> p.Pairwise (fun a b=>Bm a b = true) /\ (∀ a,o = some a -> ∀ d,d ∈ p -> Bm a d = true) /\ ∀ d,d ∈ p -> Co d = true
 | [],_,_=>⟨.nil,fun _ _ d hd=>by simp at hd,fun d hd=>by simp at hd⟩
 | c :: r,o,h=>by
  have h' : Co c = true /\ (∀ a,o = some a -> Bm a c = true) /\ CA (some c) r = true:=by
   cases o with
   | none =>
    have : (Co c && CA (some c) r) = true:=h
    rw [AaJ] at this
    exact ⟨this.1,fun _ h=>(by cases h),this.2⟩
   | some a =>
    have : (Co c && Bm a c && CA (some c) r) = true:=h
    simp only [AaJ] at this
    exact ⟨this.1.1,fun _ h=>(by cases h; exact this.1.2),this.2⟩
  obtain ⟨g1,g2,g3⟩:=h'
  obtain ⟨i1,i2,i3⟩:=NC r (some c) g3
  refine ⟨Abw.2 ⟨fun d hd=>i2 c rfl d hd,i1⟩,fun a ha d hd=>?_,fun d hd=>?_⟩
  ·rcases Abd.1 hd with rfl | hd
   ·exact g2 a ha
   ·have h1:=g2 a ha
    have h2:=i2 c rfl d hd
    unfold Bm at *
    grind
  ·rcases Abd.1 hd with rfl | hd
   ·exact g1
   ·exact i3 d hd
theorem TC {p : List Ce} (h : Bo p = true) : p.Pairwise (fun a b=>Bm a b = true) /\ (∀ d,d ∈ p -> Co d = true) /\ p.length <= 5000:=by
 unfold Bo at h
 simp only [AaJ,AaU] at h
 have:=NC p none h.2
 exact ⟨this.1,this.2.2,h.1⟩
theorem Gu : ∀ {p : List Ce},(∀ c,c ∈ p -> Co c = true) -> bad p = none
 | [],_=>rfl
 | c :: r,h=>by
  have hc:=h c (by simp)
  unfold Co at hc
  simp only [AaJ,AaU] at hc
  have e : KD c = none:=by
   unfold KD
   rw [AaL (by rw [hc.1.1]; simp),AaL (by omega)]
  have e2 : bad (c :: r) = match KD c with | some e=>some e | none=>bad r:=rfl
  rw [e2,e]
  exact Gu fun d hd=>h d (by simp [hd])
theorem WB : ∀ {p : List Ce},p.Pairwise (fun a b=>Bm a b = true) -> tw p = false
 | [],_=>rfl
 | [_],_=>rfl
 | a :: b :: r,h=>by
  have e : tw (a :: b :: r) = (decide (a.x = b.x /\ a.y = b.y) || tw (b :: r)):=rfl
  obtain ⟨h1,h2⟩:=Abw.1 h
  have:=h1 b (by simp)
  rw [e,WB h2,Bool.or_false]
  unfold Bm at this
  simp at this ⊢
  omega
theorem Aaz {p q : List Ce} (hw : p.Pairwise (fun a b=>Bm a b = true)) (hq : Asc q) (hpm : q.Perm p) : q = p:=by
 have hqp : q.Pairwise (fun a b=>Bm b a = false):=by
  rw [AbH]
  intro i j hi hj hij
  exact hq i j _ _ hij (AaK hi) (AaK hj)
 have hpp : p.Pairwise (fun a b=>Bm b a = false):=hw.imp fun {a b} h=>by
  unfold Bm at *
  simp at h ⊢
  omega
 refine hpm.eq_of_pairwise (fun a b ha hb h1 h2=>?_) hqp hpp
 have ha' : a ∈ p:=hpm.mem_iff.1 ha
 obtain ⟨i,hi,rfl⟩:=List.mem_iff_getElem.1 ha'
 obtain ⟨j,hj,rfl⟩:=List.mem_iff_getElem.1 hb
 rcases Nat.lt_trichotomy i j with h | h | h
 ·have:=AbH.1 hw i j hi hj h
  rw [this] at h2; cases h2
 ·subst h; rfl
 ·have:=AbH.1 hw j i hj hi h
  rw [this] at h1; cases h1
theorem BR {p q : List Ce} (h : q.Perm p) (ha : p.Pairwise apart) : q.Pairwise apart:=by
 refine (h.pairwise_iff (fun {a b} hab=>?_)).2 ha
 exact fun ⟨h1,h2⟩=>hab ⟨h1.symm,h2.symm⟩
theorem UT {q : List Ce} (ha : Asc q) (hp : q.Pairwise apart) : q.Pairwise (fun a b=>Bm a b = true):=by
 rw [AbH] at hp ⊢
 intro i j hi hj hij
 have h1:=ha i j _ _ hij (AaK hi) (AaK hj)
 have h2:=hp i j hi hj hij
 unfold Bm at *
 unfold apart at h2
 simp at *
 omega
theorem Fs {c : Ce} (h : Co c = true) : AG c.x c.y = true /\ 1 <= c.s /\ c.s < 8:=by
 unfold Co at h
 simp only [AaJ,AaU] at h
 exact ⟨h.1.1,h.1.2,h.2⟩
theorem No {p : List Ce} (h : ∀ c,c ∈ p -> Co c = true) : liv p = p:=by
 unfold liv
 rw [List.filter_eq_self]
 intro c hc
 have:=Fs (h c hc)
 exact AaP (by omega)
theorem Na : ∀ {p : List Ce},p.Pairwise (fun a b=>Bm a b = true) -> (∀ c,c ∈ p -> Co c = true) -> p.length <= 5000 -> Bo p = true:=fun {p} h1 h2 h3=>by
 have key : ∀ (p : List Ce) (o : Option Ce),p.Pairwise (fun a b=>Bm a b = true) -> (∀ a,o = some a -> ∀ d,d ∈ p -> Bm a d = true) -> (∀ c,c ∈ p -> Co c = true) -> CA o p = true:=by
  intro p
  induction p with
  | nil=>intro o _ _ _; cases o <;> rfl
  | cons c r ih =>
   intro o h1 h2 h3
   obtain ⟨h4,h5⟩:=Abw.1 h1
   have i:=ih (some c) h5 (fun a ha d hd=>by cases ha; exact h4 d hd) (fun d hd=>h3 d (List.mem_cons_of_mem _ hd))
   cases o with
   | none =>
    show (Co c && CA (some c) r) = true
    rw [h3 c (Abq ..),i]
    rfl
   | some a =>
    show (Co c && Bm a c && CA (some c) r) = true
    rw [h3 c (Abq ..),i,h2 a rfl c (Abq ..)]
    rfl
 unfold Bo
 rw [AaP h3,key p none h1 (fun a h=>by cases h) h2]
 rfl
end Go.Mx.Tryz
set_option maxHeartbeats 4000000
namespace Go.Mx.Tryz
open Go.Sort Go.Lib Go.Proofs
def KI (c : Ce) : List Ce -> List Ce
 | []=>[c]
 | d :: r=>if Bm c d = true then c :: d :: r else d :: KI c r
theorem Fr (c : Ce) : ∀ p,(KI c p).Perm (c :: p)
 | []=>List.Perm.refl _
 | d :: r=>by
  unfold KI
  split
  ·exact List.Perm.refl _
  ·exact ((Fr c r).cons d).trans (List.Perm.swap c d r)
theorem TO (c : Ce) (p : List Ce) : (KI c p).length = p.length + 1:=(Fr c p).length_eq
theorem WX {a b c : Ce} (h1 : Bm a b = true) (h2 : Bm b c = true) : Bm a c = true:=by
 unfold Bm at *
 simp at *
 omega
theorem Oz {a b : Ce} (h : apart a b) (h1 : Bm a b = false) : Bm b a = true:=by
 unfold Bm at *
 unfold apart at h
 simp at *
 omega
theorem OH {a b : Ce} (h : apart a b) : apart b a:=fun ⟨h1,h2⟩=>h ⟨h1.symm,h2.symm⟩
theorem RC (c : Ce) : ∀ p : List Ce,p.Pairwise (fun a b=>Bm a b = true) -> (∀ d,d ∈ p -> apart c d) -> (KI c p).Pairwise (fun a b=>Bm a b = true)
 | [],_,_=>by simp [KI]
 | d :: r,h,ha=>by
  obtain ⟨h1,h2⟩:=Abw.1 h
  unfold KI
  split
  ·rename_i hl
   refine Abw.2 ⟨fun e he=>?_,h⟩
   rcases Abd.1 he with rfl | he
   ·exact hl
   ·exact WX hl (h1 e he)
  ·rename_i hl
   refine Abw.2 ⟨fun e he=>?_,RC c r h2 fun e he=>ha e (List.mem_cons_of_mem _ he)⟩
   rcases Abd.1 ((Fr c r).mem_iff.1 he) with rfl | he
   ·exact Oz (ha d (Abq ..)) (by simpa using hl)
   ·exact h1 e he
def CJ (p : List Ce) : List Ce:=p.foldl (fun a c=>KI c a) []
theorem FO (p : List Ce) (c : Ce) : CJ (p ++ [c]) = KI c (CJ p):=by simp [CJ]
theorem FN : ∀ n (p : List Ce),p.length = n -> (CJ p).Perm p /\ (p.Pairwise apart -> (CJ p).Pairwise (fun a b=>Bm a b = true))
 | 0,p,h=>by
  have : p = []:=Abf h
  subst this
  exact ⟨List.Perm.refl _,fun _=>List.Pairwise.nil⟩
 | n + 1,p,h=>by
  obtain ⟨q,c,rfl⟩ : ∃ q c,p = q ++ [c]:=⟨p.dropLast,p.getLast (by intro e; rw [e] at h; simp at h),(List.dropLast_concat_getLast _).symm⟩
  have hq : q.length = n:=by simpa using h
  obtain ⟨h1,h2⟩:=FN n q hq
  rw [FO]
  refine ⟨(Fr c _).trans ((h1.cons c).trans (List.perm_append_singleton c q).symm),fun hp=>?_⟩
  rw [AbN] at hp
  refine RC c _ (h2 hp.1) fun d hd=>?_
  exact OH (hp.2.2 d (h1.mem_iff.1 hd) c (List.mem_singleton_self c))
theorem Dl (p : List Ce) : (CJ p).Perm p:=(FN _ p rfl).1
theorem Ej {p : List Ce} (h : p.Pairwise apart) : (CJ p).Pairwise (fun a b=>Bm a b = true):=(FN _ p rfl).2 h
theorem Dm (p : List Ce) : (CJ p).length = p.length:=(Dl p).length_eq
theorem QY {p q : List Ce} (hp : p.Pairwise (fun a b=>Bm a b = true)) (hq : q.Pairwise (fun a b=>Bm a b = true)) (h : q.Perm p) : q = p:=by
 refine Aaz hp (fun i j a b hij ha hb=>?_) h
 obtain ⟨h1,rfl⟩:=AaI.1 ha
 obtain ⟨h2,rfl⟩:=AaI.1 hb
 have:=AbH.1 hq i j h1 h2 hij
 unfold Bm at *
 simp at *
 omega
theorem DX {f : List Ce} {o : V} {H : Hp} (h : RY f o H) : DK H o = some (.m (zP f)) /\ AE o = true:=by
 rcases h with ⟨rfl,rfl,rfl⟩ | ⟨hne,rfl,rfl⟩
 ·exact ⟨rfl,rfl⟩
 ·have:=Ww (r:=0) (b:=0) (X:=[]) (A:=[]) (q:=f) (n:=f.length) rfl (AaT _) 18
  refine ⟨?_,rfl⟩
  show (view 20 _ _).bind _ = _
  rw [this]
  unfold zP
  rw [AaL hne]
  rfl
theorem Nq {v : I} {p : List Ce} (hv : IsSl v (Al p)) (hl : p.length <= 900000) (c : Ce) (H : Hp) : Gives G 95 [.m v,.m (.ag [.i .i64 c.x,.i .i64 c.y,.i .i64 c.s])] H (.m (zP (KI c p))) H:=by
 have hr:=hv.rules
 simp only [show (Al p).length = p.length from by simp [Al]] at hr
 refine Ak rfl rfl rfl rfl rfl ?_
 simp (maxSteps:=2000000) (disch:=omega) [Ad,Ab,Aa,hr]
 refine (?key : ∀ (i : Nat) (dn : Bool) (f : List Ce) (o : V) (B : List (Nat × List V)) (H1 : Hp),i <= p.length -> (if dn then KI c p = f ++ p.drop i else f = p.take i /\ KI c p = p.take i ++ KI c (p.drop i)) -> RY f o H1 -> getB B 3 = some [.m (.i .i64 c.x),.m (.i .i64 c.y),.m (.i .i64 c.s)] -> Run G c95_B0 (S95_0 (.m v) (.fa 3 0) o (.m (.b dn)) (.m (.i .i64 (i : Int))) B H1) _) 0 false [] _ _ _ (AaT _) ⟨rfl,rfl⟩ (.inl ⟨rfl,rfl,rfl⟩) rfl
 refine Bd (fun i : Nat=>p.length - i) fun i ih dn f o B H1 hi hd ho hB=>?_
 obtain ⟨hvw,hnf⟩:=DX ho
 unfold c95_B0
 cases hx : p[i]? with
 | some d =>
  have hlt:=(Aj hx).1
  have hlt' : (i : Int) < p.length:=by omega
  have hn:=Aq hx
  have wi : wr .i64 ((i : Int) + 1) = (i : Int) + 1:=Aa (by omega) (by omega)
  have gb:=fun H=>Gt c d H
  have hdr:=(Aj hx).2
  have htk : p.take (i + 1) = p.take i ++ [d]:=Au hx
  cases dn with
  | true =>
   simp only [if_true] at hd
   have hfl : f.length <= 900001:=by
    have:=congrArg List.length hd
    rw [TO,AaX] at this
    omega
   obtain ⟨o1,H2,ha,hn1,ho1⟩:=Ca ho (by omega) d
   simp (maxSteps:=2000000) (disch:=omega) [Ad,Ab,Aa,hr,hlt,hlt',hn,wi,hB,Ac,ha,AC hn1]
   exact ih (i + 1) (by omega) true _ _ _ _ (by omega) (by simp only [if_true]; rw [hd,hdr]; simp) ho1 hB
  | false =>
   simp only [AbO,if_false] at hd
   obtain ⟨rfl,hd2⟩:=hd
   have hfl : (p.take i).length <= 900000:=by rw [AaW]; omega
   cases hb : Bm c d with
   | true =>
    rw [hb] at gb
    obtain ⟨o1,H2,ha,hn1,ho1⟩:=Ca ho (by omega) c
    obtain ⟨o2,H3,ha2,hn2,ho2⟩:=Ca ho1 (by simp; omega) d
    simp (maxSteps:=2000000) (disch:=omega) [Ad,Ab,Aa,hr,hlt,hlt',hn,wi,hB,Ac,cl (gb _),ha,AC hn1,ha2,AC hn2]
    refine ih (i + 1) (by omega) true _ _ _ _ (by omega) ?_ ho2 hB
    simp only [if_true]
    rw [hd2,hdr]
    simp [KI,hb]
   | false =>
    rw [hb] at gb
    obtain ⟨o1,H2,ha,hn1,ho1⟩:=Ca ho (by omega) d
    simp (maxSteps:=2000000) (disch:=omega) [Ad,Ab,Aa,hr,hlt,hlt',hn,wi,hB,Ac,cl (gb _),ha,AC hn1]
    refine ih (i + 1) (by omega) false _ _ _ _ (by omega) ?_ ho1 hB
    simp only [AbO,if_false]
    refine ⟨htk.symm,?_⟩
    rw [hd2,hdr,htk]
    simp [KI,hb]
 | none =>
  have : i = p.length:=by have:=AaM.1 hx; omega
  subst this
  clear ih
  cases dn with
  | true =>
   simp only [if_true,Abj,AbI] at hd
   simp (maxSteps:=2000000) (disch:=omega) [Ad,Ab,Aa,hr,hvw,hnf,AC hnf,hd]
  | false =>
   simp only [AbO,if_false,Abj,Aby] at hd
   obtain ⟨rfl,hd2⟩:=hd
   obtain ⟨o1,H2,ha,hn1,ho1⟩:=Ca ho (by omega) c
   obtain ⟨hvw1,_⟩:=DX ho1
   have e : KI c f = f ++ [c]:=hd2
   simp (maxSteps:=2000000) (disch:=omega) [Ad,Ab,Aa,hr,hB,ha,AC hn1,hvw1,hn1,e]
theorem QW {v : I} {p : List Ce} (hv : IsSl v (Al p)) (hl : p.length <= 5000) (hg : ∀ c,c ∈ p -> Co c = true) (ha : p.Pairwise apart) (H : Hp) : Gives G 64 [.m v] H (.tu [.m (zP (CJ p)),.m (.i .i64 0)]) H:=by
 have hr:=hv.rules
 simp only [show (Al p).length = p.length from by simp [Al]] at hr
 refine Ak rfl rfl rfl rfl rfl ?_
 simp (maxSteps:=2000000) (disch:=omega) [Ad,Ab,Aa,hr]
 refine (?key : ∀ (i : Nat) (B : List (Nat × List V)),i <= p.length -> Run G c64_B0 (S64_0 (.m v) (.m (.nl 4)) (.m (.i .i64 (i : Int))) B []) _) 0 _ (AaT _)
 refine Bd (fun i : Nat=>p.length - i) fun i ih B hi=>?_
 unfold c64_B0
 cases hx : p[i]? with
 | some c =>
  have hlt:=(Aj hx).1
  have hlt' : (i : Int) < p.length:=by omega
  have hn:=Aq hx
  have wi : wr .i64 ((i : Int) + 1) = (i : Int) + 1:=Aa (by omega) (by omega)
  obtain ⟨h1,h2,h3⟩:=Fs (hg c (AaS hx))
  have gp:=fun H=>Gr c.x c.y H
  rw [h1] at gp
  have h4 : ¬ c.s < 0:=by omega
  have h5 : ¬ 8 <= c.s:=by omega
  simp (maxSteps:=2000000) (disch:=omega) [Ad,Ab,Aa,hr,hlt,hlt',hn,wi,cl (gp _),h4,h5]
  exact ih (i + 1) (by omega) _ (by omega)
 | none =>
  have : i = p.length:=by have:=AaM.1 hx; omega
  subst this
  clear ih hx hi
  simp (maxSteps:=2000000) (disch:=omega) [Ad,Ab,Aa,hr]
  refine (?key2 : ∀ (i : Nat) (z : I) (B : List (Nat × List V)),i <= p.length -> z = zP (CJ (p.take i)) -> Run G c64_B1 (S64_1 (.m v) (.m z) (.m (.i .i64 (i : Int))) B []) _) 0 (.nl 4) _ (AaT _) rfl
  refine Bd (fun i : Nat=>p.length - i) fun i ih z B hi hz=>?_
  unfold c64_B1
  cases hx : p[i]? with
  | some c =>
   have hlt:=(Aj hx).1
   have hlt' : (i : Int) < p.length:=by omega
   have hn:=Aq hx
   have wi : wr .i64 ((i : Int) + 1) = (i : Int) + 1:=Aa (by omega) (by omega)
   obtain ⟨h1,h2,h3⟩:=Fs (hg c (AaS hx))
   have h4 : ¬ c.s = 0:=by omega
   have htk : p.take (i + 1) = p.take i ++ [c]:=Au hx
   have gi:=fun H=>Nq (v:=z) (by rw [hz]; exact Eo _) (by rw [Dm,AaW]; omega) c H
   rw [<- FO,<- htk] at gi
   simp (maxSteps:=2000000) (disch:=omega) [Ad,Ab,Aa,hr,hlt,hlt',hn,wi,cl (gi _),h4]
   exact ih (i + 1) (by omega) _ _ (by omega) rfl
  | none =>
   have : i = p.length:=by have:=AaM.1 hx; omega
   subst this
   clear ih hx hi
   rw [Aby] at hz
   have hs : IsSl z (Al (CJ p)):=by rw [hz]; exact Eo _
   have hrs:=hs.rules
   have hpw:=Ej ha
   have hsl:=Dm p
   simp only [show (Al (CJ p)).length = p.length from by simp [Al,hsl]] at hrs
   generalize hq : CJ p = q at *
   rw [<- hz]
   simp (maxSteps:=2000000) (disch:=omega) [Ad,Ab,Aa,hr]
   refine (?key3 : ∀ (j : Nat) (B : List (Nat × List V)),1 <= j -> Run G c64_B2 (S64_2 (.m z) (.m (.i .i64 (j : Int))) B []) _) 1 _ (AaQ _)
   refine Bd (fun j : Nat=>q.length - j) fun j ih B h1j=>?_
   unfold c64_B2
   cases hx : q[j]? with
   | some c =>
    have hlt:=(Aj hx).1
    have hlt2 : j < p.length:=by omega
    have hlt' : (j : Int) < p.length:=by omega
    have wj : wr .i64 ((j : Int) + 1) = (j : Int) + 1:=Aa (by omega) (by omega)
    have wj1 : wr .i64 ((j : Int) - 1) = (j : Int) - 1:=Aa (by omega) (by omega)
    obtain ⟨a,hax⟩ : ∃ a,q[j - 1]? = some a:=⟨q[j - 1]'(by omega),AaK _⟩
    have hn:=Aq hx
    have hna:=Aq hax
    have hltm : (j : Int) - 1 < p.length:=by omega
    have h0m : (0 : Int) <= (j : Int) - 1:=by omega
    have htn : ((j : Int) - 1).toNat = j - 1:=by omega
    have hls : Bm a c = true:=by
     obtain ⟨h1,rfl⟩:=AaI.1 hax
     obtain ⟨h2,rfl⟩:=AaI.1 hx
     exact AbH.1 hpw _ _ h1 h2 (by omega)
    have gb:=fun H=>Gt a c H
    rw [hls] at gb
    simp (maxSteps:=2000000) (disch:=omega) [Ad,Ab,Aa,hrs,hlt2,hlt',hltm,h0m,htn,hn,hna,wj,wj1,cl (gb _)]
    exact ih (j + 1) (by omega) _ (by omega)
   | none =>
    have hj : q.length <= j:=AaM.1 hx
    have hlt' : ¬ (j : Int) < p.length:=by omega
    have h5 : ¬ (5000 : Int) < p.length:=by omega
    simp (maxSteps:=2000000) (disch:=omega) [Ad,Ab,Aa,hrs,hlt',h5]
def cmpC (c d : Ce) : Int:=if c.y = d.y then if c.x = d.x then DA c.s d.s else DA c.x d.x else DA c.y d.y
def Ge : List Ce -> List Ce -> Int
 | [],[]=>0
 | [],_ :: _=>-1
 | _ :: _,[]=>1
 | c :: r,d :: t=>if cmpC c d = 0 then Ge r t else cmpC c d
theorem FX {x y : Int} : DA x y = 0 ↔ x = y:=by
 unfold DA
 split
 ·constructor <;> intro h <;> omega
 ·split <;> constructor <;> intro h <;> omega
theorem RT {c d : Ce} : cmpC c d = 0 ↔ c = d:=by
 obtain ⟨a1,a2,a3⟩:=c
 obtain ⟨b1,b2,b3⟩:=d
 unfold cmpC
 simp only [Ce.mk.injEq]
 split
 ·split
  ·rw [FX]; constructor <;> intro h <;> simp_all
  ·rw [FX]; constructor <;> intro h <;> simp_all
 ·rw [FX]; constructor <;> intro h <;> simp_all
theorem UR : ∀ {p q : List Ce},Ge p q = 0 ↔ p = q
 | [],[]=>by simp [Ge]
 | [],_ :: _=>by simp [Ge]
 | _ :: _,[]=>by simp [Ge]
 | c :: r,d :: t=>by
  unfold Ge
  split
  ·rename_i h
   rw [UR,RT.1 h]
   simp
  ·rename_i h
   constructor
   ·intro h2; exact absurd h2 h
   ·intro h2
    have : c = d:=(List.cons.inj h2).1
    exact absurd (RT.2 this) h
theorem Ov (x y : Int) (H : Hp) : Gives G 99 [.m (.i .i64 x),.m (.i .i64 y)] H (.m (.i .i64 (DA x y))) H:=by
 refine Ak rfl rfl rfl rfl rfl ?_
 by_cases h1 : x < y
 ·simp (maxSteps:=2000000) (disch:=omega) [Ad,Ab,Aa,h1,DA]
 ·by_cases h2 : y < x
  ·simp (maxSteps:=2000000) (disch:=omega) [Ad,Ab,Aa,h1,h2,DA]
  ·simp (maxSteps:=2000000) (disch:=omega) [Ad,Ab,Aa,h1,h2,DA]
theorem Nz {p q : List Ce} {i : Nat} (h : p.drop i = [] \/ q.drop i = []) : Ge (p.drop i) (q.drop i) = DA ((p.drop i).length : Int) ((q.drop i).length : Int):=by
 rcases h with h | h <;> rw [h]
 ·cases hq : q.drop i with
  | nil=>rfl
  | cons a r=>show (-1 : Int) = _; unfold DA; rw [AaN (by simp <;> omega)]
 ·cases hq : p.drop i with
  | nil=>rfl
  | cons a r=>show (1 : Int) = _; unfold DA; rw [AaL (by simp <;> omega),AaN (by simp <;> omega)]
theorem NA {a b i : Nat} (h1 : i <= a) (h2 : i <= b) : DA ((a - i : Nat) : Int) ((b - i : Nat) : Int) = DA a b:=by
 unfold DA
 have e1 : (((a - i : Nat) : Int) < ((b - i : Nat) : Int)) = ((a : Int) < b):=by rw [eq_iff_iff]; omega
 have e2 : (((b - i : Nat) : Int) < ((a - i : Nat) : Int)) = ((b : Int) < a):=by rw [eq_iff_iff]; omega
 simp only [e1,e2]
set_option maxHeartbeats 2000000 in
theorem RR {v w : I} {p q : List Ce} (hv : IsSl v (Al p)) (hw : IsSl w (Al q)) (hl : p.length <= 1000000) (hl2 : q.length <= 1000000) (H : Hp) : Gives G 68 [.m v,.m w] H (.m (.i .i64 (Ge p q))) H:=by
 refine Ak rfl rfl rfl rfl rfl ?_
 have hr:=hv.rules
 have hr2:=hw.rules
 simp only [show (Al p).length = p.length from by simp [Al]] at hr
 simp only [show (Al q).length = q.length from by simp [Al]] at hr2
 have go:=fun x y H=>Ov x y H
 simp (maxSteps:=2000000) (disch:=omega) [Ad,Ab,Aa]
 refine (?key : ∀ (i : Nat) (B : List (Nat × List V)),i <= p.length -> i <= q.length -> Ge p q = Ge (p.drop i) (q.drop i) -> Run G c68_B0 (S68_0 (.m v) (.m w) (.m (.i .i64 (i : Int))) B []) _) 0 [] (AaT _) (AaT _) rfl
 refine Bd (fun i : Nat=>p.length - i) fun i ih B hi hi2 hc=>?_
 unfold c68_B0
 cases hx : p[i]? with
 | none =>
  have hle:=AaM.1 hx
  have hlt' : ¬ (i : Int) < p.length:=by omega
  rw [Nz (.inl (List.drop_eq_nil_of_le hle)),Abt,Abt,NA hi hi2] at hc
  simp (maxSteps:=2000000) (disch:=omega) [Ad,Ab,Aa,hr,hr2,hlt',cl (go _ _ _),hc]
 | some c =>
  have hlt:=(Aj hx).1
  have hlt' : (i : Int) < p.length:=by omega
  have hn:=Aq hx
  cases hy : q[i]? with
  | none =>
   have hle:=AaM.1 hy
   have hlt2' : ¬ (i : Int) < q.length:=by omega
   rw [Nz (.inr (List.drop_eq_nil_of_le hle)),Abt,Abt,NA hi hi2] at hc
   simp (maxSteps:=2000000) (disch:=omega) [Ad,Ab,Aa,hr,hr2,hlt',hlt2',cl (go _ _ _),hc]
  | some d =>
   have hlt2:=(Aj hy).1
   have hlt2' : (i : Int) < q.length:=by omega
   have hn2:=Aq hy
   have wi : wr .i64 ((i : Int) + 1) = (i : Int) + 1:=Aa (by omega) (by omega)
   have e1 : Ge (c :: p.drop (i + 1)) (d :: q.drop (i + 1)) = if cmpC c d = 0 then Ge (p.drop (i + 1)) (q.drop (i + 1)) else cmpC c d:=rfl
   rw [(Aj hx).2,(Aj hy).2,e1] at hc
   by_cases h1 : c.y = d.y
   ·by_cases h2 : c.x = d.x
    ·by_cases h3 : c.s = d.s
     ·have e : cmpC c d = 0:=by unfold cmpC; rw [AaN h1,AaN h2]; exact FX.2 h3
      rw [AaN e] at hc
      simp (maxSteps:=2000000) (disch:=omega) [Ad,Ab,Aa,hr,hr2,hlt,hlt',hlt2,hlt2',hn,hn2,wi,h1,h2,h3]
      exact ih (i + 1) (by omega) _ (by omega) (by omega) hc
     ·have e : cmpC c d = DA c.s d.s:=by unfold cmpC; rw [AaN h1,AaN h2]
      have h0 : ¬ DA c.s d.s = 0:=fun h=>h3 (FX.1 h)
      rw [e,AaL h0] at hc
      simp (maxSteps:=2000000) (disch:=omega) [Ad,Ab,Aa,hr,hr2,hlt,hlt',hlt2,hlt2',hn,hn2,wi,h1,h2,h3,cl (go _ _ _),hc]
    ·have e : cmpC c d = DA c.x d.x:=by unfold cmpC; rw [AaN h1,AaL h2]
     have h0 : ¬ DA c.x d.x = 0:=fun h=>h2 (FX.1 h)
     rw [e,AaL h0] at hc
     simp (maxSteps:=2000000) (disch:=omega) [Ad,Ab,Aa,hr,hr2,hlt,hlt',hlt2,hlt2',hn,hn2,wi,h1,h2,cl (go _ _ _),hc]
   ·have e : cmpC c d = DA c.y d.y:=by unfold cmpC; rw [AaL h1]
    have h0 : ¬ DA c.y d.y = 0:=fun h=>h1 (FX.1 h)
    rw [e,AaL h0] at hc
    simp (maxSteps:=2000000) (disch:=omega) [Ad,Ab,Aa,hr,hr2,hlt,hlt',hlt2,hlt2',hn,hn2,wi,h1,cl (go _ _ _),hc]
theorem QV {v w : I} {p q : List Ce} (hv : IsSl v (Al p)) (hw : IsSl w (Al q)) (hl : p.length <= 1000000) (hl2 : q.length <= 1000000) (H : Hp) : Gives G 29 [.m v,.m w] H (.m (.b (decide (Ge p q = 0)))) H:=by
 refine Ak rfl rfl rfl rfl rfl ?_
 simp (maxSteps:=2000000) (disch:=omega) [Ad,Ab,Aa,cl (RR hv hw hl hl2 _)]
set_option maxHeartbeats 2000000 in
theorem Xg {v w : I} {p q : List Ce} (hv : IsSl v (Al p)) (hw : IsSl w (Al q)) (hl : p.length <= 1000000) (hl2 : q.length <= 1000000) (H : Hp) : Gives G 94 [.m v,.m w] H (.m (.b (decide (Ge p q = 0)))) H:=by
 refine Ak rfl rfl rfl rfl rfl ?_
 have hr:=hv.rules
 have hr2:=hw.rules
 simp only [show (Al p).length = p.length from by simp [Al]] at hr
 simp only [show (Al q).length = q.length from by simp [Al]] at hr2
 by_cases hlen : p.length = q.length
 ·have hlen' : (p.length : Int) = q.length:=by omega
  simp (maxSteps:=2000000) (disch:=omega) [Ad,Ab,Aa,hr,hr2,hlen]
  refine (?key : ∀ (i : Nat) (B : List (Nat × List V)),i <= q.length -> Ge p q = Ge (p.drop i) (q.drop i) -> Run G c94_B0 (S94_0 (.m v) (.m w) (.m (.i .i64 q.length)) (.m (.i .i64 (i : Int))) B []) _) 0 [] (AaT _) rfl
  refine Bd (fun i : Nat=>q.length - i) fun i ih B hi hc=>?_
  unfold c94_B0
  cases hy : q[i]? with
  | some d =>
   have hlt2:=(Aj hy).1
   obtain ⟨c,hx⟩ : ∃ c,p[i]? = some c:=⟨p[i]'(by omega),AaK _⟩
   have hlt:=(Aj hx).1
   have hlt2' : (i : Int) < q.length:=by omega
   have hn:=Aq hx
   have hn2:=Aq hy
   have wi : wr .i64 ((i : Int) + 1) = (i : Int) + 1:=Aa (by omega) (by omega)
   have e1 : Ge (c :: p.drop (i + 1)) (d :: q.drop (i + 1)) = if cmpC c d = 0 then Ge (p.drop (i + 1)) (q.drop (i + 1)) else cmpC c d:=rfl
   rw [(Aj hx).2,(Aj hy).2,e1] at hc
   by_cases he : c.x = d.x /\ c.y = d.y /\ c.s = d.s
   ·have e : cmpC c d = 0:=by
     unfold cmpC
     rw [AaN he.2.1,AaN he.1,FX]
     exact he.2.2
    rw [AaN e] at hc
    simp (maxSteps:=2000000) (disch:=omega) [Ad,Ab,Aa,hr,hr2,hlen,hlt,hlt2,hlt2',hn,hn2,wi,he.1,he.2.1,he.2.2]
    exact ih (i + 1) (by omega) _ (by omega) hc
   ·have e : ¬ cmpC c d = 0:=fun h=>he (by rw [RT.1 h]; exact ⟨rfl,rfl,rfl⟩)
    rw [AaL e] at hc
    have he1 : (decide (c.x = d.x) && (decide (c.y = d.y) && decide (c.s = d.s))) = false:=by
     rw [Bool.eq_false_iff]
     simpa using he
    have he2 : (decide (c.x = d.x) && decide (c.y = d.y) && decide (c.s = d.s)) = false:=by
     rw [Bool.and_assoc]; exact he1
    simp (maxSteps:=2000000) (disch:=omega) [Ad,Ab,Aa,hr,hr2,hlen,hlt,hlt2,hlt2',hn,hn2,wi,he1,he2,hc,e]
  | none =>
   have : i = q.length:=by have:=AaM.1 hy; omega
   subst this
   rw [Abj,List.drop_eq_nil_of_le (by omega)] at hc
   have hc' : Ge p q = 0:=hc
   simp (maxSteps:=2000000) (disch:=omega) [Ad,Ab,Aa,hr,hr2,hlen,hc']
 ·have hlen' : ¬ (p.length : Int) = q.length:=by omega
  have e : ¬ Ge p q = 0:=fun h=>hlen (by rw [UR.1 h])
  simp (maxSteps:=2000000) (disch:=omega) [Ad,Ab,Aa,hr,hr2,hlen,hlen',e]
theorem ZF {v w : I} {p q : List Ce} (hv : IsSl v (Al p)) (hw : IsSl w (Al q)) (hl : p.length <= 1000000) (hl2 : q.length <= 1000000) (H : Hp) : Gives G 56 [.m v,.m w] H (.m (.b (decide (Ge p q = 0)))) H:=by
 refine Ak rfl rfl rfl rfl rfl ?_
 simp (maxSteps:=2000000) (disch:=omega) [Ad,Ab,Aa,cl (Xg hv hw hl hl2 _)]
end Go.Mx.Tryz
namespace Go.Mx.Tryz
open Go.Lib
structure StI (t : TreeC) (p : List Ce) (D : List (Int × Int)) (l : List Ce) : Prop where
 al : ∀ c,c ∈ l -> (c.x,c.y) ∈ D /\ c.s = Bj t p c.x c.y /\ ¬ c.s = 0 /\ AG c.x c.y = true
 cov : ∀ k,k ∈ D -> ¬ Bj t p k.1 k.2 = 0 -> ∃ c,c ∈ l /\ c.x = k.1 /\ c.y = k.2
 ap : l.Pairwise apart
theorem WF (t : TreeC) (p : List Ce) : StI t p [] []:=⟨by simp,by simp,.nil⟩
theorem Tx {t : TreeC} {p : List Ce} {D : List (Int × Int)} {l : List Ce} (h : StI t p D l) {k : Int × Int} (hk : Bj t p k.1 k.2 = 0) : StI t p (D ++ [k]) l :=
 ⟨fun c hc=>by obtain ⟨a,b⟩:=h.al c hc; exact ⟨by simp [a],b⟩,fun j hj hn=>by
  rcases AbC.1 hj with hj | hj
  ·exact h.cov j hj hn
  ·rw [Abn.1 hj] at hn
   exact absurd hk hn,h.ap⟩
theorem WH {t : TreeC} {p : List Ce} {D : List (Int × Int)} {l : List Ce} (h : StI t p D l) {x y : Int} (hD : (x,y) ∉ D) (hk : ¬ Bj t p x y = 0) (hp : AG x y = true) : StI t p (D ++ [(x,y)]) (l ++ [⟨x,y,Bj t p x y⟩]):=by
 refine ⟨fun c hc=>?_,fun j hj hn=>?_,?_⟩
 ·rcases AbC.1 hc with hc | hc
  ·obtain ⟨a,b⟩:=h.al c hc
   exact ⟨by simp [a],b⟩
  ·rw [Abn.1 hc]
   exact ⟨by simp,rfl,hk,hp⟩
 ·rcases AbC.1 hj with hj | hj
  ·obtain ⟨c,h1,h2⟩:=h.cov j hj hn
   exact ⟨c,by simp [h1],h2⟩
  ·rw [Abn.1 hj]
   exact ⟨⟨x,y,Bj t p x y⟩,by simp,rfl,rfl⟩
 ·rw [AbN]
  refine ⟨h.ap,by simp,fun a ha b hb=>?_⟩
  rw [Abn.1 hb]
  intro ⟨h1,h2⟩
  have:=(h.al a ha).1
  dsimp only at h1 h2
  rw [h1,h2] at this
  exact hD this
theorem QO {t : TreeC} {p : List Ce} {x y : Int} (hk : ¬ Bj t p x y = 0) (hp : AG x y = false) : Dr t p ([],5):=.inl ⟨rfl,x,y,hk,hp⟩
theorem WG {t : TreeC} {p : List Ce} {D : List (Int × Int)} {l q : List Ce} (hq : AS t = true) (h : StI t p D l) (hall : ∀ c o,c ∈ p -> o ∈ t.hood -> (c.x - o.1,c.y - o.2) ∈ D) (hp : q.Perm l) (hs : q.Pairwise (fun a b=>Bm a b = true)) : Dr t p (if 5000 < q.length then ([],6) else (q,0)):=by
 have hD : ∀ x y,¬ Bj t p x y = 0 -> ∃ c,c ∈ l /\ c.x = x /\ c.y = y:=fun x y hn=>by
  obtain ⟨c,o,hc,ho,rfl,rfl⟩:=Ni hq hn
  exact h.cov _ (hall c o hc ho) hn
 refine .inr ⟨fun x y hn=>?_,q,hs,fun c=>⟨fun hc=>?_,fun hc=>?_⟩,rfl⟩
 ·obtain ⟨c,hc,rfl,rfl⟩:=hD x y hn
  exact (h.al c hc).2.2.2
 ·have:=h.al c (hp.mem_iff.1 hc)
  exact ⟨this.2.1,this.2.2.1⟩
 ·obtain ⟨d,hd,e1,e2⟩:=hD c.x c.y (by rw [<- hc.1]; exact hc.2)
  have h2:=(h.al d hd).2.1
  have : d = c:=by
   obtain ⟨a1,a2,a3⟩:=d
   obtain ⟨b1,b2,b3⟩:=c
   dsimp only at e1 e2 h2 hc
   subst e1 e2
   congr 1
   rw [h2]
   exact hc.1.symm
  exact hp.mem_iff.2 (this ▸ hd)
theorem Ty {t : TreeC} (hr : TreeR t) {p : List Ce} (ht : Gd t p) {D : List (Int × Int)} {l : List Ce} (h : StI t p D l) : ∀ c,c ∈ l -> Co c = true:=fun c hc=>by
 obtain ⟨_,h1,h2,h3⟩:=h.al c hc
 have h4:=Ek hr ht c.x c.y
 rw [<- h1] at h4
 have:=hr.s8
 unfold Co
 rw [h3]
 simp only [Abl,AaJ,AaU]
 omega
theorem Tz {t : TreeC} (hr : TreeR t) {p : List Ce} (ht : Gd t p) {D : List (Int × Int)} {l q : List Ce} (h : StI t p D l) (hq : q.Perm (liv l)) (ha : Asc q) : bad l = none /\ q.Perm l /\ q.Pairwise (fun a b=>Bm a b = true) /\ XQ q = if 5000 < q.length then .tu [.m (.nl 4),.m (.i .i64 6)] else .tu [.m (zP q),.m (.i .i64 0)]:=by
 have hg : ∀ c,c ∈ l -> Co c = true:=fun c hc=>by
  obtain ⟨_,h1,h2,h3⟩:=h.al c hc
  have h4:=Ek hr ht c.x c.y
  rw [<- h1] at h4
  have:=hr.s8
  unfold Co
  rw [h3]
  simp only [Abl,AaJ,AaU]
  omega
 rw [No hg] at hq
 have hw:=UT ha (BR hq h.ap)
 refine ⟨Gu hg,hq,hw,?_⟩
 unfold XQ
 rw [WB hw,AaL (by simp)]
inductive HisR (t : TreeC) (p : List Ce) : List (List Ce) -> Prop
 | one : HisR t p [p]
 | snoc {ps : List (List Ce)} {a q : List Ce} : HisR t p (ps ++ [a]) -> Dr t a (q,0) -> HisR t p (ps ++ [a] ++ [q])
def HisQ (t : TreeC) (p : List Ce) (n : Nat) (res : List (List Ce) × Int) : Prop :=
 (res.2 = 0 /\ res.1.length = n + 1 /\ HisR t p res.1) \/ (∃ ps a,ps.length < n /\ HisR t p (ps ++ [a]) /\ Dr t a ([],res.2) /\ ¬ res.2 = 0 /\ res.1 = [])
open Go.Proofs
noncomputable def tlF (L : List Ce) : List Ce × Int:=if 5000 < L.length then ([],6) else (CJ L,0)
theorem MT {L M : List Ce} (h : L.Perm M) (ha : L.Pairwise apart) : tlF L = tlF M:=by
 unfold tlF
 rw [h.length_eq,QY (Ej (BR h.symm ha)) (Ej ha) ((Dl L).trans (h.trans (Dl M).symm))]
theorem RH {v : I} {L : List Ce} (hv : IsSl v (Al L)) (hl : L.length <= 1000000) (hg : ∀ c,c ∈ L -> Co c = true) (ha : L.Pairwise apart) (H : Hp) : Gives G 79 [.m v] H (.tu [.m (zP (tlF L).1),.m (.i .i64 (tlF L).2)]) H:=by
 rcases UO hv hl H with ⟨e,he,_⟩ | ⟨_,q,hq,hasc,g⟩
 ·rw [Gu hg] at he
  cases he
 ·rw [No hg] at hq
  have hw:=UT hasc (BR hq ha)
  have e : q = CJ L:=QY (Ej ha) hw (hq.trans (Dl L).symm)
  have et : tw q = false:=WB hw
  have el : q.length = L.length:=hq.length_eq
  unfold XQ at g
  rw [et,AaL (by simp),el,e] at g
  unfold tlF
  split at g
  ·rename_i h5
   rw [AaN h5]
   exact g
  ·rename_i h5
   rw [AaL h5]
   exact g
set_option maxHeartbeats 2000000 in
theorem Kg {v : I} {p : List Ce} (hv : IsSl v (Al p)) (hl : p.length <= 800000) (hg : ∀ c,c ∈ p -> AG c.x c.y = true /\ 0 <= c.s /\ c.s < 8) (ha : (liv p).Pairwise apart) (H : Hp) : Gives G 64 [.m v] H (.tu [.m (zP (tlF (liv p)).1),.m (.i .i64 (tlF (liv p)).2)]) H:=by
 have hr:=hv.rules
 simp only [show (Al p).length = p.length from by simp [Al]] at hr
 refine Ak rfl rfl rfl rfl rfl ?_
 simp (maxSteps:=2000000) (disch:=omega) [Ad,Ab,Aa,hr]
 refine (?key : ∀ (i : Nat) (B : List (Nat × List V)),i <= p.length -> Run G c64_B0 (S64_0 (.m v) (.m (.nl 4)) (.m (.i .i64 (i : Int))) B []) _) 0 _ (AaT _)
 refine Bd (fun i : Nat=>p.length - i) fun i ih B hi=>?_
 unfold c64_B0
 cases hx : p[i]? with
 | some c =>
  have hlt:=(Aj hx).1
  have hlt' : (i : Int) < p.length:=by omega
  have hn:=Aq hx
  have wi : wr .i64 ((i : Int) + 1) = (i : Int) + 1:=Aa (by omega) (by omega)
  obtain ⟨h1,h2,h3⟩:=hg c (AaS hx)
  have gp:=fun H=>Gr c.x c.y H
  rw [h1] at gp
  have h4 : ¬ c.s < 0:=by omega
  have h5 : ¬ 8 <= c.s:=by omega
  simp (maxSteps:=2000000) (disch:=omega) [Ad,Ab,Aa,hr,hlt,hlt',hn,wi,cl (gp _),h4,h5]
  exact ih (i + 1) (by omega) _ (by omega)
 | none =>
  have : i = p.length:=by have:=AaM.1 hx; omega
  subst this
  clear ih hx hi
  simp (maxSteps:=2000000) (disch:=omega) [Ad,Ab,Aa,hr]
  refine (?key2 : ∀ (i : Nat) (z : I) (B : List (Nat × List V)),i <= p.length -> z = zP (CJ (liv (p.take i))) -> Run G c64_B1 (S64_1 (.m v) (.m z) (.m (.i .i64 (i : Int))) B []) _) 0 (.nl 4) _ (AaT _) rfl
  refine Bd (fun i : Nat=>p.length - i) fun i ih z B hi hz=>?_
  unfold c64_B1
  cases hx : p[i]? with
  | some c =>
   have hlt:=(Aj hx).1
   have hlt' : (i : Int) < p.length:=by omega
   have hn:=Aq hx
   have wi : wr .i64 ((i : Int) + 1) = (i : Int) + 1:=Aa (by omega) (by omega)
   obtain ⟨h1,h2,h3⟩:=hg c (AaS hx)
   have htk : p.take (i + 1) = p.take i ++ [c]:=Au hx
   have hlv : liv (p.take (i + 1)) = if c.s = 0 then liv (p.take i) else liv (p.take i) ++ [c]:=by
    rw [htk]
    unfold liv
    rw [AbT]
    by_cases h4 : c.s = 0
    ·simp [h4]
    ·rw [AaL h4]
     congr 1
     simp
     omega
   have hll : (liv (p.take i)).length <= 800000:=AbF (AbX _ _) (by rw [AaW]; omega)
   by_cases h4 : c.s = 0
   ·rw [AaN h4] at hlv
    simp (maxSteps:=2000000) (disch:=omega) [Ad,Ab,Aa,hr,hlt,hlt',hn,wi,h4]
    exact ih (i + 1) (by omega) _ _ (by omega) (by rw [hlv]; exact hz)
   rw [AaL h4] at hlv
   have gi:=fun H=>Nq (v:=z) (by rw [hz]; exact Eo _) (by rw [Dm]; omega) c H
   rw [<- FO,<- hlv] at gi
   simp (maxSteps:=2000000) (disch:=omega) [Ad,Ab,Aa,hr,hlt,hlt',hn,wi,cl (gi _),h4]
   exact ih (i + 1) (by omega) _ _ (by omega) rfl
  | none =>
   have : i = p.length:=by have:=AaM.1 hx; omega
   subst this
   clear ih hx hi
   rw [Aby] at hz
   have hs : IsSl z (Al (CJ (liv p))):=by rw [hz]; exact Eo _
   have hrs:=hs.rules
   have hpw:=Ej ha
   have hsl:=Dm (liv p)
   have hll : (liv p).length <= 800000:=AbF (AbX _ _) hl
   unfold tlF
   generalize liv p = f at *
   simp only [show (Al (CJ f)).length = f.length from by simp [Al,hsl]] at hrs
   have hz1 : zP ([] : List Ce) = .nl 4:=rfl
   generalize hq : CJ f = q at *
   simp (maxSteps:=2000000) (disch:=omega) [Ad,Ab,Aa,hr]
   refine (?key3 : ∀ (j : Nat) (B : List (Nat × List V)),1 <= j -> Run G c64_B2 (S64_2 (.m z) (.m (.i .i64 (j : Int))) B []) _) 1 _ (AaQ _)
   refine Bd (fun j : Nat=>q.length - j) fun j ih B h1j=>?_
   unfold c64_B2
   cases hx : q[j]? with
   | some c =>
    have hlt:=(Aj hx).1
    have hlt2 : j < f.length:=by omega
    have hlt' : (j : Int) < f.length:=by omega
    have wj : wr .i64 ((j : Int) + 1) = (j : Int) + 1:=Aa (by omega) (by omega)
    have wj1 : wr .i64 ((j : Int) - 1) = (j : Int) - 1:=Aa (by omega) (by omega)
    obtain ⟨a,hax⟩ : ∃ a,q[j - 1]? = some a:=⟨q[j - 1]'(by omega),AaK _⟩
    have hn:=Aq hx
    have hna:=Aq hax
    have hltm : (j : Int) - 1 < f.length:=by omega
    have h0m : (0 : Int) <= (j : Int) - 1:=by omega
    have htn : ((j : Int) - 1).toNat = j - 1:=by omega
    have hls : Bm a c = true:=by
     obtain ⟨h1,rfl⟩:=AaI.1 hax
     obtain ⟨h2,rfl⟩:=AaI.1 hx
     exact AbH.1 hpw _ _ h1 h2 (by omega)
    have gb:=fun H=>Gt a c H
    rw [hls] at gb
    simp (maxSteps:=2000000) (disch:=omega) [Ad,Ab,Aa,hrs,hlt2,hlt',hltm,h0m,htn,hn,hna,wj,wj1,cl (gb _)]
    exact ih (j + 1) (by omega) _ (by omega)
   | none =>
    have hj : q.length <= j:=AaM.1 hx
    have hlt' : ¬ (j : Int) < f.length:=by omega
    by_cases h5 : 5000 < f.length
    ·have h5' : (5000 : Int) < f.length:=by omega
     rw [AaN h5,hz1]
     simp (maxSteps:=2000000) (disch:=omega) [Ad,Ab,Aa,hrs,hlt',h5,h5']
    ·have h5' : ¬ (5000 : Int) < f.length:=by omega
     rw [AaL h5,<- hz]
     simp (maxSteps:=2000000) (disch:=omega) [Ad,Ab,Aa,hrs,hlt',h5,h5']
structure Chg where
 x : Int
 y : Int
 f : Int
 t : Int
def Chg.i (c : Chg) : List I:=[.i .i64 c.x,.i .i64 c.y,.i .i64 c.f,.i .i64 c.t]
def AU (l : List Chg) : List (List I):=l.map Chg.i
def Chg.new (c : Chg) : Ce:=⟨c.x,c.y,c.t⟩
def Kv (c : Chg) : Bool:=AG c.x c.y && (decide (0 <= c.f /\ c.f < 8) && (decide (0 <= c.t /\ c.t < 8) && decide (c.f ≠ c.t)))
def EL (a b : Chg) : Bool:=decide (a.y < b.y \/ (a.y = b.y /\ a.x < b.x))
def BE : Option Chg -> List Chg -> Bool
 | _,[]=>true
 | o,c :: r=>Kv c && (match o with | none=>true | some a=>EL a c) && BE (some c) r
def Bv (l : List Chg) : Bool:=decide (l.length <= 10000) && BE none l
def Cf (c : Ce) (d : Chg) : Bool:=decide (c.x = d.x /\ c.y = d.y)
def LA (p : List Ce) (l : List Chg) : List Ce:=(p.filter fun c=>!l.any (Cf c)) ++ liv (l.map Chg.new)
noncomputable def appF (p : List Ce) (l : List Chg) : List Ce × Int:=if Bo p = true /\ Bv l = true then if (l.all fun c=>decide (By p c.x c.y = c.f)) = true then tlF (LA p l) else ([],17) else ([],2)
theorem KC : ∀ {l : List Chg} {o : Option Chg},BE o l = true -> l.Pairwise (fun a b=>EL a b = true) /\ (∀ c,c ∈ l -> Kv c = true) /\ ∀ a,o = some a -> ∀ c,c ∈ l -> EL a c = true
 | [],o,_=>⟨.nil,fun c h=>(by cases h),fun a _ c h=>(by cases h)⟩
 | c :: r,o,h=>by
  unfold BE at h
  simp only [AaJ] at h
  obtain ⟨⟨h1,h2⟩,h3⟩:=h
  obtain ⟨k1,k2,k3⟩:=KC h3
  refine ⟨Abw.2 ⟨fun d hd=>k3 c rfl d hd,k1⟩,fun d hd=>?_,fun a ha d hd=>?_⟩
  ·rcases Abd.1 hd with rfl | hd
   ·exact h1
   ·exact k2 d hd
  ·subst ha
   rcases Abd.1 hd with rfl | hd
   ·exact h2
   ·have:=k3 c rfl d hd
    unfold EL at *
    simp only [AaU] at *
    omega
theorem Fn {l : List Chg} (h : Bv l = true) : l.Pairwise (fun a b=>EL a b = true) /\ (∀ c,c ∈ l -> Kv c = true) /\ l.length <= 10000:=by
 unfold Bv at h
 simp only [AaJ,AaU] at h
 have:=KC h.2
 exact ⟨this.1,this.2.1,h.1⟩
theorem Kq {l : List Chg} (h : l.Pairwise fun a b=>EL a b = true) : (l.map Chg.new).Pairwise apart:=by
 rw [List.pairwise_map]
 exact h.imp fun {a b} g=>by
  unfold EL at g
  show ¬ (a.x = b.x /\ a.y = b.y)
  simp only [AaU] at g
  omega
theorem Hs {c : Chg} (h : Kv c = true) : AG c.new.x c.new.y = true /\ 0 <= c.new.s /\ c.new.s < 8:=by
 unfold Kv at h
 simp only [AaJ,AaU] at h
 exact ⟨h.1,h.2.2.1.1,h.2.2.1.2⟩
theorem RW {p : List Ce} {l : List Chg} (hp : Bo p = true) (hl : Bv l = true) : (∀ c,c ∈ LA p l -> Co c = true) /\ (LA p l).Pairwise apart /\ (LA p l).length <= 15000:=by
 obtain ⟨p1,p2,p3⟩:=Bh hp
 obtain ⟨l1,l2,l3⟩:=Fn hl
 refine ⟨fun c hc=>?_,?_,?_⟩
 ·unfold LA at hc
  rcases AbC.1 hc with hc | hc
  ·exact p2 c (AbS.1 hc).1
  ·obtain ⟨h1,h2⟩:=AbS.1 hc
   obtain ⟨d,hd,rfl⟩:=Abz.1 h1
   obtain ⟨k1,k2,k3⟩:=Hs (l2 d hd)
   simp only [AaU] at h2
   unfold Co
   rw [k1]
   simp
   omega
 ·unfold LA
  rw [AbN]
  refine ⟨(p1.filter _).imp fun {a b} g=>?_,(Kq l1).filter _,fun a ha b hb=>?_⟩
  ·unfold Bm at g
   unfold apart
   simp only [AaU] at g
   omega
  ·obtain ⟨_,h2⟩:=AbS.1 ha
   obtain ⟨h3,_⟩:=AbS.1 hb
   obtain ⟨d,hd,rfl⟩:=Abz.1 h3
   rintro ⟨e1,e2⟩
   simp only [Abi,List.any_eq_false] at h2
   refine h2 d hd ?_
   unfold Cf
   exact AaP ⟨e1,e2⟩
 ·unfold LA
  rw [AaX]
  have h1 : (p.filter fun c=>!l.any (Cf c)).length <= p.length:=AbX _ _
  have h2 : (liv (l.map Chg.new)).length <= (l.map Chg.new).length:=AbX _ _
  rw [Abe] at h2
  omega
theorem TD (p : List Ce) (l : List Chg) (hp : ∀ c,c ∈ p -> Co c = true) : (liv (l.map Chg.new ++ p.filter fun c=>!l.any (Cf c))).Perm (LA p l):=by
 unfold liv LA
 rw [AbT]
 have : (List.filter (fun c=>decide (0 < c.s)) (p.filter fun c=>!l.any (Cf c))) = p.filter fun c=>!l.any (Cf c):=by
  rw [List.filter_eq_self]
  intro c hc
  have:=Fs (hp c (AbS.1 hc).1)
  exact AaP (by omega)
 rw [this]
 exact List.perm_append_comm
/- A map of positions. -/
def atP (x y : Int) (c : Ce) : Bool:=decide (c.x = x /\ c.y = y)
def KH (d : Ce) : List Ce -> List Ce
 | []=>[d]
 | c :: r=>if c.x = d.x /\ c.y = d.y then d :: r else c :: KH d r
def RQ (x y : Int) : List Ce -> List Ce
 | []=>[]
 | c :: r=>if c.x = x /\ c.y = y then r else c :: RQ x y r
def Dk (Q : List Ce) (c : Chg) : List Ce:=if c.t = 0 then RQ c.x c.y (KH c.new Q) else KH c.new Q
theorem Kd (d : Ce) : ∀ {Q : List Ce},Q.Pairwise apart -> (KH d Q).Perm ((Q.filter fun c=>!atP d.x d.y c) ++ [d])
 | [],_=>.refl _
 | c :: r,h=>by
  obtain ⟨h1,h2⟩:=Abw.1 h
  unfold KH
  by_cases hc : c.x = d.x /\ c.y = d.y
  ·rw [AaN hc]
   have e1 : atP d.x d.y c = true:=AaP hc
   have e2 : r.filter (fun c=>!atP d.x d.y c) = r:=by
    rw [List.filter_eq_self]
    intro e he
    have:=h1 e he
    unfold apart at this
    simp only [Abi,atP,decide_eq_false_iff_not]
    intro g
    exact this ⟨hc.1.trans g.1.symm,hc.2.trans g.2.symm⟩
   rw [List.filter_cons,e1]
   simp only [Bool.not_true,AbO,if_false]
   rw [e2]
   exact (List.perm_append_singleton d r).symm
  ·rw [AaL hc]
   have e1 : atP d.x d.y c = false:=AaO hc
   rw [List.filter_cons,e1]
   simp only [Bool.not_false,if_true,AbQ]
   exact (Kd d h2).cons c
theorem RP (x y : Int) : ∀ {Q : List Ce},Q.Pairwise apart -> RQ x y Q = Q.filter fun c=>!atP x y c
 | [],_=>rfl
 | c :: r,h=>by
  obtain ⟨h1,h2⟩:=Abw.1 h
  unfold RQ
  by_cases hc : c.x = x /\ c.y = y
  ·rw [AaN hc]
   have e1 : atP x y c = true:=AaP hc
   rw [List.filter_cons,e1]
   simp only [Bool.not_true,AbO,if_false]
   symm
   rw [List.filter_eq_self]
   intro e he
   have:=h1 e he
   unfold apart at this
   simp only [Abi,atP,decide_eq_false_iff_not]
   intro g
   exact this ⟨hc.1.trans g.1.symm,hc.2.trans g.2.symm⟩
  ·rw [AaL hc]
   have e1 : atP x y c = false:=AaO hc
   rw [List.filter_cons,e1]
   simp only [Bool.not_false,if_true]
   rw [RP x y h2]
theorem TZ {Q : List Ce} (h : Q.Pairwise apart) (d : Ce) : ((Q.filter fun c=>!atP d.x d.y c) ++ [d]).Pairwise apart:=by
 rw [AbN]
 refine ⟨h.filter _,List.pairwise_singleton ..,fun a ha b hb=>?_⟩
 simp only [Abn] at hb
 subst hb
 have:=(AbS.1 ha).2
 simp only [Abi,atP,decide_eq_false_iff_not] at this
 exact this
def Np (l : List Ce) : List Ce:=l.filter fun c=>decide (c.s ≠ 0)
theorem Oq {Q : List Ce} (h : Q.Pairwise apart) (c : Chg) : (Dk Q c).Perm ((Q.filter fun d=>!Cf d c) ++ Np [c.new]) /\ (Dk Q c).Pairwise apart:=by
 have e0 : (fun d : Ce=>!Cf d c) = fun d=>!atP c.new.x c.new.y d:=rfl
 have hu:=Kd c.new h
 have hua:=BR hu (TZ h c.new)
 unfold Dk
 by_cases ht : c.t = 0
 ·rw [AaN ht]
  have hd : RQ c.x c.y (KH c.new Q) = (KH c.new Q).filter fun d=>!atP c.new.x c.new.y d:=RP _ _ hua
  rw [hd]
  refine ⟨?_,hua.filter _⟩
  refine (hu.filter _).trans ?_
  rw [AbT,List.filter_filter,e0]
  have e1 : (List.filter (fun d=>!atP c.new.x c.new.y d) [c.new]) = []:=by
   rw [List.filter_cons]
   simp [atP]
  have e2 : Np [c.new] = []:=by
   unfold Np
   rw [List.filter_cons]
   have : c.new.s = 0:=ht
   simp [this]
  rw [e1,e2]
  simp only [Bool.and_self]
  exact .refl _
 ·rw [AaL ht]
  refine ⟨?_,hua⟩
  have e2 : Np [c.new] = [c.new]:=by
   unfold Np
   rw [List.filter_cons]
   have : c.new.s ≠ 0:=ht
   simp [this]
  rw [e2,e0]
  exact hu
theorem IW (d : Ce) (x y : Int) (h : ¬ (d.x = x /\ d.y = y)) : ∀ Q : List Ce,By (KH d Q) x y = By Q x y
 | []=>by
  show (if d.x = x /\ d.y = y then d.s else 0) = 0
  rw [AaL h]
 | c :: r=>by
  unfold KH
  by_cases hc : c.x = d.x /\ c.y = d.y
  ·rw [AaN hc]
   show (if d.x = x /\ d.y = y then d.s else By r x y) = if c.x = x /\ c.y = y then c.s else By r x y
   rw [AaL h,AaL (by rw [hc.1,hc.2]; exact h)]
  ·rw [AaL hc]
   show (if c.x = x /\ c.y = y then c.s else By (KH d r) x y) = if c.x = x /\ c.y = y then c.s else By r x y
   rw [IW d x y h r]
theorem Nt (u v x y : Int) (h : ¬ (u = x /\ v = y)) : ∀ Q : List Ce,By (RQ u v Q) x y = By Q x y
 | []=>rfl
 | c :: r=>by
  unfold RQ
  by_cases hc : c.x = u /\ c.y = v
  ·rw [AaN hc]
   show By r x y = if c.x = x /\ c.y = y then c.s else By r x y
   rw [AaL (by rw [hc.1,hc.2]; exact h)]
  ·rw [AaL hc]
   show (if c.x = x /\ c.y = y then c.s else By (RQ u v r) x y) = if c.x = x /\ c.y = y then c.s else By r x y
   rw [Nt u v x y h r]
theorem RE (Q : List Ce) (c : Chg) (x y : Int) (h : ¬ (c.x = x /\ c.y = y)) : By (Dk Q c) x y = By Q x y:=by
 unfold Dk
 split
 ·rw [Nt _ _ _ _ h]
  exact IW c.new x y h Q
 ·exact IW c.new x y h Q
theorem Kw (x y : Int) : ∀ (l : List Chg) (Q : List Ce),(∀ c,c ∈ l -> ¬ (c.x = x /\ c.y = y)) -> By (l.foldl Dk Q) x y = By Q x y
 | [],_,_=>rfl
 | c :: r,Q,h=>by
  rw [List.foldl_cons,Kw x y r _ fun d hd=>h d (by simp [hd])]
  exact RE Q c x y (h c (by simp))
theorem Kx : ∀ {l : List Chg} {Q : List Ce},Q.Pairwise apart -> (l.map Chg.new).Pairwise apart -> (l.foldl Dk Q).Perm ((Q.filter fun c=>!l.any (Cf c)) ++ Np (l.map Chg.new)) /\ (l.foldl Dk Q).Pairwise apart
 | [],Q,h,_=>by
  refine ⟨?_,h⟩
  have : Q.filter (fun c=>!List.any [] (Cf c)) = Q:=by rw [List.filter_eq_self]; intro _ _; rfl
  rw [this]
  show Q.Perm (Q ++ [])
  rw [AbI]
 | c :: r,Q,h,hl=>by
  rw [Abr,Abw] at hl
  obtain ⟨h1,h2⟩:=hl
  obtain ⟨s1,s2⟩:=Oq h c
  obtain ⟨k1,k2⟩:=Kx (l:=r) s2 h2
  refine ⟨?_,k2⟩
  rw [List.foldl_cons]
  refine k1.trans ?_
  have e1:=s1.filter fun d=>!r.any (Cf d)
  rw [AbT,List.filter_filter] at e1
  have e2 : (Np [c.new]).filter (fun d=>!r.any (Cf d)) = Np [c.new]:=by
   rw [List.filter_eq_self]
   intro d hd
   have hd : d ∈ [c.new]:=(AbS.1 hd).1
   simp only [Abn] at hd
   subst hd
   simp only [Abi,List.any_eq_false]
   intro g hg
   have:=h1 g.new (List.mem_map_of_mem hg)
   unfold apart at this
   unfold Cf
   simp only [AaU]
   exact this
  rw [e2] at e1
  have e3 : Q.filter (fun d=>!List.any (c :: r) (Cf d)) = Q.filter fun d=>(!r.any (Cf d)) && !Cf d c:=by
   congr 1
   funext d
   rw [List.any_cons,Bool.not_or,Bool.and_comm]
  have e4 : Np (List.map Chg.new (c :: r)) = Np [c.new] ++ Np (r.map Chg.new):=by
   rw [Abr]
   unfold Np
   rw [<- AbT]
   rfl
  rw [e3,e4,<- AbG]
  exact e1.append_right _
theorem TT {p : List Ce} {l : List Chg} (hp : Bo p = true) (hl : Bv l = true) : (l.foldl Dk p).Perm (LA p l):=by
 obtain ⟨p1,p2,_⟩:=Bh hp
 obtain ⟨l1,l2,_⟩:=Fn hl
 have:=(Kx (l:=l) (Q:=p) (p1.imp fun {a b} g=>by
  unfold Bm at g
  unfold apart
  simp only [AaU] at g
  omega) (Kq l1)).1
 have e : Np (l.map Chg.new) = liv (l.map Chg.new):=by
  unfold Np liv
  refine List.filter_congr fun c hc=>?_
  obtain ⟨d,hd,rfl⟩:=Abz.1 hc
  have:=Hs (l2 d hd)
  rw [Abu]
  simp only [AaU]
  omega
 rw [e] at this
 exact this
theorem RB {p : List Ce} {l : List Chg} (hl : Bv l = true) {i : Nat} {c : Chg} (hc : l[i]? = some c) : By ((l.take i).foldl Dk p) c.x c.y = By p c.x c.y:=by
 obtain ⟨l1,_,_⟩:=Fn hl
 refine Kw _ _ _ _ fun d hd=>?_
 obtain ⟨j,hj⟩:=AbW.1 hd
 have hji : j < i:=by
  have:=(AaI.1 hj).1
  rw [AaW] at this
  omega
 rw [List.getElem?_take_of_lt hji] at hj
 obtain ⟨g1,rfl⟩:=AaI.1 hj
 obtain ⟨g2,rfl⟩:=AaI.1 hc
 have:=AbH.1 l1 _ _ g1 g2 hji
 unfold EL at this
 simp only [AaU] at this
 omega
end Go.Mx.Tryz
namespace Go.Mx.Tryz
theorem optN (k : Nat) (H : Hp) : ∀ m : List Int,Ai (fun e=>Ai (view (k + 1) H) e) (Bf m) = some (DU m)
 | []=>rfl
 | x :: r=>by
  show Option.bind (some [I.i .i64 x]) _ = _
  simp only [AaR]
  have:=optN k H r
  show Option.bind (Ai _ (Bf r)) _ = _
  rw [this]
  rfl
theorem QR (l : List Int) (a n : Nat) : ((Bf l).drop a).take n = Bf ((l.drop a).take n):=by
 unfold Bf; rw [List.map_take,List.map_drop]
theorem Aas {H : Hp} {r ver st len base : Nat} {lim fz : Bool} {l : List Int} (h : nth H r = some (.cs 3 1 (Bf l) base fz)) (hb : base <= ver) : elems H (.sl r ver 1 st len lim) = some (Bf ((l.drop st).take len)):=by
 show Option.bind (nth H r) _ = _
 rw [h]
 show gd (Nat.ble base ver && Nat.beq 1 1) (some (((Bf l).drop st).take len)) = _
 rw [Cr,AaP hb,QR]
 rfl
theorem Tv {H : Hp} {r ver st len base : Nat} {lim fz : Bool} {l : List Int} (h : nth H r = some (.cs 3 1 (Bf l) base fz)) (hb : base <= ver) (k : Nat) : view (k + 2) H (.sl r ver 1 st len lim) = some (.sl (DU ((l.drop st).take len))):=by
 show Option.bind (elems H (.sl r ver 1 st len lim)) _ = _
 rw [Aas h hb]
 show Option.bind (Ai _ (Bf _)) _ = _
 rw [optN]
 rfl
open Go.Lib Go.Proofs
def AaB (acc : List Int) (o : V) (H : Hp) : Prop:=(acc = [] /\ o = .m (.nl 4) /\ H = []) \/ (acc ≠ [] /\ o = .sl 0 acc.length 1 0 acc.length false /\ H = [.cs 3 1 (Bf acc) 0 false])
theorem Rt {acc : List Int} {o : V} {H : Hp} (h : AaB acc o H) (hl : acc.length <= 1000000) (x : Int) : ∃ o1 H1,(∀ B,EG ⟨B,H⟩ 3 1 8 o [[.m (.i .i64 x)]] = some (o1,⟨B,H1⟩)) /\ AE o1 = true /\ AaB (acc ++ [x]) o1 H1:=by
 rcases h with ⟨rfl,rfl,rfl⟩ | ⟨hne,rfl,rfl⟩
 ·exact ⟨_,_,fun B=>rfl,rfl,.inr ⟨by simp,rfl,rfl⟩⟩
 ·have ha:=fun B=>Hu (M:=⟨B,[.cs 3 1 (Bf acc) 0 false]⟩) (r:=0) (bytes:=8) (xs:=[[.m (.i .i64 x)]]) rfl (by simp) (by simp [EU]; omega) (by simp [Bf])
  simp only [EU,AbD,AbP,Nat.zero_add,NL,List.set_cons_zero] at ha
  exact ⟨_,_,ha,rfl,.inr ⟨by simp,by simp,rfl⟩⟩
theorem WT {acc : List Int} {o : V} {H : Hp} (h : AaB acc o H) : AE o = true:=by
 rcases h with ⟨_,rfl,_⟩ | ⟨_,rfl,_⟩ <;> rfl
theorem Ru {F : Nat} {acc : List Int} {o x : V} {t0 : I} {H : Hp} (hp : G.prim F = none) (hs : G.sh F = false) (ho : AaB acc o H) (h : ∀ w H,IsSl w (DU acc) -> Gives G F [.m t0,.m w] H x H) (hf : Hy x = true) : Gives G F [.m t0,o] H x H:=by
 rcases ho with ⟨rfl,rfl,rfl⟩ | ⟨hne,rfl,rfl⟩
 ·exact h _ [] AR
 ·refine AX (is:=[t0,.sl (DU acc)]) hp hs (h _ [] (BF _)) ?_ (.inr ⟨by simp [DG,Fy],hf⟩)
  have:=Tv (r:=0) (ver:=acc.length) (st:=0) (len:=acc.length) (lim:=false) (base:=0) (fz:=false) (l:=acc) (H:=[Row.cs 3 1 (Bf acc) 0 false]) rfl (AaT _) 18
  rw [AbV,Abc (AaQ _)] at this
  show Option.bind (some _) (fun _=>Option.bind (Option.bind (view 20 _ _) _) _) = _
  rw [this]
  rfl
end Go.Mx.Tryz
