/- Rows of strings. -/
import Derived.Test.YtlhjjcaifenlbaaGreatDoorEg
import Derived.Test.YtlhjjcaifenlbaaGreatDoorSeav
import Derived.Test.YtlhjjcaifenlbaaGreatDoorLaw
import Derived.Test.YtlhjjcaifenlbaaGreatDoorWb
set_option linter.unusedSimpArgs false
set_option linter.unusedVariables false
set_option linter.unusedSectionVars false
set_option maxRecDepth 1000000
namespace Go.Mx.Tryz
open Go.Proofs
def iE (n : Int) : I:=.i .i64 n
def vE2 : I:=.ag [.sl [[.sl [[iE 0,iE 0,iE 1]],iE 1,iE 1,iE 0]],.sl [[iE 0,iE 0,iE 0,iE 0,iE 0]],iE 3,.sl [[iE 3,iE 0,iE 1]]]
def vE1 : I:=.ag [iE 2,.sl [[iE (-1),iE 0],[iE 0,iE 0],[iE 1,iE 0]],.sl [[iE 1,.sl [[iE 0],[iE 0]]],[iE 1,.sl [[iE 0],[iE 1]]],[iE 2,.sl [[iE 0],[iE 1]]],[iE 1,.sl [[iE 1],[iE 1]]],[iE 2,.sl [[iE 3],[iE 1]]],[iE 3,.sl [[iE 2],[iE 4]]]]]
def T1 : List Ent:=⟨104,[vE1],.m (.b true)⟩ :: []
theorem t1_ok : Cq G T1:=BL mono (Qo G) (n:=100000) (by kernel_rfl)
def T2 : List Ent:=⟨82,[vE1,.sl [[iE 0,iE 0,iE 1]]],.tu [.m (.sl [[iE 1,iE 0,iE 1]]),.m (iE 0)]⟩ :: T1
theorem t2_ok : Cq G T2:=BL mono t1_ok (n:=100000) (by kernel_rfl)
def T3 : List Ent:=⟨136,[vE1,.sl [[iE 0,iE 0,iE 1]],iE 1],.tu [.m (.ag [iE 1,iE 1,iE 0]),.m (.b true),.m (iE 0)]⟩ :: T2
theorem t3_ok : Cq G T3:=BL mono t2_ok (n:=100000) (by kernel_rfl)
def T4 : List Ent:=⟨86,[vE1,.ag [.sl [[iE 0,iE 0,iE 1]],iE 1,iE 1,iE 0],iE 0],.tu [.m (.sl [[iE 0,iE 0,iE 1]]),.m (iE 0)]⟩ :: T3
theorem t4_ok : Cq G T4:=BL mono t3_ok (n:=100000) (by kernel_rfl)
def T5 : List Ent:=⟨45,[vE1,.sl [[.sl [[iE 0,iE 0,iE 1]],iE 1,iE 1,iE 0]],.ag [iE 0,iE 0,iE 0,iE 0,iE 0]],.tu [.m (.sl [[iE 0,iE 0,iE 1]]),.m (iE 0)]⟩ :: T4
theorem t5_ok : Cq G T5:=BL mono t4_ok (n:=100000) (by kernel_rfl)
def T6 : List Ent:=⟨34,[vE1,vE2],.tu [.m (.sl [[.sl [[iE 0,iE 0,iE 1]]]]),.m (iE 0)]⟩ :: T5
theorem t6_ok : Cq G T6:=BL mono t5_ok (n:=100000) (by kernel_rfl)
def T7 : List Ent:=⟨82,[vE1,.sl [[iE 1,iE 0,iE 1]]],.tu [.m (.sl [[iE 2,iE 0,iE 1]]),.m (iE 0)]⟩ :: T6
theorem t7_ok : Cq G T7:=BL mono t6_ok (n:=100000) (by kernel_rfl)
def T8 : List Ent:=⟨82,[vE1,.sl [[iE 2,iE 0,iE 1]]],.tu [.m (.sl [[iE 3,iE 0,iE 1]]),.m (iE 0)]⟩ :: T7
theorem t8_ok : Cq G T8:=BL mono t7_ok (n:=100000) (by kernel_rfl)
def T9 : List Ent:=⟨15,[vE1,vE2],.m (iE 0)⟩ :: T8
theorem t9_ok : Cq G T9:=BL mono t8_ok (n:=100000) (by kernel_rfl)
def T10 : List Ent:=⟨45,[vE1,.sl [[.sl [[iE 0,iE 0,iE 1]],iE 1,iE 1,iE 0]],.ag [iE 0,iE 0,iE 0,iE (-5),iE 0]],.tu [.m (.sl [[iE (-5),iE 0,iE 1]]),.m (iE 0)]⟩ :: T9
theorem Acj : Cq G T10:=BL mono t9_ok (n:=100000) (by kernel_rfl)
def T11 : List Ent:=⟨60,[vE1,.sl [[.sl [[iE 0,iE 0,iE 1]],iE 1,iE 1,iE 0]],.ag [iE 0,iE 0,iE 0,iE 0,iE 0],iE 5],.tu [.m (.ag [iE 0,iE 0,iE 0,iE (-5),iE 0]),.m (iE 0)]⟩ :: T10
theorem Aci : Cq G T11:=BL mono Acj (n:=100000) (by kernel_rfl)
def T12 : List Ent:=⟨82,[vE1,.sl [[iE (-5),iE 0,iE 1]]],.tu [.m (.sl [[iE (-4),iE 0,iE 1]]),.m (iE 0)]⟩ :: T11
theorem Ach : Cq G T12:=BL mono Aci (n:=100000) (by kernel_rfl)
def T13 : List Ent:=⟨82,[vE1,.sl [[iE (-4),iE 0,iE 1]]],.tu [.m (.sl [[iE (-3),iE 0,iE 1]]),.m (iE 0)]⟩ :: T12
theorem Acg : Cq G T13:=BL mono Ach (n:=100000) (by kernel_rfl)
def T14 : List Ent:=⟨82,[vE1,.sl [[iE (-3),iE 0,iE 1]]],.tu [.m (.sl [[iE (-2),iE 0,iE 1]]),.m (iE 0)]⟩ :: T13
theorem Acf : Cq G T14:=BL mono Acg (n:=100000) (by kernel_rfl)
def T15 : List Ent:=⟨82,[vE1,.sl [[iE (-2),iE 0,iE 1]]],.tu [.m (.sl [[iE (-1),iE 0,iE 1]]),.m (iE 0)]⟩ :: T14
theorem Ace : Cq G T15:=BL mono Acf (n:=100000) (by kernel_rfl)
def T16 : List Ent:=⟨82,[vE1,.sl [[iE (-1),iE 0,iE 1]]],.tu [.m (.sl [[iE 0,iE 0,iE 1]]),.m (iE 0)]⟩ :: T15
theorem Acd : Cq G T16:=BL mono Ace (n:=100000) (by kernel_rfl)
def T17 : List Ent:=⟨45,[vE1,.sl [[.sl [[iE 0,iE 0,iE 1]],iE 1,iE 1,iE 0],[.sl [[iE 0,iE 0,iE 1]],iE 1,iE 1,iE 0]],.ag [iE 0,iE 0,iE 0,iE 0,iE 0]],.tu [.m (.sl [[iE 0,iE 0,iE 1]]),.m (iE 0)]⟩ :: T16
theorem Acc : Cq G T17:=BL mono Acd (n:=100000) (by kernel_rfl)
theorem Zu : Gives G 12 [] [] (.m (.b true)) []:=XY mono Acc (n:=100000) (by kernel_rfl)
end Go.Mx.Tryz
set_option maxRecDepth 100000
namespace Go.Mx.Tryz
structure Ce where
 x : Int
 y : Int
 s : Int
def Ce.i (c : Ce) : List I:=[.i .i64 c.x,.i .i64 c.y,.i .i64 c.s]
def Af (p : List Ce) : List (List I):=p.map Ce.i
@[simp] theorem PS (p : List Ce) : (Af p).length = p.length:=by simp [Af]
theorem An {p : List Ce} {i : Nat} {c : Ce} (h : p[i]? = some c) : nth (Af p) i = some [.i .i64 c.x,.i .i64 c.y,.i .i64 c.s]:=by
 rw [AS]
 simp [Af,h,Ce.i]
def AF (x y : Int) : Bool:=decide (-1048576 <= x /\ x <= 1048576 /\ -1048576 <= y /\ y <= 1048576)
def AO (a b : Ce) : Bool:=decide (a.y < b.y \/ (a.y = b.y /\ a.x < b.x))
def Cr (c : Ce) : Bool:=AF c.x c.y && decide (1 <= c.s) && decide (c.s < 8)
def CS : Option Ce -> List Ce -> Bool
 | _,[]=>true
 | none,c :: r=>Cr c && CS (some c) r
 | some a,c :: r=>Cr c && AO a c && CS (some c) r
def AL (p : List Ce) : Bool:=decide (p.length <= 5000) && CS none p
theorem GV (x y : Int) (H : Hp) : Gives G 66 [.m (.ag [.i .i64 x,.i .i64 y])] H (.m (.b (AF x y))) H:=by
 refine Ae rfl rfl rfl rfl rfl ?_
 simp (contextual:=true) [Aj,-Int.not_lt,-Int.not_le,-Nat.not_lt,-Nat.not_le,-List.map_take,AF]
 grind
theorem GW (x y : Int) (H : Hp) : Gives G 78 [.m (.i .i64 x),.m (.i .i64 y)] H (.m (.b (AF x y))) H:=by
 refine Ae rfl rfl rfl rfl rfl ?_
 simp (contextual:=true) [Aj,-Int.not_lt,-Int.not_le,-Nat.not_lt,-Nat.not_le,-List.map_take,AF]
theorem ZF (c : Ce) (H : Hp) : Gives G 67 [.m (.ag [.i .i64 c.x,.i .i64 c.y,.i .i64 c.s])] H (.m (.ag [.i .i64 c.x,.i .i64 c.y])) H:=by
 refine Ae rfl rfl rfl rfl rfl ?_
 simp
theorem nan_s (x : Int) (H : Hp) : Gives G 177 [.m (.i .i64 x)] H (.m (.b false)) H:=by
 refine Ae rfl rfl rfl rfl rfl ?_
 simp
def DE (x y : Int) : Int:=if x < y then -1 else if y < x then 1 else 0
theorem AcZ (x y : Int) (H : Hp) : Gives G 149 [.m (.i .i64 x),.m (.i .i64 y)] H (.m (.i .i64 (DE x y))) H:=by
 refine Ae rfl rfl rfl rfl rfl ?_
 simp (contextual:=true) [Ai,-Int.not_lt,-Int.not_le,-Nat.not_lt,-Nat.not_le,-List.map_take,cl (nan_s _ _),DE]
theorem AcD (a b : Int) (H : Hp) : Gives G 148 [.m (.sl [[.i .i64 a],[.i .i64 b]])] H (.m (.i .i64 (if a = 0 then b else a))) H:=by
 refine Ae rfl rfl rfl rfl rfl ?_
 simp (contextual:=true) [Ai,-Int.not_lt,-Int.not_le,-Nat.not_lt,-Nat.not_le,-List.map_take,Aa,c148_B0]
def JX (x y z w : Int) : Int:=if DE y w = 0 then DE x z else DE y w
theorem Wv (x y z w : Int) (H : Hp) : Gives G 110 [.m (.ag [.i .i64 x,.i .i64 y]),.m (.ag [.i .i64 z,.i .i64 w])] H (.m (.i .i64 (JX x y z w))) H:=by
 refine Ae rfl rfl rfl rfl rfl ?_
 have hv:=AT (vs:=[.ls [[.i .i64 (DE y w)],[.i .i64 (DE x z)]]]) (H:=[]) rfl rfl (AcD (DE y w) (DE x z) []) rfl (.inl ⟨rfl,rfl⟩)
 simp [cl (AcZ _ _ _),cl hv,JX]
theorem SO (a b : Ce) (H : Hp) : Gives G 69 [.m (.ag [.i .i64 a.x,.i .i64 a.y,.i .i64 a.s]),.m (.ag [.i .i64 b.x,.i .i64 b.y,.i .i64 b.s])] H (.m (.i .i64 (JX a.x a.y b.x b.y))) H:=by
 refine Ae rfl rfl rfl rfl rfl ?_
 simp [cl (ZF _ _),cl (Wv _ _ _ _ _)]
theorem Ts (a b : Ce) : (0 <= JX a.x a.y b.x b.y) ↔ AO a b = false:=by
 unfold AO JX DE
 grind
theorem JZ (a b : Ce) (H : Hp) : Gives G 80 [.m (.ag [.i .i64 a.x,.i .i64 a.y,.i .i64 a.s]),.m (.ag [.i .i64 b.x,.i .i64 b.y,.i .i64 b.s])] H (.m (.b (AO a b))) H:=by
 refine Ae rfl rfl rfl rfl rfl ?_
 simp (contextual:=true) [Aj,-Int.not_lt,-Int.not_le,-Nat.not_lt,-Nat.not_le,-List.map_take,AO]
def Kc (p : List Ce) : Nat -> Option Ce
 | 0=>none
 | i + 1=>p[i]?
theorem Jj {p : List Ce} {i : Nat} {c : Ce} (hx : p[i]? = some c) (hi : ∀ j,i = j + 1 -> j < p.length) : CS (Kc p i) (c :: p.drop (i + 1)) = (Cr c && (match Kc p i with | none=>true | some a=>AO a c) && CS (Kc p (i + 1)) (p.drop (i + 1))):=by
 have : Kc p (i + 1) = some c:=hx
 rw [this]
 cases Kc p i with
 | none=>show (Cr c && CS (some c) _) = _; simp
 | some a=>show (Cr c && AO a c && CS (some c) _) = _; simp
theorem CI {v : I} {p : List Ce} (hv : IsSl v (Af p)) (hl : (p.length : Int) <= 9223372036854775807) (H : Hp) : Gives G 62 [.m v] H (.m (.b (AL p))) H:=by
 refine Ae rfl rfl rfl rfl rfl ?_
 simp (contextual:=true) [Ai,-Int.not_lt,-Int.not_le,-Nat.not_lt,-Nat.not_le,-List.map_take,hv.rules]
 refine ⟨fun h=>?_,fun h=>?_⟩
 ·unfold AL
  grind
 refine (?key : ∀ (i : Nat) (B : List (Nat × List V)),i <= p.length -> AL p = CS (Kc p i) (p.drop i) -> Run G c62_B0 (S62_0 (.m v) (.m v) (.m (.i .i64 p.length)) (.m (.i .i64 i)) B []) _) 0 [] (Adz _) ?_
 case key =>
  refine Bi (fun i : Nat=>p.length - i) fun i ih B hi hr=>?_
  unfold c62_B0
  cases hx : p[i]? with
  | none =>
   have : i = p.length:=by have:=Adv.1 hx; omega
   subst this
   have : CS (Kc p p.length) [] = true:=by cases Kc p p.length <;> rfl
   simp [hr,this]
  | some c =>
   have hlt:=(Al hx).1
   have hn:=An hx
   rw [(Al hx).2,Jj hx (by omega)] at hr
   have hg : Cr c = (AF c.x c.y && decide (1 <= c.s) && decide (c.s < 8)):=rfl
   cases i with
   | zero =>
    simp (contextual:=true) (maxSteps:=2000000) (disch:=omega) [Ai,Aj,Ad,-Int.not_lt,-Int.not_le,-Nat.not_lt,-Nat.not_le,-List.map_take,hv.rules,hn,hlt,cl (ZF _ _),cl (GV _ _ _),Aa]
    repeat' first | with_reducible apply And.intro | intro _
    all_goals first
     | (refine ih 1 (by omega) _ (by omega) ?_; grind [Kc])
     | grind [Kc]
   | succ j =>
    obtain ⟨c0,hx0⟩ : ∃ c0,p[j]? = some c0:=⟨p[j],Adt (by omega)⟩
    have hn0:=An hx0
    have e3 : (j : Int) + 1 < p.length:=by omega
    have e4 : (j : Int) < p.length:=by omega
    have e6 : (0 : Int) <= j + 1:=by omega
    have e7 : ((j : Int) + 1).toNat = j + 1:=by omega
    have hp0 : Kc p (j + 1) = some c0:=hx0
    simp only [hp0] at hr
    simp (contextual:=true) (maxSteps:=2000000) (disch:=omega) [Ai,Aj,Ad,-Int.not_lt,-Int.not_le,-Nat.not_lt,-Nat.not_le,-List.map_take,hv.rules,hn,hn0,e3,e7,cl (ZF _ _),cl (GV _ _ _),cl (SO _ _ _),Aa,Ts]
    repeat' first | with_reducible apply And.intro | intro _
    all_goals first
     | (refine ih (j + 2) (by omega) _ (by omega) ?_; grind)
     | grind
 ·have : p.length <= 5000:=by omega
  simp [AL,this,Kc]
theorem Fj {v : I} {p : List Ce} (hv : IsSl v (Af p)) (hl : (p.length : Int) <= 9223372036854775807) (H : Hp) : Gives G 72 [.m v] H (.m (.b (AL p))) H:=by
 refine Ae rfl rfl rfl rfl rfl ?_
 simp (contextual:=true) (maxSteps:=2000000) (disch:=omega) [-Int.not_lt,-Int.not_le,-Nat.not_lt,-Nat.not_le,-List.map_take]
 refine (?key : ∀ (i : Nat) (B : List (Nat × List V)),i <= p.length -> CS none p = CS (Kc p i) (p.drop i) -> Run G c72_B0 (S72_0 (.m v) (.m (.i .i64 i)) B []) _) 0 [] (Adz _) rfl
 refine Bi (fun i : Nat=>p.length - i) fun i ih B hi hr=>?_
 unfold c72_B0
 have hR : AL p = (decide (p.length <= 5000) && CS none p):=rfl
 cases hx : p[i]? with
 | none =>
  have : i = p.length:=by have:=Adv.1 hx; omega
  subst this
  have : CS (Kc p p.length) [] = true:=by cases Kc p p.length <;> rfl
  simp [hv.rules,hR,hr,this]
  omega
 | some c =>
  have hlt:=(Al hx).1
  have hn:=An hx
  rw [(Al hx).2,Jj hx (by omega)] at hr
  have hg : Cr c = (AF c.x c.y && decide (1 <= c.s) && decide (c.s < 8)):=rfl
  cases i with
  | zero =>
   simp (contextual:=true) (maxSteps:=2000000) (disch:=omega) [Ai,Aj,Ad,-Int.not_lt,-Int.not_le,-Nat.not_lt,-Nat.not_le,-List.map_take,hv.rules,hn,hlt,cl (GW _ _ _),Aa]
   repeat' first | with_reducible apply And.intro | intro _
   all_goals first
    | (refine ih 1 (by omega) _ (by omega) ?_; grind [Kc])
    | grind [Kc]
  | succ j =>
   obtain ⟨c0,hx0⟩ : ∃ c0,p[j]? = some c0:=⟨p[j],Adt (by omega)⟩
   have hn0:=An hx0
   have e3 : (j : Int) + 1 < p.length:=by omega
   have e4 : (j : Int) < p.length:=by omega
   have e6 : (0 : Int) <= j + 1:=by omega
   have e7 : ((j : Int) + 1).toNat = j + 1:=by omega
   have hp0 : Kc p (j + 1) = some c0:=hx0
   simp only [hp0] at hr
   simp (contextual:=true) (maxSteps:=2000000) (disch:=omega) [Ai,Aj,Ad,-Int.not_lt,-Int.not_le,-Nat.not_lt,-Nat.not_le,-List.map_take,hv.rules,hn,hn0,e3,e7,cl (JZ _ _ _),cl (GW _ _ _),Aa]
   repeat' first | with_reducible apply And.intro | intro _
   all_goals first
    | (refine ih (j + 2) (by omega) _ (by omega) ?_; grind)
    | grind
theorem BH {B n : Nat} {l : List I} (h : Fits Go.Proofs.Tryz.prog B (n + 1) 3 l) : ∃ x : Int,l = [.i .i64 x] /\ -9223372036854775808 <= x /\ x <= 9223372036854775807:=by
 unfold Fits at h
 rw [Go.Proofs.Tryz.underlying3] at h
 simp only at h
 obtain ⟨x,rfl,hx⟩:=h
 have e1 : IntKind.i64.min = -9223372036854775808:=by decide
 have e2 : IntKind.i64.max = 9223372036854775807:=by decide
 rw [e1,e2] at hx
 exact ⟨x,rfl,hx⟩
theorem VK {B n : Nat} {l : List I} (h : Fits Go.Proofs.Tryz.prog B (n + 2) 73 l) : ∃ d : Ce,l = d.i:=by
 unfold Fits at h
 rw [Go.Proofs.Tryz.underlying73] at h
 simp only [FitsF] at h
 obtain ⟨x1,y1,rfl,k1,x2,y2,rfl,k2,x3,y3,rfl,k3,rfl⟩:=h
 obtain ⟨u,rfl,_⟩:=BH k1
 obtain ⟨v,rfl,_⟩:=BH k2
 obtain ⟨w,rfl,_⟩:=BH k3
 exact ⟨⟨u,v,w⟩,rfl⟩
theorem Tn {es : List (List I)} (h : ∀ x,x ∈ es -> ∃ d : Ce,x = d.i) : ∃ p : List Ce,es = Af p:=by
 induction es with
 | nil=>exact ⟨[],rfl⟩
 | cons x r ih =>
  obtain ⟨d,rfl⟩:=h x (by simp)
  obtain ⟨p,rfl⟩:=ih fun x hx=>h x (by simp [hx])
  exact ⟨d :: p,rfl⟩
theorem Tm {B n : Nat} {l : List I} (h : Fits Go.Proofs.Tryz.prog B (n + 3) 29 l) : ∃ (p : List Ce) (v : I),l = [v] /\ IsSl v (Af p) /\ p.length <= B:=by
 unfold Fits at h
 rw [Go.Proofs.Tryz.underlying29] at h
 simp only at h
 rcases h with rfl | ⟨es,rfl,hle,hes⟩
 ·exact ⟨[],_,rfl,AC,by simp⟩
 ·obtain ⟨p,rfl⟩:=Tn fun x hx=>VK (hes x hx)
  exact ⟨p,_,rfl,Ba _,by rw [PS] at hle; exact hle⟩
def mnF (m : Int) (l : List Int) : Int:=l.foldl min m
def mxF (m : Int) (l : List Int) : Int:=l.foldl max m
theorem GZ (m : Int) (l : List Int) (x : Int) : mnF m (l ++ [x]) = min (mnF m l) x:=by simp [mnF]
theorem OA (m : Int) (l : List Int) (x : Int) : mxF m (l ++ [x]) = max (mxF m l) x:=by simp [mxF]
def LG (p : List Ce) : List Int:=match p with
 | []=>[0,0,0,0]
 | c :: r=>if AL (c :: r) = true then
   [mnF c.x ((c :: r).map Ce.x),c.y,wr .i64 (wr .i64 (mxF c.x ((c :: r).map Ce.x) - mnF c.x ((c :: r).map Ce.x)) + 1),wr .i64 (wr .i64 (((c :: r).getLast (by simp)).y - c.y) + 1)]
  else [0,0,0,0]
def OY (p : List Ce) : V:=.tu [.m (.ag ((LG p).map (.i .i64))),.m (.b (!p.isEmpty && AL p))]
theorem CQ {α β : Type} {p : List α} {i : Nat} {c : α} (f : α -> β) (h : p[i]? = some c) : (p.take (i + 1)).map f = (p.take i).map f ++ [f c]:=by rw [Ao h]; simp
theorem Ade {v : I} {p : List Ce} (hv : IsSl v (Af p)) (hl : (p.length : Int) <= 9223372036854775807) (H : Hp) : Gives G 103 [.m v] H (OY p) H:=by
 refine Ae rfl rfl rfl rfl rfl ?_
 have g:=CI hv hl []
 cases hp : p with
 | nil=>subst hp; simp (contextual:=true) (maxSteps:=2000000) (disch:=omega) [Ai,Ad,-Int.not_lt,-Int.not_le,-Nat.not_lt,-Nat.not_le,-List.map_take,hv.rules,OY,LG]
 | cons c r =>
  rw [<- hp]
  have h0 : p[0]? = some c:=by rw [hp]; rfl
  have hn0:=An h0
  have e1 : 0 < p.length:=by rw [hp]; simp
  obtain ⟨cl,hcl⟩ : ∃ d,p[p.length - 1]? = some d:=⟨p[p.length - 1],Adt (by omega)⟩
  have hnl:=An hcl
  have hla : ∀ h,(c :: r).getLast h = cl:=fun h=>by
   have : p.getLast (by rw [hp]; simp) = cl:=by rw [List.getLast_eq_getElem,<- Ado,<- hcl,Adt]
   simpa [hp] using this
  have hw : wr .i64 ((p.length : Int) - 1) = ((p.length - 1 : Nat) : Int):=by rw [Aa] <;> omega
  have e2 : ¬ ((p.length : Int) = 0):=by omega
  have e4 : ¬ p = []:=by rw [hp]; simp
  simp (contextual:=true) (maxSteps:=2000000) (disch:=omega) [Ai,Ad,-Int.not_lt,-Int.not_le,-Nat.not_lt,-Nat.not_le,-List.map_take,hv.rules,Mx.Tryz.cl g,hn0,e4]
  refine ⟨fun hr=>?_,fun hr=>?_⟩
  ·rw [hp] at hr ⊢; simp [OY,LG,hr]
  refine (?key : ∀ (i : Nat) (B : List (Nat × List V)),i <= p.length -> (∃ a b d e,getB B 2 = some [a,b,d,e]) -> Run G c103_B0 (S103_0 (.m v) (.fa 2 0) (.m (.i .i64 (mnF c.x ((p.take i).map Ce.x)))) (.m (.i .i64 (mxF c.x ((p.take i).map Ce.x)))) (.m v) (.m (.i .i64 p.length)) (.m (.i .i64 i)) B []) _) 0 _ (Adz _) ⟨_,_,_,_,rfl⟩
  refine Bi (fun i : Nat=>p.length - i) fun i ih B hi hB=>?_
  unfold c103_B0
  cases hx : p[i]? with
  | none =>
   have : i = p.length:=by have:=Adv.1 hx; omega
   subst this
   obtain ⟨a,b,d,e,hB⟩:=hB
   have hlt : p.length - 1 < p.length:=by omega
   have e3 : ((p.length : Int) - 1).toNat = p.length - 1:=by omega
   simp (contextual:=true) (maxSteps:=2000000) (disch:=omega) [hv.rules,hn0,hnl,hB,e3,Aa,Ai,-Int.not_lt,-Int.not_le,-Nat.not_lt,-Nat.not_le,-List.map_take]
   rw [hp] at hr ⊢
   simp [OY,LG,hr,hla]
  | some d =>
   have hlt:=(Al hx).1
   have hn:=An hx
   have ih:=ih (i + 1) (by omega)
   simp only [CQ _ hx,GZ,OA] at ih
   simp (contextual:=true) (maxSteps:=2000000) (disch:=omega) [Ai,-Int.not_lt,-Int.not_le,-Nat.not_lt,-Nat.not_le,-List.map_take,hv.rules,hn,hlt,Aa]
   exact ih _ (by omega) (by simpa using hB)
theorem EM {a b c : Ce} (h1 : AO a b = true) (h2 : AO b c = true) : AO a c = true:=by
 unfold AO at *
 grind
theorem LF : ∀ (p : List Ce) (o : Option Ce),CS o p = true -> p.Pairwise (fun a b=>AO a b = true) /\ (∀ a,o = some a -> ∀ d,d ∈ p -> AO a d = true) /\ ∀ d,d ∈ p -> Cr d = true
 | [],_,_=>⟨.nil,fun _ _ d hd=>by simp at hd,fun d hd=>by simp at hd⟩
 | c :: r,o,h=>by
  have h' : Cr c = true /\ (∀ a,o = some a -> AO a c = true) /\ CS (some c) r = true:=by
   cases o with
   | none =>
    have : (Cr c && CS (some c) r) = true:=h
    rw [Adr] at this
    exact ⟨this.1,fun _ h=>(by cases h),this.2⟩
   | some a =>
    have : (Cr c && AO a c && CS (some c) r) = true:=h
    simp only [Adr] at this
    exact ⟨this.1.1,fun _ h=>(by cases h; exact this.1.2),this.2⟩
  obtain ⟨g1,g2,g3⟩:=h'
  obtain ⟨i1,i2,i3⟩:=LF r (some c) g3
  refine ⟨AdR.2 ⟨fun d hd=>i2 c rfl d hd,i1⟩,fun a ha d hd=>?_,fun d hd=>?_⟩
  ·rcases AdP.1 hd with rfl | hd
   ·exact g2 a ha
   ·exact EM (g2 a ha) (i2 c rfl d hd)
  ·rcases AdP.1 hd with rfl | hd
   ·exact g1
   ·exact i3 d hd
theorem CE {p : List Ce} (h : AL p = true) : p.Pairwise (fun a b=>AO a b = true) /\ (∀ d,d ∈ p -> Cr d = true) /\ p.length <= 5000:=by
 unfold AL at h
 simp only [Adr,AdF] at h
 have:=LF p none h.2
 exact ⟨this.1,this.2.2,h.1⟩
theorem Je : ∀ (l : List Int) (m x : Int),(x <= m /\ ∀ y,y ∈ l -> x <= y) -> x <= mnF m l
 | [],m,x,h=>h.1
 | y :: r,m,x,h=>Je r (min m y) x ⟨by have:=h.1; have:=h.2 y (by simp); omega,fun z hz=>h.2 z (by simp [hz])⟩
theorem Ij : ∀ (l : List Int) (m : Int),mnF m l <= m /\ ∀ y,y ∈ l -> mnF m l <= y
 | [],m=>⟨Int.le_refl _,fun y hy=>by simp at hy⟩
 | y :: r,m=>by
  obtain ⟨h1,h2⟩:=Ij r (min m y)
  refine ⟨by show mnF (min m y) r <= m; omega,fun z hz=>?_⟩
  show mnF (min m y) r <= z
  rcases AdP.1 hz with rfl | hz
  ·omega
  ·exact h2 z hz
theorem OB : ∀ (l : List Int) (m : Int),m <= mxF m l /\ ∀ y,y ∈ l -> y <= mxF m l
 | [],m=>⟨Int.le_refl _,fun y hy=>by simp at hy⟩
 | y :: r,m=>by
  obtain ⟨h1,h2⟩:=OB r (max m y)
  refine ⟨by show m <= mxF (max m y) r; omega,fun z hz=>?_⟩
  show z <= mxF (max m y) r
  rcases AdP.1 hz with rfl | hz
  ·omega
  ·exact h2 z hz
theorem SW : ∀ (l : List Int) (m x : Int),(m <= x /\ ∀ y,y ∈ l -> y <= x) -> mxF m l <= x
 | [],m,x,h=>h.1
 | y :: r,m,x,h=>SW r (max m y) x ⟨by have:=h.1; have:=h.2 y (by simp); omega,fun z hz=>h.2 z (by simp [hz])⟩
theorem JP {c d : Ce} {r : List Ce} (h : AL (c :: r) = true) (hd : (c :: r)[(c :: r).length - 1]? = some d) : mnF c.y ((c :: r).map Ce.y) = c.y /\ mxF c.y ((c :: r).map Ce.y) = d.y:=by
 obtain ⟨pw,_,_⟩:=CE h
 have first : ∀ y,y ∈ (c :: r).map Ce.y -> c.y <= y:=fun y hy=>by
  obtain ⟨e,he,rfl⟩:=AdU.1 hy
  rcases AdP.1 he with rfl | he
  ·exact Int.le_refl _
  ·have:=(AdR.1 pw).1 e he
   unfold AO at this
   simp only [AdF] at this
   omega
 have last : ∀ y,y ∈ (c :: r).map Ce.y -> y <= d.y:=fun y hy=>by
  obtain ⟨e,he,rfl⟩:=AdU.1 hy
  obtain ⟨i,hi,rfl⟩:=List.mem_iff_getElem.1 he
  by_cases hil : i = (c :: r).length - 1
  ·subst hil
   rw [Adt hi] at hd
   cases hd
   exact Int.le_refl _
  ·have hj : (c :: r).length - 1 < (c :: r).length:=by simp
   have:=Aes.1 pw i ((c :: r).length - 1) hi hj (by omega)
   rw [Adt hj] at hd
   cases hd
   unfold AO at this
   simp only [AdF] at this
   omega
 have dm : d.y ∈ (c :: r).map Ce.y:=AdU.2 ⟨d,Ady hd,rfl⟩
 have c0:=Ij ((c :: r).map Ce.y) c.y
 have c1:=Je ((c :: r).map Ce.y) c.y c.y ⟨Int.le_refl _,first⟩
 have c2:=OB ((c :: r).map Ce.y) c.y
 have c3:=SW ((c :: r).map Ce.y) c.y d.y ⟨last _ (by simp),last⟩
 have c4:=c2.2 _ dm
 constructor <;> omega
theorem Adf {v : I} {p : List Ce} (hv : IsSl v (Af p)) (hl : (p.length : Int) <= 9223372036854775807) (H : Hp) : Gives G 74 [.m v] H (OY p) H:=by
 refine Ae rfl rfl rfl rfl rfl ?_
 have g:=Fj hv hl []
 cases hp : p with
 | nil=>subst hp; simp (contextual:=true) (maxSteps:=2000000) (disch:=omega) [Ai,Ad,-Int.not_lt,-Int.not_le,-Nat.not_lt,-Nat.not_le,-List.map_take,hv.rules,OY,LG]
 | cons c r =>
  rw [<- hp]
  have h0 : p[0]? = some c:=by rw [hp]; rfl
  have hn0:=An h0
  have e1 : 0 < p.length:=by rw [hp]; simp
  obtain ⟨cl,hcl⟩ : ∃ d,p[p.length - 1]? = some d:=⟨p[p.length - 1],Adt (by omega)⟩
  have hla : ∀ h,(c :: r).getLast h = cl:=fun h=>by
   have : p.getLast (by rw [hp]; simp) = cl:=by rw [List.getLast_eq_getElem,<- Ado,<- hcl,Adt]
   simpa [hp] using this
  have e2 : ¬ ((p.length : Int) = 0):=by omega
  have e4 : ¬ p = []:=by rw [hp]; simp
  simp (contextual:=true) (maxSteps:=2000000) (disch:=omega) [Ai,Ad,-Int.not_lt,-Int.not_le,-Nat.not_lt,-Nat.not_le,-List.map_take,hv.rules,Mx.Tryz.cl g,hn0,e4]
  refine ⟨fun hr=>?_,fun hr=>?_⟩
  ·rw [hp] at hr ⊢; simp [OY,LG,hr]
  refine (?key : ∀ (i : Nat) (B : List (Nat × List V)),i <= p.length -> (∃ a b d e,getB B 2 = some [a,b,d,e]) -> Run G c74_B0 (S74_0 (.m v) (.fa 2 0) (.m (.i .i64 (mnF c.x ((p.take i).map Ce.x)))) (.m (.i .i64 (mnF c.y ((p.take i).map Ce.y)))) (.m (.i .i64 (mxF c.x ((p.take i).map Ce.x)))) (.m (.i .i64 (mxF c.y ((p.take i).map Ce.y)))) (.m (.i .i64 i)) B []) _) 0 _ (Adz _) ⟨_,_,_,_,rfl⟩
  refine Bi (fun i : Nat=>p.length - i) fun i ih B hi hB=>?_
  unfold c74_B0
  cases hx : p[i]? with
  | none =>
   have : i = p.length:=by have:=Adv.1 hx; omega
   subst this
   obtain ⟨a,b,d,e,hB⟩:=hB
   have hy:=JP (hp ▸ hr) (hp ▸ hcl)
   simp (contextual:=true) (maxSteps:=2000000) (disch:=omega) [hv.rules,hB,Ai,-Int.not_lt,-Int.not_le,-Nat.not_lt,-Nat.not_le,-List.map_take]
   rw [hp] at hr ⊢
   simp only [Aee] at hy
   simp [OY,LG,hr,hla,hy.1,hy.2]
  | some d =>
   have hlt:=(Al hx).1
   have hn:=An hx
   have ih:=ih (i + 1) (by omega)
   simp only [CQ _ hx,GZ,OA] at ih
   simp (contextual:=true) (maxSteps:=2000000) (disch:=omega) [Ai,-Int.not_lt,-Int.not_le,-Nat.not_lt,-Nat.not_le,-List.map_take,hv.rules,hn,hlt,Aa]
   exact ih _ (by omega) hB
def Dc (p : List Ce) (x y : Int) : Int:=match p with
 | []=>0
 | c :: r=>if c.x = x /\ c.y = y then c.s else Dc r x y
theorem AcQ {v : I} {p : List Ce} (hv : IsSl v (Af p)) (hl : (p.length : Int) <= 9223372036854775807) (x y : Int) (H : Hp) : Gives G 154 [.m v,.m (.i .i64 x),.m (.i .i64 y)] H (.m (.i .i64 (Dc p x y))) H:=by
 refine Ae rfl rfl rfl rfl rfl ?_
 simp (contextual:=true) (maxSteps:=2000000) (disch:=omega) [-Int.not_lt,-Int.not_le,-Nat.not_lt,-Nat.not_le,-List.map_take]
 refine (?key : ∀ (i : Nat),i <= p.length -> Dc p x y = Dc (p.drop i) x y -> Run G c154_B0 (S154_0 (.m v) (.m (.i .i64 x)) (.m (.i .i64 y)) (.m (.i .i64 i)) [] []) _) 0 (Adz _) rfl
 refine Bi (fun i : Nat=>p.length - i) fun i ih hi hr=>?_
 unfold c154_B0
 cases hx : p[i]? with
 | none =>
  have : i = p.length:=by have:=Adv.1 hx; omega
  subst this
  simp (contextual:=true) (maxSteps:=2000000) (disch:=omega) [hv.rules,hr,Dc]
 | some d =>
  have hlt:=(Al hx).1
  have hn:=An hx
  rw [(Al hx).2] at hr
  simp (contextual:=true) (maxSteps:=2000000) (disch:=omega) [Ai,Aj,-Int.not_lt,-Int.not_le,-Nat.not_lt,-Nat.not_le,-List.map_take,hv.rules,hn,hlt,Aa]
  repeat' first | with_reducible apply And.intro | intro _
  all_goals first
   | (refine ih (i + 1) (by omega) (by omega) ?_; grind [Dc])
   | grind [Dc]
open Go.Lib
structure TreeC where
 states : Int
 hood : List (Int × Int)
 nodes : List (Int × List Int)
def Lw (a b : Int × Int) : Bool:=decide (a.2 < b.2 \/ (a.2 = b.2 /\ a.1 < b.1))
def Ig (p : Int × Int) : Bool:=decide ((-2 <= p.1 /\ p.1 <= 2) /\ (-2 <= p.2 /\ p.2 <= 2))
def Kd : Option (Int × Int) -> List (Int × Int) -> Bool
 | _,[]=>true
 | none,p :: r=>Ig p && Kd (some p) r
 | some a,p :: r=>Ig p && Lw a p && Kd (some p) r
def Cf (l : List (Int × Int)) : Bool:=decide (1 <= l.length /\ l.length <= 25) && Kd none l
theorem OV : ∀ (l : List (Int × Int)) (a : Option (Int × Int)),Kd a l = true -> ∀ p,p ∈ l -> Ig p = true
 | [],_,_,p,hp=>by cases hp
 | q :: r,a,h,p,hp=>by
  have h' : Ig q = true /\ Kd (some q) r = true:=by
   cases a with
   | none=>exact (Adr _ _).mp h
   | some b =>
    have h : (Ig q && Lw b q && Kd (some q) r) = true:=h
    rw [Adr,Adr] at h
    exact ⟨h.1.1,h.2⟩
  rcases AdP.1 hp with rfl | hp
  ·exact h'.1
  ·exact OV r _ h'.2 p hp
def levAt (nodes : List (Int × List Int)) (k : Int) : Int:=match nodes[k.toNat]? with
 | some n=>n.1
 | none=>0
def Qe (t : TreeC) (i : Nat) (lev k : Int) : Bool:=decide (¬ k < 0 /\ ¬ (lev = 1 /\ t.states <= k) /\ ¬ (1 < lev /\ ((i : Int) <= k \/ ¬ levAt t.nodes k = lev - 1)))
def EZ (t : TreeC) (i : Nat) (n : Int × List Int) : Bool:=decide (1 <= n.1 /\ n.1 <= t.hood.length /\ (n.2.length : Int) = t.states) && n.2.all (Qe t i n.1)
def nodesOk (t : TreeC) : Nat -> List (Int × List Int) -> Bool
 | _,[]=>true
 | i,n :: r=>EZ t i n && nodesOk t (i + 1) r
def Bu (t : TreeC) : Bool:=decide (2 <= t.states /\ t.states <= 8) && (Cf t.hood && (decide (1 <= t.nodes.length /\ t.nodes.length <= 4096) && (decide (levAt t.nodes (t.nodes.length - 1) = t.hood.length) && nodesOk t 0 t.nodes)))
theorem Jc (t : TreeC) : ∀ (l : List (Int × List Int)) (i : Nat),nodesOk t i l = true -> ∀ (j : Nat) n,l[j]? = some n -> EZ t (i + j) n = true
 | [],_,_,j,n,h=>by simp at h
 | m :: r,i,h,j,n,hn=>by
  have h : (EZ t i m && nodesOk t (i + 1) r) = true:=h
  rw [Adr] at h
  cases j with
  | zero=>simp at hn; subst hn; exact h.1
  | succ j =>
   have:=Jc t r (i + 1) h.2 j n (by simpa using hn)
   rw [show i + (j + 1) = i + 1 + j from by omega]
   exact this
structure TreeR (t : TreeC) : Prop where
 s2 : 2 <= t.states
 s8 : t.states <= 8
 hood : Cf t.hood = true
 n1 : 1 <= t.nodes.length
 n2 : t.nodes.length <= 4096
 root : levAt t.nodes (t.nodes.length - 1) = t.hood.length
 node : ∀ (j : Nat) n,t.nodes[j]? = some n -> EZ t j n = true
theorem GT {t : TreeC} (h : Bu t = true) : TreeR t:=by
 unfold Bu at h
 simp only [Adr,AdF] at h
 obtain ⟨⟨a,b⟩,c,⟨d,e⟩,f,g⟩:=h
 exact ⟨a,b,c,d,e,f,fun j n hn=>by have:=Jc t _ 0 g j n hn; rwa [Aey] at this⟩
theorem BS {l : List (Int × Int)} (h : Cf l = true) : 1 <= l.length /\ l.length <= 25:=by
 unfold Cf at h
 simp only [Adr,AdF] at h
 exact h.1
theorem DC {l : List (Int × Int)} (h : Cf l = true) : ∀ p,p ∈ l -> (-2 <= p.1 /\ p.1 <= 2) /\ (-2 <= p.2 /\ p.2 <= 2):=fun p hp=>by
 unfold Cf at h
 rw [Adr] at h
 have:=OV _ _ h.2 p hp
 unfold Ig at this
 exact of_decide_eq_true this
def FL (nodes : List (Int × List Int)) (k s : Int) : Int:=match nodes[k.toNat]? with
 | some n=>(n.2[s.toNat]?).getD 0
 | none=>0
def valF (nodes : List (Int × List Int)) : Int -> List Int -> Int
 | k,[]=>k
 | k,s :: r=>valF nodes (FL nodes k s) r
theorem Li (nodes : List (Int × List Int)) : ∀ (l : List Int) (k s : Int),valF nodes k (l ++ [s]) = FL nodes (valF nodes k l) s
 | [],_,_=>rfl
 | x :: r,k,s=>Li nodes r (FL nodes k x) s
def JM (t : TreeC) (ins : List Int) : Int:=valF t.nodes (t.nodes.length - 1) ins
theorem Eu (t : TreeC) (l : List Int) (s : Int) : JM t (l ++ [s]) = FL t.nodes (JM t l) s:=Li _ _ _ _
def TC (t : TreeC) (lev : Int) (k : Int) : Prop:=∃ (j : Nat) (n : Int × List Int),k = j /\ t.nodes[j]? = some n /\ n.1 = lev /\ (n.2.length : Int) = t.states
theorem Lr {t : TreeC} (h : TreeR t) {lev k s : Int} (ha : TC t lev k) (hs : 0 <= s /\ s < t.states) : (lev = 1 -> 0 <= FL t.nodes k s /\ FL t.nodes k s < t.states) /\ (1 < lev -> TC t (lev - 1) (FL t.nodes k s)) /\ 1 <= lev:=by
 obtain ⟨j,n,rfl,hn,hl,hlen⟩:=ha
 have hok:=h.node j n hn
 unfold EZ at hok
 simp only [Adr,AdF,AdH] at hok
 obtain ⟨⟨a1,a2,a3⟩,a4⟩:=hok
 have hsl : s.toNat < n.2.length:=by omega
 have e : FL t.nodes j s = n.2[s.toNat]:=by
  unfold FL
  rw [show ((j : Int)).toNat = j from rfl,hn]
  dsimp only
  rw [Adt hsl]
  rfl
 have hel:=a4 (n.2[s.toNat]) (List.getElem_mem hsl)
 rw [<- e] at hel
 unfold Qe at hel
 have hel:=of_decide_eq_true hel
 refine ⟨fun h1=>?_,fun h1=>?_,by omega⟩
 ·have:=hel.2.1; omega
 ·have h2:=hel.2.2
  have h3 : ¬ (j : Int) <= FL t.nodes j s:=fun hh=>h2 ⟨by omega,.inl hh⟩
  have h4 : levAt t.nodes (FL t.nodes j s) = n.1 - 1:=Aer fun hh=>h2 ⟨by omega,.inr hh⟩
  generalize FL t.nodes j s = k' at *
  have h0 : ¬ k' < 0:=hel.1
  obtain ⟨i,rfl⟩:=AdM (show 0 <= k' by omega)
  have hjl:=(Adq.1 hn).1
  have hil : i < t.nodes.length:=by omega
  refine ⟨i,t.nodes[i],rfl,Adt hil,?_,?_⟩
  ·unfold levAt at h4
   rw [show ((i : Int)).toNat = i from rfl,Adt hil] at h4
   dsimp only at h4
   omega
  ·have:=h.node i _ (Adt hil)
   unfold EZ at this
   simp only [Adr,AdF] at this
   exact this.1.2.2
theorem Lh {t : TreeC} (h : TreeR t) : ∀ (m : Nat) (ins : List Int),ins.length = m -> m < t.hood.length -> (∀ s,s ∈ ins -> 0 <= s /\ s < t.states) -> TC t (t.hood.length - m) (JM t ins)
 | 0,ins,hl,hm,hs=>by
  have : ins = []:=AdN hl
  subst this
  have h1:=h.n1
  have hlt : t.nodes.length - 1 < t.nodes.length:=by omega
  refine ⟨t.nodes.length - 1,t.nodes[t.nodes.length - 1],?_,Adt hlt,?_,?_⟩
  ·show ((t.nodes.length : Int) - 1) = _
   omega
  ·have:=h.root
   unfold levAt at this
   rw [show ((t.nodes.length : Int) - 1).toNat = t.nodes.length - 1 from by omega,Adt hlt] at this
   dsimp only at this
   rw [this]
   simp
  ·have:=h.node _ _ (Adt hlt)
   unfold EZ at this
   simp only [Adr,AdF] at this
   exact this.1.2.2
 | m + 1,ins,hl,hm,hs=>by
  obtain ⟨q,c,rfl⟩ : ∃ q c,ins = q ++ [c]:=⟨ins.dropLast,ins.getLast (by intro e; rw [e] at hl; simp at hl),(List.dropLast_concat_getLast _).symm⟩
  have ih:=Lh h m q (by simpa using hl) (by omega) fun s hs'=>hs s (by simp [hs'])
  rw [Eu]
  have:=(Lr h ih (hs c (by simp))).2.1 (by omega)
  rw [show ((t.hood.length : Int) - ((m + 1 : Nat) : Int)) = t.hood.length - m - 1 from by omega]
  exact this
theorem Yv {t : TreeC} (h : TreeR t) {ins : List Int} (hl : ins.length = t.hood.length) (hs : ∀ s,s ∈ ins -> 0 <= s /\ s < t.states) : 0 <= JM t ins /\ JM t ins < t.states:=by
 have h1:=(BS h.hood).1
 obtain ⟨q,c,rfl⟩ : ∃ q c,ins = q ++ [c]:=⟨ins.dropLast,ins.getLast (by intro e; rw [e] at hl; simp at hl; omega),(List.dropLast_concat_getLast _).symm⟩
 have hlq : q.length + 1 = t.hood.length:=by simpa using hl
 have ih:=Lh h q.length q rfl (by omega) fun s hs'=>hs s (by simp [hs'])
 rw [Eu]
 exact (Lr h ih (hs c (by simp))).1 (by omega)
def AJ (t : TreeC) : Bool:=Bu t && decide (JM t (List.replicate t.hood.length 0) = 0)
def Lv (t : TreeC) (p : List Ce) (x y : Int) : List Int:=t.hood.map fun o=>Dc p (x + o.1) (y + o.2)
def Bl (t : TreeC) (p : List Ce) (x y : Int) : Int:=JM t (Lv t p x y)
def GK (t : TreeC) (p : List Ce) : Prop:=∀ c,c ∈ p -> 0 <= c.s /\ c.s < t.states
theorem JV {t : TreeC} (h : TreeR t) : ∀ {p : List Ce},GK t p -> ∀ x y,0 <= Dc p x y /\ Dc p x y < t.states
 | [],_,x,y=>by have:=h.s2; show 0 <= (0 : Int) /\ (0 : Int) < t.states; omega
 | c :: r,hp,x,y=>by
  have e : Dc (c :: r) x y = if c.x = x /\ c.y = y then c.s else Dc r x y:=rfl
  rw [e]
  split
  ·exact hp c (AdL ..)
  ·exact JV h (fun d hd=>hp d (Aek _ hd)) x y
theorem JU {t : TreeC} (h : TreeR t) {p : List Ce} (hp : GK t p) {x y : Int} : ∀ s,s ∈ Lv t p x y -> 0 <= s /\ s < t.states:=fun s hs=>by
 obtain ⟨o,_,rfl⟩:=AdU.1 hs
 exact JV h hp _ _
theorem FN (t : TreeC) (p : List Ce) (x y : Int) : (Lv t p x y).length = t.hood.length:=by unfold Lv; simp
theorem EL {t : TreeC} (h : TreeR t) {p : List Ce} (hp : GK t p) (x y : Int) : 0 <= Bl t p x y /\ Bl t p x y < t.states:=Yv h (FN t p x y) (JU h hp)
theorem SV {t : TreeC} (hq : AJ t = true) {p : List Ce} {x y : Int} (h : ∀ o,o ∈ t.hood -> Dc p (x + o.1) (y + o.2) = 0) : Bl t p x y = 0:=by
 unfold AJ at hq
 rw [Adr,AdF] at hq
 have e : Lv t p x y = List.replicate t.hood.length 0:=by
  unfold Lv
  rw [List.map_congr_left h,List.map_const']
 unfold Bl
 rw [e]
 exact hq.2
theorem Dn {t : TreeC} (hq : AJ t = true) : TreeR t:=by
 unfold AJ at hq
 rw [Adr] at hq
 exact GT hq.1
theorem OO {p : List Ce} {x y : Int} (h : ¬ Dc p x y = 0) : ∃ c,c ∈ p /\ c.x = x /\ c.y = y /\ c.s = Dc p x y:=by
 induction p with
 | nil=>exact absurd rfl h
 | cons c r ih =>
  have e : Dc (c :: r) x y = if c.x = x /\ c.y = y then c.s else Dc r x y:=rfl
  rw [e] at h ⊢
  by_cases hc : c.x = x /\ c.y = y
  ·rw [Adu hc]
   exact ⟨c,AdL ..,hc.1,hc.2,rfl⟩
  ·rw [Ads hc] at h ⊢
   obtain ⟨d,h1,h2⟩:=ih h
   exact ⟨d,Aek _ h1,h2⟩
theorem GY {t : TreeC} (hq : AJ t = true) {p : List Ce} {x y : Int} (h : ¬ Bl t p x y = 0) : ∃ c o,c ∈ p /\ o ∈ t.hood /\ x = c.x - o.1 /\ y = c.y - o.2:=by
 have : ∃ o,o ∈ t.hood /\ ¬ Dc p (x + o.1) (y + o.2) = 0:=Aer fun hn=>h (SV hq fun o ho=>Aer fun hh=>hn ⟨o,ho,hh⟩)
 obtain ⟨o,ho,hg⟩:=this
 obtain ⟨c,hc,h1,h2,_⟩:=OO hg
 exact ⟨c,o,hc,ho,by omega,by omega⟩
def JS (p : List Ce) : List ((Int × Int) × Int):=p.map fun c=>((c.x,c.y),c.s)
theorem Sw (p : List Ce) : (JS p).map Prod.fst = p.map fun c=>(c.x,c.y):=by simp [JS]
theorem PK (p : List Ce) (x y : Int) : (Dj (JS p) (x,y)).getD 0 = Dc p x y:=by
 induction p with
 | nil=>rfl
 | cons c r ih =>
  by_cases h : c.x = x /\ c.y = y
  ·simp [JS,Dj,Dc,h]
  ·have : ¬ (c.x,c.y) = (x,y):=by simpa using h
   simp only [JS,Aee,Dj,Ads this,Dc,Ads h]
   exact ih
theorem SY {q r : List Ce} {c : Ce} (h : (q ++ c :: r).Pairwise fun a b=>AO a b = true) : QW (JS q) (c.x,c.y) c.s = JS (q ++ [c]):=by
 rw [Ny]
 ·simp [JS]
 ·rw [Sw]
  intro hm
  obtain ⟨d,hd,he⟩:=AdU.1 hm
  have:=(Aen.1 h).2.2 d hd c (by simp)
  unfold AO at this
  grind
theorem Wt : ∀ {p q : List Ce},p.Pairwise (fun a b=>AO a b = true) -> q.Pairwise (fun a b=>AO a b = true) -> (∀ c,c ∈ p ↔ c ∈ q) -> p = q
 | [],[],_,_,_=>rfl
 | [],d :: s,_,_,h=>by have:=(h d).2 (AdL ..); cases this
 | c :: r,[],_,_,h=>by have:=(h c).1 (AdL ..); cases this
 | c :: r,d :: s,hp,hq,h=>by
  obtain ⟨p1,p2⟩:=AdR.1 hp
  obtain ⟨q1,q2⟩:=AdR.1 hq
  have irr : ∀ a : Ce,¬ AO a a = true:=fun a ha=>by unfold AO at ha; simp at ha
  have e : c = d:=by
   rcases AdP.1 ((h c).1 (AdL ..)) with e | h1
   ·exact e
   ·rcases AdP.1 ((h d).2 (AdL ..)) with e | h2
    ·exact e.symm
    ·exact absurd (EM (p1 d h2) (q1 c h1)) (irr c)
  subst e
  congr 1
  refine Wt p2 q2 fun x=>⟨fun hx=>?_,fun hx=>?_⟩
  ·rcases AdP.1 ((h x).1 (Aek _ hx)) with rfl | h1
   ·exact absurd (p1 _ hx) (irr _)
   ·exact h1
  ·rcases AdP.1 ((h x).2 (Aek _ hx)) with rfl | h1
   ·exact absurd (q1 _ hx) (irr _)
   ·exact h1
def Do (t : TreeC) (p : List Ce) (res : List Ce × Int) : Prop :=
 (res = ([],5) /\ ∃ x y,¬ Bl t p x y = 0 /\ AF x y = false) \/
 ((∀ x y,¬ Bl t p x y = 0 -> AF x y = true) /\ ∃ q : List Ce,q.Pairwise (fun a b=>AO a b = true) /\ (∀ c,c ∈ q ↔ c.s = Bl t p c.x c.y /\ ¬ c.s = 0) /\ res = if 5000 < q.length then ([],6) else (q,0))
theorem IW {t : TreeC} {p : List Ce} {a b : List Ce × Int} (ha : Do t p a) (hb : Do t p b) : a = b:=by
 rcases ha with ⟨rfl,x,y,h1,h2⟩ | ⟨h1,q,h2,h3,rfl⟩ <;> rcases hb with ⟨rfl,u,v,k1,k2⟩ | ⟨k1,r,k2,k3,rfl⟩
 ·rfl
 ·rw [k1 x y h1] at h2; cases h2
 ·rw [h1 u v k1] at k2; cases k2
 ·rw [Wt h2 k2 fun c=>(h3 c).trans (k3 c).symm]
theorem Of {t : TreeC} (h : TreeR t) {p q : List Ce} (hp : GK t p) (hs : Do t p (q,0)) : q.Pairwise (fun a b=>AO a b = true) /\ (∀ c,c ∈ q -> Cr c = true) /\ q.length <= 5000 /\ GK t q:=by
 rcases hs with ⟨e,_⟩ | ⟨h1,r,h2,h3,e⟩
 ·cases e
 ·split at e
  ·cases e
  ·rename_i hl
   cases e
   have hr:=fun c (hc : c ∈ q)=>EL h hp c.x c.y
   have s8:=h.s8
   refine ⟨h2,fun c hc=>?_,by omega,fun c hc=>?_⟩
   ·have k1:=(h3 c).1 hc
    have k2:=h1 c.x c.y (by rw [<- k1.1]; exact k1.2)
    have k3:=hr c hc
    rw [<- k1.1] at k3
    have k4:=k1.2
    unfold Cr
    rw [k2]
    simp only [Aev,Adr,AdF]
    omega
   ·have k1:=(h3 c).1 hc
    have k3:=hr c hc
    rw [<- k1.1] at k3
    exact k3
open Go.Proofs
def DF (l : List (Int × Int)) : List (List I):=l.map fun p=>[.i .i64 p.1,.i .i64 p.2]
@[simp] theorem Be (l : List (Int × Int)) : (DF l).length = l.length:=by simp [DF]
theorem Cg {l : List (Int × Int)} {i : Nat} {c : Int × Int} (h : l[i]? = some c) : nth (DF l) i = some [.i .i64 c.1,.i .i64 c.2]:=by
 rw [AS]; simp [DF,h]
def Ew (p : List (Int × Int)) : Nat -> Option (Int × Int)
 | 0=>none
 | i + 1=>p[i]?
theorem LD {p : List (Int × Int)} {i : Nat} {c : Int × Int} (hx : p[i]? = some c) : Kd (Ew p i) (c :: p.drop (i + 1)) = (Ig c && (match Ew p i with | none=>true | some a=>Lw a c) && Kd (Ew p (i + 1)) (p.drop (i + 1))):=by
 have : Ew p (i + 1) = some c:=hx
 rw [this]
 cases Ew p i with
 | none=>show (Ig c && Kd (some c) _) = _; simp
 | some a=>show (Ig c && Lw a c && Kd (some c) _) = _; simp
theorem PQ (a b : Int × Int) : (0 <= JX a.1 a.2 b.1 b.2) ↔ Lw a b = false:=by
 unfold Lw JX DE
 grind
theorem Lq (c : Int × Int) : Ig c = (decide (-2 <= c.1) && decide (c.1 <= 2) && decide (-2 <= c.2) && decide (c.2 <= 2)):=by
 unfold Ig
 grind
set_option maxHeartbeats 1000000 in
theorem AcL {v : I} {p : List (Int × Int)} (hv : IsSl v (DF p)) (hl : (p.length : Int) <= 9223372036854775807) (H : Hp) : Gives G 135 [.m v] H (.m (.b (Cf p))) H:=by
 have hr0:=hv.rules
 simp only [Be] at hr0
 refine Ae rfl rfl rfl rfl rfl ?_
 by_cases h1 : 1 <= p.length /\ p.length <= 25
 rotate_left
 ·have e : Cf p = false:=by unfold Cf; rw [AdB h1]; rfl
  by_cases h2 : (p.length : Int) < 1
  ·simp (maxSteps:=2000000) (disch:=omega) [hr0,h2,e]
  ·have h3 : (25 : Int) < p.length:=by omega
   simp (maxSteps:=2000000) (disch:=omega) [hr0,h2,h3,e]
 have h2 : ¬ (p.length : Int) < 1:=by omega
 have h3 : ¬ (25 : Int) < p.length:=by omega
 have hR : Cf p = Kd none p:=by unfold Cf; rw [AdA h1]; rfl
 rw [hR]
 simp (maxSteps:=2000000) (disch:=omega) [hr0,h2,h3]
 refine (?key : ∀ (i : Nat) (B : List (Nat × List V)),i <= p.length -> Kd none p = Kd (Ew p i) (p.drop i) -> Run G c135_B0 (S135_0 (.m v) (.m v) (.m (.i .i64 p.length)) (.m (.i .i64 i)) B []) _) 0 [] (Adz _) rfl
 refine Bi (fun i : Nat=>p.length - i) fun i ih B hi hr=>?_
 unfold c135_B0
 cases hx : p[i]? with
 | none =>
  have : i = p.length:=by have:=Adv.1 hx; omega
  subst this
  have : Kd (Ew p p.length) [] = true:=by cases Ew p p.length <;> rfl
  simp [hr,this]
 | some c =>
  have hlt:=(Al hx).1
  have hn:=Cg hx
  rw [(Al hx).2,LD hx,Lq] at hr
  cases i with
  | zero =>
   simp (contextual:=true) (maxSteps:=2000000) (disch:=omega) [Ai,Aj,Ad,-Int.not_lt,-Int.not_le,-Nat.not_lt,-Nat.not_le,-List.map_take,hr0,hn,hlt,Aa]
   repeat' first | with_reducible apply And.intro | intro _
   all_goals first
    | (refine ih 1 (by omega) _ (by omega) ?_; grind [Ew])
    | grind [Ew]
  | succ j =>
   obtain ⟨c0,hx0⟩ : ∃ c0,p[j]? = some c0:=⟨p[j],Adt (by omega)⟩
   have hn0:=Cg hx0
   have e3 : (j : Int) + 1 < p.length:=by omega
   have e4 : (j : Int) < p.length:=by omega
   have e6 : (0 : Int) <= j + 1:=by omega
   have e7 : ((j : Int) + 1).toNat = j + 1:=by omega
   have hp0 : Ew p (j + 1) = some c0:=hx0
   simp only [hp0] at hr
   simp (contextual:=true) (maxSteps:=2000000) (disch:=omega) [Ai,Aj,Ad,-Int.not_lt,-Int.not_le,-Nat.not_lt,-Nat.not_le,-List.map_take,hr0,hn,hn0,e3,e7,cl (Wv _ _ _ _ _),Aa,PQ]
   repeat' first | with_reducible apply And.intro | intro _
   all_goals first
    | (refine ih (j + 2) (by omega) _ (by omega) ?_; grind)
    | grind
theorem CF {y : I} {es : List (List I)} (h : IsSl y es) : Cv (.m y) = true:=by
 rcases h with rfl | ⟨rfl,_⟩ <;> rfl
def dEn : List I -> Int
 | [.i _ x]=>x
 | _=>0
def dIn : I -> List Int
 | .sl es=>es.map dEn
 | _=>[]
def dNd : List I -> Int × List Int
 | [.i _ x,z]=>(x,dIn z)
 | _=>(0,[])
def WH (es : List (List I)) : Prop:=∀ e,e ∈ es -> ∃ (x : Int) (z : I),e = [.i .i64 x,z] /\ IsSl z (Es (dIn z)) /\ (dIn z).length <= 9223372036854775807 /\ ∀ k,k ∈ dIn z -> -9223372036854775808 <= k /\ k <= 9223372036854775807
structure TreeV (t : TreeC) (h n : I) (es : List (List I)) : Prop where
 hd : IsSl h (DF t.hood)
 nd : IsSl n es
 ok : WH es
 eq : t.nodes = es.map dNd
 hl : t.hood.length <= 9223372036854775807
 nl : es.length <= 9223372036854775807
theorem Dz {t : TreeC} {h n : I} {es : List (List I)} (hT : TreeV t h n es) : t.nodes.length = es.length:=by rw [hT.eq,AdJ]
theorem Cx {t : TreeC} {h n : I} {es : List (List I)} (hT : TreeV t h n es) {j : Nat} {nd : Int × List Int} (hj : t.nodes[j]? = some nd) : ∃ z,nth es j = some [.i .i64 nd.1,z] /\ IsSl z (Es nd.2) /\ nd.2.length <= 9223372036854775807 /\ ∀ k,k ∈ nd.2 -> -9223372036854775808 <= k /\ k <= 9223372036854775807:=by
 rw [hT.eq,AdT] at hj
 cases he : es[j]? with
 | none=>rw [he] at hj; cases hj
 | some e =>
  rw [he] at hj
  cases hj
  obtain ⟨x,z,rfl,h1,h2,h3⟩:=hT.ok e (Ady he)
  exact ⟨z,by rw [AS]; exact he,h1,h2,h3⟩
theorem Gz (t : TreeC) (i : Nat) (n : Int × List Int) (r : List (Int × List Int)) : nodesOk t i (n :: r) = (EZ t i n && nodesOk t (i + 1) r):=rfl
theorem Ha {nodes : List (Int × List Int)} {j : Nat} {nd : Int × List Int} (h : nodes[j]? = some nd) : levAt nodes (j : Int) = nd.1:=by
 unfold levAt
 rw [show ((j : Int)).toNat = j from rfl,h]
theorem Vb {α : Type} {l m : List α} {i : Nat} {x y : α} (h : l.take i = m.take i) (hx : l[i]? = some x) (hy : m[i]? = some y) (e : x = y) : l.take (i + 1) = m.take (i + 1):=by
 rw [Ao hx,Ao hy,h,e]
def Aao (t : TreeC) : Bool:=decide (t.hood.length <= 40) && (decide (t.nodes.length <= 400) && t.nodes.all fun n=>decide (n.2.length <= 20))
set_option maxHeartbeats 1000000 in
theorem AcV {t : TreeC} {h n : I} {es : List (List I)} (hT : TreeV t h n es) (H : Hp) : Gives G 10 [.m (.ag [.i .i64 t.states,h,n])] H (.m (.b (Aao t))) H:=by
 have hrn:=hT.nd.rules
 have hln:=Dz hT
 have hrh:=hT.hd.rules
 simp only [Be] at hrh
 have hl1:=hT.hl
 have hl2:=hT.nl
 have eF : Aao t = (decide (t.hood.length <= 40) && (decide (t.nodes.length <= 400) && t.nodes.all fun n=>decide (n.2.length <= 20))):=rfl
 refine Ae rfl rfl rfl rfl rfl ?_
 by_cases h1 : (40 : Int) < t.hood.length
 ·have e : Aao t = false:=by rw [eF,AdB (by omega)]; rfl
  simp (maxSteps:=2000000) (disch:=omega) [hrh,h1,e]
 by_cases h2 : (400 : Int) < es.length
 ·have e : Aao t = false:=by rw [eF,AdB (by omega : ¬ t.nodes.length <= 400)]; simp
  simp (maxSteps:=2000000) (disch:=omega) [hrn,hrh,h1,h2,e]
 have e : Aao t = t.nodes.all fun n=>decide (n.2.length <= 20):=by rw [eF,AdA (by omega),AdA (by omega : t.nodes.length <= 400)]; simp
 rw [e]
 simp (maxSteps:=2000000) (disch:=omega) [hrn,hrh,h1,h2]
 refine (?key : ∀ (i : Nat) (B : List (Nat × List V)),i <= es.length -> getB B 1 = some [.m (.i .i64 t.states),.m h,.m n] -> (t.nodes.all fun n=>decide (n.2.length <= 20)) = ((t.nodes.drop i).all fun n=>decide (n.2.length <= 20)) -> Run G c10_B0 (S10_0 (.fa 1 0) (.m (.i .i64 es.length)) (.m (.i .i64 (i : Int))) B []) _) 0 _ (Adz _) rfl rfl
 refine Bi (fun i : Nat=>es.length - i) fun i ih B hi hB hI=>?_
 unfold c10_B0
 cases hx : t.nodes[i]? with
 | none =>
  have : i = es.length:=by have:=Adv.1 hx; omega
  subst this
  rw [<- hln,Aeg] at hI
  have hI : (t.nodes.all fun n=>decide (n.2.length <= 20)) = true:=hI
  simp (maxSteps:=2000000) (disch:=omega) [hI]
 | some nd =>
  have hlt:=(Al hx).1
  have hlt1 : i < es.length:=by omega
  have hlt2 : (i : Int) < es.length:=by omega
  obtain ⟨z,hz,hzs,hzl,_⟩:=Cx hT hx
  have hrz:=hzs.rules
  simp only [Cw] at hrz
  have wi : wr .i64 ((i : Int) + 1) = ((i + 1 : Nat) : Int):=Aa (by omega) (by omega)
  rw [(Al hx).2,List.all_cons] at hI
  by_cases h20 : (20 : Int) < nd.2.length
  ·have e : (t.nodes.all fun n=>decide (n.2.length <= 20)) = false:=by rw [hI,AdB (by omega : ¬ nd.2.length <= 20)]; rfl
   simp (maxSteps:=2000000) (disch:=omega) [hrn,hlt2,hz,hrz,hB,h20,e]
  ·rw [AdA (by omega : nd.2.length <= 20),Aev] at hI
   have k:=ih (i + 1) (by omega) B (by omega) hB hI
   simp (maxSteps:=2000000) (disch:=omega) [hrn,hlt2,hz,hrz,hB,h20,wi,-Int.natCast_add]
   exact k
theorem LC {B n : Nat} {l : List I} (h : Fits Go.Proofs.Tryz.prog B (n + 2) 43 l) : ∃ x : Int × Int,l = [.i .i64 x.1,.i .i64 x.2]:=by
 unfold Fits at h
 rw [Go.Proofs.Tryz.underlying43] at h
 simp only [FitsF] at h
 obtain ⟨x1,y1,rfl,k1,x2,y2,rfl,k2,rfl⟩:=h
 obtain ⟨u,rfl,_⟩:=BH k1
 obtain ⟨v,rfl,_⟩:=BH k2
 exact ⟨(u,v),rfl⟩
theorem PM {es : List (List I)} (h : ∀ x,x ∈ es -> ∃ d : Int × Int,x = [.i .i64 d.1,.i .i64 d.2]) : ∃ p,es = DF p:=by
 induction es with
 | nil=>exact ⟨[],rfl⟩
 | cons x r ih =>
  obtain ⟨d,rfl⟩:=h x (by simp)
  obtain ⟨p,rfl⟩:=ih fun x hx=>h x (by simp [hx])
  exact ⟨d :: p,rfl⟩
theorem Tw : ∀ {es : List (List I)},(∀ x,x ∈ es -> ∃ y : Int,x = [.i .i64 y]) -> es = Es (es.map dEn)
 | [],_=>rfl
 | e :: r,h=>by
  obtain ⟨y,rfl⟩:=h e (by simp)
  have:=Tw (es:=r) fun x hx=>h x (by simp [hx])
  show _ :: r = [I.i .i64 (dEn [I.i .i64 y])] :: Es (r.map dEn)
  rw [<- this]
  rfl
theorem VJ {B n : Nat} {l : List I} (h : Fits Go.Proofs.Tryz.prog B (n + 2) 63 l) : ∃ z : I,l = [z] /\ IsSl z (Es (dIn z)) /\ (dIn z).length <= B /\ ∀ k,k ∈ dIn z -> -9223372036854775808 <= k /\ k <= 9223372036854775807:=by
 unfold Fits at h
 rw [Go.Proofs.Tryz.underlying63] at h
 simp only at h
 rcases h with rfl | ⟨es,rfl,hle,hes⟩
 ·exact ⟨_,rfl,AC,by simp [dIn],by simp [dIn]⟩
 ·refine ⟨_,rfl,?_,by simpa [dIn] using hle,fun k hk=>?_⟩
  ·show IsSl (.sl es) (Es (es.map dEn))
   rw [<- Tw fun x hx=>let ⟨y,h1,_⟩:=BH (hes x hx); ⟨y,h1⟩]
   exact Ba _
  ·have hk : k ∈ es.map dEn:=hk
   obtain ⟨e,he,rfl⟩:=AdU.1 hk
   obtain ⟨y,rfl,hy⟩:=BH (hes e he)
   exact hy
theorem VI {B n : Nat} {l : List I} (h : Fits Go.Proofs.Tryz.prog B (n + 3) 65 l) : ∃ (x : Int) (z : I),l = [.i .i64 x,z] /\ IsSl z (Es (dIn z)) /\ (dIn z).length <= B /\ ∀ k,k ∈ dIn z -> -9223372036854775808 <= k /\ k <= 9223372036854775807:=by
 unfold Fits at h
 rw [Go.Proofs.Tryz.underlying65] at h
 simp only [FitsF] at h
 obtain ⟨x1,y1,rfl,k1,x2,y2,rfl,k2,rfl⟩:=h
 obtain ⟨u,rfl,_⟩:=BH k1
 obtain ⟨z,rfl,h1,h2,h3⟩:=VJ k2
 exact ⟨u,z,rfl,h1,h2,h3⟩
theorem ZI : Cp Go.Proofs.Tryz.prog 25 = some true:=by unfold Cp; rw [Go.Proofs.Tryz.underlying25]; rfl
theorem VO {B n : Nat} {ts : List TypeId} {us : List V} (hB : B <= 9223372036854775807) (h : FU Go.Proofs.Tryz.prog B (n + 5) (25 :: ts) us) :
  ∃ (t : TreeC) (hh nn : I) (es : List (List I)) (r : List V),us = .m (.ag [.i .i64 t.states,hh,nn]) :: r /\ TreeV t hh nn es /\ FU Go.Proofs.Tryz.prog B (n + 5) ts r:=by
 obtain ⟨l,r,rfl,hl,h'⟩:=Fg h
 unfold Fits at hl
 rw [Go.Proofs.Tryz.underlying25] at hl
 simp only [FitsF] at hl
 obtain ⟨x1,y1,rfl,k1,x2,y2,rfl,k2,x3,y3,rfl,k3,rfl⟩:=hl
 obtain ⟨u,rfl,_⟩:=BH k1
 unfold Fits at k2 k3
 rw [Go.Proofs.Tryz.underlying22] at k2
 rw [Go.Proofs.Tryz.underlying23] at k3
 simp only at k2 k3
 have hh : ∃ (v : I) (p : List (Int × Int)),x2 = [v] /\ IsSl v (DF p) /\ p.length <= B:=by
  rcases k2 with rfl | ⟨es,rfl,hle,hes⟩
  ·exact ⟨_,[],rfl,AC,by simp⟩
  ·obtain ⟨p,rfl⟩:=PM fun x hx=>LC (hes x hx)
   exact ⟨_,p,rfl,Ba _,by simpa using hle⟩
 have hn : ∃ (v : I) (es : List (List I)),x3 = [v] /\ IsSl v es /\ WH es /\ es.length <= B:=by
  rcases k3 with rfl | ⟨es,rfl,hle,hes⟩
  ·exact ⟨_,[],rfl,AC,fun e he=>(by cases he),by simp⟩
  ·refine ⟨_,es,rfl,Ba _,fun e he=>?_,hle⟩
   obtain ⟨x,z,h1,h2,h3,h4⟩:=VI (hes e he)
   exact ⟨x,z,h1,h2,by omega,h4⟩
 obtain ⟨hv,p,rfl,h1,h2⟩:=hh
 obtain ⟨nv,es,rfl,h3,h4,h5⟩:=hn
 rw [Mu ZI]
 exact ⟨⟨u,p,es.map dNd⟩,hv,nv,es,r,rfl,⟨h1,h3,h4,rfl,by show p.length <= _; omega,by omega⟩,h'⟩
end Go.Mx.Tryz
namespace Go.Mx.Tryz
@[simp] theorem rx_ldb (M : Mem) (ag : Bool) (sz d off : Nat) : readX M (.ldb ag sz) [.fa d off] = (readA M sz (.fa d off)).bind fun cs=>Dp ag cs:=rfl
@[simp] theorem px_slc_r (esz : Nat) (lo hi mx : Bool) (r ver e st len : Nat) (lim : Bool) (vs : List V) : Aq (.slc esz lo hi mx) (.sl r ver e st len lim :: vs) = gd (eqB false (Nat.beq esz 0)) (gd (Nat.beq esz e) ((GS len lo hi mx vs).bind fun p=>some (.sl r ver e (st + p.1) (p.2 - p.1) (mx || (lim && Nat.beq p.2 len))))):=rfl
@[simp] theorem allM_sl (a b c d e : Nat) (f : Bool) (r : List V) : Co (.sl a b c d e f :: r) = none:=rfl
@[simp] theorem AbY (H : Hp) (cs : List V) : view 20 H (.ag cs) = (Ah (view 19 H) cs).bind fun l=>some (.ag l):=rfl
@[simp] theorem eqB_ff : eqB false false = true:=rfl
theorem GL {α : Type} {l : List α} {i : Nat} {x : α} (h : nth l i = some x) : i < l.length:=by
 rw [AS] at h
 exact (Adq.1 h).1
theorem AcE {α : Type} (l : List α) (i j : Nat) (x : α) (h : i < l.length) : nth (l.set i x) j = if i = j then some x else nth l j:=by
 rw [AS,AS,List.getElem?_set]
 by_cases e : i = j
 ·subst e; simp [h]
 ·simp [e]
theorem Ls {α : Type} {l : List α} {i j : Nat} {x : α} (h : i ≠ j) : nth (l.set i x) j = nth l j:=by
 rw [AS,AS,List.getElem?_set,Ads h]
theorem FM {α : Type} {l : List α} {i : Nat} {x : α} (h : i < l.length) : nth (l.set i x) i = some x:=by
 rw [AcE _ _ _ _ h,Adu rfl]
theorem Lu {α : Type} (l m : List α) (j : Nat) (h : j < l.length) : nth (l ++ m) j = nth l j:=by
 rw [AS,AS,AdK h]
theorem Lt {α : Type} (l m : List α) (j : Nat) : nth (l ++ m) (l.length + j) = nth m j:=by
 rw [AS,AS,Aep (by omega)]
 congr 1
 omega
theorem CJ {M : Mem} {ty esz bytes r base : Nat} {es xs : List (List V)} (h : nth M.H r = some (.cs ty esz es base false)) (hx : xs ≠ []) (hb : (es.length + xs.length) * bytes <= 140737488355328) (hal : (xs.all fun e=>Nat.beq e.length esz && e.all Cv) = true) :
  Ea M ty esz bytes (.sl r es.length esz 0 es.length false) xs = some (.sl r (es.length + xs.length) esz 0 (es.length + xs.length) false,{ M with H:=M.H.set r (.cs ty esz (es ++ xs) base false) }):=by
 obtain ⟨x,t,rfl⟩:=List.exists_cons_of_ne_nil hx
 have e:=BA M.H r (.cs ty esz (es ++ x :: t) base false) (GL h)
 have h2 : Nat.ble ((es.length + (x :: t).length) * bytes) 140737488355328 = true:=by rw [Bc]; exact AdA hb
 show Option.bind (nth M.H r) _ = _
 rw [h]
 show gd (!false && Nat.beq ty ty && Nat.beq esz esz && Nat.beq esz esz && Nat.beq 0 0 && Nat.beq es.length es.length && Nat.beq es.length es.length && Nat.ble ((es.length + (x :: t).length) * bytes) 140737488355328 && ((x :: t).all fun e=>Nat.beq e.length esz && e.all Cv)) _ = _
 simp only [Nat.beq_refl,h2,hal,Bool.and_self,Bool.not_false,gd]
 rw [e]
 rfl
@[reducible] def strR (s : List Nat) (b : Nat) : Row:=.cs 9 1 [[.m (.s s)]] b false
@[reducible] def zerR (b : Nat) : Row:=.cs 3 1 [[.m (.i .i64 0)]] b false
def Aco (ws : List (List Nat)) : List (List V):=ws.map fun w=>[.m (.s w)]
@[simp] theorem Acn (ws : List (List Nat)) : (Aco ws).length = ws.length:=by simp [Aco]
theorem Ap {s : St} {n : Nat} {x : V} (h : AA x = true) : Df s (.v n) x = some { s with E:=BT s.E n x }:=by
 cases x with
 | fa d o=>cases h
 | _=>first | rfl | simp
end Go.Mx.Tryz
