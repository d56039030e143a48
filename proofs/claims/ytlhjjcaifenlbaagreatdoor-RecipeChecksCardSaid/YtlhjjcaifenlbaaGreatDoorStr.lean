/- Rows of strings. -/
import Derived.Test.YtlhjjcaifenlbaaGreatDoorEg
import Derived.Test.YtlhjjcaifenlbaaGreatDoorSeav
import Derived.Test.YtlhjjcaifenlbaaGreatDoorLaw
import Derived.Test.YtlhjjcaifenlbaaGreatDoorWb
set_option linter.unusedSimpArgs false
set_option linter.unusedVariables false
set_option linter.unusedSectionVars false
set_option maxRecDepth 1000000
namespace Go.Mx.Tryz
open Go.Proofs
def iE (n : Int) : I:=.i .i64 n
def vE2 : I:=.ag [.sl [[.sl [[iE 0,iE 0,iE 1]],iE 1,iE 1,iE 0]],.sl [[iE 0,iE 0,iE 0,iE 0,iE 0]],iE 3,.sl [[iE 3,iE 0,iE 1]]]
def vE1 : I:=.ag [iE 2,.sl [[iE (-1),iE 0],[iE 0,iE 0],[iE 1,iE 0]],.sl [[iE 1,.sl [[iE 0],[iE 0]]],[iE 1,.sl [[iE 0],[iE 1]]],[iE 2,.sl [[iE 0],[iE 1]]],[iE 1,.sl [[iE 1],[iE 1]]],[iE 2,.sl [[iE 3],[iE 1]]],[iE 3,.sl [[iE 2],[iE 4]]]]]
def T1 : List Ent:=⟨104,[vE1],.m (.b true)⟩ :: []
theorem t1_ok : Cc G T1:=BD mono (PF G) (n:=100000) (by kernel_rfl)
def T2 : List Ent:=⟨82,[vE1,.sl [[iE 0,iE 0,iE 1]]],.tu [.m (.sl [[iE 1,iE 0,iE 1]]),.m (iE 0)]⟩ :: T1
theorem t2_ok : Cc G T2:=BD mono t1_ok (n:=100000) (by kernel_rfl)
def T3 : List Ent:=⟨136,[vE1,.sl [[iE 0,iE 0,iE 1]],iE 1],.tu [.m (.ag [iE 1,iE 1,iE 0]),.m (.b true),.m (iE 0)]⟩ :: T2
theorem t3_ok : Cc G T3:=BD mono t2_ok (n:=100000) (by kernel_rfl)
def T4 : List Ent:=⟨86,[vE1,.ag [.sl [[iE 0,iE 0,iE 1]],iE 1,iE 1,iE 0],iE 0],.tu [.m (.sl [[iE 0,iE 0,iE 1]]),.m (iE 0)]⟩ :: T3
theorem t4_ok : Cc G T4:=BD mono t3_ok (n:=100000) (by kernel_rfl)
def T5 : List Ent:=⟨45,[vE1,.sl [[.sl [[iE 0,iE 0,iE 1]],iE 1,iE 1,iE 0]],.ag [iE 0,iE 0,iE 0,iE 0,iE 0]],.tu [.m (.sl [[iE 0,iE 0,iE 1]]),.m (iE 0)]⟩ :: T4
theorem t5_ok : Cc G T5:=BD mono t4_ok (n:=100000) (by kernel_rfl)
def T6 : List Ent:=⟨34,[vE1,vE2],.tu [.m (.sl [[.sl [[iE 0,iE 0,iE 1]]]]),.m (iE 0)]⟩ :: T5
theorem t6_ok : Cc G T6:=BD mono t5_ok (n:=100000) (by kernel_rfl)
def T7 : List Ent:=⟨82,[vE1,.sl [[iE 1,iE 0,iE 1]]],.tu [.m (.sl [[iE 2,iE 0,iE 1]]),.m (iE 0)]⟩ :: T6
theorem t7_ok : Cc G T7:=BD mono t6_ok (n:=100000) (by kernel_rfl)
def T8 : List Ent:=⟨82,[vE1,.sl [[iE 2,iE 0,iE 1]]],.tu [.m (.sl [[iE 3,iE 0,iE 1]]),.m (iE 0)]⟩ :: T7
theorem t8_ok : Cc G T8:=BD mono t7_ok (n:=100000) (by kernel_rfl)
def T9 : List Ent:=⟨15,[vE1,vE2],.m (iE 0)⟩ :: T8
theorem t9_ok : Cc G T9:=BD mono t8_ok (n:=100000) (by kernel_rfl)
def T10 : List Ent:=⟨45,[vE1,.sl [[.sl [[iE 0,iE 0,iE 1]],iE 1,iE 1,iE 0]],.ag [iE 0,iE 0,iE 0,iE (-5),iE 0]],.tu [.m (.sl [[iE (-5),iE 0,iE 1]]),.m (iE 0)]⟩ :: T9
theorem Abs : Cc G T10:=BD mono t9_ok (n:=100000) (by kernel_rfl)
def T11 : List Ent:=⟨60,[vE1,.sl [[.sl [[iE 0,iE 0,iE 1]],iE 1,iE 1,iE 0]],.ag [iE 0,iE 0,iE 0,iE 0,iE 0],iE 5],.tu [.m (.ag [iE 0,iE 0,iE 0,iE (-5),iE 0]),.m (iE 0)]⟩ :: T10
theorem Abr : Cc G T11:=BD mono Abs (n:=100000) (by kernel_rfl)
def T12 : List Ent:=⟨82,[vE1,.sl [[iE (-5),iE 0,iE 1]]],.tu [.m (.sl [[iE (-4),iE 0,iE 1]]),.m (iE 0)]⟩ :: T11
theorem Abq : Cc G T12:=BD mono Abr (n:=100000) (by kernel_rfl)
def T13 : List Ent:=⟨82,[vE1,.sl [[iE (-4),iE 0,iE 1]]],.tu [.m (.sl [[iE (-3),iE 0,iE 1]]),.m (iE 0)]⟩ :: T12
theorem Abp : Cc G T13:=BD mono Abq (n:=100000) (by kernel_rfl)
def T14 : List Ent:=⟨82,[vE1,.sl [[iE (-3),iE 0,iE 1]]],.tu [.m (.sl [[iE (-2),iE 0,iE 1]]),.m (iE 0)]⟩ :: T13
theorem Abo : Cc G T14:=BD mono Abp (n:=100000) (by kernel_rfl)
def T15 : List Ent:=⟨82,[vE1,.sl [[iE (-2),iE 0,iE 1]]],.tu [.m (.sl [[iE (-1),iE 0,iE 1]]),.m (iE 0)]⟩ :: T14
theorem Abn : Cc G T15:=BD mono Abo (n:=100000) (by kernel_rfl)
def T16 : List Ent:=⟨82,[vE1,.sl [[iE (-1),iE 0,iE 1]]],.tu [.m (.sl [[iE 0,iE 0,iE 1]]),.m (iE 0)]⟩ :: T15
theorem Abm : Cc G T16:=BD mono Abn (n:=100000) (by kernel_rfl)
def T17 : List Ent:=⟨45,[vE1,.sl [[.sl [[iE 0,iE 0,iE 1]],iE 1,iE 1,iE 0],[.sl [[iE 0,iE 0,iE 1]],iE 1,iE 1,iE 0]],.ag [iE 0,iE 0,iE 0,iE 0,iE 0]],.tu [.m (.sl [[iE 0,iE 0,iE 1]]),.m (iE 0)]⟩ :: T16
theorem Abl : Cc G T17:=BD mono Abm (n:=100000) (by kernel_rfl)
theorem YG : Gives G 12 [] [] (.m (.b true)) []:=Xq mono Abl (n:=100000) (by kernel_rfl)
end Go.Mx.Tryz
set_option maxRecDepth 100000
namespace Go.Mx.Tryz
structure Ce where
 x : Int
 y : Int
 s : Int
def Ce.i (c : Ce) : List I:=[.i .i64 c.x,.i .i64 c.y,.i .i64 c.s]
def Ag (p : List Ce) : List (List I):=p.map Ce.i
@[simp] theorem Pi (p : List Ce) : (Ag p).length = p.length:=by simp [Ag]
theorem An {p : List Ce} {i : Nat} {c : Ce} (h : p[i]? = some c) : nth (Ag p) i = some [.i .i64 c.x,.i .i64 c.y,.i .i64 c.s]:=by
 rw [AV]
 simp [Ag,h,Ce.i]
def AE (x y : Int) : Bool:=decide (-1048576 <= x /\ x <= 1048576 /\ -1048576 <= y /\ y <= 1048576)
def AW (a b : Ce) : Bool:=decide (a.y < b.y \/ (a.y = b.y /\ a.x < b.x))
def Cj (c : Ce) : Bool:=AE c.x c.y && decide (1 <= c.s) && decide (c.s < 8)
def CE : Option Ce -> List Ce -> Bool
 | _,[]=>true
 | none,c :: r=>Cj c && CE (some c) r
 | some a,c :: r=>Cj c && AW a c && CE (some c) r
def AP (p : List Ce) : Bool:=decide (p.length <= 5000) && CE none p
theorem Gt (x y : Int) (H : Hp) : Gives G 66 [.m (.ag [.i .i64 x,.i .i64 y])] H (.m (.b (AE x y))) H:=by
 refine Ae rfl rfl rfl rfl rfl ?_
 simp (contextual:=true) [Ai,-Int.not_lt,-Int.not_le,-Nat.not_lt,-Nat.not_le,-List.map_take,AE]
 grind
theorem Gu (x y : Int) (H : Hp) : Gives G 78 [.m (.i .i64 x),.m (.i .i64 y)] H (.m (.b (AE x y))) H:=by
 refine Ae rfl rfl rfl rfl rfl ?_
 simp (contextual:=true) [Ai,-Int.not_lt,-Int.not_le,-Nat.not_lt,-Nat.not_le,-List.map_take,AE]
theorem YO (c : Ce) (H : Hp) : Gives G 67 [.m (.ag [.i .i64 c.x,.i .i64 c.y,.i .i64 c.s])] H (.m (.ag [.i .i64 c.x,.i .i64 c.y])) H:=by
 refine Ae rfl rfl rfl rfl rfl ?_
 simp
theorem nan_s (x : Int) (H : Hp) : Gives G 177 [.m (.i .i64 x)] H (.m (.b false)) H:=by
 refine Ae rfl rfl rfl rfl rfl ?_
 simp
def Dr (x y : Int) : Int:=if x < y then -1 else if y < x then 1 else 0
theorem Acg (x y : Int) (H : Hp) : Gives G 149 [.m (.i .i64 x),.m (.i .i64 y)] H (.m (.i .i64 (Dr x y))) H:=by
 refine Ae rfl rfl rfl rfl rfl ?_
 simp (contextual:=true) [Ah,-Int.not_lt,-Int.not_le,-Nat.not_lt,-Nat.not_le,-List.map_take,cl (nan_s _ _),Dr]
theorem AbK (a b : Int) (H : Hp) : Gives G 148 [.m (.sl [[.i .i64 a],[.i .i64 b]])] H (.m (.i .i64 (if a = 0 then b else a))) H:=by
 refine Ae rfl rfl rfl rfl rfl ?_
 simp (contextual:=true) [Ah,-Int.not_lt,-Int.not_le,-Nat.not_lt,-Nat.not_le,-List.map_take,Aa,c148_B0]
def Jw (x y z w : Int) : Int:=if Dr y w = 0 then Dr x z else Dr y w
theorem VN (x y z w : Int) (H : Hp) : Gives G 110 [.m (.ag [.i .i64 x,.i .i64 y]),.m (.ag [.i .i64 z,.i .i64 w])] H (.m (.i .i64 (Jw x y z w))) H:=by
 refine Ae rfl rfl rfl rfl rfl ?_
 have hv:=Ba (vs:=[.ls [[.i .i64 (Dr y w)],[.i .i64 (Dr x z)]]]) (H:=[]) rfl rfl (AbK (Dr y w) (Dr x z) []) rfl (.inl ⟨rfl,rfl⟩)
 simp [cl (Acg _ _ _),cl hv,Jw]
theorem Sb (a b : Ce) (H : Hp) : Gives G 69 [.m (.ag [.i .i64 a.x,.i .i64 a.y,.i .i64 a.s]),.m (.ag [.i .i64 b.x,.i .i64 b.y,.i .i64 b.s])] H (.m (.i .i64 (Jw a.x a.y b.x b.y))) H:=by
 refine Ae rfl rfl rfl rfl rfl ?_
 simp [cl (YO _ _),cl (VN _ _ _ _ _)]
theorem SK (a b : Ce) : (0 <= Jw a.x a.y b.x b.y) ↔ AW a b = false:=by
 unfold AW Jw Dr
 grind
theorem Jx (a b : Ce) (H : Hp) : Gives G 80 [.m (.ag [.i .i64 a.x,.i .i64 a.y,.i .i64 a.s]),.m (.ag [.i .i64 b.x,.i .i64 b.y,.i .i64 b.s])] H (.m (.b (AW a b))) H:=by
 refine Ae rfl rfl rfl rfl rfl ?_
 simp (contextual:=true) [Ai,-Int.not_lt,-Int.not_le,-Nat.not_lt,-Nat.not_le,-List.map_take,AW]
def JA (p : List Ce) : Nat -> Option Ce
 | 0=>none
 | i + 1=>p[i]?
theorem IF {p : List Ce} {i : Nat} {c : Ce} (hx : p[i]? = some c) (hi : ∀ j,i = j + 1 -> j < p.length) : CE (JA p i) (c :: p.drop (i + 1)) = (Cj c && (match JA p i with | none=>true | some a=>AW a c) && CE (JA p (i + 1)) (p.drop (i + 1))):=by
 have : JA p (i + 1) = some c:=hx
 rw [this]
 cases JA p i with
 | none=>show (Cj c && CE (some c) _) = _; simp
 | some a=>show (Cj c && AW a c && CE (some c) _) = _; simp
theorem Da {v : I} {p : List Ce} (hv : IsSl v (Ag p)) (hl : (p.length : Int) <= 9223372036854775807) (H : Hp) : Gives G 62 [.m v] H (.m (.b (AP p))) H:=by
 refine Ae rfl rfl rfl rfl rfl ?_
 simp (contextual:=true) [Ah,-Int.not_lt,-Int.not_le,-Nat.not_lt,-Nat.not_le,-List.map_take,hv.rules]
 refine ⟨fun h=>?_,fun h=>?_⟩
 ·unfold AP
  grind
 refine (?key : ∀ (i : Nat) (B : List (Nat × List V)),i <= p.length -> AP p = CE (JA p i) (p.drop i) -> Run G c62_B0 (S62_0 (.m v) (.m v) (.m (.i .i64 p.length)) (.m (.i .i64 i)) B []) _) 0 [] (AcF _) ?_
 case key =>
  refine Bk (fun i : Nat=>p.length - i) fun i ih B hi hr=>?_
  unfold c62_B0
  cases hx : p[i]? with
  | none =>
   have : i = p.length:=by have:=AcB.1 hx; omega
   subst this
   have : CE (JA p p.length) [] = true:=by cases JA p p.length <;> rfl
   simp [hr,this]
  | some c =>
   have hlt:=(Al hx).1
   have hn:=An hx
   rw [(Al hx).2,IF hx (by omega)] at hr
   have hg : Cj c = (AE c.x c.y && decide (1 <= c.s) && decide (c.s < 8)):=rfl
   cases i with
   | zero =>
    simp (contextual:=true) (maxSteps:=2000000) (disch:=omega) [Ah,Ai,Ad,-Int.not_lt,-Int.not_le,-Nat.not_lt,-Nat.not_le,-List.map_take,hv.rules,hn,hlt,cl (YO _ _),cl (Gt _ _ _),Aa]
    repeat' first | with_reducible apply And.intro | intro _
    all_goals first
     | (refine ih 1 (by omega) _ (by omega) ?_; grind [JA])
     | grind [JA]
   | succ j =>
    obtain ⟨c0,hx0⟩ : ∃ c0,p[j]? = some c0:=⟨p[j],AcA (by omega)⟩
    have hn0:=An hx0
    have e3 : (j : Int) + 1 < p.length:=by omega
    have e4 : (j : Int) < p.length:=by omega
    have e6 : (0 : Int) <= j + 1:=by omega
    have e7 : ((j : Int) + 1).toNat = j + 1:=by omega
    have hp0 : JA p (j + 1) = some c0:=hx0
    simp only [hp0] at hr
    simp (contextual:=true) (maxSteps:=2000000) (disch:=omega) [Ah,Ai,Ad,-Int.not_lt,-Int.not_le,-Nat.not_lt,-Nat.not_le,-List.map_take,hv.rules,hn,hn0,e3,e7,cl (YO _ _),cl (Gt _ _ _),cl (Sb _ _ _),Aa,SK]
    repeat' first | with_reducible apply And.intro | intro _
    all_goals first
     | (refine ih (j + 2) (by omega) _ (by omega) ?_; grind)
     | grind
 ·have : p.length <= 5000:=by omega
  simp [AP,this,JA]
theorem Hy {v : I} {p : List Ce} (hv : IsSl v (Ag p)) (hl : (p.length : Int) <= 9223372036854775807) (H : Hp) : Gives G 72 [.m v] H (.m (.b (AP p))) H:=by
 refine Ae rfl rfl rfl rfl rfl ?_
 simp (contextual:=true) (maxSteps:=2000000) (disch:=omega) [-Int.not_lt,-Int.not_le,-Nat.not_lt,-Nat.not_le,-List.map_take]
 refine (?key : ∀ (i : Nat) (B : List (Nat × List V)),i <= p.length -> CE none p = CE (JA p i) (p.drop i) -> Run G c72_B0 (S72_0 (.m v) (.m (.i .i64 i)) B []) _) 0 [] (AcF _) rfl
 refine Bk (fun i : Nat=>p.length - i) fun i ih B hi hr=>?_
 unfold c72_B0
 have hR : AP p = (decide (p.length <= 5000) && CE none p):=rfl
 cases hx : p[i]? with
 | none =>
  have : i = p.length:=by have:=AcB.1 hx; omega
  subst this
  have : CE (JA p p.length) [] = true:=by cases JA p p.length <;> rfl
  simp [hv.rules,hR,hr,this]
  omega
 | some c =>
  have hlt:=(Al hx).1
  have hn:=An hx
  rw [(Al hx).2,IF hx (by omega)] at hr
  have hg : Cj c = (AE c.x c.y && decide (1 <= c.s) && decide (c.s < 8)):=rfl
  cases i with
  | zero =>
   simp (contextual:=true) (maxSteps:=2000000) (disch:=omega) [Ah,Ai,Ad,-Int.not_lt,-Int.not_le,-Nat.not_lt,-Nat.not_le,-List.map_take,hv.rules,hn,hlt,cl (Gu _ _ _),Aa]
   repeat' first | with_reducible apply And.intro | intro _
   all_goals first
    | (refine ih 1 (by omega) _ (by omega) ?_; grind [JA])
    | grind [JA]
  | succ j =>
   obtain ⟨c0,hx0⟩ : ∃ c0,p[j]? = some c0:=⟨p[j],AcA (by omega)⟩
   have hn0:=An hx0
   have e3 : (j : Int) + 1 < p.length:=by omega
   have e4 : (j : Int) < p.length:=by omega
   have e6 : (0 : Int) <= j + 1:=by omega
   have e7 : ((j : Int) + 1).toNat = j + 1:=by omega
   have hp0 : JA p (j + 1) = some c0:=hx0
   simp only [hp0] at hr
   simp (contextual:=true) (maxSteps:=2000000) (disch:=omega) [Ah,Ai,Ad,-Int.not_lt,-Int.not_le,-Nat.not_lt,-Nat.not_le,-List.map_take,hv.rules,hn,hn0,e3,e7,cl (Jx _ _ _),cl (Gu _ _ _),Aa]
   repeat' first | with_reducible apply And.intro | intro _
   all_goals first
    | (refine ih (j + 2) (by omega) _ (by omega) ?_; grind)
    | grind
theorem Bz {B n : Nat} {l : List I} (h : Fits Go.Proofs.Tryz.prog B (n + 1) 3 l) : ∃ x : Int,l = [.i .i64 x] /\ -9223372036854775808 <= x /\ x <= 9223372036854775807:=by
 unfold Fits at h
 rw [Go.Proofs.Tryz.underlying3] at h
 simp only at h
 obtain ⟨x,rfl,hx⟩:=h
 have e1 : IntKind.i64.min = -9223372036854775808:=by decide
 have e2 : IntKind.i64.max = 9223372036854775807:=by decide
 rw [e1,e2] at hx
 exact ⟨x,rfl,hx⟩
theorem UZ {B n : Nat} {l : List I} (h : Fits Go.Proofs.Tryz.prog B (n + 2) 73 l) : ∃ d : Ce,l = d.i:=by
 unfold Fits at h
 rw [Go.Proofs.Tryz.underlying73] at h
 simp only [FitsF] at h
 obtain ⟨x1,y1,rfl,k1,x2,y2,rfl,k2,x3,y3,rfl,k3,rfl⟩:=h
 obtain ⟨u,rfl,_⟩:=Bz k1
 obtain ⟨v,rfl,_⟩:=Bz k2
 obtain ⟨w,rfl,_⟩:=Bz k3
 exact ⟨⟨u,v,w⟩,rfl⟩
theorem SF {es : List (List I)} (h : ∀ x,x ∈ es -> ∃ d : Ce,x = d.i) : ∃ p : List Ce,es = Ag p:=by
 induction es with
 | nil=>exact ⟨[],rfl⟩
 | cons x r ih =>
  obtain ⟨d,rfl⟩:=h x (by simp)
  obtain ⟨p,rfl⟩:=ih fun x hx=>h x (by simp [hx])
  exact ⟨d :: p,rfl⟩
theorem SE {B n : Nat} {l : List I} (h : Fits Go.Proofs.Tryz.prog B (n + 3) 29 l) : ∃ (p : List Ce) (v : I),l = [v] /\ IsSl v (Ag p) /\ p.length <= B:=by
 unfold Fits at h
 rw [Go.Proofs.Tryz.underlying29] at h
 simp only at h
 rcases h with rfl | ⟨es,rfl,hle,hes⟩
 ·exact ⟨[],_,rfl,AH,by simp⟩
 ·obtain ⟨p,rfl⟩:=SF fun x hx=>UZ (hes x hx)
  exact ⟨p,_,rfl,Be _,by rw [Pi] at hle; exact hle⟩
def mnF (m : Int) (l : List Int) : Int:=l.foldl min m
def mxF (m : Int) (l : List Int) : Int:=l.foldl max m
theorem Gx (m : Int) (l : List Int) (x : Int) : mnF m (l ++ [x]) = min (mnF m l) x:=by simp [mnF]
theorem NK (m : Int) (l : List Int) (x : Int) : mxF m (l ++ [x]) = max (mxF m l) x:=by simp [mxF]
def Lb (p : List Ce) : List Int:=match p with
 | []=>[0,0,0,0]
 | c :: r=>if AP (c :: r) = true then
   [mnF c.x ((c :: r).map Ce.x),c.y,wr .i64 (wr .i64 (mxF c.x ((c :: r).map Ce.x) - mnF c.x ((c :: r).map Ce.x)) + 1),wr .i64 (wr .i64 (((c :: r).getLast (by simp)).y - c.y) + 1)]
  else [0,0,0,0]
def Od (p : List Ce) : V:=.tu [.m (.ag ((Lb p).map (.i .i64))),.m (.b (!p.isEmpty && AP p))]
theorem CC {α β : Type} {p : List α} {i : Nat} {c : α} (f : α -> β) (h : p[i]? = some c) : (p.take (i + 1)).map f = (p.take i).map f ++ [f c]:=by rw [Ap h]; simp
theorem Acl {v : I} {p : List Ce} (hv : IsSl v (Ag p)) (hl : (p.length : Int) <= 9223372036854775807) (H : Hp) : Gives G 103 [.m v] H (Od p) H:=by
 refine Ae rfl rfl rfl rfl rfl ?_
 have g:=Da hv hl []
 cases hp : p with
 | nil=>subst hp; simp (contextual:=true) (maxSteps:=2000000) (disch:=omega) [Ah,Ad,-Int.not_lt,-Int.not_le,-Nat.not_lt,-Nat.not_le,-List.map_take,hv.rules,Od,Lb]
 | cons c r =>
  rw [<- hp]
  have h0 : p[0]? = some c:=by rw [hp]; rfl
  have hn0:=An h0
  have e1 : 0 < p.length:=by rw [hp]; simp
  obtain ⟨cl,hcl⟩ : ∃ d,p[p.length - 1]? = some d:=⟨p[p.length - 1],AcA (by omega)⟩
  have hnl:=An hcl
  have hla : ∀ h,(c :: r).getLast h = cl:=fun h=>by
   have : p.getLast (by rw [hp]; simp) = cl:=by rw [List.getLast_eq_getElem,<- Acv,<- hcl,AcA]
   simpa [hp] using this
  have hw : wr .i64 ((p.length : Int) - 1) = ((p.length - 1 : Nat) : Int):=by rw [Aa] <;> omega
  have e2 : ¬ ((p.length : Int) = 0):=by omega
  have e4 : ¬ p = []:=by rw [hp]; simp
  simp (contextual:=true) (maxSteps:=2000000) (disch:=omega) [Ah,Ad,-Int.not_lt,-Int.not_le,-Nat.not_lt,-Nat.not_le,-List.map_take,hv.rules,Mx.Tryz.cl g,hn0,e4]
  refine ⟨fun hr=>?_,fun hr=>?_⟩
  ·rw [hp] at hr ⊢; simp [Od,Lb,hr]
  refine (?key : ∀ (i : Nat) (B : List (Nat × List V)),i <= p.length -> (∃ a b d e,getB B 2 = some [a,b,d,e]) -> Run G c103_B0 (S103_0 (.m v) (.fa 2 0) (.m (.i .i64 (mnF c.x ((p.take i).map Ce.x)))) (.m (.i .i64 (mxF c.x ((p.take i).map Ce.x)))) (.m v) (.m (.i .i64 p.length)) (.m (.i .i64 i)) B []) _) 0 _ (AcF _) ⟨_,_,_,_,rfl⟩
  refine Bk (fun i : Nat=>p.length - i) fun i ih B hi hB=>?_
  unfold c103_B0
  cases hx : p[i]? with
  | none =>
   have : i = p.length:=by have:=AcB.1 hx; omega
   subst this
   obtain ⟨a,b,d,e,hB⟩:=hB
   have hlt : p.length - 1 < p.length:=by omega
   have e3 : ((p.length : Int) - 1).toNat = p.length - 1:=by omega
   simp (contextual:=true) (maxSteps:=2000000) (disch:=omega) [hv.rules,hn0,hnl,hB,e3,Aa,Ah,-Int.not_lt,-Int.not_le,-Nat.not_lt,-Nat.not_le,-List.map_take]
   rw [hp] at hr ⊢
   simp [Od,Lb,hr,hla]
  | some d =>
   have hlt:=(Al hx).1
   have hn:=An hx
   have ih:=ih (i + 1) (by omega)
   simp only [CC _ hx,Gx,NK] at ih
   simp (contextual:=true) (maxSteps:=2000000) (disch:=omega) [Ah,-Int.not_lt,-Int.not_le,-Nat.not_lt,-Nat.not_le,-List.map_take,hv.rules,hn,hlt,Aa]
   exact ih _ (by omega) (by simpa using hB)
theorem Ez {a b c : Ce} (h1 : AW a b = true) (h2 : AW b c = true) : AW a c = true:=by
 unfold AW at *
 grind
theorem KZ : ∀ (p : List Ce) (o : Option Ce),CE o p = true -> p.Pairwise (fun a b=>AW a b = true) /\ (∀ a,o = some a -> ∀ d,d ∈ p -> AW a d = true) /\ ∀ d,d ∈ p -> Cj d = true
 | [],_,_=>⟨.nil,fun _ _ d hd=>by simp at hd,fun d hd=>by simp at hd⟩
 | c :: r,o,h=>by
  have h' : Cj c = true /\ (∀ a,o = some a -> AW a c = true) /\ CE (some c) r = true:=by
   cases o with
   | none =>
    have : (Cj c && CE (some c) r) = true:=h
    rw [Acx] at this
    exact ⟨this.1,fun _ h=>(by cases h),this.2⟩
   | some a =>
    have : (Cj c && AW a c && CE (some c) r) = true:=h
    simp only [Acx] at this
    exact ⟨this.1.1,fun _ h=>(by cases h; exact this.1.2),this.2⟩
  obtain ⟨g1,g2,g3⟩:=h'
  obtain ⟨i1,i2,i3⟩:=KZ r (some c) g3
  refine ⟨Adl.2 ⟨fun d hd=>i2 c rfl d hd,i1⟩,fun a ha d hd=>?_,fun d hd=>?_⟩
  ·rcases AcU.1 hd with rfl | hd
   ·exact g2 a ha
   ·exact Ez (g2 a ha) (i2 c rfl d hd)
  ·rcases AcU.1 hd with rfl | hd
   ·exact g1
   ·exact i3 d hd
theorem Cs {p : List Ce} (h : AP p = true) : p.Pairwise (fun a b=>AW a b = true) /\ (∀ d,d ∈ p -> Cj d = true) /\ p.length <= 5000:=by
 unfold AP at h
 simp only [Acx,AcK] at h
 have:=KZ p none h.2
 exact ⟨this.1,this.2.2,h.1⟩
theorem IA : ∀ (l : List Int) (m x : Int),(x <= m /\ ∀ y,y ∈ l -> x <= y) -> x <= mnF m l
 | [],m,x,h=>h.1
 | y :: r,m,x,h=>IA r (min m y) x ⟨by have:=h.1; have:=h.2 y (by simp); omega,fun z hz=>h.2 z (by simp [hz])⟩
theorem HG : ∀ (l : List Int) (m : Int),mnF m l <= m /\ ∀ y,y ∈ l -> mnF m l <= y
 | [],m=>⟨Int.le_refl _,fun y hy=>by simp at hy⟩
 | y :: r,m=>by
  obtain ⟨h1,h2⟩:=HG r (min m y)
  refine ⟨by show mnF (min m y) r <= m; omega,fun z hz=>?_⟩
  show mnF (min m y) r <= z
  rcases AcU.1 hz with rfl | hz
  ·omega
  ·exact h2 z hz
theorem NL : ∀ (l : List Int) (m : Int),m <= mxF m l /\ ∀ y,y ∈ l -> y <= mxF m l
 | [],m=>⟨Int.le_refl _,fun y hy=>by simp at hy⟩
 | y :: r,m=>by
  obtain ⟨h1,h2⟩:=NL r (max m y)
  refine ⟨by show m <= mxF (max m y) r; omega,fun z hz=>?_⟩
  show z <= mxF (max m y) r
  rcases AcU.1 hz with rfl | hz
  ·omega
  ·exact h2 z hz
theorem Sn : ∀ (l : List Int) (m x : Int),(m <= x /\ ∀ y,y ∈ l -> y <= x) -> mxF m l <= x
 | [],m,x,h=>h.1
 | y :: r,m,x,h=>Sn r (max m y) x ⟨by have:=h.1; have:=h.2 y (by simp); omega,fun z hz=>h.2 z (by simp [hz])⟩
theorem Jl {c d : Ce} {r : List Ce} (h : AP (c :: r) = true) (hd : (c :: r)[(c :: r).length - 1]? = some d) : mnF c.y ((c :: r).map Ce.y) = c.y /\ mxF c.y ((c :: r).map Ce.y) = d.y:=by
 obtain ⟨pw,_,_⟩:=Cs h
 have first : ∀ y,y ∈ (c :: r).map Ce.y -> c.y <= y:=fun y hy=>by
  obtain ⟨e,he,rfl⟩:=Adc.1 hy
  rcases AcU.1 he with rfl | he
  ·exact Int.le_refl _
  ·have:=(Adl.1 pw).1 e he
   unfold AW at this
   simp only [AcK] at this
   omega
 have last : ∀ y,y ∈ (c :: r).map Ce.y -> y <= d.y:=fun y hy=>by
  obtain ⟨e,he,rfl⟩:=Adc.1 hy
  obtain ⟨i,hi,rfl⟩:=List.mem_iff_getElem.1 he
  by_cases hil : i = (c :: r).length - 1
  ·subst hil
   rw [AcA hi] at hd
   cases hd
   exact Int.le_refl _
  ·have hj : (c :: r).length - 1 < (c :: r).length:=by simp
   have:=Adt.1 pw i ((c :: r).length - 1) hi hj (by omega)
   rw [AcA hj] at hd
   cases hd
   unfold AW at this
   simp only [AcK] at this
   omega
 have dm : d.y ∈ (c :: r).map Ce.y:=Adc.2 ⟨d,AcE hd,rfl⟩
 have c0:=HG ((c :: r).map Ce.y) c.y
 have c1:=IA ((c :: r).map Ce.y) c.y c.y ⟨Int.le_refl _,first⟩
 have c2:=NL ((c :: r).map Ce.y) c.y
 have c3:=Sn ((c :: r).map Ce.y) c.y d.y ⟨last _ (by simp),last⟩
 have c4:=c2.2 _ dm
 constructor <;> omega
theorem Acm {v : I} {p : List Ce} (hv : IsSl v (Ag p)) (hl : (p.length : Int) <= 9223372036854775807) (H : Hp) : Gives G 74 [.m v] H (Od p) H:=by
 refine Ae rfl rfl rfl rfl rfl ?_
 have g:=Hy hv hl []
 cases hp : p with
 | nil=>subst hp; simp (contextual:=true) (maxSteps:=2000000) (disch:=omega) [Ah,Ad,-Int.not_lt,-Int.not_le,-Nat.not_lt,-Nat.not_le,-List.map_take,hv.rules,Od,Lb]
 | cons c r =>
  rw [<- hp]
  have h0 : p[0]? = some c:=by rw [hp]; rfl
  have hn0:=An h0
  have e1 : 0 < p.length:=by rw [hp]; simp
  obtain ⟨cl,hcl⟩ : ∃ d,p[p.length - 1]? = some d:=⟨p[p.length - 1],AcA (by omega)⟩
  have hla : ∀ h,(c :: r).getLast h = cl:=fun h=>by
   have : p.getLast (by rw [hp]; simp) = cl:=by rw [List.getLast_eq_getElem,<- Acv,<- hcl,AcA]
   simpa [hp] using this
  have e2 : ¬ ((p.length : Int) = 0):=by omega
  have e4 : ¬ p = []:=by rw [hp]; simp
  simp (contextual:=true) (maxSteps:=2000000) (disch:=omega) [Ah,Ad,-Int.not_lt,-Int.not_le,-Nat.not_lt,-Nat.not_le,-List.map_take,hv.rules,Mx.Tryz.cl g,hn0,e4]
  refine ⟨fun hr=>?_,fun hr=>?_⟩
  ·rw [hp] at hr ⊢; simp [Od,Lb,hr]
  refine (?key : ∀ (i : Nat) (B : List (Nat × List V)),i <= p.length -> (∃ a b d e,getB B 2 = some [a,b,d,e]) -> Run G c74_B0 (S74_0 (.m v) (.fa 2 0) (.m (.i .i64 (mnF c.x ((p.take i).map Ce.x)))) (.m (.i .i64 (mnF c.y ((p.take i).map Ce.y)))) (.m (.i .i64 (mxF c.x ((p.take i).map Ce.x)))) (.m (.i .i64 (mxF c.y ((p.take i).map Ce.y)))) (.m (.i .i64 i)) B []) _) 0 _ (AcF _) ⟨_,_,_,_,rfl⟩
  refine Bk (fun i : Nat=>p.length - i) fun i ih B hi hB=>?_
  unfold c74_B0
  cases hx : p[i]? with
  | none =>
   have : i = p.length:=by have:=AcB.1 hx; omega
   subst this
   obtain ⟨a,b,d,e,hB⟩:=hB
   have hy:=Jl (hp ▸ hr) (hp ▸ hcl)
   simp (contextual:=true) (maxSteps:=2000000) (disch:=omega) [hv.rules,hB,Ah,-Int.not_lt,-Int.not_le,-Nat.not_lt,-Nat.not_le,-List.map_take]
   rw [hp] at hr ⊢
   simp only [Adi] at hy
   simp [Od,Lb,hr,hla,hy.1,hy.2]
  | some d =>
   have hlt:=(Al hx).1
   have hn:=An hx
   have ih:=ih (i + 1) (by omega)
   simp only [CC _ hx,Gx,NK] at ih
   simp (contextual:=true) (maxSteps:=2000000) (disch:=omega) [Ah,-Int.not_lt,-Int.not_le,-Nat.not_lt,-Nat.not_le,-List.map_take,hv.rules,hn,hlt,Aa]
   exact ih _ (by omega) hB
def CU (p : List Ce) (x y : Int) : Int:=match p with
 | []=>0
 | c :: r=>if c.x = x /\ c.y = y then c.s else CU r x y
theorem get_r {v : I} {p : List Ce} (hv : IsSl v (Ag p)) (hl : (p.length : Int) <= 9223372036854775807) (x y : Int) (H : Hp) : Gives G 154 [.m v,.m (.i .i64 x),.m (.i .i64 y)] H (.m (.i .i64 (CU p x y))) H:=by
 refine Ae rfl rfl rfl rfl rfl ?_
 simp (contextual:=true) (maxSteps:=2000000) (disch:=omega) [-Int.not_lt,-Int.not_le,-Nat.not_lt,-Nat.not_le,-List.map_take]
 refine (?key : ∀ (i : Nat),i <= p.length -> CU p x y = CU (p.drop i) x y -> Run G c154_B0 (S154_0 (.m v) (.m (.i .i64 x)) (.m (.i .i64 y)) (.m (.i .i64 i)) [] []) _) 0 (AcF _) rfl
 refine Bk (fun i : Nat=>p.length - i) fun i ih hi hr=>?_
 unfold c154_B0
 cases hx : p[i]? with
 | none =>
  have : i = p.length:=by have:=AcB.1 hx; omega
  subst this
  simp (contextual:=true) (maxSteps:=2000000) (disch:=omega) [hv.rules,hr,CU]
 | some d =>
  have hlt:=(Al hx).1
  have hn:=An hx
  rw [(Al hx).2] at hr
  simp (contextual:=true) (maxSteps:=2000000) (disch:=omega) [Ah,Ai,-Int.not_lt,-Int.not_le,-Nat.not_lt,-Nat.not_le,-List.map_take,hv.rules,hn,hlt,Aa]
  repeat' first | with_reducible apply And.intro | intro _
  all_goals first
   | (refine ih (i + 1) (by omega) (by omega) ?_; grind [CU])
   | grind [CU]
open Go.Lib
structure TreeC where
 states : Int
 hood : List (Int × Int)
 nodes : List (Int × List Int)
def KQ (a b : Int × Int) : Bool:=decide (a.2 < b.2 \/ (a.2 = b.2 /\ a.1 < b.1))
def HD (p : Int × Int) : Bool:=decide ((-2 <= p.1 /\ p.1 <= 2) /\ (-2 <= p.2 /\ p.2 <= 2))
def JB : Option (Int × Int) -> List (Int × Int) -> Bool
 | _,[]=>true
 | none,p :: r=>HD p && JB (some p) r
 | some a,p :: r=>HD p && KQ a p && JB (some p) r
def BW (l : List (Int × Int)) : Bool:=decide (1 <= l.length /\ l.length <= 25) && JB none l
theorem Oa : ∀ (l : List (Int × Int)) (a : Option (Int × Int)),JB a l = true -> ∀ p,p ∈ l -> HD p = true
 | [],_,_,p,hp=>by cases hp
 | q :: r,a,h,p,hp=>by
  have h' : HD q = true /\ JB (some q) r = true:=by
   cases a with
   | none=>exact (Acx _ _).mp h
   | some b =>
    have h : (HD q && KQ b q && JB (some q) r) = true:=h
    rw [Acx,Acx] at h
    exact ⟨h.1.1,h.2⟩
  rcases AcU.1 hp with rfl | hp
  ·exact h'.1
  ·exact Oa r _ h'.2 p hp
def levAt (nodes : List (Int × List Int)) (k : Int) : Int:=match nodes[k.toNat]? with
 | some n=>n.1
 | none=>0
def Pv (t : TreeC) (i : Nat) (lev k : Int) : Bool:=decide (¬ k < 0 /\ ¬ (lev = 1 /\ t.states <= k) /\ ¬ (1 < lev /\ ((i : Int) <= k \/ ¬ levAt t.nodes k = lev - 1)))
def EM (t : TreeC) (i : Nat) (n : Int × List Int) : Bool:=decide (1 <= n.1 /\ n.1 <= t.hood.length /\ (n.2.length : Int) = t.states) && n.2.all (Pv t i n.1)
def nodesOk (t : TreeC) : Nat -> List (Int × List Int) -> Bool
 | _,[]=>true
 | i,n :: r=>EM t i n && nodesOk t (i + 1) r
def Bp (t : TreeC) : Bool:=decide (2 <= t.states /\ t.states <= 8) && (BW t.hood && (decide (1 <= t.nodes.length /\ t.nodes.length <= 4096) && (decide (levAt t.nodes (t.nodes.length - 1) = t.hood.length) && nodesOk t 0 t.nodes)))
theorem Iy (t : TreeC) : ∀ (l : List (Int × List Int)) (i : Nat),nodesOk t i l = true -> ∀ (j : Nat) n,l[j]? = some n -> EM t (i + j) n = true
 | [],_,_,j,n,h=>by simp at h
 | m :: r,i,h,j,n,hn=>by
  have h : (EM t i m && nodesOk t (i + 1) r) = true:=h
  rw [Acx] at h
  cases j with
  | zero=>simp at hn; subst hn; exact h.1
  | succ j =>
   have:=Iy t r (i + 1) h.2 j n (by simpa using hn)
   rw [show i + (j + 1) = i + 1 + j from by omega]
   exact this
structure TreeR (t : TreeC) : Prop where
 s2 : 2 <= t.states
 s8 : t.states <= 8
 hood : BW t.hood = true
 n1 : 1 <= t.nodes.length
 n2 : t.nodes.length <= 4096
 root : levAt t.nodes (t.nodes.length - 1) = t.hood.length
 node : ∀ (j : Nat) n,t.nodes[j]? = some n -> EM t j n = true
theorem Gq {t : TreeC} (h : Bp t = true) : TreeR t:=by
 unfold Bp at h
 simp only [Acx,AcK] at h
 obtain ⟨⟨a,b⟩,c,⟨d,e⟩,f,g⟩:=h
 exact ⟨a,b,c,d,e,f,fun j n hn=>by have:=Iy t _ 0 g j n hn; rwa [AdF] at this⟩
theorem BN {l : List (Int × Int)} (h : BW l = true) : 1 <= l.length /\ l.length <= 25:=by
 unfold BW at h
 simp only [Acx,AcK] at h
 exact h.1
theorem Dp {l : List (Int × Int)} (h : BW l = true) : ∀ p,p ∈ l -> (-2 <= p.1 /\ p.1 <= 2) /\ (-2 <= p.2 /\ p.2 <= 2):=fun p hp=>by
 unfold BW at h
 rw [Acx] at h
 have:=Oa _ _ h.2 p hp
 unfold HD at this
 exact of_decide_eq_true this
def Fp (nodes : List (Int × List Int)) (k s : Int) : Int:=match nodes[k.toNat]? with
 | some n=>(n.2[s.toNat]?).getD 0
 | none=>0
def valF (nodes : List (Int × List Int)) : Int -> List Int -> Int
 | k,[]=>k
 | k,s :: r=>valF nodes (Fp nodes k s) r
theorem KE (nodes : List (Int × List Int)) : ∀ (l : List Int) (k s : Int),valF nodes k (l ++ [s]) = Fp nodes (valF nodes k l) s
 | [],_,_=>rfl
 | x :: r,k,s=>KE nodes r (Fp nodes k x) s
def Jj (t : TreeC) (ins : List Int) : Int:=valF t.nodes (t.nodes.length - 1) ins
theorem Ee (t : TreeC) (l : List Int) (s : Int) : Jj t (l ++ [s]) = Fp t.nodes (Jj t l) s:=KE _ _ _ _
def ST (t : TreeC) (lev : Int) (k : Int) : Prop:=∃ (j : Nat) (n : Int × List Int),k = j /\ t.nodes[j]? = some n /\ n.1 = lev /\ (n.2.length : Int) = t.states
theorem KO {t : TreeC} (h : TreeR t) {lev k s : Int} (ha : ST t lev k) (hs : 0 <= s /\ s < t.states) : (lev = 1 -> 0 <= Fp t.nodes k s /\ Fp t.nodes k s < t.states) /\ (1 < lev -> ST t (lev - 1) (Fp t.nodes k s)) /\ 1 <= lev:=by
 obtain ⟨j,n,rfl,hn,hl,hlen⟩:=ha
 have hok:=h.node j n hn
 unfold EM at hok
 simp only [Acx,AcK,AcO] at hok
 obtain ⟨⟨a1,a2,a3⟩,a4⟩:=hok
 have hsl : s.toNat < n.2.length:=by omega
 have e : Fp t.nodes j s = n.2[s.toNat]:=by
  unfold Fp
  rw [show ((j : Int)).toNat = j from rfl,hn]
  dsimp only
  rw [AcA hsl]
  rfl
 have hel:=a4 (n.2[s.toNat]) (List.getElem_mem hsl)
 rw [<- e] at hel
 unfold Pv at hel
 have hel:=of_decide_eq_true hel
 refine ⟨fun h1=>?_,fun h1=>?_,by omega⟩
 ·have:=hel.2.1; omega
 ·have h2:=hel.2.2
  have h3 : ¬ (j : Int) <= Fp t.nodes j s:=fun hh=>h2 ⟨by omega,.inl hh⟩
  have h4 : levAt t.nodes (Fp t.nodes j s) = n.1 - 1:=AdE fun hh=>h2 ⟨by omega,.inr hh⟩
  generalize Fp t.nodes j s = k' at *
  have h0 : ¬ k' < 0:=hel.1
  obtain ⟨i,rfl⟩:=AcQ (show 0 <= k' by omega)
  have hjl:=(Acy.1 hn).1
  have hil : i < t.nodes.length:=by omega
  refine ⟨i,t.nodes[i],rfl,AcA hil,?_,?_⟩
  ·unfold levAt at h4
   rw [show ((i : Int)).toNat = i from rfl,AcA hil] at h4
   dsimp only at h4
   omega
  ·have:=h.node i _ (AcA hil)
   unfold EM at this
   simp only [Acx,AcK] at this
   exact this.1.2.2
theorem KD {t : TreeC} (h : TreeR t) : ∀ (m : Nat) (ins : List Int),ins.length = m -> m < t.hood.length -> (∀ s,s ∈ ins -> 0 <= s /\ s < t.states) -> ST t (t.hood.length - m) (Jj t ins)
 | 0,ins,hl,hm,hs=>by
  have : ins = []:=AcT hl
  subst this
  have h1:=h.n1
  have hlt : t.nodes.length - 1 < t.nodes.length:=by omega
  refine ⟨t.nodes.length - 1,t.nodes[t.nodes.length - 1],?_,AcA hlt,?_,?_⟩
  ·show ((t.nodes.length : Int) - 1) = _
   omega
  ·have:=h.root
   unfold levAt at this
   rw [show ((t.nodes.length : Int) - 1).toNat = t.nodes.length - 1 from by omega,AcA hlt] at this
   dsimp only at this
   rw [this]
   simp
  ·have:=h.node _ _ (AcA hlt)
   unfold EM at this
   simp only [Acx,AcK] at this
   exact this.1.2.2
 | m + 1,ins,hl,hm,hs=>by
  obtain ⟨q,c,rfl⟩ : ∃ q c,ins = q ++ [c]:=⟨ins.dropLast,ins.getLast (by intro e; rw [e] at hl; simp at hl),(List.dropLast_concat_getLast _).symm⟩
  have ih:=KD h m q (by simpa using hl) (by omega) fun s hs'=>hs s (by simp [hs'])
  rw [Ee]
  have:=(KO h ih (hs c (by simp))).2.1 (by omega)
  rw [show ((t.hood.length : Int) - ((m + 1 : Nat) : Int)) = t.hood.length - m - 1 from by omega]
  exact this
theorem XN {t : TreeC} (h : TreeR t) {ins : List Int} (hl : ins.length = t.hood.length) (hs : ∀ s,s ∈ ins -> 0 <= s /\ s < t.states) : 0 <= Jj t ins /\ Jj t ins < t.states:=by
 have h1:=(BN h.hood).1
 obtain ⟨q,c,rfl⟩ : ∃ q c,ins = q ++ [c]:=⟨ins.dropLast,ins.getLast (by intro e; rw [e] at hl; simp at hl; omega),(List.dropLast_concat_getLast _).symm⟩
 have hlq : q.length + 1 = t.hood.length:=by simpa using hl
 have ih:=KD h q.length q rfl (by omega) fun s hs'=>hs s (by simp [hs'])
 rw [Ee]
 exact (KO h ih (hs c (by simp))).1 (by omega)
def AI (t : TreeC) : Bool:=Bp t && decide (Jj t (List.replicate t.hood.length 0) = 0)
def KP (t : TreeC) (p : List Ce) (x y : Int) : List Int:=t.hood.map fun o=>CU p (x + o.1) (y + o.2)
def Bg (t : TreeC) (p : List Ce) (x y : Int) : Int:=Jj t (KP t p x y)
def Gi (t : TreeC) (p : List Ce) : Prop:=∀ c,c ∈ p -> 0 <= c.s /\ c.s < t.states
theorem Ju {t : TreeC} (h : TreeR t) : ∀ {p : List Ce},Gi t p -> ∀ x y,0 <= CU p x y /\ CU p x y < t.states
 | [],_,x,y=>by have:=h.s2; show 0 <= (0 : Int) /\ (0 : Int) < t.states; omega
 | c :: r,hp,x,y=>by
  have e : CU (c :: r) x y = if c.x = x /\ c.y = y then c.s else CU r x y:=rfl
  rw [e]
  split
  ·exact hp c (AcX ..)
  ·exact Ju h (fun d hd=>hp d (AdI _ hd)) x y
theorem Js {t : TreeC} (h : TreeR t) {p : List Ce} (hp : Gi t p) {x y : Int} : ∀ s,s ∈ KP t p x y -> 0 <= s /\ s < t.states:=fun s hs=>by
 obtain ⟨o,_,rfl⟩:=Adc.1 hs
 exact Ju h hp _ _
theorem Fq (t : TreeC) (p : List Ce) (x y : Int) : (KP t p x y).length = t.hood.length:=by unfold KP; simp
theorem Ey {t : TreeC} (h : TreeR t) {p : List Ce} (hp : Gi t p) (x y : Int) : 0 <= Bg t p x y /\ Bg t p x y < t.states:=XN h (Fq t p x y) (Js h hp)
theorem Sm {t : TreeC} (hq : AI t = true) {p : List Ce} {x y : Int} (h : ∀ o,o ∈ t.hood -> CU p (x + o.1) (y + o.2) = 0) : Bg t p x y = 0:=by
 unfold AI at hq
 rw [Acx,AcK] at hq
 have e : KP t p x y = List.replicate t.hood.length 0:=by
  unfold KP
  rw [List.map_congr_left h,List.map_const']
 unfold Bg
 rw [e]
 exact hq.2
theorem Db {t : TreeC} (hq : AI t = true) : TreeR t:=by
 unfold AI at hq
 rw [Acx] at hq
 exact Gq hq.1
theorem NV {p : List Ce} {x y : Int} (h : ¬ CU p x y = 0) : ∃ c,c ∈ p /\ c.x = x /\ c.y = y /\ c.s = CU p x y:=by
 induction p with
 | nil=>exact absurd rfl h
 | cons c r ih =>
  have e : CU (c :: r) x y = if c.x = x /\ c.y = y then c.s else CU r x y:=rfl
  rw [e] at h ⊢
  by_cases hc : c.x = x /\ c.y = y
  ·rw [AcC hc]
   exact ⟨c,AcX ..,hc.1,hc.2,rfl⟩
  ·rw [Acz hc] at h ⊢
   obtain ⟨d,h1,h2⟩:=ih h
   exact ⟨d,AdI _ h1,h2⟩
theorem Gv {t : TreeC} (hq : AI t = true) {p : List Ce} {x y : Int} (h : ¬ Bg t p x y = 0) : ∃ c o,c ∈ p /\ o ∈ t.hood /\ x = c.x - o.1 /\ y = c.y - o.2:=by
 have : ∃ o,o ∈ t.hood /\ ¬ CU p (x + o.1) (y + o.2) = 0:=AdE fun hn=>h (Sm hq fun o ho=>AdE fun hh=>hn ⟨o,ho,hh⟩)
 obtain ⟨o,ho,hg⟩:=this
 obtain ⟨c,hc,h1,h2,_⟩:=NV hg
 exact ⟨c,o,hc,ho,by omega,by omega⟩
def Jp (p : List Ce) : List ((Int × Int) × Int):=p.map fun c=>((c.x,c.y),c.s)
theorem RN (p : List Ce) : (Jp p).map Prod.fst = p.map fun c=>(c.x,c.y):=by simp [Jp]
theorem OY (p : List Ce) (x y : Int) : (CW (Jp p) (x,y)).getD 0 = CU p x y:=by
 induction p with
 | nil=>rfl
 | cons c r ih =>
  by_cases h : c.x = x /\ c.y = y
  ·simp [Jp,CW,CU,h]
  ·have : ¬ (c.x,c.y) = (x,y):=by simpa using h
   simp only [Jp,Adi,CW,Acz this,CU,Acz h]
   exact ih
theorem Sp {q r : List Ce} {c : Ce} (h : (q ++ c :: r).Pairwise fun a b=>AW a b = true) : Qn (Jp q) (c.x,c.y) c.s = Jp (q ++ [c]):=by
 rw [ML]
 ·simp [Jp]
 ·rw [RN]
  intro hm
  obtain ⟨d,hd,he⟩:=Adc.1 hm
  have:=(Adv.1 h).2.2 d hd c (by simp)
  unfold AW at this
  grind
theorem VL : ∀ {p q : List Ce},p.Pairwise (fun a b=>AW a b = true) -> q.Pairwise (fun a b=>AW a b = true) -> (∀ c,c ∈ p ↔ c ∈ q) -> p = q
 | [],[],_,_,_=>rfl
 | [],d :: s,_,_,h=>by have:=(h d).2 (AcX ..); cases this
 | c :: r,[],_,_,h=>by have:=(h c).1 (AcX ..); cases this
 | c :: r,d :: s,hp,hq,h=>by
  obtain ⟨p1,p2⟩:=Adl.1 hp
  obtain ⟨q1,q2⟩:=Adl.1 hq
  have irr : ∀ a : Ce,¬ AW a a = true:=fun a ha=>by unfold AW at ha; simp at ha
  have e : c = d:=by
   rcases AcU.1 ((h c).1 (AcX ..)) with e | h1
   ·exact e
   ·rcases AcU.1 ((h d).2 (AcX ..)) with e | h2
    ·exact e.symm
    ·exact absurd (Ez (p1 d h2) (q1 c h1)) (irr c)
  subst e
  congr 1
  refine VL p2 q2 fun x=>⟨fun hx=>?_,fun hx=>?_⟩
  ·rcases AcU.1 ((h x).1 (AdI _ hx)) with rfl | h1
   ·exact absurd (p1 _ hx) (irr _)
   ·exact h1
  ·rcases AcU.1 ((h x).2 (AdI _ hx)) with rfl | h1
   ·exact absurd (q1 _ hx) (irr _)
   ·exact h1
def Dd (t : TreeC) (p : List Ce) (res : List Ce × Int) : Prop :=
 (res = ([],5) /\ ∃ x y,¬ Bg t p x y = 0 /\ AE x y = false) \/
 ((∀ x y,¬ Bg t p x y = 0 -> AE x y = true) /\ ∃ q : List Ce,q.Pairwise (fun a b=>AW a b = true) /\ (∀ c,c ∈ q ↔ c.s = Bg t p c.x c.y /\ ¬ c.s = 0) /\ res = if 5000 < q.length then ([],6) else (q,0))
theorem It {t : TreeC} {p : List Ce} {a b : List Ce × Int} (ha : Dd t p a) (hb : Dd t p b) : a = b:=by
 rcases ha with ⟨rfl,x,y,h1,h2⟩ | ⟨h1,q,h2,h3,rfl⟩ <;> rcases hb with ⟨rfl,u,v,k1,k2⟩ | ⟨k1,r,k2,k3,rfl⟩
 ·rfl
 ·rw [k1 x y h1] at h2; cases h2
 ·rw [h1 u v k1] at k2; cases k2
 ·rw [VL h2 k2 fun c=>(h3 c).trans (k3 c).symm]
theorem Nt {t : TreeC} (h : TreeR t) {p q : List Ce} (hp : Gi t p) (hs : Dd t p (q,0)) : q.Pairwise (fun a b=>AW a b = true) /\ (∀ c,c ∈ q -> Cj c = true) /\ q.length <= 5000 /\ Gi t q:=by
 rcases hs with ⟨e,_⟩ | ⟨h1,r,h2,h3,e⟩
 ·cases e
 ·split at e
  ·cases e
  ·rename_i hl
   cases e
   have hr:=fun c (hc : c ∈ q)=>Ey h hp c.x c.y
   have s8:=h.s8
   refine ⟨h2,fun c hc=>?_,by omega,fun c hc=>?_⟩
   ·have k1:=(h3 c).1 hc
    have k2:=h1 c.x c.y (by rw [<- k1.1]; exact k1.2)
    have k3:=hr c hc
    rw [<- k1.1] at k3
    have k4:=k1.2
    unfold Cj
    rw [k2]
    simp only [AdB,Acx,AcK]
    omega
   ·have k1:=(h3 c).1 hc
    have k3:=hr c hc
    rw [<- k1.1] at k3
    exact k3
open Go.Proofs
def Dt (l : List (Int × Int)) : List (List I):=l.map fun p=>[.i .i64 p.1,.i .i64 p.2]
@[simp] theorem Bb (l : List (Int × Int)) : (Dt l).length = l.length:=by simp [Dt]
theorem BX {l : List (Int × Int)} {i : Nat} {c : Int × Int} (h : l[i]? = some c) : nth (Dt l) i = some [.i .i64 c.1,.i .i64 c.2]:=by
 rw [AV]; simp [Dt,h]
def Eg (p : List (Int × Int)) : Nat -> Option (Int × Int)
 | 0=>none
 | i + 1=>p[i]?
theorem KX {p : List (Int × Int)} {i : Nat} {c : Int × Int} (hx : p[i]? = some c) : JB (Eg p i) (c :: p.drop (i + 1)) = (HD c && (match Eg p i with | none=>true | some a=>KQ a c) && JB (Eg p (i + 1)) (p.drop (i + 1))):=by
 have : Eg p (i + 1) = some c:=hx
 rw [this]
 cases Eg p i with
 | none=>show (HD c && JB (some c) _) = _; simp
 | some a=>show (HD c && KQ a c && JB (some c) _) = _; simp
theorem Pg (a b : Int × Int) : (0 <= Jw a.1 a.2 b.1 b.2) ↔ KQ a b = false:=by
 unfold KQ Jw Dr
 grind
theorem KM (c : Int × Int) : HD c = (decide (-2 <= c.1) && decide (c.1 <= 2) && decide (-2 <= c.2) && decide (c.2 <= 2)):=by
 unfold HD
 grind
set_option maxHeartbeats 1000000 in
theorem AbT {v : I} {p : List (Int × Int)} (hv : IsSl v (Dt p)) (hl : (p.length : Int) <= 9223372036854775807) (H : Hp) : Gives G 135 [.m v] H (.m (.b (BW p))) H:=by
 have hr0:=hv.rules
 simp only [Bb] at hr0
 refine Ae rfl rfl rfl rfl rfl ?_
 by_cases h1 : 1 <= p.length /\ p.length <= 25
 rotate_left
 ·have e : BW p = false:=by unfold BW; rw [AcH h1]; rfl
  by_cases h2 : (p.length : Int) < 1
  ·simp (maxSteps:=2000000) (disch:=omega) [hr0,h2,e]
  ·have h3 : (25 : Int) < p.length:=by omega
   simp (maxSteps:=2000000) (disch:=omega) [hr0,h2,h3,e]
 have h2 : ¬ (p.length : Int) < 1:=by omega
 have h3 : ¬ (25 : Int) < p.length:=by omega
 have hR : BW p = JB none p:=by unfold BW; rw [AcI h1]; rfl
 rw [hR]
 simp (maxSteps:=2000000) (disch:=omega) [hr0,h2,h3]
 refine (?key : ∀ (i : Nat) (B : List (Nat × List V)),i <= p.length -> JB none p = JB (Eg p i) (p.drop i) -> Run G c135_B0 (S135_0 (.m v) (.m v) (.m (.i .i64 p.length)) (.m (.i .i64 i)) B []) _) 0 [] (AcF _) rfl
 refine Bk (fun i : Nat=>p.length - i) fun i ih B hi hr=>?_
 unfold c135_B0
 cases hx : p[i]? with
 | none =>
  have : i = p.length:=by have:=AcB.1 hx; omega
  subst this
  have : JB (Eg p p.length) [] = true:=by cases Eg p p.length <;> rfl
  simp [hr,this]
 | some c =>
  have hlt:=(Al hx).1
  have hn:=BX hx
  rw [(Al hx).2,KX hx,KM] at hr
  cases i with
  | zero =>
   simp (contextual:=true) (maxSteps:=2000000) (disch:=omega) [Ah,Ai,Ad,-Int.not_lt,-Int.not_le,-Nat.not_lt,-Nat.not_le,-List.map_take,hr0,hn,hlt,Aa]
   repeat' first | with_reducible apply And.intro | intro _
   all_goals first
    | (refine ih 1 (by omega) _ (by omega) ?_; grind [Eg])
    | grind [Eg]
  | succ j =>
   obtain ⟨c0,hx0⟩ : ∃ c0,p[j]? = some c0:=⟨p[j],AcA (by omega)⟩
   have hn0:=BX hx0
   have e3 : (j : Int) + 1 < p.length:=by omega
   have e4 : (j : Int) < p.length:=by omega
   have e6 : (0 : Int) <= j + 1:=by omega
   have e7 : ((j : Int) + 1).toNat = j + 1:=by omega
   have hp0 : Eg p (j + 1) = some c0:=hx0
   simp only [hp0] at hr
   simp (contextual:=true) (maxSteps:=2000000) (disch:=omega) [Ah,Ai,Ad,-Int.not_lt,-Int.not_le,-Nat.not_lt,-Nat.not_le,-List.map_take,hr0,hn,hn0,e3,e7,cl (VN _ _ _ _ _),Aa,Pg]
   repeat' first | with_reducible apply And.intro | intro _
   all_goals first
    | (refine ih (j + 2) (by omega) _ (by omega) ?_; grind)
    | grind
theorem FY {y : I} {es : List (List I)} (h : IsSl y es) : CR (.m y) = true:=by
 rcases h with rfl | ⟨rfl,_⟩ <;> rfl
def dEn : List I -> Int
 | [.i _ x]=>x
 | _=>0
def dIn : I -> List Int
 | .sl es=>es.map dEn
 | _=>[]
def dNd : List I -> Int × List Int
 | [.i _ x,z]=>(x,dIn z)
 | _=>(0,[])
def VY (es : List (List I)) : Prop:=∀ e,e ∈ es -> ∃ (x : Int) (z : I),e = [.i .i64 x,z] /\ IsSl z (Ec (dIn z)) /\ (dIn z).length <= 9223372036854775807 /\ ∀ k,k ∈ dIn z -> -9223372036854775808 <= k /\ k <= 9223372036854775807
structure TreeV (t : TreeC) (h n : I) (es : List (List I)) : Prop where
 hd : IsSl h (Dt t.hood)
 nd : IsSl n es
 ok : VY es
 eq : t.nodes = es.map dNd
 hl : t.hood.length <= 9223372036854775807
 nl : es.length <= 9223372036854775807
theorem Dn {t : TreeC} {h n : I} {es : List (List I)} (hT : TreeV t h n es) : t.nodes.length = es.length:=by rw [hT.eq,AcR]
theorem Cl {t : TreeC} {h n : I} {es : List (List I)} (hT : TreeV t h n es) {j : Nat} {nd : Int × List Int} (hj : t.nodes[j]? = some nd) : ∃ z,nth es j = some [.i .i64 nd.1,z] /\ IsSl z (Ec nd.2) /\ nd.2.length <= 9223372036854775807 /\ ∀ k,k ∈ nd.2 -> -9223372036854775808 <= k /\ k <= 9223372036854775807:=by
 rw [hT.eq,AcY] at hj
 cases he : es[j]? with
 | none=>rw [he] at hj; cases hj
 | some e =>
  rw [he] at hj
  cases hj
  obtain ⟨x,z,rfl,h1,h2,h3⟩:=hT.ok e (AcE he)
  exact ⟨z,by rw [AV]; exact he,h1,h2,h3⟩
theorem FV (t : TreeC) (i : Nat) (n : Int × List Int) (r : List (Int × List Int)) : nodesOk t i (n :: r) = (EM t i n && nodesOk t (i + 1) r):=rfl
theorem Gy {nodes : List (Int × List Int)} {j : Nat} {nd : Int × List Int} (h : nodes[j]? = some nd) : levAt nodes (j : Int) = nd.1:=by
 unfold levAt
 rw [show ((j : Int)).toNat = j from rfl,h]
theorem Ut {α : Type} {l m : List α} {i : Nat} {x y : α} (h : l.take i = m.take i) (hx : l[i]? = some x) (hy : m[i]? = some y) (e : x = y) : l.take (i + 1) = m.take (i + 1):=by
 rw [Ap hx,Ap hy,h,e]
def Zy (t : TreeC) : Bool:=decide (t.hood.length <= 40) && (decide (t.nodes.length <= 400) && t.nodes.all fun n=>decide (n.2.length <= 20))
set_option maxHeartbeats 1000000 in
theorem Acb {t : TreeC} {h n : I} {es : List (List I)} (hT : TreeV t h n es) (H : Hp) : Gives G 10 [.m (.ag [.i .i64 t.states,h,n])] H (.m (.b (Zy t))) H:=by
 have hrn:=hT.nd.rules
 have hln:=Dn hT
 have hrh:=hT.hd.rules
 simp only [Bb] at hrh
 have hl1:=hT.hl
 have hl2:=hT.nl
 have eF : Zy t = (decide (t.hood.length <= 40) && (decide (t.nodes.length <= 400) && t.nodes.all fun n=>decide (n.2.length <= 20))):=rfl
 refine Ae rfl rfl rfl rfl rfl ?_
 by_cases h1 : (40 : Int) < t.hood.length
 ·have e : Zy t = false:=by rw [eF,AcH (by omega)]; rfl
  simp (maxSteps:=2000000) (disch:=omega) [hrh,h1,e]
 by_cases h2 : (400 : Int) < es.length
 ·have e : Zy t = false:=by rw [eF,AcH (by omega : ¬ t.nodes.length <= 400)]; simp
  simp (maxSteps:=2000000) (disch:=omega) [hrn,hrh,h1,h2,e]
 have e : Zy t = t.nodes.all fun n=>decide (n.2.length <= 20):=by rw [eF,AcI (by omega),AcI (by omega : t.nodes.length <= 400)]; simp
 rw [e]
 simp (maxSteps:=2000000) (disch:=omega) [hrn,hrh,h1,h2]
 refine (?key : ∀ (i : Nat) (B : List (Nat × List V)),i <= es.length -> getB B 1 = some [.m (.i .i64 t.states),.m h,.m n] -> (t.nodes.all fun n=>decide (n.2.length <= 20)) = ((t.nodes.drop i).all fun n=>decide (n.2.length <= 20)) -> Run G c10_B0 (S10_0 (.fa 1 0) (.m (.i .i64 es.length)) (.m (.i .i64 (i : Int))) B []) _) 0 _ (AcF _) rfl rfl
 refine Bk (fun i : Nat=>es.length - i) fun i ih B hi hB hI=>?_
 unfold c10_B0
 cases hx : t.nodes[i]? with
 | none =>
  have : i = es.length:=by have:=AcB.1 hx; omega
  subst this
  rw [<- hln,Ado] at hI
  have hI : (t.nodes.all fun n=>decide (n.2.length <= 20)) = true:=hI
  simp (maxSteps:=2000000) (disch:=omega) [hI]
 | some nd =>
  have hlt:=(Al hx).1
  have hlt1 : i < es.length:=by omega
  have hlt2 : (i : Int) < es.length:=by omega
  obtain ⟨z,hz,hzs,hzl,_⟩:=Cl hT hx
  have hrz:=hzs.rules
  simp only [Ck] at hrz
  have wi : wr .i64 ((i : Int) + 1) = ((i + 1 : Nat) : Int):=Aa (by omega) (by omega)
  rw [(Al hx).2,List.all_cons] at hI
  by_cases h20 : (20 : Int) < nd.2.length
  ·have e : (t.nodes.all fun n=>decide (n.2.length <= 20)) = false:=by rw [hI,AcH (by omega : ¬ nd.2.length <= 20)]; rfl
   simp (maxSteps:=2000000) (disch:=omega) [hrn,hlt2,hz,hrz,hB,h20,e]
  ·rw [AcI (by omega : nd.2.length <= 20),AdB] at hI
   have k:=ih (i + 1) (by omega) B (by omega) hB hI
   simp (maxSteps:=2000000) (disch:=omega) [hrn,hlt2,hz,hrz,hB,h20,wi,-Int.natCast_add]
   exact k
theorem SD {B n : Nat} {l : List I} (h : Fits Go.Proofs.Tryz.prog B (n + 2) 43 l) : ∃ x : Int × Int,l = [.i .i64 x.1,.i .i64 x.2]:=by
 unfold Fits at h
 rw [Go.Proofs.Tryz.underlying43] at h
 simp only [FitsF] at h
 obtain ⟨x1,y1,rfl,k1,x2,y2,rfl,k2,rfl⟩:=h
 obtain ⟨u,rfl,_⟩:=Bz k1
 obtain ⟨v,rfl,_⟩:=Bz k2
 exact ⟨(u,v),rfl⟩
theorem Pc {es : List (List I)} (h : ∀ x,x ∈ es -> ∃ d : Int × Int,x = [.i .i64 d.1,.i .i64 d.2]) : ∃ p,es = Dt p:=by
 induction es with
 | nil=>exact ⟨[],rfl⟩
 | cons x r ih =>
  obtain ⟨d,rfl⟩:=h x (by simp)
  obtain ⟨p,rfl⟩:=ih fun x hx=>h x (by simp [hx])
  exact ⟨d :: p,rfl⟩
theorem SO : ∀ {es : List (List I)},(∀ x,x ∈ es -> ∃ y : Int,x = [.i .i64 y]) -> es = Ec (es.map dEn)
 | [],_=>rfl
 | e :: r,h=>by
  obtain ⟨y,rfl⟩:=h e (by simp)
  have:=SO (es:=r) fun x hx=>h x (by simp [hx])
  show _ :: r = [I.i .i64 (dEn [I.i .i64 y])] :: Ec (r.map dEn)
  rw [<- this]
  rfl
theorem UY {B n : Nat} {l : List I} (h : Fits Go.Proofs.Tryz.prog B (n + 2) 63 l) : ∃ z : I,l = [z] /\ IsSl z (Ec (dIn z)) /\ (dIn z).length <= B /\ ∀ k,k ∈ dIn z -> -9223372036854775808 <= k /\ k <= 9223372036854775807:=by
 unfold Fits at h
 rw [Go.Proofs.Tryz.underlying63] at h
 simp only at h
 rcases h with rfl | ⟨es,rfl,hle,hes⟩
 ·exact ⟨_,rfl,AH,by simp [dIn],by simp [dIn]⟩
 ·refine ⟨_,rfl,?_,by simpa [dIn] using hle,fun k hk=>?_⟩
  ·show IsSl (.sl es) (Ec (es.map dEn))
   rw [<- SO fun x hx=>let ⟨y,h1,_⟩:=Bz (hes x hx); ⟨y,h1⟩]
   exact Be _
  ·have hk : k ∈ es.map dEn:=hk
   obtain ⟨e,he,rfl⟩:=Adc.1 hk
   obtain ⟨y,rfl,hy⟩:=Bz (hes e he)
   exact hy
theorem UX {B n : Nat} {l : List I} (h : Fits Go.Proofs.Tryz.prog B (n + 3) 65 l) : ∃ (x : Int) (z : I),l = [.i .i64 x,z] /\ IsSl z (Ec (dIn z)) /\ (dIn z).length <= B /\ ∀ k,k ∈ dIn z -> -9223372036854775808 <= k /\ k <= 9223372036854775807:=by
 unfold Fits at h
 rw [Go.Proofs.Tryz.underlying65] at h
 simp only [FitsF] at h
 obtain ⟨x1,y1,rfl,k1,x2,y2,rfl,k2,rfl⟩:=h
 obtain ⟨u,rfl,_⟩:=Bz k1
 obtain ⟨z,rfl,h1,h2,h3⟩:=UY k2
 exact ⟨u,z,rfl,h1,h2,h3⟩
theorem YR : Cd Go.Proofs.Tryz.prog 25 = some true:=by unfold Cd; rw [Go.Proofs.Tryz.underlying25]; rfl
theorem Vf {B n : Nat} {ts : List TypeId} {us : List V} (hB : B <= 9223372036854775807) (h : Ej Go.Proofs.Tryz.prog B (n + 5) (25 :: ts) us) :
  ∃ (t : TreeC) (hh nn : I) (es : List (List I)) (r : List V),us = .m (.ag [.i .i64 t.states,hh,nn]) :: r /\ TreeV t hh nn es /\ Ej Go.Proofs.Tryz.prog B (n + 5) ts r:=by
 obtain ⟨l,r,rfl,hl,h'⟩:=Hs h
 unfold Fits at hl
 rw [Go.Proofs.Tryz.underlying25] at hl
 simp only [FitsF] at hl
 obtain ⟨x1,y1,rfl,k1,x2,y2,rfl,k2,x3,y3,rfl,k3,rfl⟩:=hl
 obtain ⟨u,rfl,_⟩:=Bz k1
 unfold Fits at k2 k3
 rw [Go.Proofs.Tryz.underlying22] at k2
 rw [Go.Proofs.Tryz.underlying23] at k3
 simp only at k2 k3
 have hh : ∃ (v : I) (p : List (Int × Int)),x2 = [v] /\ IsSl v (Dt p) /\ p.length <= B:=by
  rcases k2 with rfl | ⟨es,rfl,hle,hes⟩
  ·exact ⟨_,[],rfl,AH,by simp⟩
  ·obtain ⟨p,rfl⟩:=Pc fun x hx=>SD (hes x hx)
   exact ⟨_,p,rfl,Be _,by simpa using hle⟩
 have hn : ∃ (v : I) (es : List (List I)),x3 = [v] /\ IsSl v es /\ VY es /\ es.length <= B:=by
  rcases k3 with rfl | ⟨es,rfl,hle,hes⟩
  ·exact ⟨_,[],rfl,AH,fun e he=>(by cases he),by simp⟩
  ·refine ⟨_,es,rfl,Be _,fun e he=>?_,hle⟩
   obtain ⟨x,z,h1,h2,h3,h4⟩:=UX (hes e he)
   exact ⟨x,z,h1,h2,by omega,h4⟩
 obtain ⟨hv,p,rfl,h1,h2⟩:=hh
 obtain ⟨nv,es,rfl,h3,h4,h5⟩:=hn
 rw [Rm YR]
 exact ⟨⟨u,p,es.map dNd⟩,hv,nv,es,r,rfl,⟨h1,h3,h4,rfl,by show p.length <= _; omega,by omega⟩,h'⟩
end Go.Mx.Tryz
namespace Go.Mx.Tryz
@[simp] theorem rx_ldb (M : Mem) (ag : Bool) (sz d off : Nat) : readX M (.ldb ag sz) [.fa d off] = (readA M sz (.fa d off)).bind fun cs=>De ag cs:=rfl
@[simp] theorem px_slc_r (esz : Nat) (lo hi mx : Bool) (r ver e st len : Nat) (lim : Bool) (vs : List V) : Ao (.slc esz lo hi mx) (.sl r ver e st len lim :: vs) = gd (eqB false (Nat.beq esz 0)) (gd (Nat.beq esz e) ((HN len lo hi mx vs).bind fun p=>some (.sl r ver e (st + p.1) (p.2 - p.1) (mx || (lim && Nat.beq p.2 len))))):=rfl
@[simp] theorem allM_sl (a b c d e : Nat) (f : Bool) (r : List V) : Ct (.sl a b c d e f :: r) = none:=rfl
@[simp] theorem Abh (H : Hp) (cs : List V) : view 20 H (.ag cs) = (Ak (view 19 H) cs).bind fun l=>some (.ag l):=rfl
@[simp] theorem eqB_ff : eqB false false = true:=rfl
theorem Mc {α : Type} {l : List α} {i : Nat} {x : α} (h : nth l i = some x) : i < l.length:=by
 rw [AV] at h
 exact (Acy.1 h).1
theorem AbL {α : Type} (l : List α) (i j : Nat) (x : α) (h : i < l.length) : nth (l.set i x) j = if i = j then some x else nth l j:=by
 rw [AV,AV,List.getElem?_set]
 by_cases e : i = j
 ·subst e; simp [h]
 ·simp [e]
theorem Sj {α : Type} {l : List α} {i j : Nat} {x : α} (h : i ≠ j) : nth (l.set i x) j = nth l j:=by
 rw [AV,AV,List.getElem?_set,Acz h]
theorem HF {α : Type} {l : List α} {i : Nat} {x : α} (h : i < l.length) : nth (l.set i x) i = some x:=by
 rw [AbL _ _ _ _ h,AcC rfl]
theorem Sl {α : Type} (l m : List α) (j : Nat) (h : j < l.length) : nth (l ++ m) j = nth l j:=by
 rw [AV,AV,AcS h]
theorem Sk {α : Type} (l m : List α) (j : Nat) : nth (l ++ m) (l.length + j) = nth m j:=by
 rw [AV,AV,AdA (by omega)]
 congr 1
 omega
theorem Dc {M : Mem} {ty esz bytes r base : Nat} {es xs : List (List V)} (h : nth M.H r = some (.cs ty esz es base false)) (hx : xs ≠ []) (hb : (es.length + xs.length) * bytes <= 140737488355328) (hal : (xs.all fun e=>Nat.beq e.length esz && e.all CR) = true) :
  EJ M ty esz bytes (.sl r es.length esz 0 es.length false) xs = some (.sl r (es.length + xs.length) esz 0 (es.length + xs.length) false,{ M with H:=M.H.set r (.cs ty esz (es ++ xs) base false) }):=by
 obtain ⟨x,t,rfl⟩:=List.exists_cons_of_ne_nil hx
 have e:=BF M.H r (.cs ty esz (es ++ x :: t) base false) (Mc h)
 have h2 : Nat.ble ((es.length + (x :: t).length) * bytes) 140737488355328 = true:=by rw [BG]; exact AcI hb
 show Option.bind (nth M.H r) _ = _
 rw [h]
 show gd (!false && Nat.beq ty ty && Nat.beq esz esz && Nat.beq esz esz && Nat.beq 0 0 && Nat.beq es.length es.length && Nat.beq es.length es.length && Nat.ble ((es.length + (x :: t).length) * bytes) 140737488355328 && ((x :: t).all fun e=>Nat.beq e.length esz && e.all CR)) _ = _
 simp only [Nat.beq_refl,h2,hal,Bool.and_self,Bool.not_false,gd]
 rw [e]
 rfl
@[reducible] def strR (s : List Nat) (b : Nat) : Row:=.cs 9 1 [[.m (.s s)]] b false
@[reducible] def zerR (b : Nat) : Row:=.cs 3 1 [[.m (.i .i64 0)]] b false
def Abx (ws : List (List Nat)) : List (List V):=ws.map fun w=>[.m (.s w)]
@[simp] theorem Abw (ws : List (List Nat)) : (Abx ws).length = ws.length:=by simp [Abx]
theorem As {s : St} {n : Nat} {x : V} (h : AB x = true) : CQ s (.v n) x = some { s with E:=BO s.E n x }:=by
 cases x with
 | fa d o=>cases h
 | _=>first | rfl | simp
end Go.Mx.Tryz
