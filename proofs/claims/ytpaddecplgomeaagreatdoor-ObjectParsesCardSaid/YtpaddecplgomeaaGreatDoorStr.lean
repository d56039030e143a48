/- Rows of strings. -/
import Derived.Test.YtpaddecplgomeaaGreatDoorEg
import Derived.Test.YtpaddecplgomeaaGreatDoorSeav
import Derived.Test.YtpaddecplgomeaaGreatDoorLaw
import Derived.Test.YtpaddecplgomeaaGreatDoorWb
import Derived.Test.YtpaddecplgomeaaGreatDoorAp
set_option linter.unusedSimpArgs false
set_option linter.unusedVariables false
set_option linter.unusedSectionVars false
set_option maxRecDepth 1000000
namespace Go.Mx.Tryz
open Go.Proofs
def iE (n : Int) : I:=.i .i64 n
def NF : I:=.sl [[iE 0],[iE 1],[iE 2],[iE 3],[iE 4],[iE 5],[iE 6],[iE 7]]
def gliE : I:=.sl [[iE 1,iE 0,iE 1],[iE 2,iE 1,iE 1],[iE 0,iE 2,iE 1],[iE 1,iE 2,iE 1],[iE 2,iE 2,iE 1]]
def T1 : List Ent:=[⟨73,[NF],.m NF⟩]
theorem t1_ok : Be G T1:=AL mono (Ra G) (n:=100000) (by kernel_rfl)
def fgE : I:=.sl [[iE 0,iE 0,iE 1],[iE 1,iE 0,iE 1],[iE 2,iE 0,iE 1],[iE 0,iE 1,iE 1],[iE 1,iE 2,iE 1]]
def T2 : List Ent:=⟨31,[gliE,NF],.tu [.m fgE,.m (iE 0)]⟩ :: T1
theorem t2_ok : Be G T2:=AL mono t1_ok (n:=100000) (by kernel_rfl)
def CY : I:=.ag [iE 2,.sl [[iE (-1),iE (-1)],[iE 0,iE (-1)],[iE 1,iE (-1)],[iE (-1),iE 0],[iE 0,iE 0],[iE 1,iE 0],[iE (-1),iE 1],[iE 0,iE 1],[iE 1,iE 1]],.sl [[iE 1,.sl [[iE 0],[iE 0]]],[iE 2,.sl [[iE 0],[iE 0]]],[iE 1,.sl [[iE 0],[iE 1]]],[iE 2,.sl [[iE 0],[iE 2]]],[iE 3,.sl [[iE 1],[iE 3]]],[iE 1,.sl [[iE 1],[iE 0]]],[iE 2,.sl [[iE 2],[iE 5]]],[iE 3,.sl [[iE 3],[iE 6]]],[iE 4,.sl [[iE 4],[iE 7]]],[iE 1,.sl [[iE 1],[iE 1]]],[iE 2,.sl [[iE 2],[iE 9]]],[iE 3,.sl [[iE 3],[iE 10]]],[iE 2,.sl [[iE 9],[iE 5]]],[iE 3,.sl [[iE 10],[iE 12]]],[iE 4,.sl [[iE 11],[iE 13]]],[iE 5,.sl [[iE 8],[iE 14]]],[iE 2,.sl [[iE 5],[iE 0]]],[iE 3,.sl [[iE 6],[iE 16]]],[iE 4,.sl [[iE 7],[iE 17]]],[iE 3,.sl [[iE 12],[iE 16]]],[iE 4,.sl [[iE 13],[iE 19]]],[iE 5,.sl [[iE 18],[iE 20]]],[iE 6,.sl [[iE 15],[iE 21]]],[iE 3,.sl [[iE 16],[iE 1]]],[iE 4,.sl [[iE 17],[iE 23]]],[iE 4,.sl [[iE 19],[iE 23]]],[iE 5,.sl [[iE 24],[iE 25]]],[iE 6,.sl [[iE 21],[iE 26]]],[iE 7,.sl [[iE 22],[iE 27]]],[iE 3,.sl [[iE 1],[iE 1]]],[iE 4,.sl [[iE 23],[iE 29]]],[iE 5,.sl [[iE 30],[iE 30]]],[iE 6,.sl [[iE 26],[iE 31]]],[iE 7,.sl [[iE 27],[iE 32]]],[iE 8,.sl [[iE 28],[iE 33]]],[iE 4,.sl [[iE 29],[iE 29]]],[iE 5,.sl [[iE 35],[iE 35]]],[iE 6,.sl [[iE 31],[iE 36]]],[iE 7,.sl [[iE 32],[iE 37]]],[iE 8,.sl [[iE 33],[iE 38]]],[iE 9,.sl [[iE 34],[iE 39]]]]]
def bliE : I:=.sl [[iE 5,iE 1,iE 1],[iE 5,iE 2,iE 1],[iE 5,iE 3,iE 1]]
def T3 : List Ent:=⟨27,[CY,bliE,iE 2],.tu [.m (.ag [iE 2,iE 0,iE 0]),.m (.b true),.m (iE 0)]⟩ :: T2
theorem t3_ok : Be G T3:=AL mono t2_ok (n:=100000) (by kernel_rfl)
def T4 : List Ent:=⟨27,[CY,gliE,iE 4],.tu [.m (.ag [iE 4,iE 1,iE 1]),.m (.b true),.m (iE 0)]⟩ :: T3
theorem t4_ok : Be G T4:=AL mono t3_ok (n:=100000) (by kernel_rfl)
def T5 : List Ent:=⟨27,[CY,gliE,iE 3],.tu [.m (.ag [iE 0,iE 0,iE 0]),.m (.b false),.m (iE 0)]⟩ :: T4
theorem t5_ok : Be G T5:=AL mono t4_ok (n:=100000) (by kernel_rfl)
def T6 : List Ent:=⟨29,[CY,bliE,iE 1],.tu [.m (.sl [[.sl [[iE 5,iE 1,iE 1],[iE 5,iE 2,iE 1],[iE 5,iE 3,iE 1]]],[.sl [[iE 4,iE 2,iE 1],[iE 5,iE 2,iE 1],[iE 6,iE 2,iE 1]]]]),.m (iE 0)]⟩ :: T5
theorem t6_ok : Be G T6:=AL mono t5_ok (n:=100000) (by kernel_rfl)
def T7 : List Ent:=⟨29,[CY,gliE,iE 3],.tu [.m (.sl [[.sl [[iE 1,iE 0,iE 1],[iE 2,iE 1,iE 1],[iE 0,iE 2,iE 1],[iE 1,iE 2,iE 1],[iE 2,iE 2,iE 1]]],[.sl [[iE 0,iE 1,iE 1],[iE 2,iE 1,iE 1],[iE 1,iE 2,iE 1],[iE 2,iE 2,iE 1],[iE 1,iE 3,iE 1]]],[.sl [[iE 2,iE 1,iE 1],[iE 0,iE 2,iE 1],[iE 2,iE 2,iE 1],[iE 1,iE 3,iE 1],[iE 2,iE 3,iE 1]]],[.sl [[iE 1,iE 1,iE 1],[iE 2,iE 2,iE 1],[iE 3,iE 2,iE 1],[iE 1,iE 3,iE 1],[iE 2,iE 3,iE 1]]]]),.m (iE 0)]⟩ :: T6
theorem t7_ok : Be G T7:=AL mono t6_ok (n:=100000) (by kernel_rfl)
def T8 : List Ent:=⟨31,[.sl [[iE 5,iE 1,iE 1],[iE 5,iE 2,iE 1],[iE 5,iE 3,iE 1]],NF],.tu [.m (.sl [[iE 0,iE 0,iE 1],[iE 1,iE 0,iE 1],[iE 2,iE 0,iE 1]]),.m (iE 0)]⟩ :: T7
theorem t8_ok : Be G T8:=AL mono t7_ok (n:=100000) (by kernel_rfl)
def T9 : List Ent:=⟨31,[.sl [[iE 4,iE 2,iE 1],[iE 5,iE 2,iE 1],[iE 6,iE 2,iE 1]],NF],.tu [.m (.sl [[iE 0,iE 0,iE 1],[iE 1,iE 0,iE 1],[iE 2,iE 0,iE 1]]),.m (iE 0)]⟩ :: T8
theorem t9_ok : Be G T9:=AL mono t8_ok (n:=100000) (by kernel_rfl)
def T10 : List Ent:=⟨31,[.sl [[iE 0,iE 1,iE 1],[iE 2,iE 1,iE 1],[iE 1,iE 2,iE 1],[iE 2,iE 2,iE 1],[iE 1,iE 3,iE 1]],NF],.tu [.m (.sl [[iE 0,iE 0,iE 1],[iE 1,iE 0,iE 1],[iE 1,iE 1,iE 1],[iE 2,iE 1,iE 1],[iE 0,iE 2,iE 1]]),.m (iE 0)]⟩ :: T9
theorem Adz : Be G T10:=AL mono t9_ok (n:=100000) (by kernel_rfl)
def T11 : List Ent:=⟨31,[.sl [[iE 2,iE 1,iE 1],[iE 0,iE 2,iE 1],[iE 2,iE 2,iE 1],[iE 1,iE 3,iE 1],[iE 2,iE 3,iE 1]],NF],.tu [.m (.sl [[iE 0,iE 0,iE 1],[iE 1,iE 0,iE 1],[iE 2,iE 0,iE 1],[iE 0,iE 1,iE 1],[iE 1,iE 2,iE 1]]),.m (iE 0)]⟩ :: T10
theorem Ady : Be G T11:=AL mono Adz (n:=100000) (by kernel_rfl)
def T12 : List Ent:=⟨31,[.sl [[iE 1,iE 1,iE 1],[iE 2,iE 2,iE 1],[iE 3,iE 2,iE 1],[iE 1,iE 3,iE 1],[iE 2,iE 3,iE 1]],NF],.tu [.m (.sl [[iE 0,iE 0,iE 1],[iE 1,iE 0,iE 1],[iE 1,iE 1,iE 1],[iE 2,iE 1,iE 1],[iE 0,iE 2,iE 1]]),.m (iE 0)]⟩ :: T11
theorem Adx : Be G T12:=AL mono Ady (n:=100000) (by kernel_rfl)
end Go.Mx.Tryz
set_option maxRecDepth 100000
namespace Go.Mx.Tryz
structure Ce where
 x : Int
 y : Int
 s : Int
def Ce.i (c : Ce) : List I:=[.i .i64 c.x,.i .i64 c.y,.i .i64 c.s]
def Ao (p : List Ce) : List (List I):=p.map Ce.i
@[simp] theorem Jm (p : List Ce) : (Ao p).length = p.length:=by simp [Ao]
theorem AK {p : List Ce} {i : Nat} {c : Ce} (h : p[i]? = some c) : nth (Ao p) i = some [.i .i64 c.x,.i .i64 c.y,.i .i64 c.s]:=by
 rw [AA]
 simp [Ao,h,Ce.i]
def DB (x y : Int) : Bool:=decide (-1048576 <= x /\ x <= 1048576 /\ -1048576 <= y /\ y <= 1048576)
def BG (a b : Ce) : Bool:=decide (a.y < b.y \/ (a.y = b.y /\ a.x < b.x))
def EQ (c : Ce) : Bool:=DB c.x c.y && decide (1 <= c.s) && decide (c.s < 8)
def CD : Option Ce -> List Ce -> Bool
 | _,[]=>true
 | none,c :: r=>EQ c && CD (some c) r
 | some a,c :: r=>EQ c && BG a c && CD (some c) r
def right (p : List Ce) : Bool:=decide (p.length <= 5000) && CD none p
theorem JY (x y : Int) (H : Hp) : Gives G 116 [.m (.ag [.i .i64 x,.i .i64 y])] H (.m (.b (DB x y))) H:=by
 refine Ah rfl rfl rfl rfl rfl ?_
 simp (contextual:=true) [Ac,-Int.not_lt,-Int.not_le,-Nat.not_lt,-Nat.not_le,-List.map_take,DB]
 grind
theorem JZ (x y : Int) (H : Hp) : Gives G 46 [.m (.i .i64 x),.m (.i .i64 y)] H (.m (.b (DB x y))) H:=by
 refine Ah rfl rfl rfl rfl rfl ?_
 simp (contextual:=true) [Ac,-Int.not_lt,-Int.not_le,-Nat.not_lt,-Nat.not_le,-List.map_take,DB]
theorem Abm (c : Ce) (H : Hp) : Gives G 117 [.m (.ag [.i .i64 c.x,.i .i64 c.y,.i .i64 c.s])] H (.m (.ag [.i .i64 c.x,.i .i64 c.y])) H:=by
 refine Ah rfl rfl rfl rfl rfl ?_
 simp
theorem nan_s (x : Int) (H : Hp) : Gives G 126 [.m (.i .i64 x)] H (.m (.b false)) H:=by
 refine Ah rfl rfl rfl rfl rfl ?_
 simp
def TS (x y : Int) : Int:=if x < y then -1 else if y < x then 1 else 0
theorem cmp_s (x y : Int) (H : Hp) : Gives G 76 [.m (.i .i64 x),.m (.i .i64 y)] H (.m (.i .i64 (TS x y))) H:=by
 refine Ah rfl rfl rfl rfl rfl ?_
 simp (contextual:=true) [Ab,-Int.not_lt,-Int.not_le,-Nat.not_lt,-Nat.not_le,-List.map_take,cl (nan_s _ _),TS]
theorem or2_s (a b : Int) (H : Hp) : Gives G 75 [.m (.sl [[.i .i64 a],[.i .i64 b]])] H (.m (.i .i64 (if a = 0 then b else a))) H:=by
 refine Ah rfl rfl rfl rfl rfl ?_
 simp (contextual:=true) [Ab,-Int.not_lt,-Int.not_le,-Nat.not_lt,-Nat.not_le,-List.map_take,wr_i64,c75_B0]
def QP (x y z w : Int) : Int:=if TS y w = 0 then TS x z else TS y w
theorem Xi (x y z w : Int) (H : Hp) : Gives G 34 [.m (.ag [.i .i64 x,.i .i64 y]),.m (.ag [.i .i64 z,.i .i64 w])] H (.m (.i .i64 (QP x y z w))) H:=by
 refine Ah rfl rfl rfl rfl rfl ?_
 have hv:=Du (vs:=[.ls [[.i .i64 (TS y w)],[.i .i64 (TS x z)]]]) (H:=[]) rfl rfl (or2_s (TS y w) (TS x z) []) rfl (.inl ⟨rfl,rfl⟩)
 simp [cl (cmp_s _ _ _),cl hv,QP]
theorem Te (a b : Ce) (H : Hp) : Gives G 115 [.m (.ag [.i .i64 a.x,.i .i64 a.y,.i .i64 a.s]),.m (.ag [.i .i64 b.x,.i .i64 b.y,.i .i64 b.s])] H (.m (.i .i64 (QP a.x a.y b.x b.y))) H:=by
 refine Ah rfl rfl rfl rfl rfl ?_
 simp [cl (Abm _ _),cl (Xi _ _ _ _ _)]
theorem TR (a b : Ce) : (0 <= QP a.x a.y b.x b.y) ↔ BG a b = false:=by
 unfold BG QP TS
 grind
theorem Kw (a b : Ce) (H : Hp) : Gives G 90 [.m (.ag [.i .i64 a.x,.i .i64 a.y,.i .i64 a.s]),.m (.ag [.i .i64 b.x,.i .i64 b.y,.i .i64 b.s])] H (.m (.b (BG a b))) H:=by
 refine Ah rfl rfl rfl rfl rfl ?_
 simp (contextual:=true) [Ac,-Int.not_lt,-Int.not_le,-Nat.not_lt,-Nat.not_le,-List.map_take,BG]
def KD (p : List Ce) : Nat -> Option Ce
 | 0=>none
 | i + 1=>p[i]?
theorem Jk {p : List Ce} {i : Nat} {c : Ce} (hx : p[i]? = some c) (hi : ∀ j,i = j + 1 -> j < p.length) : CD (KD p i) (c :: p.drop (i + 1)) = (EQ c && (match KD p i with | none=>true | some a=>BG a c) && CD (KD p (i + 1)) (p.drop (i + 1))):=by
 have : KD p (i + 1) = some c:=hx
 rw [this]
 cases KD p i with
 | none=>show (EQ c && CD (some c) _) = _; simp
 | some a=>show (EQ c && BG a c && CD (some c) _) = _; simp
theorem No {v : I} {p : List Ce} (hv : IsSl v (Ao p)) (hl : (p.length : Int) <= 9223372036854775807) (H : Hp) : Gives G 69 [.m v] H (.m (.b (right p))) H:=by
 refine Ah rfl rfl rfl rfl rfl ?_
 simp (contextual:=true) [Ab,-Int.not_lt,-Int.not_le,-Nat.not_lt,-Nat.not_le,-List.map_take,hv.rules]
 refine ⟨fun h=>?_,fun h=>?_⟩
 ·unfold right
  grind
 refine (?key : ∀ (i : Nat) (B : List (Nat × List V)),i <= p.length -> right p = CD (KD p i) (p.drop i) -> Run G c69_B0 (S69_0 (.m v) (.m v) (.m (.i .i64 p.length)) (.m (.i .i64 i)) B []) _) 0 [] (AeR _) ?_
 case key =>
  refine BO (fun i : Nat=>p.length - i) fun i ih B hi hr=>?_
  unfold c69_B0
  cases hx : p[i]? with
  | none =>
   have : i = p.length:=by have:=AeU.1 hx; omega
   subst this
   have : CD (KD p p.length) [] = true:=by cases KD p p.length <;> rfl
   simp [hr,this]
  | some c =>
   have hlt:=(Av hx).1
   have hn:=AK hx
   rw [(Av hx).2,Jk hx (by omega)] at hr
   have hg : EQ c = (DB c.x c.y && decide (1 <= c.s) && decide (c.s < 8)):=rfl
   cases i with
   | zero =>
    simp (contextual:=true) (maxSteps:=2000000) (disch:=omega) [Ab,Ac,Aa,-Int.not_lt,-Int.not_le,-Nat.not_lt,-Nat.not_le,-List.map_take,hv.rules,hn,hlt,cl (Abm _ _),cl (JY _ _ _),wr_i64]
    repeat' first | with_reducible apply And.intro | intro _
    all_goals first
     | (refine ih 1 (by omega) _ (by omega) ?_; grind [KD])
     | grind [KD]
   | succ j =>
    obtain ⟨c0,hx0⟩ : ∃ c0,p[j]? = some c0:=⟨p[j],AeK (by omega)⟩
    have hn0:=AK hx0
    have e3 : (j : Int) + 1 < p.length:=by omega
    have e4 : (j : Int) < p.length:=by omega
    have e6 : (0 : Int) <= j + 1:=by omega
    have e7 : ((j : Int) + 1).toNat = j + 1:=by omega
    have hp0 : KD p (j + 1) = some c0:=hx0
    simp only [hp0] at hr
    simp (contextual:=true) (maxSteps:=2000000) (disch:=omega) [Ab,Ac,Aa,-Int.not_lt,-Int.not_le,-Nat.not_lt,-Nat.not_le,-List.map_take,hv.rules,hn,hn0,e3,e7,cl (Abm _ _),cl (JY _ _ _),cl (Te _ _ _),wr_i64,TR]
    repeat' first | with_reducible apply And.intro | intro _
    all_goals first
     | (refine ih (j + 2) (by omega) _ (by omega) ?_; grind)
     | grind
 ·have : p.length <= 5000:=by omega
  simp [right,this,KD]
theorem SO {v : I} {p : List Ce} (hv : IsSl v (Ao p)) (hl : (p.length : Int) <= 9223372036854775807) (H : Hp) : Gives G 43 [.m v] H (.m (.b (right p))) H:=by
 refine Ah rfl rfl rfl rfl rfl ?_
 simp (contextual:=true) (maxSteps:=2000000) (disch:=omega) [-Int.not_lt,-Int.not_le,-Nat.not_lt,-Nat.not_le,-List.map_take]
 refine (?key : ∀ (i : Nat) (B : List (Nat × List V)),i <= p.length -> CD none p = CD (KD p i) (p.drop i) -> Run G c43_B0 (S43_0 (.m v) (.m (.i .i64 i)) B []) _) 0 [] (AeR _) rfl
 refine BO (fun i : Nat=>p.length - i) fun i ih B hi hr=>?_
 unfold c43_B0
 have hR : right p = (decide (p.length <= 5000) && CD none p):=rfl
 cases hx : p[i]? with
 | none =>
  have : i = p.length:=by have:=AeU.1 hx; omega
  subst this
  have : CD (KD p p.length) [] = true:=by cases KD p p.length <;> rfl
  simp [hv.rules,hR,hr,this]
  omega
 | some c =>
  have hlt:=(Av hx).1
  have hn:=AK hx
  rw [(Av hx).2,Jk hx (by omega)] at hr
  have hg : EQ c = (DB c.x c.y && decide (1 <= c.s) && decide (c.s < 8)):=rfl
  cases i with
  | zero =>
   simp (contextual:=true) (maxSteps:=2000000) (disch:=omega) [Ab,Ac,Aa,-Int.not_lt,-Int.not_le,-Nat.not_lt,-Nat.not_le,-List.map_take,hv.rules,hn,hlt,cl (JZ _ _ _),wr_i64]
   repeat' first | with_reducible apply And.intro | intro _
   all_goals first
    | (refine ih 1 (by omega) _ (by omega) ?_; grind [KD])
    | grind [KD]
  | succ j =>
   obtain ⟨c0,hx0⟩ : ∃ c0,p[j]? = some c0:=⟨p[j],AeK (by omega)⟩
   have hn0:=AK hx0
   have e3 : (j : Int) + 1 < p.length:=by omega
   have e4 : (j : Int) < p.length:=by omega
   have e6 : (0 : Int) <= j + 1:=by omega
   have e7 : ((j : Int) + 1).toNat = j + 1:=by omega
   have hp0 : KD p (j + 1) = some c0:=hx0
   simp only [hp0] at hr
   simp (contextual:=true) (maxSteps:=2000000) (disch:=omega) [Ab,Ac,Aa,-Int.not_lt,-Int.not_le,-Nat.not_lt,-Nat.not_le,-List.map_take,hv.rules,hn,hn0,e3,e7,cl (Kw _ _ _),cl (JZ _ _ _),wr_i64]
   repeat' first | with_reducible apply And.intro | intro _
   all_goals first
    | (refine ih (j + 2) (by omega) _ (by omega) ?_; grind)
    | grind
theorem AaB : Cf Go.Proofs.Tryz.prog 9 = some false:=by unfold Cf; rw [Go.Proofs.Tryz.underlying9]; rfl
theorem WD {B n : Nat} {ts : List TypeId} {us : List V} (h : Fb Go.Proofs.Tryz.prog B (n + 1) (9 :: ts) us) : ∃ (s : List Nat) (r : List V),us = .m (.s s) :: r /\ s.length <= B /\ (∀ c,c ∈ s -> c < 256) /\ Fb Go.Proofs.Tryz.prog B (n + 1) ts r:=by
 obtain ⟨l,r,rfl,hl,h'⟩:=Ng h
 unfold Fits at hl
 rw [Go.Proofs.Tryz.underlying9] at hl
 obtain ⟨s,rfl,h1,h2⟩:=hl
 rw [VB AaB]
 exact ⟨s,r,rfl,h1,h2,h'⟩
def mnF (m : Int) (l : List Int) : Int:=l.foldl min m
def mxF (m : Int) (l : List Int) : Int:=l.foldl max m
theorem Kg (m : Int) (l : List Int) (x : Int) : mnF m (l ++ [x]) = min (mnF m l) x:=by simp [mnF]
theorem Pk (m : Int) (l : List Int) (x : Int) : mxF m (l ++ [x]) = max (mxF m l) x:=by simp [mxF]
def NE (p : List Ce) : List Int:=match p with
 | []=>[0,0,0,0]
 | c :: r=>if right (c :: r) = true then
   [mnF c.x ((c :: r).map Ce.x),c.y,wr .i64 (wr .i64 (mxF c.x ((c :: r).map Ce.x) - mnF c.x ((c :: r).map Ce.x)) + 1),wr .i64 (wr .i64 (((c :: r).getLast (by simp)).y - c.y) + 1)]
  else [0,0,0,0]
def ND (p : List Ce) : V:=.tu [.m (.ag ((NE p).map (.i .i64))),.m (.b (!p.isEmpty && right p))]
theorem FK {α β : Type} {p : List α} {i : Nat} {c : α} (f : α -> β) (h : p[i]? = some c) : (p.take (i + 1)).map f = (p.take i).map f ++ [f c]:=by rw [AQ h]; simp
theorem Aes {v : I} {p : List Ce} (hv : IsSl v (Ao p)) (hl : (p.length : Int) <= 9223372036854775807) (H : Hp) : Gives G 118 [.m v] H (ND p) H:=by
 refine Ah rfl rfl rfl rfl rfl ?_
 have g:=No hv hl []
 cases hp : p with
 | nil=>subst hp; simp (contextual:=true) (maxSteps:=2000000) (disch:=omega) [Ab,Aa,-Int.not_lt,-Int.not_le,-Nat.not_lt,-Nat.not_le,-List.map_take,hv.rules,ND,NE]
 | cons c r =>
  rw [<- hp]
  have h0 : p[0]? = some c:=by rw [hp]; rfl
  have hn0:=AK h0
  have e1 : 0 < p.length:=by rw [hp]; simp
  obtain ⟨cl,hcl⟩ : ∃ d,p[p.length - 1]? = some d:=⟨p[p.length - 1],AeK (by omega)⟩
  have hnl:=AK hcl
  have hla : ∀ h,(c :: r).getLast h = cl:=fun h=>by
   have : p.getLast (by rw [hp]; simp) = cl:=by rw [List.getLast_eq_getElem,<- AeD,<- hcl,AeK]
   simpa [hp] using this
  have hw : wr .i64 ((p.length : Int) - 1) = ((p.length - 1 : Nat) : Int):=by rw [wr_i64] <;> omega
  have e2 : ¬ ((p.length : Int) = 0):=by omega
  have e4 : ¬ p = []:=by rw [hp]; simp
  simp (contextual:=true) (maxSteps:=2000000) (disch:=omega) [Ab,Aa,-Int.not_lt,-Int.not_le,-Nat.not_lt,-Nat.not_le,-List.map_take,hv.rules,Mx.Tryz.cl g,hn0,e4]
  refine ⟨fun hr=>?_,fun hr=>?_⟩
  ·rw [hp] at hr ⊢; simp [ND,NE,hr]
  refine (?key : ∀ (i : Nat) (B : List (Nat × List V)),i <= p.length -> (∃ a b d e,getB B 2 = some [a,b,d,e]) -> Run G c118_B0 (S118_0 (.m v) (.fa 2 0) (.m (.i .i64 (mnF c.x ((p.take i).map Ce.x)))) (.m (.i .i64 (mxF c.x ((p.take i).map Ce.x)))) (.m v) (.m (.i .i64 p.length)) (.m (.i .i64 i)) B []) _) 0 _ (AeR _) ⟨_,_,_,_,rfl⟩
  refine BO (fun i : Nat=>p.length - i) fun i ih B hi hB=>?_
  unfold c118_B0
  cases hx : p[i]? with
  | none =>
   have : i = p.length:=by have:=AeU.1 hx; omega
   subst this
   obtain ⟨a,b,d,e,hB⟩:=hB
   have hlt : p.length - 1 < p.length:=by omega
   have e3 : ((p.length : Int) - 1).toNat = p.length - 1:=by omega
   simp (contextual:=true) (maxSteps:=2000000) (disch:=omega) [hv.rules,hn0,hnl,hB,e3,wr_i64,Ab,-Int.not_lt,-Int.not_le,-Nat.not_lt,-Nat.not_le,-List.map_take]
   rw [hp] at hr ⊢
   simp [ND,NE,hr,hla]
  | some d =>
   have hlt:=(Av hx).1
   have hn:=AK hx
   have ih:=ih (i + 1) (by omega)
   simp only [FK _ hx,Kg,Pk] at ih
   simp (contextual:=true) (maxSteps:=2000000) (disch:=omega) [Ab,-Int.not_lt,-Int.not_le,-Nat.not_lt,-Nat.not_le,-List.map_take,hv.rules,hn,hlt,wr_i64]
   exact ih _ (by omega) (by simpa using hB)
theorem Qy {a b c : Ce} (h1 : BG a b = true) (h2 : BG b c = true) : BG a c = true:=by
 unfold BG at *
 grind
theorem Mo : ∀ (p : List Ce) (o : Option Ce),CD o p = true -> p.Pairwise (fun a b=>BG a b = true) /\ (∀ a,o = some a -> ∀ d,d ∈ p -> BG a d = true) /\ ∀ d,d ∈ p -> EQ d = true
 | [],_,_=>⟨.nil,fun _ _ d hd=>by simp at hd,fun d hd=>by simp at hd⟩
 | c :: r,o,h=>by
  have h' : EQ c = true /\ (∀ a,o = some a -> BG a c = true) /\ CD (some c) r = true:=by
   cases o with
   | none =>
    have : (EQ c && CD (some c) r) = true:=h
    rw [AeH] at this
    exact ⟨this.1,fun _ h=>(by cases h),this.2⟩
   | some a =>
    have : (EQ c && BG a c && CD (some c) r) = true:=h
    simp only [AeH] at this
    exact ⟨this.1.1,fun _ h=>(by cases h; exact this.1.2),this.2⟩
  obtain ⟨g1,g2,g3⟩:=h'
  obtain ⟨i1,i2,i3⟩:=Mo r (some c) g3
  refine ⟨AfN.2 ⟨fun d hd=>i2 c rfl d hd,i1⟩,fun a ha d hd=>?_,fun d hd=>?_⟩
  ·rcases Aff.1 hd with rfl | hd
   ·exact g2 a ha
   ·exact Qy (g2 a ha) (i2 c rfl d hd)
  ·rcases Aff.1 hd with rfl | hd
   ·exact g1
   ·exact i3 d hd
theorem SP {p : List Ce} (h : right p = true) : p.Pairwise (fun a b=>BG a b = true) /\ (∀ d,d ∈ p -> EQ d = true) /\ p.length <= 5000:=by
 unfold right at h
 simp only [AeH,Afe] at h
 have:=Mo p none h.2
 exact ⟨this.1,this.2.2,h.1⟩
theorem GB : ∀ (l : List Int) (m x : Int),(x <= m /\ ∀ y,y ∈ l -> x <= y) -> x <= mnF m l
 | [],m,x,h=>h.1
 | y :: r,m,x,h=>GB r (min m y) x ⟨by have:=h.1; have:=h.2 y (by simp); omega,fun z hz=>h.2 z (by simp [hz])⟩
theorem FJ : ∀ (l : List Int) (m : Int),mnF m l <= m /\ ∀ y,y ∈ l -> mnF m l <= y
 | [],m=>⟨Int.le_refl _,fun y hy=>by simp at hy⟩
 | y :: r,m=>by
  obtain ⟨h1,h2⟩:=FJ r (min m y)
  refine ⟨by show mnF (min m y) r <= m; omega,fun z hz=>?_⟩
  show mnF (min m y) r <= z
  rcases Aff.1 hz with rfl | hz
  ·omega
  ·exact h2 z hz
theorem Mf : ∀ (l : List Int) (m : Int),m <= mxF m l /\ ∀ y,y ∈ l -> y <= mxF m l
 | [],m=>⟨Int.le_refl _,fun y hy=>by simp at hy⟩
 | y :: r,m=>by
  obtain ⟨h1,h2⟩:=Mf r (max m y)
  refine ⟨by show m <= mxF (max m y) r; omega,fun z hz=>?_⟩
  show z <= mxF (max m y) r
  rcases Aff.1 hz with rfl | hz
  ·omega
  ·exact h2 z hz
theorem Me : ∀ (l : List Int) (m x : Int),(m <= x /\ ∀ y,y ∈ l -> y <= x) -> mxF m l <= x
 | [],m,x,h=>h.1
 | y :: r,m,x,h=>Me r (max m y) x ⟨by have:=h.1; have:=h.2 y (by simp); omega,fun z hz=>h.2 z (by simp [hz])⟩
theorem JW {c d : Ce} {r : List Ce} (h : right (c :: r) = true) (hd : (c :: r)[(c :: r).length - 1]? = some d) : mnF c.y ((c :: r).map Ce.y) = c.y /\ mxF c.y ((c :: r).map Ce.y) = d.y:=by
 obtain ⟨pw,_,_⟩:=SP h
 have first : ∀ y,y ∈ (c :: r).map Ce.y -> c.y <= y:=fun y hy=>by
  obtain ⟨e,he,rfl⟩:=Afb.1 hy
  rcases Aff.1 he with rfl | he
  ·exact Int.le_refl _
  ·have:=(AfN.1 pw).1 e he
   unfold BG at this
   simp only [Afe] at this
   omega
 have last : ∀ y,y ∈ (c :: r).map Ce.y -> y <= d.y:=fun y hy=>by
  obtain ⟨e,he,rfl⟩:=Afb.1 hy
  obtain ⟨i,hi,rfl⟩:=List.mem_iff_getElem.1 he
  by_cases hil : i = (c :: r).length - 1
  ·subst hil
   rw [AeK hi] at hd
   cases hd
   exact Int.le_refl _
  ·have hj : (c :: r).length - 1 < (c :: r).length:=by simp
   have:=AfY.1 pw i ((c :: r).length - 1) hi hj (by omega)
   rw [AeK hj] at hd
   cases hd
   unfold BG at this
   simp only [Afe] at this
   omega
 have dm : d.y ∈ (c :: r).map Ce.y:=Afb.2 ⟨d,AeO hd,rfl⟩
 have c0:=FJ ((c :: r).map Ce.y) c.y
 have c1:=GB ((c :: r).map Ce.y) c.y c.y ⟨Int.le_refl _,first⟩
 have c2:=Mf ((c :: r).map Ce.y) c.y
 have c3:=Me ((c :: r).map Ce.y) c.y d.y ⟨last _ (by simp),last⟩
 have c4:=c2.2 _ dm
 constructor <;> omega
theorem box_r {v : I} {p : List Ce} (hv : IsSl v (Ao p)) (hl : (p.length : Int) <= 9223372036854775807) (H : Hp) : Gives G 131 [.m v] H (ND p) H:=by
 refine Ah rfl rfl rfl rfl rfl ?_
 have g:=SO hv hl []
 cases hp : p with
 | nil=>subst hp; simp (contextual:=true) (maxSteps:=2000000) (disch:=omega) [Ab,Aa,-Int.not_lt,-Int.not_le,-Nat.not_lt,-Nat.not_le,-List.map_take,hv.rules,ND,NE]
 | cons c r =>
  rw [<- hp]
  have h0 : p[0]? = some c:=by rw [hp]; rfl
  have hn0:=AK h0
  have e1 : 0 < p.length:=by rw [hp]; simp
  obtain ⟨cl,hcl⟩ : ∃ d,p[p.length - 1]? = some d:=⟨p[p.length - 1],AeK (by omega)⟩
  have hla : ∀ h,(c :: r).getLast h = cl:=fun h=>by
   have : p.getLast (by rw [hp]; simp) = cl:=by rw [List.getLast_eq_getElem,<- AeD,<- hcl,AeK]
   simpa [hp] using this
  have e2 : ¬ ((p.length : Int) = 0):=by omega
  have e4 : ¬ p = []:=by rw [hp]; simp
  simp (contextual:=true) (maxSteps:=2000000) (disch:=omega) [Ab,Aa,-Int.not_lt,-Int.not_le,-Nat.not_lt,-Nat.not_le,-List.map_take,hv.rules,Mx.Tryz.cl g,hn0,e4]
  refine ⟨fun hr=>?_,fun hr=>?_⟩
  ·rw [hp] at hr ⊢; simp [ND,NE,hr]
  refine (?key : ∀ (i : Nat) (B : List (Nat × List V)),i <= p.length -> (∃ a b d e,getB B 2 = some [a,b,d,e]) -> Run G c131_B0 (S131_0 (.m v) (.fa 2 0) (.m (.i .i64 (mnF c.x ((p.take i).map Ce.x)))) (.m (.i .i64 (mnF c.y ((p.take i).map Ce.y)))) (.m (.i .i64 (mxF c.x ((p.take i).map Ce.x)))) (.m (.i .i64 (mxF c.y ((p.take i).map Ce.y)))) (.m (.i .i64 i)) B []) _) 0 _ (AeR _) ⟨_,_,_,_,rfl⟩
  refine BO (fun i : Nat=>p.length - i) fun i ih B hi hB=>?_
  unfold c131_B0
  cases hx : p[i]? with
  | none =>
   have : i = p.length:=by have:=AeU.1 hx; omega
   subst this
   obtain ⟨a,b,d,e,hB⟩:=hB
   have hy:=JW (hp ▸ hr) (hp ▸ hcl)
   simp (contextual:=true) (maxSteps:=2000000) (disch:=omega) [hv.rules,hB,Ab,-Int.not_lt,-Int.not_le,-Nat.not_lt,-Nat.not_le,-List.map_take]
   rw [hp] at hr ⊢
   simp only [Afx] at hy
   simp [ND,NE,hr,hla,hy.1,hy.2]
  | some d =>
   have hlt:=(Av hx).1
   have hn:=AK hx
   have ih:=ih (i + 1) (by omega)
   simp only [FK _ hx,Kg,Pk] at ih
   simp (contextual:=true) (maxSteps:=2000000) (disch:=omega) [Ab,-Int.not_lt,-Int.not_le,-Nat.not_lt,-Nat.not_le,-List.map_take,hv.rules,hn,hlt,wr_i64]
   exact ih _ (by omega) hB
open Go.Lib
structure TreeC where
 states : Int
 hood : List (Int × Int)
 nodes : List (Int × List Int)
def AdX (a b : Int × Int) : Bool:=decide (a.2 < b.2 \/ (a.2 = b.2 /\ a.1 < b.1))
def Nt (p : Int × Int) : Bool:=decide ((-2 <= p.1 /\ p.1 <= 2) /\ (-2 <= p.2 /\ p.2 <= 2))
def Abk : Option (Int × Int) -> List (Int × Int) -> Bool
 | _,[]=>true
 | none,p :: r=>Nt p && Abk (some p) r
 | some a,p :: r=>Nt p && AdX a p && Abk (some p) r
def Mj (l : List (Int × Int)) : Bool:=decide (1 <= l.length /\ l.length <= 25) && Abk none l
theorem Px : ∀ (l : List (Int × Int)) (a : Option (Int × Int)),Abk a l = true -> ∀ p,p ∈ l -> Nt p = true
 | [],_,_,p,hp=>by cases hp
 | q :: r,a,h,p,hp=>by
  have h' : Nt q = true /\ Abk (some q) r = true:=by
   cases a with
   | none=>exact (AeH _ _).mp h
   | some b =>
    have h : (Nt q && AdX b q && Abk (some q) r) = true:=h
    rw [AeH,AeH] at h
    exact ⟨h.1.1,h.2⟩
  rcases Aff.1 hp with rfl | hp
  ·exact h'.1
  ·exact Px r _ h'.2 p hp
def Nx (nodes : List (Int × List Int)) (k : Int) : Int:=match nodes[k.toNat]? with
 | some n=>n.1
 | none=>0
def elOk (t : TreeC) (i : Nat) (lev k : Int) : Bool:=decide (¬ k < 0 /\ ¬ (lev = 1 /\ t.states <= k) /\ ¬ (1 < lev /\ ((i : Int) <= k \/ ¬ Nx t.nodes k = lev - 1)))
def Md (t : TreeC) (i : Nat) (n : Int × List Int) : Bool:=decide (1 <= n.1 /\ n.1 <= t.hood.length /\ (n.2.length : Int) = t.states) && n.2.all (elOk t i n.1)
def Ke (t : TreeC) : Nat -> List (Int × List Int) -> Bool
 | _,[]=>true
 | i,n :: r=>Md t i n && Ke t (i + 1) r
def CP (t : TreeC) : Bool:=decide (2 <= t.states /\ t.states <= 8) && (Mj t.hood && (decide (1 <= t.nodes.length /\ t.nodes.length <= 4096) && (decide (Nx t.nodes (t.nodes.length - 1) = t.hood.length) && Ke t 0 t.nodes)))
theorem Jf (t : TreeC) : ∀ (l : List (Int × List Int)) (i : Nat),Ke t i l = true -> ∀ (j : Nat) n,l[j]? = some n -> Md t (i + j) n = true
 | [],_,_,j,n,h=>by simp at h
 | m :: r,i,h,j,n,hn=>by
  have h : (Md t i m && Ke t (i + 1) r) = true:=h
  rw [AeH] at h
  cases j with
  | zero=>simp at hn; subst hn; exact h.1
  | succ j =>
   have:=Jf t r (i + 1) h.2 j n (by simpa using hn)
   rw [show i + (j + 1) = i + 1 + j from by omega]
   exact this
open Go.Proofs
def Ay (l : List (Int × Int)) : List (List I):=l.map fun p=>[.i .i64 p.1,.i .i64 p.2]
@[simp] theorem Abl (l : List (Int × Int)) : (Ay l).length = l.length:=by simp [Ay]
abbrev Nd:=Int × List Int
theorem GC {y : I} {es : List (List I)} (h : IsSl y es) : BH (.m y) = true:=by
 rcases h with rfl | ⟨rfl,_⟩ <;> rfl
def dEn : List I -> Int
 | [.i _ x]=>x
 | _=>0
def dIn : I -> List Int
 | .sl es=>es.map dEn
 | _=>[]
def dNd : List I -> Int × List Int
 | [.i _ x,z]=>(x,dIn z)
 | _=>(0,[])
def TZ (es : List (List I)) : Prop:=∀ e,e ∈ es -> ∃ (x : Int) (z : I),e = [.i .i64 x,z] /\ IsSl z (Dj (dIn z)) /\ (dIn z).length <= 9223372036854775807 /\ ∀ k,k ∈ dIn z -> -9223372036854775808 <= k /\ k <= 9223372036854775807
structure TreeV (t : TreeC) (h n : I) (es : List (List I)) : Prop where
 hd : IsSl h (Ay t.hood)
 nd : IsSl n es
 ok : TZ es
 eq : t.nodes = es.map dNd
 hl : t.hood.length <= 9223372036854775807
 nl : es.length <= 9223372036854775807
theorem LM {t : TreeC} {h n : I} {es : List (List I)} (hT : TreeV t h n es) : t.nodes.length = es.length:=by rw [hT.eq,AeX]
theorem OX {t : TreeC} {h n : I} {es : List (List I)} (hT : TreeV t h n es) {j : Nat} {nd : Int × List Int} (hj : t.nodes[j]? = some nd) : ∃ z,nth es j = some [.i .i64 nd.1,z] /\ IsSl z (Dj nd.2) /\ nd.2.length <= 9223372036854775807 /\ ∀ k,k ∈ nd.2 -> -9223372036854775808 <= k /\ k <= 9223372036854775807:=by
 rw [hT.eq,Afg] at hj
 cases he : es[j]? with
 | none=>rw [he] at hj; cases hj
 | some e =>
  rw [he] at hj
  cases hj
  obtain ⟨x,z,rfl,h1,h2,h3⟩:=hT.ok e (AeO he)
  exact ⟨z,by rw [AA]; exact he,h1,h2,h3⟩
theorem VI {α : Type} {l m : List α} {i : Nat} {x y : α} (h : l.take i = m.take i) (hx : l[i]? = some x) (hy : m[i]? = some y) (e : x = y) : l.take (i + 1) = m.take (i + 1):=by
 rw [AQ hx,AQ hy,h,e]
end Go.Mx.Tryz
namespace Go.Mx.Tryz
def ndU (l : List Nd) (i : Nat) : Nd:=(l[i]?).getD (0,[])
abbrev WSt:=List Int × List Nd
def FL (f : Nat -> WSt -> WSt × Int) : List Int -> WSt -> List Int -> WSt × List Int
 | [],st,acc=>(st,acc)
 | k :: r,st,acc=>FL f r (f k.toNat st).1 (acc ++ [(f k.toNat st).2])
def Abj (x : Nd) (k : Nat) (r : WSt × List Int) : WSt × Int:=((r.1.1.set k ((r.1.2.length + 1 : Nat) : Int),r.1.2 ++ [(x.1,r.2)]),((r.1.2.length : Nat) : Int))
def He (l : List Nd) : Nat -> Nat -> WSt -> WSt × Int
 | 0,_,st=>(st,0)
 | n + 1,k,st=>if 0 < (st.1[k]?).getD 0 then (st,(st.1[k]?).getD 0 - 1)
  else Abj (ndU l k) k (if 1 < (ndU l k).1 then FL (He l n) (ndU l k).2 st [] else (st,(ndU l k).2))
def OkN (l : List Nd) : Prop:=∀ i,i < l.length -> 1 <= (ndU l i).1 /\ (ndU l i).1 <= 1000 /\ (ndU l i).2 ≠ [] /\ (ndU l i).2.length <= 100 /\ (∀ k,k ∈ (ndU l i).2 -> -1000000000 <= k /\ k <= 1000000000) /\ (1 < (ndU l i).1 -> ∀ k,k ∈ (ndU l i).2 -> 0 <= k /\ k.toNat < l.length /\ (ndU l k.toNat).1 < (ndU l i).1)
def ZG (dn : List Int) : Nat:=dn.countP fun v=>decide (0 < v)
structure InvW (l : List Nd) (st : WSt) : Prop where
 len : st.1.length = l.length
 cnt : st.2.length <= ZG st.1
 val : ∀ v,v ∈ st.1 -> 0 <= v /\ v <= (st.2.length : Int)
theorem InvW.out_le {l : List Nd} {st : WSt} (h : InvW l st) : st.2.length <= l.length:=by
 have:=List.countP_le_length (p:=fun v : Int=>decide (0 < v)) (l:=st.1)
 have h1:=h.cnt
 have h2:=h.len
 unfold ZG at h1
 omega
theorem Pg : ∀ {dn : List Int} {k : Nat} {v : Int},(dn[k]?).getD 0 <= 0 -> k < dn.length -> 0 < v -> ZG (dn.set k v) = ZG dn + 1
 | [],k,v,_,h,_=>by simp at h
 | a :: r,0,v,h0,_,hv=>by
  have : ¬ 0 < a:=by simp at h0; omega
  simp [ZG,hv,this]
 | a :: r,k + 1,v,h0,hk,hv=>by
  have ih:=Pg (dn:=r) (k:=k) (v:=v) (by simpa using h0) (by simpa using hk) hv
  unfold ZG at ih ⊢
  rw [List.set_cons_succ,List.countP_cons,List.countP_cons,ih]
  omega
def GrW (l : List Nd) (m : Int) (st st' : WSt) : Prop:=InvW l st' /\ (∀ i,i < l.length -> m <= (ndU l i).1 -> st'.1[i]? = st.1[i]?) /\ ∃ t,st'.2 = st.2 ++ t
theorem GrW.refl {l : List Nd} {m : Int} {st : WSt} (h : InvW l st) : GrW l m st st:=⟨h,fun _ _ _=>rfl,[],by simp⟩
theorem GrW.trans {l : List Nd} {m : Int} {a b c : WSt} (h : GrW l m a b) (k : GrW l m b c) : GrW l m a c:=by
 obtain ⟨_,h2,t,h3⟩:=h
 obtain ⟨k1,k2,u,k3⟩:=k
 exact ⟨k1,fun i hi hm=>(k2 i hi hm).trans (h2 i hi hm),t ++ u,by rw [k3,h3,AeS]⟩
theorem Pq {l : List Nd} {m : Int} {f : Nat -> WSt -> WSt × Int} : ∀ (ks : List Int) (st : WSt) (acc : List Int),InvW l st -> (∀ k,k ∈ ks -> ∀ st,InvW l st -> GrW l m st (f k.toNat st).1 /\ 0 <= (f k.toNat st).2 /\ (f k.toNat st).2 < ((f k.toNat st).1.2.length : Int)) -> (∀ v,v ∈ acc -> 0 <= v /\ v < (st.2.length : Int)) ->
  GrW l m st (FL f ks st acc).1 /\ (∀ v,v ∈ (FL f ks st acc).2 -> 0 <= v /\ v < ((FL f ks st acc).1.2.length : Int)) /\ (FL f ks st acc).2.length = acc.length + ks.length
 | [],st,acc,hi,_,ha=>⟨.refl hi,ha,rfl⟩
 | k :: r,st,acc,hi,hf,ha=>by
  obtain ⟨g1,g2,g3⟩:=hf k (Afh ..) st hi
  obtain ⟨t,ht⟩:=g1.2.2
  obtain ⟨i1,i2,i3⟩:=Pq (m:=m) r (f k.toNat st).1 (acc ++ [(f k.toNat st).2]) g1.1 (fun j hj=>hf j (AfI _ hj)) fun v hv=>by
   rcases AfQ.1 hv with h | h
   ·have:=ha v h
    rw [ht,AeL]
    omega
   ·rw [List.mem_singleton] at h
    subst h
    exact ⟨g2,g3⟩
  refine ⟨g1.trans i1,i2,?_⟩
  show (FL f r (f k.toNat st).1 (acc ++ [(f k.toNat st).2])).2.length = _
  rw [i3]
  simp
  omega
theorem TL {l : List Nd} (hl : OkN l) : ∀ (n k : Nat) (st : WSt),InvW l st -> k < l.length -> (ndU l k).1 <= (n : Int) ->
  GrW l ((ndU l k).1 + 1) st (He l n k st).1 /\ 0 <= (He l n k st).2 /\ (He l n k st).2 < ((He l n k st).1.2.length : Int)
 | 0,k,st,_,hk,hn=>by have:=(hl k hk).1; omega
 | n + 1,k,st,hi,hk,hn=>by
  have e : He l (n + 1) k st = if 0 < (st.1[k]?).getD 0 then (st,(st.1[k]?).getD 0 - 1)
   else Abj (ndU l k) k (if 1 < (ndU l k).1 then FL (He l n) (ndU l k).2 st [] else (st,(ndU l k).2)):=rfl
  have hkl : k < st.1.length:=by rw [hi.len]; exact hk
  obtain ⟨v,hv⟩ : ∃ v,st.1[k]? = some v:=⟨st.1[k],AeK hkl⟩
  have hvb:=hi.val v (AeO hv)
  rw [e,hv]
  simp only [Option.getD_some]
  by_cases h0 : 0 < v
  ·rw [AeJ h0]
   exact ⟨.refl hi,by simp only; omega,by simp only; omega⟩
  ·rw [AeF h0]
   obtain ⟨o1,o2,o3,o4,o5,o6⟩:=hl k hk
   have hr : GrW l (ndU l k).1 st (if 1 < (ndU l k).1 then FL (He l n) (ndU l k).2 st [] else (st,(ndU l k).2)).1:=by
    by_cases h1 : 1 < (ndU l k).1
    ·rw [AeJ h1]
     refine (Pq (m:=(ndU l k).1) _ st [] hi (fun j hj s hs=>?_) (by simp)).1
     obtain ⟨q1,q2,q3⟩:=o6 h1 j hj
     obtain ⟨⟨i1,i2,i3⟩,r2,r3⟩:=TL hl n j.toNat s hs q2 (by omega)
     exact ⟨⟨i1,fun i hi hm=>i2 i hi (by omega),i3⟩,r2,r3⟩
    ·rw [AeF h1]
     exact .refl hi
   generalize (if 1 < (ndU l k).1 then FL (He l n) (ndU l k).2 st [] else (st,(ndU l k).2)) = r at hr ⊢
   obtain ⟨⟨r1,r2,r3⟩,hr2,t,hr3⟩:=hr
   have hkr : (r.1.1[k]?).getD 0 <= 0:=by rw [hr2 k hk (by omega),hv]; simp only [Option.getD_some]; omega
   have hkl2 : k < r.1.1.length:=by rw [r1]; exact hk
   refine ⟨⟨⟨?_,?_,fun u hu=>?_⟩,fun i hi hm=>?_,t ++ [((ndU l k).1,r.2)],?_⟩,?_,?_⟩
   ·show (r.1.1.set k _).length = _
    rw [AfH,r1]
   ·show (r.1.2 ++ [((ndU l k).1,r.2)]).length <= ZG (r.1.1.set k _)
    rw [Pg hkr hkl2 (by omega),AeL]
    simp
    exact r2
   ·have hu : u ∈ r.1.1.set k ((r.1.2.length + 1 : Nat) : Int):=hu
    show 0 <= u /\ u <= ((r.1.2 ++ [((ndU l k).1,r.2)]).length : Int)
    rw [AeL]
    rcases List.mem_or_eq_of_mem_set hu with h | h
    ·have:=r3 u h
     simp
     omega
    ·subst h
     simp
     omega
   ·show (r.1.1.set k _)[i]? = _
    have hne : k ≠ i:=fun e=>by subst e; omega
    rw [AfC hne]
    exact hr2 i hi (by omega)
   ·show r.1.2 ++ _ = _
    rw [hr3,AeS]
   ·show (0 : Int) <= ((r.1.2.length : Nat) : Int)
    omega
   ·show ((r.1.2.length : Nat) : Int) < ((r.1.2 ++ [((ndU l k).1,r.2)]).length : Int)
    rw [AeL]
    simp
    omega
@[simp] theorem rx_ldb (M : Mem) (ag : Bool) (sz d off : Nat) : readX M (.ldb ag sz) [.fa d off] = (readA M sz (.fa d off)).bind fun cs=>CV ag cs:=rfl
@[simp] theorem px_slc_r (esz : Nat) (lo hi mx : Bool) (r ver e st len : Nat) (lim : Bool) (vs : List V) : Aj (.slc esz lo hi mx) (.sl r ver e st len lim :: vs) = gd (eqB false (Nat.beq esz 0)) (gd (Nat.beq esz e) ((KB len lo hi mx vs).bind fun p=>some (.sl r ver e (st + p.1) (p.2 - p.1) (mx || (lim && Nat.beq p.2 len))))):=rfl
@[simp] theorem allM_sl (a b c d e : Nat) (f : Bool) (r : List V) : Bo (.sl a b c d e f :: r) = none:=rfl
@[simp] theorem AcW (H : Hp) (cs : List V) : view 20 H (.ag cs) = (Af (view 19 H) cs).bind fun l=>some (.ag l):=rfl
@[simp] theorem eqB_ff : eqB false false = true:=rfl
def hdB (c : Nat) : List Nat -> List Nat
 | []=>[]
 | x :: r=>if x = c then [] else x :: hdB c r
def tlB (c : Nat) : List Nat -> Option (List Nat)
 | []=>none
 | x :: r=>if x = c then some r else tlB c r
theorem JR (c : Nat) : ∀ s,tlB c s = none -> hdB c s = s
 | [],_=>rfl
 | x :: r,h=>by
  have e1 : tlB c (x :: r) = if x = c then some r else tlB c r:=rfl
  have e2 : hdB c (x :: r) = if x = c then [] else x :: hdB c r:=rfl
  by_cases hx : x = c
  ·rw [e1,AeJ hx] at h; cases h
  ·rw [e1,AeF hx] at h; rw [e2,AeF hx,JR c r h]
theorem EI (c : Nat) : ∀ s t,tlB c s = some t -> s = hdB c s ++ c :: t
 | [],_,h=>by cases h
 | x :: r,t,h=>by
  have e1 : tlB c (x :: r) = if x = c then some r else tlB c r:=rfl
  have e2 : hdB c (x :: r) = if x = c then [] else x :: hdB c r:=rfl
  by_cases hx : x = c
  ·rw [e1,AeJ hx] at h; cases h; rw [e2,AeJ hx,hx]; rfl
  ·rw [e1,AeF hx] at h; rw [e2,AeF hx,Afo,<- EI c r t h]
theorem TF (c : Nat) : ∀ s x,x ∈ hdB c s -> x ≠ c
 | [],x,h=>by cases h
 | y :: r,x,h=>by
  have e2 : hdB c (y :: r) = if y = c then [] else y :: hdB c r:=rfl
  rw [e2] at h
  split at h
  ·cases h
  ·rename_i hy
   rcases Aff.1 h with h | h
   ·rw [h]; exact hy
   ·exact TF c r x h
theorem Aah (c : Nat) (s : List Nat) : ∀ x,x ∈ hdB c s -> x ∈ s:=by
 intro x hx
 cases h : tlB c s with
 | none=>rwa [JR c s h] at hx
 | some t=>rw [EI c s t h]; exact List.mem_append_left _ hx
theorem Zr {c : Nat} {s t : List Nat} (h : tlB c s = some t) : ∀ x,x ∈ t -> x ∈ s:=by
 intro x hx
 rw [EI c s t h]; exact List.mem_append_right _ (AfI _ hx)
theorem SE {c : Nat} {s t : List Nat} (h : tlB c s = some t) : s.length = (hdB c s).length + 1 + t.length:=by
 have:=congrArg List.length (EI c s t h)
 simp only [AeL,Afj] at this
 omega
theorem VG {c : Nat} {s t : List Nat} (h : tlB c s = some t) : s.take (hdB c s).length = hdB c s /\ s.drop ((hdB c s).length + 1) = t:=by
 have e:=EI c s t h
 generalize hdB c s = p at e
 subst e
 exact ⟨by simp,by rw [show p ++ c :: t = (p ++ [c]) ++ t by simp,show p.length + 1 = (p ++ [c]).length by simp,List.drop_left]⟩
theorem Xp (c : Nat) : ∀ s k,ixB s c k = match tlB c s with | none=>-1 | some _=>((k + (hdB c s).length : Nat) : Int)
 | [],_=>rfl
 | x :: r,k=>by
  have e1 : tlB c (x :: r) = if x = c then some r else tlB c r:=rfl
  have e2 : hdB c (x :: r) = if x = c then [] else x :: hdB c r:=rfl
  unfold ixB
  by_cases hx : x = c
  ·have : Nat.beq x c = true:=by rw [hx]; exact Nat.beq_refl c
   rw [this,e1,AeJ hx,e2,AeJ hx]; rfl
  ·have : Nat.beq x c = false:=by
    cases h : Nat.beq x c with
    | false=>rfl
    | true=>exact absurd (AeP h) hx
   rw [this,e1,AeF hx,e2,AeF hx,Xp c r (k + 1)]
   cases tlB c r with
   | none=>rfl
   | some t=>simp only [Afj]; omega
def spl (c : Nat) : List Nat -> List (List Nat)
 | []=>[[]]
 | x :: r=>if x = c then [] :: spl c r else match spl c r with
  | []=>[[x]]
  | h :: t=>(x :: h) :: t
theorem Jc (c : Nat) : ∀ s,∃ h t,spl c s = h :: t
 | []=>⟨_,_,rfl⟩
 | x :: r=>by
  obtain ⟨h,t,e⟩:=Jc c r
  unfold spl
  split
  ·exact ⟨_,_,rfl⟩
  ·rw [e]; exact ⟨_,_,rfl⟩
theorem DN (c : Nat) : ∀ s,tlB c s = none -> spl c s = [s]
 | [],_=>rfl
 | x :: r,h=>by
  have e1 : tlB c (x :: r) = if x = c then some r else tlB c r:=rfl
  have e : spl c (x :: r) = if x = c then [] :: spl c r else match spl c r with | []=>[[x]] | h :: t=>(x :: h) :: t:=rfl
  by_cases hx : x = c
  ·rw [e1,AeJ hx] at h; cases h
  ·rw [e1,AeF hx] at h
   rw [e,AeF hx,DN c r h]
theorem DM (c : Nat) : ∀ s t,tlB c s = some t -> spl c s = hdB c s :: spl c t
 | [],_,h=>by cases h
 | x :: r,t,h=>by
  have e1 : tlB c (x :: r) = if x = c then some r else tlB c r:=rfl
  have e2 : hdB c (x :: r) = if x = c then [] else x :: hdB c r:=rfl
  have e : spl c (x :: r) = if x = c then [] :: spl c r else match spl c r with | []=>[[x]] | h :: t=>(x :: h) :: t:=rfl
  by_cases hx : x = c
  ·rw [e1,AeJ hx] at h; cases h
   rw [e,AeJ hx,e2,AeJ hx]
  ·rw [e1,AeF hx] at h
   have:=DM c r t h
   rw [e,AeF hx,this,e2,AeF hx]
theorem AI {α : Type} {l : List α} {i : Nat} {x : α} (h : nth l i = some x) : i < l.length:=by
 rw [AA] at h
 exact (AeG.1 h).1
theorem AdT {α : Type} (l : List α) (i j : Nat) (x : α) (h : i < l.length) : nth (l.set i x) j = if i = j then some x else nth l j:=by
 rw [AA,AA,List.getElem?_set]
 by_cases e : i = j
 ·subst e; simp [h]
 ·simp [e]
theorem Ar {α : Type} {l : List α} {i j : Nat} {x : α} (h : i ≠ j) : nth (l.set i x) j = nth l j:=by
 rw [AA,AA,List.getElem?_set,AeF h]
theorem AO {α : Type} {l : List α} {i : Nat} {x : α} (h : i < l.length) : nth (l.set i x) i = some x:=by
 rw [AdT _ _ _ _ h,AeJ rfl]
theorem BF {α : Type} (l m : List α) (j : Nat) (h : j < l.length) : nth (l ++ m) j = nth l j:=by
 rw [AA,AA,AeW h]
theorem Dc {α : Type} (l m : List α) (j : Nat) : nth (l ++ m) (l.length + j) = nth m j:=by
 rw [AA,AA,Afp (by omega)]
 congr 1
 omega
theorem Er {M : Mem} {ty esz bytes r base : Nat} {es xs : List (List V)} (h : nth M.H r = some (.cs ty esz es base false)) (hx : xs ≠ []) (hb : (es.length + xs.length) * bytes <= 140737488355328) (hal : (xs.all fun e=>Nat.beq e.length esz && e.all BH) = true) :
  FP M ty esz bytes (.sl r es.length esz 0 es.length false) xs = some (.sl r (es.length + xs.length) esz 0 (es.length + xs.length) false,{ M with H:=M.H.set r (.cs ty esz (es ++ xs) base false) }):=by
 obtain ⟨x,t,rfl⟩:=Afq hx
 have e:=Am M.H r (.cs ty esz (es ++ x :: t) base false) (AI h)
 have h2 : Nat.ble ((es.length + (x :: t).length) * bytes) 140737488355328 = true:=by rw [Bd]; exact Afc hb
 show Option.bind (nth M.H r) _ = _
 rw [h]
 show gd (!false && Nat.beq ty ty && Nat.beq esz esz && Nat.beq esz esz && Nat.beq 0 0 && Nat.beq es.length es.length && Nat.beq es.length es.length && Nat.ble ((es.length + (x :: t).length) * bytes) 140737488355328 && ((x :: t).all fun e=>Nat.beq e.length esz && e.all BH)) _ = _
 simp only [Nat.beq_refl,h2,hal,Bool.and_self,Bool.not_false,gd]
 rw [e]
 rfl
theorem ib_s (s : List Nat) (c : Nat) (hc : c < 256) (H : Hp) : Gives G 201 [.m (.s s),.m (.i .u8 (c : Int))] H (.m (.i .i64 (ixB s c 0))) H:=⟨1,by
 show (gd (Nat.blt c 256) (some (I.i .i64 (ixB s c 0)))).bind (fun i=>some (V.m i,H)) = _
 rw [Gk,Afc hc]
 rfl⟩
theorem Aac (s : List Nat) (hl : s.length <= 9223372036854775807) (c : Nat) (hc : c < 256) (H : Hp) : Gives G 185 [.m (.s s),.m (.s [c])] H (.m (.i .i64 (ixB s c 0))) H:=by
 refine Ah rfl rfl rfl rfl rfl ?_
 have g:=ib_s s c hc []
 by_cases h : [c] = s
 ·have e : ixB s c 0 = 0:=by
   rw [<- h]; unfold ixB; rw [Nat.beq_refl]; rfl
  simp [<- h]
  try (rw [<- h] at e; simp [e])
 ·simp [cl g,h]
theorem VK (s : List Nat) (hl : s.length <= 9223372036854775807) (c : Nat) (hc : c < 256) (H : Hp) : Gives G 148 [.m (.s s),.m (.s [c])] H (.m (.i .i64 (ixB s c 0))) H:=by
 refine Ah rfl rfl rfl rfl rfl ?_
 simp [cl (Aac s hl c hc _)]
@[reducible] def strR (s : List Nat) (b : Nat) : Row:=.cs 9 1 [[.m (.s s)]] b false
@[reducible] def zerR (b : Nat) : Row:=.cs 3 1 [[.m (.i .i64 0)]] b false
def inS (cs s : List Nat) : Bool:=s.all fun c=>cs.contains c
theorem Wn (cs : List Nat) (a : Nat) (r : List Nat) : inS cs (a :: r) = (cs.contains a && inS cs r):=rfl
theorem JS (c : Nat) : ∀ (n : Nat) (s : List Nat),s.length <= n -> ∀ w,w ∈ spl c s -> w.length <= s.length /\ ∀ x,x ∈ w -> x ∈ s
 | n,s,hn,w,hw=>by
  cases h : tlB c s with
  | none =>
   rw [DN c s h] at hw
   simp at hw
   subst hw
   exact ⟨AeI _,fun x hx=>hx⟩
  | some t =>
   have hl:=SE h
   rw [DM c s t h] at hw
   rcases Aff.1 hw with rfl | hw
   ·exact ⟨by omega,Aah c s⟩
   ·match n,hn with
    | 0,hn=>omega
    | n + 1,hn =>
     obtain ⟨k1,k2⟩:=JS c n t (by omega) w hw
     exact ⟨by omega,fun x hx=>Zr h x (k2 x hx)⟩
open Go.Lib Go.Proofs
def okD (c : Nat) : Bool:=decide (48 <= c /\ c <= 57)
def DC : Nat -> List Nat -> Nat
 | a,[]=>a
 | a,c :: r=>DC (10 * a + (c - 48)) r
theorem Kr : ∀ (l : List Nat) (a c : Nat),DC a (l ++ [c]) = 10 * DC a l + (c - 48)
 | [],a,c=>rfl
 | x :: l,a,c=>by
  show DC (10 * a + (x - 48)) (l ++ [c]) = _
  rw [Kr l]
  rfl
theorem Tw {d : List Nat} (h : ∀ c,c ∈ d -> 48 <= c /\ c <= 57) : inS [48,49,50,51,52,53,54,55,56,57] d = true:=by
 unfold inS
 rw [AeQ]
 intro c hc
 have:=h c hc
 simp
 omega
theorem Aeu (s : List Nat) (hl : s.length <= 281474976710656) (H : Hp) : Gives G 54 [.m (.s s)] H (.tu [.m (atG s).1,.m (atG s).2]) H:=⟨1,by
 have e : Bi G 1 54 [.m (.s s)] H = gd (Nat.ble s.length 281474976710656) (some (.tu [.m (atG s).1,.m (atG s).2],H)):=rfl
 have hb : Nat.ble s.length 281474976710656 = true:=by rw [Afn]; exact hl
 rw [e,hb]
 rfl⟩
theorem TK : ∀ (d : List Nat) (a : Nat),a <= DC a d
 | [],a=>AeI a
 | c :: r,a=>by
  have:=TK r (10 * a + (c - 48))
  have e : DC a (c :: r) = DC (10 * a + (c - 48)) r:=rfl
  omega
theorem SD {c : Nat} (h : c < 256) : (UInt8.ofNat c).toNat = c:=by
 rw [UInt8.toNat_ofNat']
 omega
theorem Ik {c : Nat} : okD c = true ↔ 48 <= c /\ c <= 57:=by unfold okD; simp
theorem pu10 : ∀ (d : List Nat) (a : Nat),d.all okD = true -> a < 18446744073709551616 -> parseUint10 a (d.map UInt8.ofNat) = if DC a d < 18446744073709551616 then .ok (DC a d) else .range
 | [],a,_,h=>by
  have e : DC a [] = a:=rfl
  rw [e,AeJ h]
  rfl
 | c :: r,a,hd,h=>by
  rw [List.all_cons,AeH] at hd
  have hc:=Ik.1 hd.1
  have h1:=SD (c:=c) (by omega)
  have e : DC a (c :: r) = DC (10 * a + (c - 48)) r:=rfl
  have hg:=TK r (10 * a + (c - 48))
  rw [Afx]
  unfold parseUint10
  rw [h1,AeJ hc]
  by_cases h2 : 1844674407370955162 <= a
  ·rw [AeJ h2,AeF (by omega)]
  ·rw [AeF h2]
   by_cases h3 : 18446744073709551616 <= a * 10 + (c - 48)
   ·rw [AeJ h3,AeF (by omega)]
   ·rw [AeF h3,show a * 10 + (c - 48) = 10 * a + (c - 48) by omega,pu10 r _ hd.2 (by omega),e]
theorem Aaw (d : List Nat) (hne : d ≠ []) (hd : d.all okD = true) : (DC 0 d < 9223372036854775808 -> atG d = (.i .i64 (DC 0 d : Nat),.nl 3)) /\ (¬ DC 0 d < 9223372036854775808 -> (atG d).2 = .er /\ ∃ x,(atG d).1 = .i .i64 x):=by
 obtain ⟨c,r,rfl⟩:=Afq hne
 have hc:=Ik.1 (AeQ.1 hd c (by simp))
 have h1:=SD (c:=c) (by omega)
 have hp:=pu10 (c :: r) 0 hd (by omega)
 have hA : ∀ z,parseUint10 0 ((c :: r).map UInt8.ofNat) = z -> atoiAll ((c :: r).map UInt8.ofNat) = match z with
   | .ok u=>if 9223372036854775808 <= u then .range else .ok (u : Int)
   | .range=>.range
   | _=>atoiAll []:=fun z hz=>by
  have e : (c :: r).map UInt8.ofNat = UInt8.ofNat c :: r.map UInt8.ofNat:=rfl
  rw [e] at hz ⊢
  unfold atoiAll
  simp only [h1]
  have n1 : ¬ c = 43:=by omega
  have n2 : ¬ c = 45:=by omega
  simp only [n1,n2,or_self,if_false,not_false_eq_true,true_and,false_and]
  unfold parseMag
  rw [AeF (by simp),hz]
  cases z <;> rfl
 constructor
 ·intro h
  rw [AeJ (by omega)] at hp
  have hA:=hA _ hp
  simp only at hA
  rw [AeF (by omega)] at hA
  unfold atG
  rw [hA]
 ·intro h
  unfold atG
  by_cases h2 : DC 0 (c :: r) < 18446744073709551616
  ·rw [AeJ h2] at hp
   have hA:=hA _ hp
   simp only at hA
   rw [AeJ (by omega)] at hA
   rw [hA]
   exact ⟨rfl,_,rfl⟩
  ·rw [AeF h2] at hp
   have hA:=hA _ hp
   simp only at hA
   rw [hA]
   exact ⟨rfl,_,rfl⟩
def Hc : List Nat:=[48,49,50,51,52,53,54,55,56,57]
theorem Tx {d : List Nat} (h : inS Hc d = true) : d.all okD = true:=by
 unfold inS Hc at h
 rw [AeQ] at h ⊢
 intro c hc
 have:=h c hc
 simp at this
 exact Ik.2 (by omega)
@[simp] theorem Aeb : DU 3 (.m .er) = some false:=rfl
end Go.Mx.Tryz
namespace Go.Mx.Tryz
def BS (ws : List (List Nat)) : List (List V):=ws.map fun w=>[.m (.s w)]
def Mr (ws : List (List Nat)) : List (List I):=ws.map fun w=>[.s w]
@[simp] theorem SN (ws : List (List Nat)) : (BS ws).length = ws.length:=by simp [BS]
@[simp] theorem celS_len (ws : List (List Nat)) : (Mr ws).length = ws.length:=by simp [Mr]
theorem Qu (ws : List (List Nat)) (w : List Nat) : BS ws ++ [[.m (.s w)]] = BS (ws ++ [w]):=by simp [BS]
def zS (ws : List (List Nat)) : I:=if ws = [] then .nl 4 else .sl (Mr ws)
theorem optS (n : Nat) (H : Hp) : ∀ ws : List (List Nat),Af (fun e=>Af (view (n + 1) H) e) (BS ws) = some (Mr ws)
 | []=>rfl
 | w :: r=>by
  show Option.bind (some [I.s w]) _ = _
  simp only [AeM]
  have:=optS n H r
  show Option.bind (Af _ (BS r)) _ = _
  rw [this]
  rfl
theorem AcX {H : Hp} {ro base : Nat} {ws : List (List Nat)} (h : nth H ro = some (.cs 9 1 (BS ws) base false)) (hb : base <= ws.length) : viewR H (.sl ro ws.length 1 0 ws.length false) = some (.m (.sl (Mr ws))):=by
 have e : elems H (.sl ro ws.length 1 0 ws.length false) = some (BS ws):=by
  show Option.bind (nth H ro) _ = _
  rw [h]
  show gd (Nat.ble base ws.length && Nat.beq 1 1) (some (((BS ws).drop 0).take ws.length)) = _
  rw [Bd,Afc hb,List.drop_zero,AeY (by simp)]
  rfl
 show Option.bind (Option.bind (elems H (.sl ro ws.length 1 0 ws.length false)) _) _ = _
 rw [e]
 show Option.bind (Option.bind (Af _ (BS ws)) _) _ = _
 rw [optS]
 rfl
theorem Ag {s : St} {n : Nat} {x : V} (h : Ax x = true) : CW s (.v n) x = some { s with E:=BN s.E n x }:=by
 cases x with
 | fa d o=>cases h
 | _=>first | rfl | simp
def OutR (ws : List (List Nat)) (o : V) (H : Hp) : Prop:=(ws = [] /\ o = .m (.nl 4) /\ H = []) \/ (ws ≠ [] /\ o = .sl 0 ws.length 1 0 ws.length false /\ H = [.cs 9 1 (BS ws) 0 false])
theorem LY {ws : List (List Nat)} {o : V} {H : Hp} (h : OutR ws o H) (hl : ws.length <= 1000000) (w : List Nat) : ∃ o1 H1,(∀ B,FP ⟨B,H⟩ 9 1 16 o [[.m (.s w)]] = some (o1,⟨B,H1⟩)) /\ Ax o1 = true /\ OutR (ws ++ [w]) o1 H1:=by
 rcases h with ⟨rfl,rfl,rfl⟩ | ⟨hne,rfl,rfl⟩
 ·exact ⟨_,_,fun B=>rfl,rfl,.inr ⟨by simp,rfl,rfl⟩⟩
 ·have ha:=fun B=>Er (M:=⟨B,[.cs 9 1 (BS ws) 0 false]⟩) (r:=0) (bytes:=16) (xs:=[[.m (.s w)]]) rfl (by simp) (by simp; omega) rfl
  simp only [SN,Afj,Aft,AfL,Qu,List.set_cons_zero] at ha
  exact ⟨_,_,ha,rfl,.inr ⟨by simp,by simp,rfl⟩⟩
theorem SY {ws : List (List Nat)} {o : V} {H : Hp} (h : OutR ws o H) : viewR H o = some (.m (zS ws)):=by
 rcases h with ⟨rfl,rfl,rfl⟩ | ⟨hne,rfl,rfl⟩
 ·rfl
 ·rw [AcX (ro:=0) (base:=0) rfl (AeR _)]
  unfold zS
  rw [AeF hne]
end Go.Mx.Tryz
