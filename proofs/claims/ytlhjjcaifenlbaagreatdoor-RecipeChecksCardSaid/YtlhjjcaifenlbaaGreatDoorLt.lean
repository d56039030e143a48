/- Start and Check of the reference. -/
import Derived.Test.YtlhjjcaifenlbaaGreatDoorRc
import Derived.Test.YtlhjjcaifenlbaaGreatDoorLk
import Derived.Test.YtlhjjcaifenlbaaGreatDoorStr
import Derived.Test.YtlhjjcaifenlbaaGreatDoorVn
set_option linter.unusedSimpArgs false
set_option linter.unusedVariables false
set_option linter.unusedSectionVars false
set_option maxRecDepth 100000
set_option maxHeartbeats 4000000
namespace Go.Mx.Tryz
open Go.Lib Go.Proofs
def PkI (has : Bool) (acc : List Ce) (H : Hp) : Prop:=∃ b,b <= 1 /\ ((acc = [] /\ H = [.cs 4 1 [[.m (.b has)]] 0 false,.cs 29 1 [[.m (.nl 4)]] b false]) \/ (acc ≠ [] /\ H = [.cs 4 1 [[.m (.b has)]] 0 false,.cs 29 1 [[.sl 2 acc.length 3 0 acc.length false]] b false,.cs 73 3 (Aw acc) 0 false]))
theorem UE {has : Bool} {acc : List Ce} {H : Hp} (h : PkI has acc H) (hl : acc.length <= 1000000) (c : Ce) : ∃ o b o1 H1 H2,b <= 1 /\ nth H 1 = some (.cs 29 1 [[o]] b false) /\ AB o = true /\ (∀ B,EJ ⟨B,H⟩ 73 3 24 o [[.m (.i .i64 c.x),.m (.i .i64 c.y),.m (.i .i64 c.s)]] = some (o1,⟨B,H1⟩)) /\ AB o1 = true /\ Ay o1 = some [o1] /\ CR o1 = true /\ nth H1 1 = some (.cs 29 1 [[o]] b false) /\ Bl H1 1 (.cs 29 1 [[o1]] 1 false) = some H2 /\ PkI has (acc ++ [c]) H2:=by
 obtain ⟨b,hb,⟨rfl,rfl⟩ | ⟨hne,rfl⟩⟩:=h
 ·exact ⟨_,b,.sl 2 1 3 0 1 false,_,_,hb,rfl,rfl,fun B=>rfl,rfl,rfl,rfl,rfl,rfl,1,AcD _,.inr ⟨by simp,rfl⟩⟩
 ·have ha:=fun B=>Dc (M:=⟨B,[.cs 4 1 [[.m (.b has)]] 0 false,.cs 29 1 [[.sl 2 acc.length 3 0 acc.length false]] b false,.cs 73 3 (Aw acc) 0 false]⟩) (r:=2) (bytes:=24) (xs:=[[.m (.i .i64 c.x),.m (.i .i64 c.y),.m (.i .i64 c.s)]]) rfl (by simp) (by simp; omega) rfl
  simp only [BH,Adk,Adp,AdF,List.set_cons_succ,List.set_cons_zero,FM] at ha
  refine ⟨_,b,.sl 2 (acc.length + 1) 3 0 (acc.length + 1) false,_,_,hb,rfl,rfl,ha,rfl,rfl,rfl,rfl,rfl,1,AcD _,.inr ⟨by simp,?_⟩⟩
  simp
theorem Yj {has : Bool} {acc : List Ce} {H : Hp} (h : PkI has acc H) : nth H 0 = some (.cs 4 1 [[.m (.b has)]] 0 false):=by
 obtain ⟨b,hb,⟨rfl,rfl⟩ | ⟨hne,rfl⟩⟩:=h <;> rfl
theorem LZ {has : Bool} {acc : List Ce} {H : Hp} (h : PkI has acc H) (hl : acc.length <= 1000000) (c d : Ce) (a b : Bool) {Q : V -> Hp -> Prop} (hQ : ∀ H',PkI has (acc ++ if a && (b == has) then [c] else []) H' -> Q (.tu []) H') : Ret G 171 (Vis 171 [.pt 0 1 0 0,.pt 1 1 0 0] c d a b) H Q:=by
 refine BU mono rfl rfl rfl rfl rfl ?_
 have h0:=Yj h
 cases a with
 | false =>
  have k:=hQ H (by simpa using h)
  simp (maxSteps:=2000000) (disch:=omega) [Ab,Vis,Ce.i]
  exact k
 | true =>
  by_cases hb : b = has
  ·obtain ⟨o,b1,o1,H1,H2,hb1,r1,r2,r3,r4,r5,r6,r7,r8,r9⟩:=UE h hl c
   have k:=hQ H2 (by simpa [hb] using r9)
   have hbe : (b == has) = true:=by simp [hb]
   simp (maxSteps:=2000000) (disch:=omega) [Ab,Vis,Ce.i,h0,hb,r1,hb1,r3,r5,r6,r7,r8]
   exact k
  ·have k:=hQ H (by simpa [hb] using h)
   have hbe : (b == has) = false:=by simpa using hb
   simp (maxSteps:=2000000) (disch:=omega) [Ab,Vis,Ce.i,h0,hbe]
   exact k
theorem Yk {has : Bool} {acc : List Ce} {H : Hp} (h : PkI has acc H) : ∃ o b,b <= 1 /\ nth H 1 = some (.cs 29 1 [[o]] b false) /\ AB o = true /\ viewR H o = some (.m (zP acc)) /\ view 20 H o = some (zP acc):=by
 obtain ⟨b,hb,⟨rfl,rfl⟩ | ⟨hne,rfl⟩⟩:=h
 ·exact ⟨_,b,hb,rfl,rfl,rfl,rfl⟩
 ·have hv:=Rp (H:=[.cs 4 1 [[.m (.b has)]] 0 false,.cs 29 1 [[.sl 2 acc.length 3 0 acc.length false]] b false,.cs 73 3 (Aw acc) 0 false]) (r:=2) (b:=0) (q:=acc) rfl (AcF _) 18
  have hz : zP acc = .sl (Ag acc):=by unfold zP; rw [Acz hne]
  refine ⟨_,b,hb,rfl,rfl,?_,?_⟩
  ·show (view 20 _ _).bind _ = _
   rw [hv,hz]
   rfl
  ·rw [hz]
   exact hv
theorem AbI {v w : I} {p q : List Ce} (hv : IsSl v (Ag p)) (hw : IsSl w (Ag q)) (hp : AP p = true) (hq : AP q = true) (has : Bool) (H : Hp) : Gives G 137 [.m v,.m w,.m (.b has)] H (.m (zP (pkF p q has))) H:=by
 obtain ⟨wp,_,lp⟩:=Az hp
 obtain ⟨wq,_,lq⟩:=Az hq
 have g1:=fun H=>Da hv (by omega) H
 have g2:=fun H=>Da hw (by omega) H
 rw [hp] at g1
 rw [hq] at g2
 refine Ae rfl rfl rfl rfl rfl ?_
 simp (maxSteps:=2000000) (disch:=omega) [cl (g1 _),cl (g2 _),Ad]
 rw [Ar]
 refine YB (Inv:=fun a b H=>∃ acc,PkI has acc H /\ acc ++ pkF a b has = pkF p q has) rfl (fun c r b H Q hI hlt hQ=>?_) (fun d s a H Q hI hlt hQ=>?_) (fun c r d s H Q hI hx hy h1 h2 hQ=>?_) hv hw wp wq (by omega) (by omega) ⟨[],⟨0,by omega,.inl ⟨rfl,rfl⟩⟩,rfl⟩ fun H' hI=>?_
 ·obtain ⟨acc,hP,he⟩:=hI
  have hl : acc.length <= 1000000:=by
   have:=congrArg List.length he
   rw [AcN] at this
   have h2 : (pkF p q has).length <= p.length:=List.length_filter_le _ _
   omega
  refine LZ hP hl c _ true false fun H' hP'=>hQ H' ⟨_,hP',?_⟩
  rw [<- he,pk_a has hlt]
  cases has <;> simp
 ·obtain ⟨acc,hP,he⟩:=hI
  have hl : acc.length <= 1000000:=by
   have:=congrArg List.length he
   rw [AcN] at this
   have h2 : (pkF p q has).length <= p.length:=List.length_filter_le _ _
   omega
  refine LZ hP hl _ d false true fun H' hP'=>hQ H' ⟨_,hP',?_⟩
  rw [<- he,pk_b has hlt]
  simp
 ·obtain ⟨acc,hP,he⟩:=hI
  have hl : acc.length <= 1000000:=by
   have:=congrArg List.length he
   rw [AcN] at this
   have h2 : (pkF p q has).length <= p.length:=List.length_filter_le _ _
   omega
  refine LZ hP hl c d true true fun H' hP'=>hQ H' ⟨_,hP',?_⟩
  rw [<- he,pk_ab has hx hy h1]
  cases has <;> simp
 ·obtain ⟨acc,hP,he⟩:=hI
  have he : acc = pkF p q has:=by rw [<- he,Yl,Adw]
  obtain ⟨o,b,hb,r1,r2,r3,r4⟩:=Yk hP
  rw [he] at r3 r4
  generalize zP (pkF p q has) = z at *
  simp (maxSteps:=2000000) (disch:=omega) [Ab,r1,hb,r3,As r2,r2]
theorem Pf {v w : I} {p q : List Ce} (hv : IsSl v (Ag p)) (hw : IsSl w (Ag q)) (hp : AP p = true) (hq : AP q = true) (H : Hp) : Gives G 65 [.m v,.m w] H (.m (.b (Zz p q))) H:=by
 obtain ⟨wp,_,lp⟩:=Az hp
 obtain ⟨wq,_,lq⟩:=Az hq
 have g1:=fun H=>Da hv (by omega) H
 have g2:=fun H=>Da hw (by omega) H
 rw [hp] at g1
 rw [hq] at g2
 have g3:=fun H=>AbI hv hw hp hq true H
 have ga : ∀ H,Gives G 107 [.m v,.m w] H (.m (zP (pkF p q true))) H:=fun H=>by
  generalize zP (pkF p q true) = z at *
  refine Ae rfl rfl rfl rfl rfl ?_
  simp (maxSteps:=2000000) (disch:=omega) [cl (g3 _)]
 have hrz:=(Cr (pkF p q true)).rules
 simp only [show (Ag (pkF p q true)).length = (pkF p q true).length from by simp [Ag]] at hrz
 have e : Zz p q = decide ((pkF p q true).length = 0):=by
  by_cases h : dsj p q
  ·have h1:=(GC p q).2 h
   have h2:=VM.2 h
   rw [h1,h2]
   rfl
  ·have h1 : ¬ Zz p q = true:=fun hh=>h ((GC p q).1 hh)
   have h2 : ¬ pkF p q true = []:=fun hh=>h (VM.1 hh)
   rw [Bool.not_eq_true] at h1
   rw [h1]
   symm
   refine AcH fun hh=>h2 (AcT hh)
 rw [e]
 have hll : ((pkF p q true).length : Int) <= 5000:=by
  have h2 : (pkF p q true).length <= p.length:=List.length_filter_le _ _
  omega
 generalize zP (pkF p q true) = z at *
 generalize (pkF p q true).length = m at *
 refine Ae rfl rfl rfl rfl rfl ?_
 by_cases hm : m = 0
 ·simp (maxSteps:=2000000) (disch:=omega) [cl (g1 _),cl (g2 _),cl (ga _),Ad,hrz,hm]
 ·simp (maxSteps:=2000000) (disch:=omega) [cl (g1 _),cl (g2 _),cl (ga _),Ad,hrz,hm]
end Go.Mx.Tryz
namespace Go.Mx.Tryz
def onV (xs : List I) : List (List V):=xs.map fun x=>[.m x]
@[simp] theorem Mb (xs : List I) : (onV xs).length = xs.length:=by simp [onV]
theorem Ys (xs ys : List I) : onV xs ++ onV ys = onV (xs ++ ys):=by simp [onV]
theorem Sd {xs : List I} {i : Nat} {x : I} (h : xs[i]? = some x) : nth (onV xs) i = some [.m x]:=by
 rw [AV]
 simp [onV,h]
def on1 (xs : List I) : List (List I):=xs.map fun x=>[x]
@[simp] theorem Yu (xs : List I) : (on1 xs).length = xs.length:=by simp [on1]
theorem Yt {xs : List I} {i : Nat} {x : I} (h : xs[i]? = some x) : nth (on1 xs) i = some [x]:=by
 rw [AV]
 simp [on1,h]
def noAg (xs : List I) : Prop:=∀ x,x ∈ xs -> CR (.m x) = true
theorem VQ {xs : List I} (h : noAg xs) : ((onV xs).all fun e=>Nat.beq e.length 1 && e.all CR) = true:=by
 rw [AcO]
 intro e he
 obtain ⟨x,hx,rfl⟩:=Adc.1 he
 simp [h x hx]
def LR (ty : Nat) (xs : List I) (o : V) (H : Hp) (ok : Nat -> Prop) : Prop:=(xs = [] /\ o = .m (.nl 4)) \/ (xs ≠ [] /\ ∃ r,ok r /\ o = .sl r xs.length 1 0 xs.length false /\ nth H r = some (.cs ty 1 (onV xs) 0 false))
theorem LR.nf {ty : Nat} {xs : List I} {o : V} {H : Hp} {ok : Nat -> Prop} (h : LR ty xs o H ok) : AB o = true /\ Ay o = some [o] /\ CR o = true /\ Ao (.len false) [o] = some (.m (.i .i64 (xs.length : Nat))):=by
 rcases h with ⟨rfl,rfl⟩ | ⟨hne,r,hr,rfl,h3⟩
 ·exact ⟨rfl,rfl,rfl,rfl⟩
 ·exact ⟨rfl,rfl,rfl,rfl⟩
theorem LR.rd {ty : Nat} {xs : List I} {o : V} {H : Hp} {ok : Nat -> Prop} (h : LR ty xs o H ok) {i : Nat} {x : I} (hx : xs[i]? = some x) : ∃ p,Ao (.ixa 1) [o,.m (.i .i64 (i : Int))] = some p /\ AB p = true /\ ∀ B,readX ⟨B,H⟩ (.ld false 1) [p] = some (.m x):=by
 have hlt:=(Acy.1 hx).1
 rcases h with ⟨rfl,rfl⟩ | ⟨hne,r,hr,rfl,h3⟩
 ·simp at hlt
 ·refine ⟨.pt r xs.length i 0,?_,rfl,fun B=>?_⟩
  ·simp (maxSteps:=2000000) (disch:=omega) []
  ·simp (maxSteps:=2000000) (disch:=omega) [Ab,Sd hx,h3]
theorem LR.elems {ty : Nat} {xs : List I} {o : V} {H : Hp} {ok : Nat -> Prop} (h : LR ty xs o H ok) : Mx.elems H o = some (onV xs):=by
 rcases h with ⟨rfl,rfl⟩ | ⟨hne,r,hr,rfl,h3⟩
 ·rfl
 ·rw [QL,h3]
  show gd (Nat.ble 0 xs.length && Nat.beq 1 1) (some (((onV xs).drop 0).take xs.length)) = _
  rw [BG,AcI (AcF _),List.drop_zero,AcP (by simp)]
  rfl
theorem LR.push {ty b n0 : Nat} {xs : List I} {o : V} {H : Hp} (h : LR ty xs o H (n0 <= ·)) (hn : n0 <= H.length) (hb : b <= 1000) {ys : List I} (hl : xs.length + ys.length <= 100000000) (ha : noAg ys) : ∃ o1 H1,(∀ B,EJ ⟨B,H⟩ ty 1 b o (onV ys) = some (o1,⟨B,H1⟩)) /\ AB o1 = true /\ LR ty (xs ++ ys) o1 H1 (n0 <= ·) /\ n0 <= H1.length /\ H.length <= H1.length /\ ∀ r,r < n0 -> nth H1 r = nth H r:=by
 have hmul : (xs.length + ys.length) * b <= 100000000 * 1000:=Nat.mul_le_mul hl hb
 cases ys with
 | nil =>
  refine ⟨o,H,fun B=>?_,h.nf.1,by rw [Adw]; exact h,hn,AcD _,fun _ _=>rfl⟩
  rcases h with ⟨rfl,rfl⟩ | ⟨hne,r,hr,rfl,h3⟩ <;> rfl
 | cons y t =>
  rcases h with ⟨rfl,rfl⟩ | ⟨hne,r,hr,rfl,h3⟩
  ·refine ⟨.sl H.length (y :: t).length 1 0 (y :: t).length false,H ++ [.cs ty 1 (onV (y :: t)) 0 false],fun B=>?_,rfl,.inr ⟨by simp,H.length,hn,rfl,Sk H _ 0⟩,by simp; omega,by simp,fun r hr=>Sl _ _ _ (by omega)⟩
   show Bu ⟨B,H⟩ ty 1 b (onV (y :: t)) = _
   rw [Ql,VQ ha,Mb]
   have : Nat.ble ((y :: t).length * b) 140737488355328 = true:=by
    rw [BG]
    refine AcI ?_
    simp only [Adp,AdF] at hmul
    omega
   rw [this]
   rfl
  ·have ha2:=fun B=>Dc (M:=⟨B,H⟩) (bytes:=b) (xs:=onV (y :: t)) h3 (by simp [onV]) (by simp only [Mb]; omega) (VQ ha)
   simp only [Mb,Ys] at ha2
   have el : xs.length + (y :: t).length = (xs ++ y :: t).length:=by simp
   rw [el] at ha2
   refine ⟨_,_,ha2,rfl,.inr ⟨by simp,r,hr,rfl,HF (Mc h3)⟩,by simp; omega,by simp,fun q hq=>Sj fun e=>?_⟩
   subst e
   have : n0 <= r:=hr
   omega
def zL (xs : List I) : I:=if xs = [] then .nl 4 else .sl (on1 xs)
theorem zL_sl (xs : List I) : IsSl (zL xs) (on1 xs):=by
 unfold zL
 split
 ·rename_i h; subst h; exact AH
 ·exact Be _
theorem optV (k : Nat) (H : Hp) : ∀ xs : List I,Ak (fun e=>Ak (view (k + 1) H) e) (onV xs) = some (on1 xs)
 | []=>rfl
 | x :: r=>by
  show Option.bind (some [x]) _ = _
  simp only [AcG]
  show Option.bind (Ak _ (onV r)) _ = _
  rw [optV k H r]
  rfl
theorem LR.view {ty : Nat} {xs : List I} {o : V} {H : Hp} {ok : Nat -> Prop} (h : LR ty xs o H ok) (k : Nat) : Mx.view (k + 2) H o = some (zL xs):=by
 have he:=h.elems
 rcases h with ⟨rfl,rfl⟩ | ⟨hne,r,hr,rfl,h3⟩
 ·rfl
 ·show Option.bind (Mx.elems H (.sl r xs.length 1 0 xs.length false)) _ = _
  rw [he]
  show Option.bind (Ak (fun e=>Ak (Mx.view (k + 1) H) e) (onV xs)) _ = _
  rw [optV]
  unfold zL
  rw [Acz hne]
  rfl
theorem IB {call : Bc} {M : Mem} {ty esz b : Nat} {s x : V} {e : List (List V)} (h : Mx.elems M.H x = some e) : Am call M (.app ty esz b) [s,x] = EJ M ty esz b s e:=by
 cases x with
 | m x =>
  cases x with
  | s l=>simp [Mx.elems] at h
  | _=>simp only [Am]; rw [h]; rfl
 | _=>simp only [Am]; rw [h]; rfl
open Go.Lib Go.Proofs
@[simp] theorem immK_len (es : List (List I)) : (DG es).length = es.length:=by simp [DG]
theorem LR.upto {ty : Nat} {xs : List I} {o : V} {H : Hp} {ok : Nat -> Prop} (h : LR ty xs o H ok) {i : Nat} (hi : i <= xs.length) : ∃ s,Ao (.slc 1 false true false) [o,.m (.i .i64 (i : Int))] = some s /\ AB s = true /\ Ao (.len false) [s] = some (.m (.i .i64 (i : Nat))) /\ ∀ (k : Nat) x,k < i -> xs[k]? = some x -> ∃ p,Ao (.ixa 1) [s,.m (.i .i64 (k : Int))] = some p /\ AB p = true /\ ∀ B,readX ⟨B,H⟩ (.ld false 1) [p] = some (.m x):=by
 rcases h with ⟨rfl,rfl⟩ | ⟨hne,r,hr,rfl,h3⟩
 ·have : i = 0:=by simpa using hi
  subst this
  exact ⟨_,rfl,rfl,rfl,fun k x hk=>absurd hk (by omega)⟩
 ·refine ⟨.sl r xs.length 1 (0 + 0) (i - 0) (false || (false && Nat.beq i xs.length)),?_,rfl,?_,fun k x hk hx=>⟨.pt r xs.length k 0,?_,rfl,fun B=>?_⟩⟩
  ·simp (maxSteps:=2000000) (disch:=omega) []
  ·simp (maxSteps:=2000000) (disch:=omega) []
  ·simp (maxSteps:=2000000) (disch:=omega) []
  ·simp (maxSteps:=2000000) (disch:=omega) [Ab,Sd hx,h3]
open Classical in
noncomputable def NA (t : TreeC) (l : List Sh) (xs : List St5) (gens : Int) (res : List Ce) : Int :=
 if AI t = true then if l.length <= 8 /\ xs.length <= 16 then if 0 <= gens /\ gens <= 10000 then if BR t res = 0 then if (l.all (AS t)) = true then if plE t l xs = 0 then if Pe (plP t l xs) then 0 else 8 else plE t l xs else 17 else BR t res else 2 else 6 else 11
theorem SI {ps : List (List Ce)} {i : Nat} {q : List Ce} (h : ps[i]? = some q) : Pe (ps.take (i + 1)) ↔ Pe (ps.take i) /\ ∀ (k : Nat) p,k < i -> ps[k]? = some p -> dsj p q:=by
 unfold Pe
 rw [Ap h,Adv]
 refine ⟨fun hh=>⟨hh.1,fun k p hk hp=>hh.2.2 p (Adz.2 ⟨k,by rw [AcW,AcC hk]; exact hp⟩) q (AcZ.2 rfl)⟩,fun hh=>⟨hh.1,List.pairwise_singleton _ _,fun p hp d hd=>?_⟩⟩
 rw [AcZ.1 hd]
 obtain ⟨k,hk⟩:=Adz.1 hp
 rw [AcW] at hk
 split at hk
 ·rename_i hlt
  exact hh.2 k p hlt hk
 ·cases hk
theorem YJ {ps : List (List Ce)} {i k : Nat} {p q : List Ce} (hk : k < i) (hp : ps[k]? = some p) (hq : ps[i]? = some q) (h : ¬ dsj p q) : ¬ Pe ps:=fun hh=>by
 have h1:=Adt.1 hh
 obtain ⟨l1,e1⟩:=Acy.1 hp
 obtain ⟨l2,e2⟩:=Acy.1 hq
 have:=h1 k i l1 l2 hk
 rw [e1,e2] at this
 exact h this
structure RecA (zs zx vr : I) (fs : List (List I)) (l : List Sh) (xs : List St5) (gens : Int) (res : List Ce) : Prop where
 s : IsSl zs fs
 sv : Oe fs l
 x : IsSl zx (La xs)
 r : IsSl vr (Ag res)
 ll : l.length <= 1000000
 lx : xs.length <= 1000000
 lr : res.length <= 1000000
set_option maxHeartbeats 8000000 in
theorem Yo {t : TreeC} {h n zs zx vr : I} {es fs : List (List I)} {l : List Sh} {xs : List St5} {gens : Int} {res : List Ce} (hT : TreeV t h n es) (hA : RecA zs zx vr fs l xs gens res) : ∃ z,(¬ NA t l xs gens res = 0 -> z = .nl 4) /\ (NA t l xs gens res = 0 -> ∃ us,z = zL us /\ SR us (plP t l xs)) /\ ∀ H,Gives G 34 [.m (.ag [.i .i64 t.states,h,n]),.m (.ag [zs,zx,.i .i64 gens,vr])] H (.tu [.m z,.m (.i .i64 (NA t l xs gens res))]) H:=by
 have hS:=Ch hT
 have gq:=fun H=>Jn hT H
 have hrs:=hA.s.rules
 rw [hA.sv.1] at hrs
 have hrx:=hA.x.rules
 rw [HI] at hrx
 have gr:=fun H=>Da hA.r (by have:=hA.lr; omega) H
 have gt:=fun H=>Abk hA.r (by have:=hA.lr; omega) H
 generalize hE : NA t l xs gens res = E
 unfold NA at hE
 by_cases hq : AI t = true
 rotate_left
 ·rw [Acz hq] at hE
  subst hE
  rw [Bool.not_eq_true] at hq
  rw [hq] at gq
  refine ⟨.nl 4,fun _=>rfl,fun h=>(by cases h),fun H=>Ae rfl rfl rfl rfl rfl ?_⟩
  simp (maxSteps:=2000000) (disch:=omega) [cl (gq _)]
 rw [AcC hq] at hE
 rw [hq] at gq
 by_cases hsz : l.length <= 8 /\ xs.length <= 16
 rotate_left
 ·rw [Acz hsz] at hE
  subst hE
  refine ⟨.nl 4,fun _=>rfl,fun h=>(by cases h),fun H=>Ae rfl rfl rfl rfl rfl ?_⟩
  by_cases h1 : 8 < l.length
  ·simp (maxSteps:=2000000) (disch:=omega) [cl (gq _),hrs,show (8 : Int) < l.length from by omega]
  ·have h2 : 16 < xs.length:=by omega
   simp (maxSteps:=2000000) (disch:=omega) [cl (gq _),hrs,hrx,show ¬ (8 : Int) < l.length from by omega,show (16 : Int) < xs.length from by omega]
 rw [AcC hsz] at hE
 have s1 : ¬ 8 < l.length:=by omega
 have s2 : ¬ (8 : Int) < l.length:=by omega
 have s3 : ¬ 16 < xs.length:=by omega
 have s4 : ¬ (16 : Int) < xs.length:=by omega
 by_cases hg : 0 <= gens /\ gens <= 10000
 rotate_left
 ·rw [Acz hg] at hE
  subst hE
  refine ⟨.nl 4,fun _=>rfl,fun h=>(by cases h),fun H=>Ae rfl rfl rfl rfl rfl ?_⟩
  by_cases h1 : gens < 0
  ·simp (maxSteps:=2000000) (disch:=omega) [cl (gq _),hrs,hrx,s2,s4,h1,Ad]
  ·have h2 : 10000 < gens:=by omega
   simp (maxSteps:=2000000) (disch:=omega) [cl (gq _),hrs,hrx,s2,s4,h1,h2,Ad]
 rw [AcC hg] at hE
 have g1 : ¬ gens < 0:=by omega
 have g2 : ¬ 10000 < gens:=by omega
 by_cases hc : BR t res = 0
 rotate_left
 ·rw [Acz hc] at hE
  subst hE
  refine ⟨.nl 4,fun _=>rfl,fun h=>absurd h hc,fun H=>Ae rfl rfl rfl rfl rfl ?_⟩
  unfold BR at hc ⊢
  rw [AcC hq] at hc ⊢
  cases hr : AP res with
  | false =>
   rw [hr] at gr
   simp (maxSteps:=2000000) (disch:=omega) [cl (gq _),hrs,hrx,s2,s4,g1,g2,Ad,cl (gr _)]
  | true =>
   rw [hr] at gr hc
   by_cases ht : Lf res < t.states
   ·rw [AcC rfl,AcC ht] at hc
    exact absurd rfl hc
   ·rw [AcC rfl,Acz ht]
    simp (maxSteps:=2000000) (disch:=omega) [cl (gq _),hrs,hrx,s2,s4,g1,g2,Ad,cl (gr _),cl (gt _),show t.states <= Lf res from by omega]
 rw [AcC hc] at hE
 have hrr:=(BI hc).2.1
 have htt : ¬ t.states <= Lf res:=by
  unfold BR at hc
  rw [AcC hq,AcC hrr] at hc
  split at hc
  ·omega
  ·cases hc
 rw [hrr] at gr
 have key : ∃ x H',Gives G 34 [.m (.ag [.i .i64 t.states,h,n]),.m (.ag [zs,zx,.i .i64 gens,vr])] [] x H' /\ (H' = [] /\ ∃ z,x = .tu [.m z,.m (.i .i64 E)] /\ (¬ E = 0 -> z = .nl 4) /\ (E = 0 -> ∃ us,z = zL us /\ SR us (plP t l xs))):=by
  refine AQ ?_
  refine Cu rfl rfl rfl rfl rfl ?_
  generalize hQ : (fun (x : V) (H' : Hp)=>H' = [] /\ ∃ z,x = .tu [.m z,.m (.i .i64 E)] /\ (¬ E = 0 -> z = .nl 4) /\ (E = 0 -> ∃ us,z = zL us /\ SR us (plP t l xs))) = Q
  have qe : ∀ e,E = e -> ¬ e = 0 -> Q (.tu [.m (.nl 4),.m (.i .i64 e)]) []:=fun e h1 h2=>by rw [<- hQ]; exact ⟨rfl,_,by rw [h1],fun _=>rfl,fun h3=>absurd (h1 ▸ h3) h2⟩
  have qk : ∀ us,E = 0 -> SR us (plP t l xs) -> Q (.tu [.m (zL us),.m (.i .i64 0)]) []:=fun us h1 h2=>by rw [<- hQ]; exact ⟨rfl,_,by rw [h1],fun h=>absurd h1 h,fun _=>⟨us,rfl,h2⟩⟩
  clear hQ
  simp (maxSteps:=2000000) (disch:=omega) [cl (gq _),hrs,hrx,s2,s4,g1,g2,Ad,cl (gr _),cl (gt _),htt]
  refine (?key : ∀ (i : Nat) (B : List (Nat × List V)),i <= l.length -> (l.all (AS t)) = ((l.drop i).all (AS t)) -> getB B 2 = some [.m (.i .i64 t.states),.m h,.m n] -> getB B 3 = some [.m zs,.m zx,.m (.i .i64 gens),.m vr] -> Run G c34_B0 (S34_0 (.fa 2 0) (.fa 3 0) (.m zs) (.m (.i .i64 (l.length : Int))) (.m (.i .i64 (i : Int))) B []) _) 0 _ (AcF _) rfl rfl rfl
  refine Bk (fun i : Nat=>l.length - i) fun i ih B hi hall hB2 hB3=>?_
  unfold c34_B0
  cases hx : l[i]? with
  | some s =>
   have hlt:=(Acy.1 hx).1
   have hlt' : (i : Int) < l.length:=by omega
   obtain ⟨hsl,v,hn,hv⟩:=hA.sv.2 i s hx
   have gs:=fun H=>RD hT hv hsl H
   have hov:=FY hv
   have wi : wr .i64 ((i : Int) + 1) = ((i + 1 : Nat) : Int):=Aa (by omega) (by omega)
   have hst : (l.drop i).all (AS t) = (AS t s && (l.drop (i + 1)).all (AS t)):=by rw [(Al hx).2]; rfl
   simp only [shI] at gs hn
   cases hok : AS t s with
   | true =>
    rw [hok] at gs hst
    have k2:=fun B'=>ih (i + 1) (by omega) B' (by omega) (by rw [hall,hst]; rfl)
    simp (maxSteps:=2000000) (disch:=omega) [Ab,hrs,hlt',hn,hov,hB2,cl (gs _),wi,-Int.natCast_add]
    exact k2 _ (by simpa using hB2) (by simpa using hB3)
   | false =>
    rw [hok] at gs hst
    have k2:=qe 17 (by rw [<- hE,Acz (by rw [hall,hst]; simp)]) (by decide)
    simp (maxSteps:=2000000) (disch:=omega) [Ab,hrs,hlt',hn,hov,hB2,cl (gs _)]
    exact k2
  | none =>
   have : i = l.length:=by have:=AcB.1 hx; omega
   subst this
   clear ih hx hi
   have hall2 : (l.all (AS t)) = true:=by rw [hall,Ado]; rfl
   rw [AcC hall2] at hE
   clear hall
   simp (maxSteps:=2000000) (disch:=omega) [hB3,hrx]
   refine (?key2 : ∀ (i : Nat) (us : List I) (o : V) (B : List (Nat × List V)) (H1 : Hp),i <= xs.length -> plE t l xs = plE t l (xs.drop i) -> SR us (plP t l (xs.take i)) -> LR 29 us o H1 (0 <= ·) -> getB B 2 = some [.m (.i .i64 t.states),.m h,.m n] -> getB B 3 = some [.m zs,.m zx,.m (.i .i64 gens),.m vr] -> Run G c34_B1 (S34_1 (.fa 2 0) (.fa 3 0) o (.m zx) (.m (.i .i64 (xs.length : Int))) (.m (.i .i64 (i : Int))) B H1) _) 0 [] _ _ [] (AcF _) rfl ⟨rfl,fun i u q hi=>by simp at hi⟩ (.inl ⟨rfl,rfl⟩) hB2 hB3
   clear hB2 hB3 B
   refine Bk (fun i : Nat=>xs.length - i) fun i ih us o B H1 hi hpe hP hL hB2 hB3=>?_
   unfold c34_B1
   obtain ⟨hnf,hcel,hone,hlen⟩:=hL.nf
   cases hx : xs[i]? with
   | some x =>
    have hlt:=(Acy.1 hx).1
    have hlt' : (i : Int) < xs.length:=by omega
    have hn:=HH hx
    obtain ⟨u,hu,gp⟩:=Yg hT hA.s hA.sv x
    have wi : wr .i64 ((i : Int) + 1) = ((i + 1 : Nat) : Int):=Aa (by omega) (by omega)
    have hst:=ND (t:=t) (l:=l) hx
    simp only [EU] at gp
    by_cases he : (plF t l x).2 = 0
    ·rw [AcC he] at hst
     rw [he] at gp
     have hul : us.length = i:=by rw [hP.1]; unfold plP; rw [AcR,AcL]; omega
     obtain ⟨o1,H2,ha,hn1,hL2,_⟩:=hL.push (AcF _) (b:=24) (by omega) (ys:=[u]) (by simp; omega) (fun y hy=>by rw [AcZ.1 hy]; exact FY hu)
     have ha : ∀ B,EJ ⟨B,H1⟩ 29 1 24 o [[.m u]] = some (o1,⟨B,H2⟩):=ha
     have hb1:=fun c B H=>YM hu c B H
     have hP2 : SR (us ++ [u]) (plP t l (xs.take (i + 1))):=by rw [NC hx]; exact KH hP hu
     have k2:=fun B'=>ih (i + 1) (by omega) (us ++ [u]) o1 B' H2 (by omega) (by rw [hpe,hst]) hP2 hL2
     simp (maxSteps:=2000000) (disch:=omega) [Ab,hrx,hlt',hn,hB2,hB3,cl (gp _),hb1,ha,wi,As hn1,-Int.natCast_add]
     exact k2 _ (by simpa using hB2) (by simpa using hB3)
    ·rw [Acz he] at hst
     have k2:=qe (plF t l x).2 (by rw [<- hE,Acz (by rw [hpe,hst]; exact he),hpe,hst]) he
     generalize (plF t l x).2 = e at *
     simp (maxSteps:=2000000) (disch:=omega) [Ab,hrx,hlt',hn,hB2,hB3,cl (gp _),he]
     exact k2
   | none =>
    have : i = xs.length:=by have:=AcB.1 hx; omega
    subst this
    clear ih hx hi
    have hpe0 : plE t l xs = 0:=by rw [hpe,Ado]; rfl
    rw [AcC hpe0] at hE
    clear hpe
    rw [AcV] at hP
    have hpr:=Fo hS (l:=l) (xs:=xs)
    have hpl : (plP t l xs).length = xs.length:=by unfold plP; rw [AcR]
    generalize plP t l xs = ps at *
    have hul : us.length = xs.length:=by rw [hP.1,hpl]
    simp (maxSteps:=2000000) (disch:=omega) [hlen]
    refine (?key3 : ∀ (i : Nat) (B : List (Nat × List V)),i <= us.length -> Pe (ps.take i) -> Run G c34_B3 (S34_3 o (.m (.i .i64 (us.length : Int))) (.m (.i .i64 (i : Int))) B H1) _) 0 _ (AcF _) List.Pairwise.nil
    clear hB2 hB3 B
    refine Bk (fun i : Nat=>us.length - i) fun i ih B hi hd=>?_
    unfold c34_B3
    by_cases hil : i < us.length
    ·have hil' : (i : Int) < us.length:=by omega
     have wi : wr .i64 ((i : Int) + 1) = ((i + 1 : Nat) : Int):=Aa (by omega) (by omega)
     obtain ⟨u,hu⟩ : ∃ u,us[i]? = some u:=⟨_,AcA hil⟩
     obtain ⟨q,hq2⟩ : ∃ q,ps[i]? = some q:=⟨_,AcA (by omega)⟩
     obtain ⟨pa,a1,a2,a3⟩:=hL.rd hu
     obtain ⟨sv,b1,b2,b3,b4⟩:=hL.upto (Nat.le_of_lt hil)
     have hsq:=hP.2 i u q hu hq2
     have hrq:=hpr q (AcE hq2)
     simp (maxSteps:=2000000) (disch:=omega) [hil',b1,b3,As b2]
     refine (?key4 : ∀ (k : Nat) (B : List (Nat × List V)),k <= i -> (∀ (j : Nat) p,j < k -> ps[j]? = some p -> dsj p q) -> Run G c34_B2 (S34_2 o (.m (.i .i64 (i : Int))) (.m (.i .i64 (us.length : Int))) (.m (.i .i64 (i : Int))) sv (.m (.i .i64 (i : Int))) (.m (.i .i64 (k : Int))) B H1) _) 0 _ (AcF _) (fun j p hj=>by omega)
     clear B
     refine Bk (fun k : Nat=>i - k) fun k ihk B hk hdk=>?_
     unfold c34_B2
     by_cases hkl : k < i
     ·have hkl' : (k : Int) < i:=by omega
      have wk : wr .i64 ((k : Int) + 1) = ((k + 1 : Nat) : Int):=Aa (by omega) (by omega)
      obtain ⟨w,hw⟩ : ∃ w,us[k]? = some w:=⟨_,AcA (by omega)⟩
      obtain ⟨p,hp2⟩ : ∃ p,ps[k]? = some p:=⟨_,AcA (by omega)⟩
      obtain ⟨pk,c1,c2,c3⟩:=b4 k w hkl hw
      have hsp:=hP.2 k w p hw hp2
      have hrp:=hpr p (AcE hp2)
      have gd:=fun H=>Pf hsp hsq hrp hrq H
      by_cases hdj : dsj p q
      ·rw [(GC p q).2 hdj] at gd
       have k2:=fun B'=>ihk (k + 1) (by omega) B' (by omega) (fun j p' hj hp'=>by
        by_cases e : j < k
        ·exact hdk j p' e hp'
        ·have : j = k:=by omega
         subst this
         rw [hp2] at hp'
         cases hp'
         exact hdj)
       simp (maxSteps:=2000000) (disch:=omega) [hkl',c1,c3,a1,a3,cl (gd _),wk,-Int.natCast_add]
       exact k2 _
      ·have hb : Zz p q = false:=by rw [<- Bool.not_eq_true]; exact fun hh=>hdj ((GC p q).1 hh)
       rw [hb] at gd
       have k2:=qe 8 (by rw [<- hE,Acz (YJ hkl hp2 hq2 hdj)]) (by decide)
       simp (maxSteps:=2000000) (disch:=omega) [hkl',c1,c3,a1,a3,cl (gd _)]
       exact k2
     ·have : k = i:=by omega
      subst this
      have k2:=fun B'=>ih (k + 1) (by omega) B' (by omega) ((SI hq2).2 ⟨hd,hdk⟩)
      simp (maxSteps:=2000000) (disch:=omega) [wi,-Int.natCast_add]
      exact k2 _
    ·have : i = us.length:=by omega
     subst this
     rw [AcP (by omega)] at hd
     have k2:=qk us (by rw [<- hE,AcC hd]) hP
     have hvw:=hL.view 18
     generalize zL us = z at *
     simp (maxSteps:=2000000) (disch:=omega) [hvw,As hnf]
     exact ⟨hnf,k2⟩
 obtain ⟨x,H',g,rfl,z,rfl,z1,z2⟩:=key
 exact ⟨z,z1,z2,fun H=>Ba (H:=H) (is:=[.ag [.i .i64 t.states,h,n],.ag [zs,zx,.i .i64 gens,vr]]) rfl rfl g rfl (.inl ⟨rfl,rfl⟩)⟩
theorem Iw (p : List Ce) : ((Aw p).all fun e=>Nat.beq e.length 3 && e.all CR) = true:=by
 rw [AcO]
 intro e he
 unfold Aw at he
 obtain ⟨c,_,rfl⟩:=Adc.1 he
 rfl
theorem OW (f g : List Ce) : Aw f ++ Aw g = Aw (f ++ g):=by simp [Aw]
theorem KI {f g : List Ce} {o : V} {H : Hp} (h : JC f o H) (hl : f.length <= 1000000) (hg : g.length <= 1000000) : ∃ o1 H1,(∀ B,EJ ⟨B,H⟩ 73 3 24 o (DG (Ag g)) = some (o1,⟨B,H1⟩)) /\ AB o1 = true /\ JC (f ++ g) o1 H1:=by
 rw [NR]
 cases g with
 | nil =>
  refine ⟨o,H,fun B=>?_,(Cb h).2,by simpa using h⟩
  rcases h with ⟨_,rfl,_⟩ | ⟨_,rfl,_⟩ <;> rfl
 | cons c r =>
  rcases h with ⟨rfl,rfl,rfl⟩ | ⟨hne,rfl,rfl⟩
  ·refine ⟨.sl 0 (c :: r).length 3 0 (c :: r).length false,[.cs 73 3 (Aw (c :: r)) 0 false],fun B=>?_,rfl,.inr ⟨by simp,by simp,by simp⟩⟩
   show Bu ⟨B,[]⟩ 73 3 24 (Aw (c :: r)) = _
   have h1 : Nat.ble ((Aw (c :: r)).length * 24) 140737488355328 = true:=by rw [BG]; exact AcI (by rw [BH]; omega)
   unfold Bu
   rw [h1,Iw,BH]
   rfl
  ·have ha:=fun B=>Dc (M:=⟨B,[.cs 73 3 (Aw f) 0 false]⟩) (r:=0) (bytes:=24) (xs:=Aw (c :: r)) rfl (by simp [Aw]) (by simp only [BH]; omega) (Iw _)
   simp only [BH,OW,List.set_cons_zero] at ha
   refine ⟨_,_,ha,rfl,.inr ⟨by simp,by simp,rfl⟩⟩
noncomputable def jnF (L : List Ce) : List Ce × Int:=if 5000 < L.length then ([],6) else (Ci L,0)
theorem YH {v : I} {L : List Ce} (hv : IsSl v (Ag L)) (hl : L.length <= 1000000) (hg : ∀ c,c ∈ L -> Cj c = true) (ha : L.Pairwise apart) (H : Hp) : Gives G 35 [.m v] H (.tu [.m (zP (jnF L).1),.m (.i .i64 (jnF L).2)]) H:=by
 rcases VT hv hl H with ⟨e,he,_⟩ | ⟨_,q,hq,hasc,g⟩
 ·rw [GD hg] at he
  cases he
 ·rw [NP hg] at hq
  have hw:=SQ hasc (FP hq ha)
  have e : q = Ci L:=RM (Gr ha) hw (hq.trans (Ev L).symm)
  have et : tw q = false:=XO hw
  have el : q.length = L.length:=hq.length_eq
  unfold Zw at g
  rw [et,Acz (by simp),el,e] at g
  unfold jnF
  split at g
  ·rename_i h5
   rw [AcC h5]
   exact g
  ·rename_i h5
   rw [Acz h5]
   exact g
theorem GB {ps : List (List Ce)} (h : ∀ p,p ∈ ps -> p.length <= 5000) : ps.flatten.length <= 5000 * ps.length:=by
 induction ps with
 | nil=>simp
 | cons p r ih =>
  have h1:=h p (AcX ..)
  have h2:=ih fun q hq=>h q (AdI _ hq)
  simp only [Adj,AcN,Adk]
  omega
theorem SA {ps : List (List Ce)} {i : Nat} {q : List Ce} (h : ps[i]? = some q) : (ps.take (i + 1)).flatten = (ps.take i).flatten ++ q:=by
 rw [Ap h]
 simp
theorem UK {ps : List (List Ce)} (h : Pe ps) : UL ps = jnF ps.flatten:=by
 unfold UL jnF
 rw [AcC h]
theorem FK (t : TreeC) (l : List Sh) (xs : List St5) (gens : Int) (res : List Ce) : Bi t l xs gens res = if NA t l xs gens res = 0 then jnF (plP t l xs).flatten else ([],NA t l xs gens res):=by
 unfold Bi NA
 by_cases h1 : AI t = true
 ·simp only [AcC h1]
  by_cases h2 : l.length <= 8 /\ xs.length <= 16
  ·simp only [AcC h2]
   by_cases h3 : 0 <= gens /\ gens <= 10000
   ·simp only [AcC h3]
    by_cases h4 : BR t res = 0
    ·simp only [AcC h4]
     by_cases h5 : (l.all (AS t)) = true
     ·simp only [AcC h5]
      by_cases h6 : plE t l xs = 0
      ·simp only [AcC h6]
       by_cases h7 : Pe (plP t l xs)
       ·simp only [AcC h7]
        rw [UK h7]
        simp
       ·simp only [Acz h7]
        unfold UL
        rw [Acz h7]
        rfl
      ·simp only [Acz h6]
     ·simp only [Acz h5]
      rfl
    ·simp only [Acz h4]
   ·simp only [Acz h3]
    rfl
  ·simp only [Acz h2]
   rfl
 ·simp only [Acz h1]
  rfl
theorem Aby {t : TreeC} {l : List Sh} {xs : List St5} {gens : Int} {res : List Ce} (h : NA t l xs gens res = 0) : AI t = true /\ (l.length <= 8 /\ xs.length <= 16) /\ (0 <= gens /\ gens <= 10000) /\ BR t res = 0 /\ (l.all (AS t)) = true /\ plE t l xs = 0 /\ Pe (plP t l xs):=by
 unfold NA at h
 by_cases h1 : AI t = true
 rotate_left
 ·rw [Acz h1] at h; cases h
 rw [AcC h1] at h
 by_cases h2 : l.length <= 8 /\ xs.length <= 16
 rotate_left
 ·rw [Acz h2] at h; cases h
 rw [AcC h2] at h
 by_cases h3 : 0 <= gens /\ gens <= 10000
 rotate_left
 ·rw [Acz h3] at h; cases h
 rw [AcC h3] at h
 by_cases h4 : BR t res = 0
 rotate_left
 ·rw [Acz h4] at h; exact absurd h h4
 rw [AcC h4] at h
 by_cases h5 : (l.all (AS t)) = true
 rotate_left
 ·rw [Acz h5] at h; cases h
 rw [AcC h5] at h
 by_cases h6 : plE t l xs = 0
 rotate_left
 ·rw [Acz h6] at h; exact absurd h h6
 rw [AcC h6] at h
 by_cases h7 : Pe (plP t l xs)
 rotate_left
 ·rw [Acz h7] at h; cases h
 exact ⟨h1,h2,h3,h4,h5,h6,h7⟩
set_option maxHeartbeats 4000000 in
theorem Rz {t : TreeC} {h n zs zx vr : I} {es fs : List (List I)} {l : List Sh} {xs : List St5} {gens : Int} {res : List Ce} (hT : TreeV t h n es) (hA : RecA zs zx vr fs l xs gens res) (H : Hp) : Gives G 13 [.m (.ag [.i .i64 t.states,h,n]),.m (.ag [zs,zx,.i .i64 gens,vr])] H (.tu [.m (zP (Bi t l xs gens res).1),.m (.i .i64 (Bi t l xs gens res).2)]) H:=by
 have hS:=Ch hT
 obtain ⟨z,z1,z2,gp⟩:=Yo hT hA
 rw [FK]
 by_cases hE : NA t l xs gens res = 0
 rotate_left
 ·rw [Acz hE]
  have hz:=z1 hE
  subst hz
  generalize NA t l xs gens res = E at *
  refine Ae rfl rfl rfl rfl rfl ?_
  simp (maxSteps:=2000000) (disch:=omega) [cl (gp _),hE,zP]
 rw [AcC hE]
 obtain ⟨us,rfl,hP⟩:=z2 hE
 obtain ⟨_,hsz,_,_,_,_,hd⟩:=Aby hE
 rw [hE] at gp
 have hpr:=Fo hS (l:=l) (xs:=xs)
 have hpl : (plP t l xs).length <= 16:=by unfold plP; rw [AcR]; exact hsz.2
 have hgd:=KW hpr
 have hap:=(ID hpr).2 hd
 generalize plP t l xs = ps at *
 have hrz:=(zL_sl us).rules
 rw [Yu] at hrz
 have hul : us.length = ps.length:=hP.1
 have hfl:=GB (ps:=ps) fun p hp=>(Az (hpr p hp)).2.2
 refine Ae rfl rfl rfl rfl rfl ?_
 generalize zL us = z at *
 simp (maxSteps:=2000000) (disch:=omega) [cl (gp _),hrz]
 refine (?key : ∀ (i : Nat) (o : V) (B : List (Nat × List V)) (H1 : Hp),i <= us.length -> JC (ps.take i).flatten o H1 -> Run G c13_B0 (S13_0 o (.m z) (.m (.i .i64 (us.length : Int))) (.m (.i .i64 (i : Int))) B H1) _) 0 _ _ _ (AcF _) (.inl ⟨rfl,rfl,rfl⟩)
 refine Bk (fun i : Nat=>us.length - i) fun i ih o B H1 hi ho=>?_
 unfold c13_B0
 obtain ⟨hvw,hnf⟩:=Cb ho
 by_cases hil : i < us.length
 ·have hil' : (i : Int) < us.length:=by omega
  have wi : wr .i64 ((i : Int) + 1) = ((i + 1 : Nat) : Int):=Aa (by omega) (by omega)
  obtain ⟨u,hu⟩ : ∃ u,us[i]? = some u:=⟨_,AcA hil⟩
  obtain ⟨q,hq⟩ : ∃ q,ps[i]? = some q:=⟨_,AcA (by omega)⟩
  have hsq:=hP.2 i u q hu hq
  have hn:=Yt hu
  have hru:=hsq.rules
  have hfi:=GB (ps:=ps.take i) fun p hp=>(Az (hpr p (AdH hp))).2.2
  rw [AcL] at hfi
  have hql:=(Az (hpr q (AcE hq))).2.2
  obtain ⟨o1,H2,ha,hn1,ho1⟩:=KI ho (by omega) (g:=q) (by omega)
  rw [<- SA hq] at ho1
  have ha2 : ∀ B,Am (fun _ _ _=>none) ⟨B,H1⟩ (.app 73 3 24) [o,.m u] = some (o1,⟨B,H2⟩):=fun B=>by
   rw [IB (hru.2.2 H1)]
   exact ha B
  have k2:=fun B'=>ih (i + 1) (by omega) o1 B' H2 (by omega) ho1
  simp (maxSteps:=2000000) (disch:=omega) [hrz,hil',hn,-Gm,ha2,wi,As hn1,-Int.natCast_add]
  exact k2 _
 ·have : i = us.length:=by omega
  subst this
  rw [AcP (by omega)] at ho
  have gF:=fun H=>YH (Cr ps.flatten) (by omega) hgd hap H
  obtain ⟨H2,gG⟩:=Jq rfl rfl ho gF
  generalize jnF ps.flatten = r at *
  generalize zP r.1 = zz at *
  simp (maxSteps:=2000000) (disch:=omega) [cl gG]
theorem Vc {t : TreeC} {h n zs zx vr : I} {es fs : List (List I)} {l : List Sh} {xs : List St5} {gens : Int} {res : List Ce} (hT : TreeV t h n es) (hA : RecA zs zx vr fs l xs gens res) (hsl : (Bi t l xs gens res).1.length <= 1000000) (hrl : (rnE t (Bi t l xs gens res).1 gens).1.length <= 1000000) (H : Hp) : Gives G 15 [.m (.ag [.i .i64 t.states,h,n]),.m (.ag [zs,zx,.i .i64 gens,vr])] H (.m (.i .i64 (KY t l xs gens res))) H:=by
 have gs:=fun H=>Rz hT hA H
 obtain ⟨x,hx,gr⟩:=Ye hT (Cr (Bi t l xs gens res).1) (by omega) gens
 have ge:=fun H=>Abv hx hA.r hrl hA.lr H
 unfold KY
 generalize rnE t (Bi t l xs gens res).1 gens = r at *
 generalize Bi t l xs gens res = s at *
 generalize zP s.1 = z at *
 refine Ae rfl rfl rfl rfl rfl ?_
 by_cases h1 : s.2 = 0
 ·rw [AcC h1]
  rw [h1] at gs
  by_cases h2 : r.2 = 0
  ·rw [AcC h2]
   rw [h2] at gr
   by_cases h3 : r.1 = res
   ·rw [AcC h3]
    rw [AcI (Fs.2 h3)] at ge
    simp (maxSteps:=2000000) (disch:=omega) [cl (gs _),cl (gr _),cl (ge _)]
   ·rw [Acz h3]
    rw [AcH (fun hh=>h3 (Fs.1 hh))] at ge
    simp (maxSteps:=2000000) (disch:=omega) [cl (gs _),cl (gr _),cl (ge _)]
  ·rw [Acz h2]
   simp (maxSteps:=2000000) (disch:=omega) [cl (gs _),cl (gr _),h2]
 ·rw [Acz h1]
  simp (maxSteps:=2000000) (disch:=omega) [cl (gs _),h1]
theorem Pk {L : List Ce} {i : Nat} {c : Ce} (h : L[i]? = some c) : (L.take (i + 1)).Pairwise apart ↔ (L.take i).Pairwise apart /\ ∀ (k : Nat) d,k < i -> L[k]? = some d -> apart d c:=by
 rw [Ap h,Adv]
 refine ⟨fun hh=>⟨hh.1,fun k p hk hp=>hh.2.2 p (Adz.2 ⟨k,by rw [AcW,AcC hk]; exact hp⟩) c (AcZ.2 rfl)⟩,fun hh=>⟨hh.1,List.pairwise_singleton _ _,fun p hp d hd=>?_⟩⟩
 rw [AcZ.1 hd]
 obtain ⟨k,hk⟩:=Adz.1 hp
 rw [AcW] at hk
 split at hk
 ·rename_i hlt
  exact hh.2 k p hlt hk
 ·cases hk
theorem Vi {L : List Ce} {i k : Nat} {c d : Ce} (hk : k < i) (hd : L[k]? = some d) (hc : L[i]? = some c) (hx : c.x = d.x) (hy : c.y = d.y) : ¬ L.Pairwise apart:=fun hh=>by
 have h1:=Adt.1 hh
 obtain ⟨l1,e1⟩:=Acy.1 hd
 obtain ⟨l2,e2⟩:=Acy.1 hc
 have:=h1 k i l1 l2 hk
 rw [e1,e2] at this
 exact this ⟨hx.symm,hy.symm⟩
theorem RR {f : List Ce} {o : V} {H : Hp} (h : JC f o H) {i : Nat} {c : Ce} (hc : f[i]? = some c) : o = .sl 0 f.length 3 0 f.length false /\ H = [.cs 73 3 (Aw f) 0 false] /\ DU 3 (Aw f) i 0 1 = some [.m (.i .i64 c.x)] /\ DU 3 (Aw f) i 1 1 = some [.m (.i .i64 c.y)]:=by
 rcases h with ⟨rfl,rfl,rfl⟩ | ⟨hne,rfl,rfl⟩
 ·simp at hc
 ·exact ⟨rfl,rfl,r3_x hc,r3_y hc⟩
theorem RS {f : List Ce} {o : V} {H : Hp} (h : JC f o H) : Ao (.len false) [o] = some (.m (.i .i64 (f.length : Nat))):=by
 rcases h with ⟨rfl,rfl,rfl⟩ | ⟨hne,rfl,rfl⟩ <;> rfl
set_option maxHeartbeats 8000000 in
theorem Nu {t : TreeC} {h n zs zx vr : I} {es fs : List (List I)} {l : List Sh} {xs : List St5} {gens : Int} {res : List Ce} (hT : TreeV t h n es) (hA : RecA zs zx vr fs l xs gens res) (H : Hp) : Gives G 14 [.m (.ag [.i .i64 t.states,h,n]),.m (.ag [zs,zx,.i .i64 gens,vr])] H (.tu [.m (zP (Bi t l xs gens res).1),.m (.i .i64 (Bi t l xs gens res).2)]) H:=by
 have hS:=Ch hT
 have gq:=fun H=>Jo hT H
 have hrs:=hA.s.rules
 rw [hA.sv.1] at hrs
 have hrx:=hA.x.rules
 rw [HI] at hrx
 have gc:=fun H=>IE hT hA.r (by have:=hA.lr; omega) H
 rw [FK]
 generalize hE : NA t l xs gens res = E
 unfold NA at hE
 by_cases hq : AI t = true
 rotate_left
 ·rw [Acz hq] at hE
  subst hE
  rw [Bool.not_eq_true] at hq
  rw [hq] at gq
  refine Ae rfl rfl rfl rfl rfl ?_
  simp (maxSteps:=2000000) (disch:=omega) [cl (gq _),zP]
 rw [AcC hq] at hE
 rw [hq] at gq
 by_cases hsz : l.length <= 8 /\ xs.length <= 16
 rotate_left
 ·rw [Acz hsz] at hE
  subst hE
  refine Ae rfl rfl rfl rfl rfl ?_
  by_cases h1 : 8 < l.length
  ·simp (maxSteps:=2000000) (disch:=omega) [cl (gq _),hrs,show (8 : Int) < l.length from by omega,zP]
  ·have h2 : 16 < xs.length:=by omega
   simp (maxSteps:=2000000) (disch:=omega) [cl (gq _),hrs,hrx,show ¬ (8 : Int) < l.length from by omega,show (16 : Int) < xs.length from by omega,zP]
 rw [AcC hsz] at hE
 have s1 : ¬ 8 < l.length:=by omega
 have s2 : ¬ (8 : Int) < l.length:=by omega
 have s3 : ¬ 16 < xs.length:=by omega
 have s4 : ¬ (16 : Int) < xs.length:=by omega
 by_cases hg : 0 <= gens /\ gens <= 10000
 rotate_left
 ·rw [Acz hg] at hE
  subst hE
  refine Ae rfl rfl rfl rfl rfl ?_
  by_cases h1 : gens < 0
  ·simp (maxSteps:=2000000) (disch:=omega) [cl (gq _),hrs,hrx,s2,s4,h1,zP]
  ·have h2 : 10000 < gens:=by omega
   simp (maxSteps:=2000000) (disch:=omega) [cl (gq _),hrs,hrx,s2,s4,h1,h2,zP]
 rw [AcC hg] at hE
 have g1 : ¬ gens < 0:=by omega
 have g2 : ¬ 10000 < gens:=by omega
 by_cases hc : BR t res = 0
 rotate_left
 ·rw [Acz hc] at hE
  subst hE
  rw [Acz hc]
  generalize BR t res = e at *
  refine Ae rfl rfl rfl rfl rfl ?_
  simp (maxSteps:=2000000) (disch:=omega) [cl (gq _),hrs,hrx,s2,s4,g1,g2,cl (gc _),hc,zP]
 rw [AcC hc] at hE
 rw [hc] at gc
 refine Ae rfl rfl rfl rfl rfl ?_
 generalize hR : (if E = 0 then jnF (plP t l xs).flatten else ([],E)) = R
 generalize hQ : (fun (v' : V) (x : Hp)=>v' = .tu [.m (zP R.1),.m (.i .i64 R.2)]) = Q
 have qe : ∀ e H',E = e -> ¬ e = 0 -> Q (.tu [.m (.nl 4),.m (.i .i64 e)]) H':=fun e H' h1 h2=>by rw [<- hQ,<- hR,h1,Acz h2]; rfl
 have qk : ∀ r H',E = 0 -> jnF (plP t l xs).flatten = r -> Q (.tu [.m (zP r.1),.m (.i .i64 r.2)]) H':=fun r H' h1 h2=>by rw [<- hQ,<- hR,AcC h1,h2]
 clear hQ hR
 simp (maxSteps:=2000000) (disch:=omega) [cl (gq _),hrs,hrx,s2,s4,g1,g2,cl (gc _)]
 refine (?key : ∀ (i : Nat) (B : List (Nat × List V)),i <= l.length -> (l.all (AS t)) = ((l.drop i).all (AS t)) -> getB B 2 = some [.m (.i .i64 t.states),.m h,.m n] -> getB B 3 = some [.m zs,.m zx,.m (.i .i64 gens),.m vr] -> Run G c14_B0 (S14_0 (.fa 2 0) (.fa 3 0) (.m (.i .i64 (i : Int))) B []) _) 0 _ (AcF _) rfl rfl rfl
 refine Bk (fun i : Nat=>l.length - i) fun i ih B hi hall hB2 hB3=>?_
 unfold c14_B0
 cases hx : l[i]? with
 | some s =>
  have hlt:=(Acy.1 hx).1
  have hlt' : (i : Int) < l.length:=by omega
  obtain ⟨hsl,v,hn,hv⟩:=hA.sv.2 i s hx
  have gs:=fun H=>LX hT hv hsl H
  have wi : wr .i64 ((i : Int) + 1) = ((i + 1 : Nat) : Int):=Aa (by omega) (by omega)
  have hst : (l.drop i).all (AS t) = (AS t s && (l.drop (i + 1)).all (AS t)):=by rw [(Al hx).2]; rfl
  simp only [shI] at gs hn
  cases hok : AS t s with
  | true =>
   rw [hok] at gs hst
   have k2:=fun B'=>ih (i + 1) (by omega) B' (by omega) (by rw [hall,hst]; rfl)
   simp (maxSteps:=2000000) (disch:=omega) [hrs,hlt',hn,hB2,hB3,cl (gs _),wi,-Int.natCast_add]
   exact k2 _ hB2 hB3
  | false =>
   rw [hok] at gs hst
   have k2:=qe 17 H (by rw [<- hE,Acz (by rw [hall,hst]; simp)]) (by decide)
   simp (maxSteps:=2000000) (disch:=omega) [hrs,hlt',hn,hB2,hB3,cl (gs _)]
   exact k2
 | none =>
  have : i = l.length:=by have:=AcB.1 hx; omega
  subst this
  clear ih hx hi
  have hall2 : (l.all (AS t)) = true:=by rw [hall,Ado]; rfl
  rw [AcC hall2] at hE
  clear hall
  simp (maxSteps:=2000000) (disch:=omega) [hB3,hrs]
  refine (?key2 : ∀ (i : Nat) (o : V) (B : List (Nat × List V)) (H1 : Hp),i <= xs.length -> plE t l xs = plE t l (xs.drop i) -> JC (plP t l (xs.take i)).flatten o H1 -> getB B 2 = some [.m (.i .i64 t.states),.m h,.m n] -> getB B 3 = some [.m zs,.m zx,.m (.i .i64 gens),.m vr] -> Run G c14_B1 (S14_1 (.fa 2 0) (.fa 3 0) o (.m (.i .i64 (i : Int))) B H1) _) 0 _ _ [] (AcF _) rfl (.inl ⟨rfl,rfl,rfl⟩) hB2 hB3
  clear hB2 hB3 B
  refine Bk (fun i : Nat=>xs.length - i) fun i ih o B H1 hi hpe ho hB2 hB3=>?_
  unfold c14_B1
  obtain ⟨hvw,hnf⟩:=Cb ho
  cases hx : xs[i]? with
  | some x =>
   have hlt:=(Acy.1 hx).1
   have hlt' : (i : Int) < xs.length:=by omega
   have hn:=HH hx
   have gp:=fun H=>Yh hT hA.s hA.sv x H
   have wi : wr .i64 ((i : Int) + 1) = ((i + 1 : Nat) : Int):=Aa (by omega) (by omega)
   have hst:=ND (t:=t) (l:=l) hx
   have hru:=(Cr (plF t l x).1).rules
   simp only [EU] at gp
   by_cases he : (plF t l x).2 = 0
   ·rw [AcC he] at hst
    rw [he] at gp
    have hfi:=GB (ps:=plP t l (xs.take i)) fun p hp=>(Az (Fo hS p hp)).2.2
    have hpl : (plP t l (xs.take i)).length = i:=by unfold plP; rw [AcR,AcL]; omega
    rw [hpl] at hfi
    have hql:=(Az (AbH (l:=l) (x:=x) hS).1).2.2
    obtain ⟨o1,H2,ha,hn1,ho1⟩:=KI ho (by omega) (g:=(plF t l x).1) (by omega)
    have ef : (plP t l (xs.take i)).flatten ++ (plF t l x).1 = (plP t l (xs.take (i + 1))).flatten:=by rw [NC hx]; simp
    rw [ef] at ho1
    have ha2 : ∀ B,Am (fun _ _ _=>none) ⟨B,H1⟩ (.app 73 3 24) [o,.m (zP (plF t l x).1)] = some (o1,⟨B,H2⟩):=fun B=>by
     rw [IB (hru.2.2 H1)]
     exact ha B
    have k2:=fun B'=>ih (i + 1) (by omega) o1 B' H2 (by omega) (by rw [hpe,hst]) ho1
    generalize zP (plF t l x).1 = u at *
    simp (maxSteps:=2000000) (disch:=omega) [hrx,hlt',hn,hB2,hB3,cl (gp _),-Gm,ha2,wi,As hn1,-Int.natCast_add]
    exact k2 _ hB2 hB3
   ·rw [Acz he] at hst
    have k2:=qe (plF t l x).2 H (by rw [<- hE,Acz (by rw [hpe,hst]; exact he),hpe,hst]) he
    generalize zP (plF t l x).1 = u at *
    generalize (plF t l x).2 = e at *
    simp (maxSteps:=2000000) (disch:=omega) [hrx,hlt',hn,hB2,hB3,cl (gp _),he]
    exact k2
  | none =>
   have : i = xs.length:=by have:=AcB.1 hx; omega
   subst this
   clear ih hx hi
   have hpe0 : plE t l xs = 0:=by rw [hpe,Ado]; rfl
   rw [AcC hpe0] at hE
   clear hpe
   rw [AcV] at ho
   have hpr:=Fo hS (l:=l) (xs:=xs)
   have hgd:=KW hpr
   have hap:=ID hpr
   have hfl:=GB (ps:=plP t l xs) fun p hp=>(Az (hpr p hp)).2.2
   have hpl : (plP t l xs).length <= 16:=by unfold plP; rw [AcR]; exact hsz.2
   have hFl : (plP t l xs).flatten.length <= 1000000:=by omega
   clear hfl hpl hpr
   have hlen:=RS ho
   have hE2 : ((plP t l xs).flatten.Pairwise apart -> E = 0) /\ (¬ (plP t l xs).flatten.Pairwise apart -> E = 8):=by
    rw [<- hE]
    by_cases hd : Pe (plP t l xs)
    ·rw [AcC hd]
     exact ⟨fun _=>rfl,fun hh=>absurd (hap.2 hd) hh⟩
    ·rw [Acz hd]
     exact ⟨fun hh=>absurd (hap.1 hh) hd,fun _=>rfl⟩
   clear hE hap
   generalize (plP t l xs).flatten = L at *
   simp (maxSteps:=2000000) (disch:=omega) [hrx,hB3]
   refine (?key3 : ∀ (i : Nat) (B : List (Nat × List V)),i <= L.length -> (L.take i).Pairwise apart -> Run G c14_B3 (S14_3 o (.m (.i .i64 (i : Int))) B H1) _) 0 _ (AcF _) List.Pairwise.nil
   clear hB2 hB3 B
   refine Bk (fun i : Nat=>L.length - i) fun i ih B hi hd=>?_
   unfold c14_B3
   cases hci : L[i]? with
   | some c =>
    have hil:=(Acy.1 hci).1
    have hil' : (i : Int) < L.length:=by omega
    have wi : wr .i64 ((i : Int) + 1) = ((i + 1 : Nat) : Int):=Aa (by omega) (by omega)
    simp (maxSteps:=2000000) (disch:=omega) [hlen,hil']
    refine (?key4 : ∀ (k : Nat) (B : List (Nat × List V)),k <= i -> (∀ (j : Nat) p,j < k -> L[j]? = some p -> apart p c) -> Run G c14_B2 (S14_2 o (.m (.i .i64 (i : Int))) (.m (.i .i64 (k : Int))) B H1) _) 0 _ (AcF _) (fun j p hj=>by omega)
    clear B
    refine Bk (fun k : Nat=>i - k) fun k ihk B hk hdk=>?_
    unfold c14_B2
    obtain ⟨rfl,rfl,ri,ri2⟩:=RR ho hci
    by_cases hkl : k < i
    ·have hkl' : (k : Int) < i:=by omega
     have wk : wr .i64 ((k : Int) + 1) = ((k + 1 : Nat) : Int):=Aa (by omega) (by omega)
     obtain ⟨d,hdk2⟩ : ∃ d,L[k]? = some d:=⟨_,AcA (by omega)⟩
     obtain ⟨_,_,rk,rk2⟩:=RR ho hdk2
     have hkL : k < L.length:=by omega
     have hkL' : (k : Int) < L.length:=by omega
     have k2:=fun (hap : apart d c) B'=>ihk (k + 1) (by omega) B' (by omega) (fun j p' hj hp'=>by
       by_cases e : j < k
       ·exact hdk j p' e hp'
       ·have : j = k:=by omega
        subst this
        rw [hdk2] at hp'
        cases hp'
        exact hap)
     by_cases hxe : c.x = d.x
     ·by_cases hye : c.y = d.y
      ·have k3:=qe 8 H (hE2.2 (Vi hkl hdk2 hci hxe hye)) (by decide)
       simp (maxSteps:=2000000) (disch:=omega) [Ab,hkl',ri,ri2,rk,rk2,hxe,hye]
       exact k3
      ·have k3:=k2 fun hh=>hye hh.2.symm
       simp (maxSteps:=2000000) (disch:=omega) [Ab,hkl',ri,ri2,rk,rk2,hxe,hye,wk,-Int.natCast_add]
       exact k3 _
     ·have k3:=k2 fun hh=>hxe hh.1.symm
      simp (maxSteps:=2000000) (disch:=omega) [Ab,hkl',ri,rk,hxe,wk,-Int.natCast_add]
      exact k3 _
    ·have : k = i:=by omega
     subst this
     have k2:=fun B'=>ih (k + 1) (by omega) B' (by omega) ((Pk hci).2 ⟨hd,hdk⟩)
     simp (maxSteps:=2000000) (disch:=omega) [wi,-Int.natCast_add]
     exact k2 _
   | none =>
    have : i = L.length:=by have:=AcB.1 hci; omega
    subst this
    rw [AcV] at hd
    have hE2:=hE2.1 hd
    by_cases h5 : 5000 < L.length
    ·have k2:=qk ([],6) H hE2 (by unfold jnF; rw [AcC h5])
     simp (maxSteps:=2000000) (disch:=omega) [hlen,show (5000 : Int) < L.length from by omega]
     exact k2
    ·have k2:=qk (Ci L,0) H hE2 (by unfold jnF; rw [Acz h5])
     have gF:=fun H=>HA (Cr L) (by omega) hgd hd H
     obtain ⟨H2,gG⟩:=Jq rfl rfl ho gF
     dsimp only at k2
     generalize zP (Ci L) = zz at *
     simp (maxSteps:=2000000) (disch:=omega) [hlen,show ¬ (5000 : Int) < L.length from by omega,cl gG]
     exact k2
theorem Vd {t : TreeC} {h n zs zx vr : I} {es fs : List (List I)} {l : List Sh} {xs : List St5} {gens : Int} {res : List Ce} (hT : TreeV t h n es) (hA : RecA zs zx vr fs l xs gens res) (hsl : (Bi t l xs gens res).1.length <= 1000000) (hrl : (rnE t (Bi t l xs gens res).1 gens).1.length <= 1000000) (H : Hp) : Gives G 16 [.m (.ag [.i .i64 t.states,h,n]),.m (.ag [zs,zx,.i .i64 gens,vr])] H (.m (.i .i64 (KY t l xs gens res))) H:=by
 have gs:=fun H=>Nu hT hA H
 obtain ⟨x,hx,gr⟩:=Yf hT (Cr (Bi t l xs gens res).1) (by omega) gens
 have ge:=fun H=>Hz hx hA.r hrl hA.lr H
 unfold KY
 generalize rnE t (Bi t l xs gens res).1 gens = r at *
 generalize Bi t l xs gens res = s at *
 generalize zP s.1 = z at *
 refine Ae rfl rfl rfl rfl rfl ?_
 by_cases h1 : s.2 = 0
 ·rw [AcC h1]
  rw [h1] at gs
  by_cases h2 : r.2 = 0
  ·rw [AcC h2]
   rw [h2] at gr
   by_cases h3 : r.1 = res
   ·rw [AcC h3]
    rw [AcI (Fs.2 h3)] at ge
    simp (maxSteps:=2000000) (disch:=omega) [cl (gs _),cl (gr _),cl (ge _)]
   ·rw [Acz h3]
    rw [AcH (fun hh=>h3 (Fs.1 hh))] at ge
    simp (maxSteps:=2000000) (disch:=omega) [cl (gs _),cl (gr _),cl (ge _)]
  ·rw [Acz h2]
   simp (maxSteps:=2000000) (disch:=omega) [cl (gs _),cl (gr _),h2]
 ·rw [Acz h1]
  simp (maxSteps:=2000000) (disch:=omega) [cl (gs _),h1]
theorem YE (L : List Ce) : (jnF L).1.length <= 5000:=by
 unfold jnF
 split
 ·simp
 ·rw [Ef]; omega
theorem OV (t : TreeC) (l : List Sh) (xs : List St5) (gens : Int) (res : List Ce) : (Bi t l xs gens res).1.length <= 5000:=by
 rw [FK]
 split
 ·exact YE _
 ·simp
theorem UB {t : TreeC} (hS : Ei t) {p : List Ce} (hc : BR t p = 0) (n : Nat) : (BC t n p).1.length <= 5000:=by
 by_cases he : (BC t n p).2 = 0
 ·exact (Az (BI (RH hS n p hc he)).2.1).2.2
 ·rw [VK n p he]; simp
theorem RL {t : TreeC} (hS : Ei t) (p : List Ce) (n : Int) : (rnE t p n).1.length <= 5000:=by
 unfold rnE
 split
 ·rename_i hc
  split
  ·exact UB hS hc _
  ·simp
 ·simp
end Go.Mx.Tryz
