/- Start and Check of the program. -/
import Derived.Test.YtlhjjcaifenlbaaGreatDoorRc
import Derived.Test.YtlhjjcaifenlbaaGreatDoorLk
import Derived.Test.YtlhjjcaifenlbaaGreatDoorStr
import Derived.Test.YtlhjjcaifenlbaaGreatDoorVn
set_option linter.unusedSimpArgs false
set_option linter.unusedVariables false
set_option linter.unusedSectionVars false
set_option maxRecDepth 100000
set_option maxHeartbeats 4000000
namespace Go.Mx.Tryz
open Go.Lib Go.Proofs
def PkI (has : Bool) (acc : List Ce) (H : Hp) : Prop:=∃ b,b <= 1 /\ ((acc = [] /\ H = [.cs 4 1 [[.m (.b has)]] 0 false,.cs 29 1 [[.m (.nl 4)]] b false]) \/ (acc ≠ [] /\ H = [.cs 4 1 [[.m (.b has)]] 0 false,.cs 29 1 [[.sl 2 acc.length 3 0 acc.length false]] b false,.cs 73 3 (Ax acc) 0 false]))
theorem Vl {has : Bool} {acc : List Ce} {H : Hp} (h : PkI has acc H) (hl : acc.length <= 1000000) (c : Ce) : ∃ o b o1 H1 H2,b <= 1 /\ nth H 1 = some (.cs 29 1 [[o]] b false) /\ AA o = true /\ (∀ B,Ea ⟨B,H⟩ 73 3 24 o [[.m (.i .i64 c.x),.m (.i .i64 c.y),.m (.i .i64 c.s)]] = some (o1,⟨B,H1⟩)) /\ AA o1 = true /\ Au o1 = some [o1] /\ Cv o1 = true /\ nth H1 1 = some (.cs 29 1 [[o]] b false) /\ Bk H1 1 (.cs 29 1 [[o1]] 1 false) = some H2 /\ PkI has (acc ++ [c]) H2:=by
 obtain ⟨b,hb,⟨rfl,rfl⟩ | ⟨hne,rfl⟩⟩:=h
 ·exact ⟨_,b,.sl 2 1 3 0 1 false,_,_,hb,rfl,rfl,fun B=>rfl,rfl,rfl,rfl,rfl,rfl,1,Adw _,.inr ⟨by simp,rfl⟩⟩
 ·have ha:=fun B=>CJ (M:=⟨B,[.cs 4 1 [[.m (.b has)]] 0 false,.cs 29 1 [[.sl 2 acc.length 3 0 acc.length false]] b false,.cs 73 3 (Ax acc) 0 false]⟩) (r:=2) (bytes:=24) (xs:=[[.m (.i .i64 c.x),.m (.i .i64 c.y),.m (.i .i64 c.s)]]) rfl (by simp) (by simp; omega) rfl
  simp only [BD,AdZ,Aeh,Aey,List.set_cons_succ,AeE,EK] at ha
  refine ⟨_,b,.sl 2 (acc.length + 1) 3 0 (acc.length + 1) false,_,_,hb,rfl,rfl,ha,rfl,rfl,rfl,rfl,rfl,1,Adw _,.inr ⟨by simp,?_⟩⟩
  simp
theorem YU {has : Bool} {acc : List Ce} {H : Hp} (h : PkI has acc H) : nth H 0 = some (.cs 4 1 [[.m (.b has)]] 0 false):=by
 obtain ⟨b,hb,⟨rfl,rfl⟩ | ⟨hne,rfl⟩⟩:=h <;> rfl
theorem MH {has : Bool} {acc : List Ce} {H : Hp} (h : PkI has acc H) (hl : acc.length <= 1000000) (c d : Ce) (a b : Bool) {Q : V -> Hp -> Prop} (hQ : ∀ H',PkI has (acc ++ if a && (b == has) then [c] else []) H' -> Q (.tu []) H') : Ret G 171 (Vis 171 [.pt 0 1 0 0,.pt 1 1 0 0] c d a b) H Q:=by
 refine BU mono rfl rfl rfl rfl rfl ?_
 have h0:=YU h
 cases a with
 | false =>
  have k:=hQ H (by simpa using h)
  simp (maxSteps:=2000000) (disch:=omega) [Ab,Vis,Ce.i]
  exact k
 | true =>
  by_cases hb : b = has
  ·obtain ⟨o,b1,o1,H1,H2,hb1,r1,r2,r3,r4,r5,r6,r7,r8,r9⟩:=Vl h hl c
   have k:=hQ H2 (by simpa [hb] using r9)
   have hbe : (b == has) = true:=by simp [hb]
   simp (maxSteps:=2000000) (disch:=omega) [Ab,Vis,Ce.i,h0,hb,r1,hb1,r3,r5,r6,r7,r8]
   exact k
  ·have k:=hQ H (by simpa [hb] using h)
   have hbe : (b == has) = false:=by simpa using hb
   simp (maxSteps:=2000000) (disch:=omega) [Ab,Vis,Ce.i,h0,hbe]
   exact k
theorem YV {has : Bool} {acc : List Ce} {H : Hp} (h : PkI has acc H) : ∃ o b,b <= 1 /\ nth H 1 = some (.cs 29 1 [[o]] b false) /\ AA o = true /\ viewR H o = some (.m (zP acc)) /\ view 20 H o = some (zP acc):=by
 obtain ⟨b,hb,⟨rfl,rfl⟩ | ⟨hne,rfl⟩⟩:=h
 ·exact ⟨_,b,hb,rfl,rfl,rfl,rfl⟩
 ·have hv:=Oc (H:=[.cs 4 1 [[.m (.b has)]] 0 false,.cs 29 1 [[.sl 2 acc.length 3 0 acc.length false]] b false,.cs 73 3 (Ax acc) 0 false]) (r:=2) (b:=0) (q:=acc) rfl (Adz _) 18
  have hz : zP acc = .sl (Af acc):=by unfold zP; rw [Ads hne]
  refine ⟨_,b,hb,rfl,rfl,?_,?_⟩
  ·show (view 20 _ _).bind _ = _
   rw [hv,hz]
   rfl
  ·rw [hz]
   exact hv
theorem Acz {v w : I} {p q : List Ce} (hv : IsSl v (Af p)) (hw : IsSl w (Af q)) (hp : AL p = true) (hq : AL q = true) (has : Bool) (H : Hp) : Gives G 137 [.m v,.m w,.m (.b has)] H (.m (zP (pkF p q has))) H:=by
 obtain ⟨wp,_,lp⟩:=Av hp
 obtain ⟨wq,_,lq⟩:=Av hq
 have g1:=fun H=>CI hv (by omega) H
 have g2:=fun H=>CI hw (by omega) H
 rw [hp] at g1
 rw [hq] at g2
 refine Ae rfl rfl rfl rfl rfl ?_
 simp (maxSteps:=2000000) (disch:=omega) [cl (g1 _),cl (g2 _),Ad]
 rw [As]
 refine Tb (Inv:=fun a b H=>∃ acc,PkI has acc H /\ acc ++ pkF a b has = pkF p q has) rfl (fun c r b H Q hI hlt hQ=>?_) (fun d s a H Q hI hlt hQ=>?_) (fun c r d s H Q hI hx hy h1 h2 hQ=>?_) hv hw wp wq (by omega) (by omega) ⟨[],⟨0,by omega,.inl ⟨rfl,rfl⟩⟩,rfl⟩ fun H' hI=>?_
 ·obtain ⟨acc,hP,he⟩:=hI
  have hl : acc.length <= 1000000:=by
   have:=congrArg List.length he
   rw [AdC] at this
   have h2 : (pkF p q has).length <= p.length:=Aeu _ _
   omega
  refine MH hP hl c _ true false fun H' hP'=>hQ H' ⟨_,hP',?_⟩
  rw [<- he,pk_a has hlt]
  cases has <;> simp
 ·obtain ⟨acc,hP,he⟩:=hI
  have hl : acc.length <= 1000000:=by
   have:=congrArg List.length he
   rw [AdC] at this
   have h2 : (pkF p q has).length <= p.length:=Aeu _ _
   omega
  refine MH hP hl _ d false true fun H' hP'=>hQ H' ⟨_,hP',?_⟩
  rw [<- he,pk_b has hlt]
  simp
 ·obtain ⟨acc,hP,he⟩:=hI
  have hl : acc.length <= 1000000:=by
   have:=congrArg List.length he
   rw [AdC] at this
   have h2 : (pkF p q has).length <= p.length:=Aeu _ _
   omega
  refine MH hP hl c d true true fun H' hP'=>hQ H' ⟨_,hP',?_⟩
  rw [<- he,Acy has hx hy h1]
  cases has <;> simp
 ·obtain ⟨acc,hP,he⟩:=hI
  have he : acc = pkF p q has:=by rw [<- he,YW,Ael]
  obtain ⟨o,b,hb,r1,r2,r3,r4⟩:=YV hP
  rw [he] at r3 r4
  generalize zP (pkF p q has) = z at *
  simp (maxSteps:=2000000) (disch:=omega) [Ab,r1,hb,r3,Ap r2,r2]
theorem PP {v w : I} {p q : List Ce} (hv : IsSl v (Af p)) (hw : IsSl w (Af q)) (hp : AL p = true) (hq : AL q = true) (H : Hp) : Gives G 65 [.m v,.m w] H (.m (.b (Aap p q))) H:=by
 obtain ⟨wp,_,lp⟩:=Av hp
 obtain ⟨wq,_,lq⟩:=Av hq
 have g1:=fun H=>CI hv (by omega) H
 have g2:=fun H=>CI hw (by omega) H
 rw [hp] at g1
 rw [hq] at g2
 have g3:=fun H=>Acz hv hw hp hq true H
 have ga : ∀ H,Gives G 107 [.m v,.m w] H (.m (zP (pkF p q true))) H:=fun H=>by
  generalize zP (pkF p q true) = z at *
  refine Ae rfl rfl rfl rfl rfl ?_
  simp (maxSteps:=2000000) (disch:=omega) [cl (g3 _)]
 have hrz:=(Ch (pkF p q true)).rules
 simp only [show (Af (pkF p q true)).length = (pkF p q true).length from by simp [Af]] at hrz
 have e : Aap p q = decide ((pkF p q true).length = 0):=by
  by_cases h : dsj p q
  ·have h1:=(Hg p q).2 h
   have h2:=Wu.2 h
   rw [h1,h2]
   rfl
  ·have h1 : ¬ Aap p q = true:=fun hh=>h ((Hg p q).1 hh)
   have h2 : ¬ pkF p q true = []:=fun hh=>h (Wu.1 hh)
   rw [Bool.not_eq_true] at h1
   rw [h1]
   symm
   refine AdB fun hh=>h2 (AdN hh)
 rw [e]
 have hll : ((pkF p q true).length : Int) <= 5000:=by
  have h2 : (pkF p q true).length <= p.length:=Aeu _ _
  omega
 generalize zP (pkF p q true) = z at *
 generalize (pkF p q true).length = m at *
 refine Ae rfl rfl rfl rfl rfl ?_
 by_cases hm : m = 0
 ·simp (maxSteps:=2000000) (disch:=omega) [cl (g1 _),cl (g2 _),cl (ga _),Ad,hrz,hm]
 ·simp (maxSteps:=2000000) (disch:=omega) [cl (g1 _),cl (g2 _),cl (ga _),Ad,hrz,hm]
end Go.Mx.Tryz
namespace Go.Mx.Tryz
def onV (xs : List I) : List (List V):=xs.map fun x=>[.m x]
@[simp] theorem MM (xs : List I) : (onV xs).length = xs.length:=by simp [onV]
theorem Zf (xs ys : List I) : onV xs ++ onV ys = onV (xs ++ ys):=by simp [onV]
theorem SQ {xs : List I} {i : Nat} {x : I} (h : xs[i]? = some x) : nth (onV xs) i = some [.m x]:=by
 rw [AS]
 simp [onV,h]
def on1 (xs : List I) : List (List I):=xs.map fun x=>[x]
@[simp] theorem Zh (xs : List I) : (on1 xs).length = xs.length:=by simp [on1]
theorem Zg {xs : List I} {i : Nat} {x : I} (h : xs[i]? = some x) : nth (on1 xs) i = some [x]:=by
 rw [AS]
 simp [on1,h]
def noAg (xs : List I) : Prop:=∀ x,x ∈ xs -> Cv (.m x) = true
theorem Wy {xs : List I} (h : noAg xs) : ((onV xs).all fun e=>Nat.beq e.length 1 && e.all Cv) = true:=by
 rw [AdH]
 intro e he
 obtain ⟨x,hx,rfl⟩:=AdU.1 he
 simp [h x hx]
def LR (ty : Nat) (xs : List I) (o : V) (H : Hp) (ok : Nat -> Prop) : Prop:=(xs = [] /\ o = .m (.nl 4)) \/ (xs ≠ [] /\ ∃ r,ok r /\ o = .sl r xs.length 1 0 xs.length false /\ nth H r = some (.cs ty 1 (onV xs) 0 false))
theorem LR.nf {ty : Nat} {xs : List I} {o : V} {H : Hp} {ok : Nat -> Prop} (h : LR ty xs o H ok) : AA o = true /\ Au o = some [o] /\ Cv o = true /\ Aq (.len false) [o] = some (.m (.i .i64 (xs.length : Nat))):=by
 rcases h with ⟨rfl,rfl⟩ | ⟨hne,r,hr,rfl,h3⟩
 ·exact ⟨rfl,rfl,rfl,rfl⟩
 ·exact ⟨rfl,rfl,rfl,rfl⟩
theorem LR.rd {ty : Nat} {xs : List I} {o : V} {H : Hp} {ok : Nat -> Prop} (h : LR ty xs o H ok) {i : Nat} {x : I} (hx : xs[i]? = some x) : ∃ p,Aq (.ixa 1) [o,.m (.i .i64 (i : Int))] = some p /\ AA p = true /\ ∀ B,readX ⟨B,H⟩ (.ld false 1) [p] = some (.m x):=by
 have hlt:=(Adq.1 hx).1
 rcases h with ⟨rfl,rfl⟩ | ⟨hne,r,hr,rfl,h3⟩
 ·simp at hlt
 ·refine ⟨.pt r xs.length i 0,?_,rfl,fun B=>?_⟩
  ·simp (maxSteps:=2000000) (disch:=omega) []
  ·simp (maxSteps:=2000000) (disch:=omega) [Ab,SQ hx,h3]
theorem LR.elems {ty : Nat} {xs : List I} {o : V} {H : Hp} {ok : Nat -> Prop} (h : LR ty xs o H ok) : Mx.elems H o = some (onV xs):=by
 rcases h with ⟨rfl,rfl⟩ | ⟨hne,r,hr,rfl,h3⟩
 ·rfl
 ·rw [KY,h3]
  show gd (Nat.ble 0 xs.length && Nat.beq 1 1) (some (((onV xs).drop 0).take xs.length)) = _
  rw [Bc,AdA (Adz _),AeC,AdI (by simp)]
  rfl
theorem LR.push {ty b n0 : Nat} {xs : List I} {o : V} {H : Hp} (h : LR ty xs o H (n0 <= ·)) (hn : n0 <= H.length) (hb : b <= 1000) {ys : List I} (hl : xs.length + ys.length <= 100000000) (ha : noAg ys) : ∃ o1 H1,(∀ B,Ea ⟨B,H⟩ ty 1 b o (onV ys) = some (o1,⟨B,H1⟩)) /\ AA o1 = true /\ LR ty (xs ++ ys) o1 H1 (n0 <= ·) /\ n0 <= H1.length /\ H.length <= H1.length /\ ∀ r,r < n0 -> nth H1 r = nth H r:=by
 have hmul : (xs.length + ys.length) * b <= 100000000 * 1000:=Nat.mul_le_mul hl hb
 cases ys with
 | nil =>
  refine ⟨o,H,fun B=>?_,h.nf.1,by rw [Ael]; exact h,hn,Adw _,fun _ _=>rfl⟩
  rcases h with ⟨rfl,rfl⟩ | ⟨hne,r,hr,rfl,h3⟩ <;> rfl
 | cons y t =>
  rcases h with ⟨rfl,rfl⟩ | ⟨hne,r,hr,rfl,h3⟩
  ·refine ⟨.sl H.length (y :: t).length 1 0 (y :: t).length false,H ++ [.cs ty 1 (onV (y :: t)) 0 false],fun B=>?_,rfl,.inr ⟨by simp,H.length,hn,rfl,Lt H _ 0⟩,by simp; omega,by simp,fun r hr=>Lu _ _ _ (by omega)⟩
   show Bp ⟨B,H⟩ ty 1 b (onV (y :: t)) = _
   rw [HC,Wy ha,MM]
   have : Nat.ble ((y :: t).length * b) 140737488355328 = true:=by
    rw [Bc]
    refine AdA ?_
    simp only [Aeh,Aey] at hmul
    omega
   rw [this]
   rfl
  ·have ha2:=fun B=>CJ (M:=⟨B,H⟩) (bytes:=b) (xs:=onV (y :: t)) h3 (by simp [onV]) (by simp only [MM]; omega) (Wy ha)
   simp only [MM,Zf] at ha2
   have el : xs.length + (y :: t).length = (xs ++ y :: t).length:=by simp
   rw [el] at ha2
   refine ⟨_,_,ha2,rfl,.inr ⟨by simp,r,hr,rfl,FM (GL h3)⟩,by simp; omega,by simp,fun q hq=>Ls fun e=>?_⟩
   subst e
   have : n0 <= r:=hr
   omega
def zL (xs : List I) : I:=if xs = [] then .nl 4 else .sl (on1 xs)
theorem zL_sl (xs : List I) : IsSl (zL xs) (on1 xs):=by
 unfold zL
 split
 ·rename_i h; subst h; exact AC
 ·exact Ba _
theorem optV (k : Nat) (H : Hp) : ∀ xs : List I,Ah (fun e=>Ah (view (k + 1) H) e) (onV xs) = some (on1 xs)
 | []=>rfl
 | x :: r=>by
  show Option.bind (some [x]) _ = _
  simp only [Adx]
  show Option.bind (Ah _ (onV r)) _ = _
  rw [optV k H r]
  rfl
theorem LR.view {ty : Nat} {xs : List I} {o : V} {H : Hp} {ok : Nat -> Prop} (h : LR ty xs o H ok) (k : Nat) : Mx.view (k + 2) H o = some (zL xs):=by
 have he:=h.elems
 rcases h with ⟨rfl,rfl⟩ | ⟨hne,r,hr,rfl,h3⟩
 ·rfl
 ·show Option.bind (Mx.elems H (.sl r xs.length 1 0 xs.length false)) _ = _
  rw [he]
  show Option.bind (Ah (fun e=>Ah (Mx.view (k + 1) H) e) (onV xs)) _ = _
  rw [optV]
  unfold zL
  rw [Ads hne]
  rfl
theorem Cd {call : Bf} {M : Mem} {ty esz b : Nat} {s x : V} {e : List (List V)} (h : Mx.elems M.H x = some e) : Am call M (.app ty esz b) [s,x] = Ea M ty esz b s e:=by
 cases x with
 | m x =>
  cases x with
  | s l=>simp [Mx.elems] at h
  | _=>simp only [Am]; rw [h]; rfl
 | _=>simp only [Am]; rw [h]; rfl
def Sv : V -> Option Nat
 | .sl r _ _ _ _ _=>some r
 | _=>none
open Go.Lib Go.Proofs
def okE (w : Nat) (es : List (List I)) : Prop:=∀ e,e ∈ es -> e.length = w /\ ∀ x,x ∈ e -> Cv (.m x) = true
@[simp] theorem Hb (es : List (List I)) : (Cn es).length = es.length:=by simp [Cn]
theorem OI (xs ys : List (List I)) : Cn xs ++ Cn ys = Cn (xs ++ ys):=by simp [Cn]
theorem MP {w : Nat} {es : List (List I)} (h : okE w es) : ((Cn es).all fun e=>Nat.beq e.length w && e.all Cv) = true:=by
 rw [AdH]
 intro e he
 obtain ⟨x,hx,rfl⟩:=AdU.1 he
 obtain ⟨h1,h2⟩:=h x hx
 rw [Adr,AdJ,h1,AdH]
 refine ⟨Nat.beq_refl _,fun v hv=>?_⟩
 obtain ⟨y,hy,rfl⟩:=AdU.1 hv
 exact h2 y hy
def LK (ty w : Nat) (es : List (List I)) (o : V) (H : Hp) : Prop:=(es = [] /\ o = .m (.nl 4)) \/ (es ≠ [] /\ ∃ r,o = .sl r es.length w 0 es.length false /\ nth H r = some (.cs ty w (Cn es) 0 false))
theorem LK.nil {ty w : Nat} {H : Hp} : LK ty w [] (.m (.nl 4)) H:=.inl ⟨rfl,rfl⟩
theorem LK.nf {ty w : Nat} {es : List (List I)} {o : V} {H : Hp} (h : LK ty w es o H) : AA o = true /\ Au o = some [o] /\ Cv o = true /\ Aq (.len false) [o] = some (.m (.i .i64 (es.length : Nat))):=by
 rcases h with ⟨rfl,rfl⟩ | ⟨hne,r,rfl,h3⟩
 ·exact ⟨rfl,rfl,rfl,rfl⟩
 ·exact ⟨rfl,rfl,rfl,rfl⟩
theorem LK.keep {ty w : Nat} {es : List (List I)} {o : V} {H H' : Hp} (h : LK ty w es o H) (hk : ∀ r,Sv o = some r -> nth H' r = nth H r) : LK ty w es o H':=by
 rcases h with h | ⟨hne,r,rfl,h3⟩
 ·exact .inl h
 ·exact .inr ⟨hne,r,rfl,by rw [hk r rfl]; exact h3⟩
theorem LK.elems {ty w : Nat} {es : List (List I)} {o : V} {H : Hp} (h : LK ty w es o H) : Mx.elems H o = some (Cn es):=by
 rcases h with ⟨rfl,rfl⟩ | ⟨hne,r,rfl,h3⟩
 ·rfl
 ·rw [KY,h3]
  show gd (Nat.ble 0 es.length && Nat.beq w w) (some (((Cn es).drop 0).take es.length)) = _
  rw [Bc,AdA (Adz _),AeC,AdI (by simp),Nat.beq_refl]
  rfl
theorem LK.push {ty w b : Nat} {xs : List (List I)} {o : V} {H : Hp} (h : LK ty w xs o H) (hw : 1 <= w) (hb : b <= 1000) {ys : List (List I)} (hl : xs.length + ys.length <= 100000000) (ha : okE w ys) : ∃ o1 H1,(∀ B,Ea ⟨B,H⟩ ty w b o (Cn ys) = some (o1,⟨B,H1⟩)) /\ AA o1 = true /\ LK ty w (xs ++ ys) o1 H1 /\ H.length <= H1.length /\ ∀ r,¬ Sv o = some r -> r < H.length -> nth H1 r = nth H r:=by
 have hmul : (xs.length + ys.length) * b <= 100000000 * 1000:=Nat.mul_le_mul hl hb
 cases ys with
 | nil =>
  refine ⟨o,H,fun B=>?_,h.nf.1,by rw [Ael]; exact h,Adw _,fun _ _ _=>rfl⟩
  rcases h with ⟨rfl,rfl⟩ | ⟨hne,r,rfl,h3⟩ <;> rfl
 | cons y t =>
  rcases h with ⟨rfl,rfl⟩ | ⟨hne,r,rfl,h3⟩
  ·refine ⟨.sl H.length (y :: t).length w 0 (y :: t).length false,H ++ [.cs ty w (Cn (y :: t)) 0 false],fun B=>?_,rfl,.inr ⟨by simp,H.length,rfl,Lt H _ 0⟩,by simp,fun r _ hr=>Lu _ _ _ hr⟩
   show Bp ⟨B,H⟩ ty w b (Cn (y :: t)) = _
   rw [HC,MP ha,Hb]
   have h1 : Nat.ble ((y :: t).length * b) 140737488355328 = true:=by
    rw [Bc]
    refine AdA ?_
    simp only [Aeh,Aey] at hmul
    omega
   have h2 : Nat.ble 1 w = true:=by rw [Bc]; exact AdA hw
   rw [h1,h2]
   rfl
  ·have ha2:=fun B=>CJ (M:=⟨B,H⟩) (bytes:=b) (xs:=Cn (y :: t)) h3 (by simp [Cn]) (by simp only [Hb]; omega) (MP ha)
   simp only [Hb,OI] at ha2
   have el : xs.length + (y :: t).length = (xs ++ y :: t).length:=by simp
   rw [el] at ha2
   refine ⟨_,_,ha2,rfl,.inr ⟨by simp,r,rfl,FM (GL h3)⟩,by simp,fun q hq _=>Ls fun e=>hq ?_⟩
   rw [e]
   rfl
def zK (es : List (List I)) : I:=if es = [] then .nl 4 else .sl es
theorem RW (es : List (List I)) : IsSl (zK es) es:=by
 unfold zK
 split
 ·rename_i h; subst h; exact AC
 ·exact Ba _
theorem AbX (es : List (List I)) : Cv (.m (zK es)) = true:=by
 unfold zK
 split <;> rfl
theorem optE (k : Nat) (H : Hp) : ∀ e : List I,Ah (view (k + 1) H) (e.map V.m) = some e
 | []=>rfl
 | x :: r=>by
  show Option.bind (some x) _ = _
  simp only [Adx]
  show Option.bind (Ah _ (r.map V.m)) _ = _
  rw [optE k H r]
  rfl
theorem optK (k : Nat) (H : Hp) : ∀ es : List (List I),Ah (fun e=>Ah (view (k + 1) H) e) (Cn es) = some es
 | []=>rfl
 | e :: r=>by
  show Option.bind (Ah (view (k + 1) H) (e.map V.m)) _ = _
  rw [optE,Adx]
  show Option.bind (Ah _ (Cn r)) _ = _
  rw [optK k H r]
  rfl
theorem LK.view {ty w : Nat} {es : List (List I)} {o : V} {H : Hp} (h : LK ty w es o H) (k : Nat) : Mx.view (k + 2) H o = some (zK es):=by
 have he:=h.elems
 rcases h with ⟨rfl,rfl⟩ | ⟨hne,r,rfl,h3⟩
 ·rfl
 ·show Option.bind (Mx.elems H (.sl r es.length w 0 es.length false)) _ = _
  rw [he]
  show Option.bind (Ah (fun e=>Ah (Mx.view (k + 1) H) e) (Cn es)) _ = _
  rw [optK]
  unfold zK
  rw [Ads hne]
  rfl
theorem LR.upto {ty : Nat} {xs : List I} {o : V} {H : Hp} {ok : Nat -> Prop} (h : LR ty xs o H ok) {i : Nat} (hi : i <= xs.length) : ∃ s,Aq (.slc 1 false true false) [o,.m (.i .i64 (i : Int))] = some s /\ AA s = true /\ Aq (.len false) [s] = some (.m (.i .i64 (i : Nat))) /\ ∀ (k : Nat) x,k < i -> xs[k]? = some x -> ∃ p,Aq (.ixa 1) [s,.m (.i .i64 (k : Int))] = some p /\ AA p = true /\ ∀ B,readX ⟨B,H⟩ (.ld false 1) [p] = some (.m x):=by
 rcases h with ⟨rfl,rfl⟩ | ⟨hne,r,hr,rfl,h3⟩
 ·have : i = 0:=by simpa using hi
  subst this
  exact ⟨_,rfl,rfl,rfl,fun k x hk=>absurd hk (by omega)⟩
 ·refine ⟨.sl r xs.length 1 (0 + 0) (i - 0) (false || (false && Nat.beq i xs.length)),?_,rfl,?_,fun k x hk hx=>⟨.pt r xs.length k 0,?_,rfl,fun B=>?_⟩⟩
  ·simp (maxSteps:=2000000) (disch:=omega) []
  ·simp (maxSteps:=2000000) (disch:=omega) []
  ·simp (maxSteps:=2000000) (disch:=omega) []
  ·simp (maxSteps:=2000000) (disch:=omega) [Ab,SQ hx,h3]
open Classical in
noncomputable def MG (t : TreeC) (l : List Sh) (xs : List St5) (gens : Int) (res : List Ce) : Int :=
 if AJ t = true then if l.length <= 8 /\ xs.length <= 16 then if 0 <= gens /\ gens <= 10000 then if BY t res = 0 then if (l.all (AU t)) = true then if plE t l xs = 0 then if PO (plP t l xs) then 0 else 8 else plE t l xs else 17 else BY t res else 2 else 6 else 11
theorem Tq {ps : List (List Ce)} {i : Nat} {q : List Ce} (h : ps[i]? = some q) : PO (ps.take (i + 1)) ↔ PO (ps.take i) /\ ∀ (k : Nat) p,k < i -> ps[k]? = some p -> dsj p q:=by
 unfold PO
 rw [Ao h,Aen]
 refine ⟨fun hh=>⟨hh.1,fun k p hk hp=>hh.2.2 p (Aet.2 ⟨k,by rw [AdS,Adu hk]; exact hp⟩) q (AdO.2 rfl)⟩,fun hh=>⟨hh.1,List.pairwise_singleton _ _,fun p hp d hd=>?_⟩⟩
 rw [AdO.1 hd]
 obtain ⟨k,hk⟩:=Aet.1 hp
 rw [AdS] at hk
 split at hk
 ·rename_i hlt
  exact hh.2 k p hlt hk
 ·cases hk
theorem Zy {ps : List (List Ce)} {i k : Nat} {p q : List Ce} (hk : k < i) (hp : ps[k]? = some p) (hq : ps[i]? = some q) (h : ¬ dsj p q) : ¬ PO ps:=fun hh=>by
 have h1:=Aes.1 hh
 obtain ⟨l1,e1⟩:=Adq.1 hp
 obtain ⟨l2,e2⟩:=Adq.1 hq
 have:=h1 k i l1 l2 hk
 rw [e1,e2] at this
 exact h this
structure RecA (zs zx vr : I) (fs : List (List I)) (l : List Sh) (xs : List St5) (gens : Int) (res : List Ce) : Prop where
 s : IsSl zs fs
 sv : FT fs l
 x : IsSl zx (BN xs)
 r : IsSl vr (Af res)
 ll : l.length <= 1000000
 lx : xs.length <= 1000000
 lr : res.length <= 1000000
set_option maxHeartbeats 8000000 in
theorem YZ {t : TreeC} {h n zs zx vr : I} {es fs : List (List I)} {l : List Sh} {xs : List St5} {gens : Int} {res : List Ce} (hT : TreeV t h n es) (hA : RecA zs zx vr fs l xs gens res) : ∃ z,(¬ MG t l xs gens res = 0 -> z = .nl 4) /\ (MG t l xs gens res = 0 -> ∃ us,z = zL us /\ TA us (plP t l xs)) /\ ∀ H,Gives G 34 [.m (.ag [.i .i64 t.states,h,n]),.m (.ag [zs,zx,.i .i64 gens,vr])] H (.tu [.m z,.m (.i .i64 (MG t l xs gens res))]) H:=by
 have hS:=Ca hT
 have gq:=fun H=>JQ hT H
 have hrs:=hA.s.rules
 rw [hA.sv.1] at hrs
 have hrx:=hA.x.rules
 rw [BE] at hrx
 have gr:=fun H=>CI hA.r (by have:=hA.lr; omega) H
 have gt:=fun H=>Acb hA.r (by have:=hA.lr; omega) H
 generalize hE : MG t l xs gens res = E
 unfold MG at hE
 by_cases hq : AJ t = true
 rotate_left
 ·rw [Ads hq] at hE
  subst hE
  rw [Bool.not_eq_true] at hq
  rw [hq] at gq
  refine ⟨.nl 4,fun _=>rfl,fun h=>(by cases h),fun H=>Ae rfl rfl rfl rfl rfl ?_⟩
  simp (maxSteps:=2000000) (disch:=omega) [cl (gq _)]
 rw [Adu hq] at hE
 rw [hq] at gq
 by_cases hsz : l.length <= 8 /\ xs.length <= 16
 rotate_left
 ·rw [Ads hsz] at hE
  subst hE
  refine ⟨.nl 4,fun _=>rfl,fun h=>(by cases h),fun H=>Ae rfl rfl rfl rfl rfl ?_⟩
  by_cases h1 : 8 < l.length
  ·simp (maxSteps:=2000000) (disch:=omega) [cl (gq _),hrs,show (8 : Int) < l.length from by omega]
  ·have h2 : 16 < xs.length:=by omega
   simp (maxSteps:=2000000) (disch:=omega) [cl (gq _),hrs,hrx,show ¬ (8 : Int) < l.length from by omega,show (16 : Int) < xs.length from by omega]
 rw [Adu hsz] at hE
 have s1 : ¬ 8 < l.length:=by omega
 have s2 : ¬ (8 : Int) < l.length:=by omega
 have s3 : ¬ 16 < xs.length:=by omega
 have s4 : ¬ (16 : Int) < xs.length:=by omega
 by_cases hg : 0 <= gens /\ gens <= 10000
 rotate_left
 ·rw [Ads hg] at hE
  subst hE
  refine ⟨.nl 4,fun _=>rfl,fun h=>(by cases h),fun H=>Ae rfl rfl rfl rfl rfl ?_⟩
  by_cases h1 : gens < 0
  ·simp (maxSteps:=2000000) (disch:=omega) [cl (gq _),hrs,hrx,s2,s4,h1,Ad]
  ·have h2 : 10000 < gens:=by omega
   simp (maxSteps:=2000000) (disch:=omega) [cl (gq _),hrs,hrx,s2,s4,h1,h2,Ad]
 rw [Adu hg] at hE
 have g1 : ¬ gens < 0:=by omega
 have g2 : ¬ 10000 < gens:=by omega
 by_cases hc : BY t res = 0
 rotate_left
 ·rw [Ads hc] at hE
  subst hE
  refine ⟨.nl 4,fun _=>rfl,fun h=>absurd h hc,fun H=>Ae rfl rfl rfl rfl rfl ?_⟩
  unfold BY at hc ⊢
  rw [Adu hq] at hc ⊢
  cases hr : AL res with
  | false =>
   rw [hr] at gr
   simp (maxSteps:=2000000) (disch:=omega) [cl (gq _),hrs,hrx,s2,s4,g1,g2,Ad,cl (gr _)]
  | true =>
   rw [hr] at gr hc
   by_cases ht : LL res < t.states
   ·rw [Adu rfl,Adu ht] at hc
    exact absurd rfl hc
   ·rw [Adu rfl,Ads ht]
    simp (maxSteps:=2000000) (disch:=omega) [cl (gq _),hrs,hrx,s2,s4,g1,g2,Ad,cl (gr _),cl (gt _),show t.states <= LL res from by omega]
 rw [Adu hc] at hE
 have hrr:=(Bd hc).2.1
 have htt : ¬ t.states <= LL res:=by
  unfold BY at hc
  rw [Adu hq,Adu hrr] at hc
  split at hc
  ·omega
  ·cases hc
 rw [hrr] at gr
 have key : ∃ x H',Gives G 34 [.m (.ag [.i .i64 t.states,h,n]),.m (.ag [zs,zx,.i .i64 gens,vr])] [] x H' /\ (H' = [] /\ ∃ z,x = .tu [.m z,.m (.i .i64 E)] /\ (¬ E = 0 -> z = .nl 4) /\ (E = 0 -> ∃ us,z = zL us /\ TA us (plP t l xs))):=by
  refine AI ?_
  refine Cl rfl rfl rfl rfl rfl ?_
  generalize hQ : (fun (x : V) (H' : Hp)=>H' = [] /\ ∃ z,x = .tu [.m z,.m (.i .i64 E)] /\ (¬ E = 0 -> z = .nl 4) /\ (E = 0 -> ∃ us,z = zL us /\ TA us (plP t l xs))) = Q
  have qe : ∀ e,E = e -> ¬ e = 0 -> Q (.tu [.m (.nl 4),.m (.i .i64 e)]) []:=fun e h1 h2=>by rw [<- hQ]; exact ⟨rfl,_,by rw [h1],fun _=>rfl,fun h3=>absurd (h1 ▸ h3) h2⟩
  have qk : ∀ us,E = 0 -> TA us (plP t l xs) -> Q (.tu [.m (zL us),.m (.i .i64 0)]) []:=fun us h1 h2=>by rw [<- hQ]; exact ⟨rfl,_,by rw [h1],fun h=>absurd h1 h,fun _=>⟨us,rfl,h2⟩⟩
  clear hQ
  simp (maxSteps:=2000000) (disch:=omega) [cl (gq _),hrs,hrx,s2,s4,g1,g2,Ad,cl (gr _),cl (gt _),htt]
  refine (?key : ∀ (i : Nat) (B : List (Nat × List V)),i <= l.length -> (l.all (AU t)) = ((l.drop i).all (AU t)) -> getB B 2 = some [.m (.i .i64 t.states),.m h,.m n] -> getB B 3 = some [.m zs,.m zx,.m (.i .i64 gens),.m vr] -> Run G c34_B0 (S34_0 (.fa 2 0) (.fa 3 0) (.m zs) (.m (.i .i64 (l.length : Int))) (.m (.i .i64 (i : Int))) B []) _) 0 _ (Adz _) rfl rfl rfl
  refine Bi (fun i : Nat=>l.length - i) fun i ih B hi hall hB2 hB3=>?_
  unfold c34_B0
  cases hx : l[i]? with
  | some s =>
   have hlt:=(Adq.1 hx).1
   have hlt' : (i : Int) < l.length:=by omega
   obtain ⟨hsl,v,hn,hv⟩:=hA.sv.2 i s hx
   have gs:=fun H=>Sl hT hv hsl H
   have hov:=CF hv
   have wi : wr .i64 ((i : Int) + 1) = ((i + 1 : Nat) : Int):=Aa (by omega) (by omega)
   have hst : (l.drop i).all (AU t) = (AU t s && (l.drop (i + 1)).all (AU t)):=by rw [(Al hx).2]; rfl
   simp only [shI] at gs hn
   cases hok : AU t s with
   | true =>
    rw [hok] at gs hst
    have k2:=fun B'=>ih (i + 1) (by omega) B' (by omega) (by rw [hall,hst]; rfl)
    simp (maxSteps:=2000000) (disch:=omega) [Ab,hrs,hlt',hn,hov,hB2,cl (gs _),wi,-Int.natCast_add]
    exact k2 _ (by simpa using hB2) (by simpa using hB3)
   | false =>
    rw [hok] at gs hst
    have k2:=qe 17 (by rw [<- hE,Ads (by rw [hall,hst]; simp)]) (by decide)
    simp (maxSteps:=2000000) (disch:=omega) [Ab,hrs,hlt',hn,hov,hB2,cl (gs _)]
    exact k2
  | none =>
   have : i = l.length:=by have:=Adv.1 hx; omega
   subst this
   clear ih hx hi
   have hall2 : (l.all (AU t)) = true:=by rw [hall,Aeg]; rfl
   rw [Adu hall2] at hE
   clear hall
   simp (maxSteps:=2000000) (disch:=omega) [hB3,hrx]
   refine (?key2 : ∀ (i : Nat) (us : List I) (o : V) (B : List (Nat × List V)) (H1 : Hp),i <= xs.length -> plE t l xs = plE t l (xs.drop i) -> TA us (plP t l (xs.take i)) -> LR 29 us o H1 (0 <= ·) -> getB B 2 = some [.m (.i .i64 t.states),.m h,.m n] -> getB B 3 = some [.m zs,.m zx,.m (.i .i64 gens),.m vr] -> Run G c34_B1 (S34_1 (.fa 2 0) (.fa 3 0) o (.m zx) (.m (.i .i64 (xs.length : Int))) (.m (.i .i64 (i : Int))) B H1) _) 0 [] _ _ [] (Adz _) rfl ⟨rfl,fun i u q hi=>by simp at hi⟩ (.inl ⟨rfl,rfl⟩) hB2 hB3
   clear hB2 hB3 B
   refine Bi (fun i : Nat=>xs.length - i) fun i ih us o B H1 hi hpe hP hL hB2 hB3=>?_
   unfold c34_B1
   obtain ⟨hnf,hcel,hone,hlen⟩:=hL.nf
   cases hx : xs[i]? with
   | some x =>
    have hlt:=(Adq.1 hx).1
    have hlt' : (i : Int) < xs.length:=by omega
    have hn:=DG hx
    obtain ⟨u,hu,gp⟩:=Sx hT hA.s hA.sv x
    have wi : wr .i64 ((i : Int) + 1) = ((i + 1 : Nat) : Int):=Aa (by omega) (by omega)
    have hst:=On (t:=t) (l:=l) hx
    simp only [EQ] at gp
    by_cases he : (plF t l x).2 = 0
    ·rw [Adu he] at hst
     rw [he] at gp
     have hul : us.length = i:=by rw [hP.1]; unfold plP; rw [AdJ,AdE]; omega
     obtain ⟨o1,H2,ha,hn1,hL2,_⟩:=hL.push (Adz _) (b:=24) (by omega) (ys:=[u]) (by simp; omega) (fun y hy=>by rw [AdO.1 hy]; exact CF hu)
     have ha : ∀ B,Ea ⟨B,H1⟩ 29 1 24 o [[.m u]] = some (o1,⟨B,H2⟩):=ha
     have hb1:=fun c B H=>ZC hu c B H
     have hP2 : TA (us ++ [u]) (plP t l (xs.take (i + 1))):=by rw [Om hx]; exact Lm hP hu
     have k2:=fun B'=>ih (i + 1) (by omega) (us ++ [u]) o1 B' H2 (by omega) (by rw [hpe,hst]) hP2 hL2
     simp (maxSteps:=2000000) (disch:=omega) [Ab,hrx,hlt',hn,hB2,hB3,cl (gp _),hb1,ha,wi,Ap hn1,-Int.natCast_add]
     exact k2 _ (by simpa using hB2) (by simpa using hB3)
    ·rw [Ads he] at hst
     have k2:=qe (plF t l x).2 (by rw [<- hE,Ads (by rw [hpe,hst]; exact he),hpe,hst]) he
     generalize (plF t l x).2 = e at *
     simp (maxSteps:=2000000) (disch:=omega) [Ab,hrx,hlt',hn,hB2,hB3,cl (gp _),he]
     exact k2
   | none =>
    have : i = xs.length:=by have:=Adv.1 hx; omega
    subst this
    clear ih hx hi
    have hpe0 : plE t l xs = 0:=by rw [hpe,Aeg]; rfl
    rw [Adu hpe0] at hE
    clear hpe
    rw [AdQ] at hP
    have hpr:=FJ hS (l:=l) (xs:=xs)
    have hpl : (plP t l xs).length = xs.length:=by unfold plP; rw [AdJ]
    generalize plP t l xs = ps at *
    have hul : us.length = xs.length:=by rw [hP.1,hpl]
    simp (maxSteps:=2000000) (disch:=omega) [hlen]
    refine (?key3 : ∀ (i : Nat) (B : List (Nat × List V)),i <= us.length -> PO (ps.take i) -> Run G c34_B3 (S34_3 o (.m (.i .i64 (us.length : Int))) (.m (.i .i64 (i : Int))) B H1) _) 0 _ (Adz _) List.Pairwise.nil
    clear hB2 hB3 B
    refine Bi (fun i : Nat=>us.length - i) fun i ih B hi hd=>?_
    unfold c34_B3
    by_cases hil : i < us.length
    ·have hil' : (i : Int) < us.length:=by omega
     have wi : wr .i64 ((i : Int) + 1) = ((i + 1 : Nat) : Int):=Aa (by omega) (by omega)
     obtain ⟨u,hu⟩ : ∃ u,us[i]? = some u:=⟨_,Adt hil⟩
     obtain ⟨q,hq2⟩ : ∃ q,ps[i]? = some q:=⟨_,Adt (by omega)⟩
     obtain ⟨pa,a1,a2,a3⟩:=hL.rd hu
     obtain ⟨sv,b1,b2,b3,b4⟩:=hL.upto (Nat.le_of_lt hil)
     have hsq:=hP.2 i u q hu hq2
     have hrq:=hpr q (Ady hq2)
     simp (maxSteps:=2000000) (disch:=omega) [hil',b1,b3,Ap b2]
     refine (?key4 : ∀ (k : Nat) (B : List (Nat × List V)),k <= i -> (∀ (j : Nat) p,j < k -> ps[j]? = some p -> dsj p q) -> Run G c34_B2 (S34_2 o (.m (.i .i64 (i : Int))) (.m (.i .i64 (us.length : Int))) (.m (.i .i64 (i : Int))) sv (.m (.i .i64 (i : Int))) (.m (.i .i64 (k : Int))) B H1) _) 0 _ (Adz _) (fun j p hj=>by omega)
     clear B
     refine Bi (fun k : Nat=>i - k) fun k ihk B hk hdk=>?_
     unfold c34_B2
     by_cases hkl : k < i
     ·have hkl' : (k : Int) < i:=by omega
      have wk : wr .i64 ((k : Int) + 1) = ((k + 1 : Nat) : Int):=Aa (by omega) (by omega)
      obtain ⟨w,hw⟩ : ∃ w,us[k]? = some w:=⟨_,Adt (by omega)⟩
      obtain ⟨p,hp2⟩ : ∃ p,ps[k]? = some p:=⟨_,Adt (by omega)⟩
      obtain ⟨pk,c1,c2,c3⟩:=b4 k w hkl hw
      have hsp:=hP.2 k w p hw hp2
      have hrp:=hpr p (Ady hp2)
      have gd:=fun H=>PP hsp hsq hrp hrq H
      by_cases hdj : dsj p q
      ·rw [(Hg p q).2 hdj] at gd
       have k2:=fun B'=>ihk (k + 1) (by omega) B' (by omega) (fun j p' hj hp'=>by
        by_cases e : j < k
        ·exact hdk j p' e hp'
        ·have : j = k:=by omega
         subst this
         rw [hp2] at hp'
         cases hp'
         exact hdj)
       simp (maxSteps:=2000000) (disch:=omega) [hkl',c1,c3,a1,a3,cl (gd _),wk,-Int.natCast_add]
       exact k2 _
      ·have hb : Aap p q = false:=by rw [<- Bool.not_eq_true]; exact fun hh=>hdj ((Hg p q).1 hh)
       rw [hb] at gd
       have k2:=qe 8 (by rw [<- hE,Ads (Zy hkl hp2 hq2 hdj)]) (by decide)
       simp (maxSteps:=2000000) (disch:=omega) [hkl',c1,c3,a1,a3,cl (gd _)]
       exact k2
     ·have : k = i:=by omega
      subst this
      have k2:=fun B'=>ih (k + 1) (by omega) B' (by omega) ((Tq hq2).2 ⟨hd,hdk⟩)
      simp (maxSteps:=2000000) (disch:=omega) [wi,-Int.natCast_add]
      exact k2 _
    ·have : i = us.length:=by omega
     subst this
     rw [AdI (by omega)] at hd
     have k2:=qk us (by rw [<- hE,Adu hd]) hP
     have hvw:=hL.view 18
     generalize zL us = z at *
     simp (maxSteps:=2000000) (disch:=omega) [hvw,Ap hnf]
     exact ⟨hnf,k2⟩
 obtain ⟨x,H',g,rfl,z,rfl,z1,z2⟩:=key
 exact ⟨z,z1,z2,fun H=>AT (H:=H) (is:=[.ag [.i .i64 t.states,h,n],.ag [zs,zx,.i .i64 gens,vr]]) rfl rfl g rfl (.inl ⟨rfl,rfl⟩)⟩
theorem IY (p : List Ce) : ((Ax p).all fun e=>Nat.beq e.length 3 && e.all Cv) = true:=by
 rw [AdH]
 intro e he
 unfold Ax at he
 obtain ⟨c,_,rfl⟩:=AdU.1 he
 rfl
theorem PI (f g : List Ce) : Ax f ++ Ax g = Ax (f ++ g):=by simp [Ax]
theorem FK {f g : List Ce} {o : V} {H : Hp} (h : Jl f o H) (hl : f.length <= 1000000) (hg : g.length <= 1000000) : ∃ o1 H1,(∀ B,Ea ⟨B,H⟩ 73 3 24 o (Cn (Af g)) = some (o1,⟨B,H1⟩)) /\ AA o1 = true /\ Jl (f ++ g) o1 H1:=by
 rw [OH]
 cases g with
 | nil =>
  refine ⟨o,H,fun B=>?_,(BW h).2,by simpa using h⟩
  rcases h with ⟨_,rfl,_⟩ | ⟨_,rfl,_⟩ <;> rfl
 | cons c r =>
  rcases h with ⟨rfl,rfl,rfl⟩ | ⟨hne,rfl,rfl⟩
  ·refine ⟨.sl 0 (c :: r).length 3 0 (c :: r).length false,[.cs 73 3 (Ax (c :: r)) 0 false],fun B=>?_,rfl,.inr ⟨by simp,by simp,by simp⟩⟩
   show Bp ⟨B,[]⟩ 73 3 24 (Ax (c :: r)) = _
   have h1 : Nat.ble ((Ax (c :: r)).length * 24) 140737488355328 = true:=by rw [Bc]; exact AdA (by rw [BD]; omega)
   unfold Bp
   rw [h1,IY,BD]
   rfl
  ·have ha:=fun B=>CJ (M:=⟨B,[.cs 73 3 (Ax f) 0 false]⟩) (r:=0) (bytes:=24) (xs:=Ax (c :: r)) rfl (by simp [Ax]) (by simp only [BD]; omega) (IY _)
   simp only [BD,PI,AeE] at ha
   refine ⟨_,_,ha,rfl,.inr ⟨by simp,by simp,rfl⟩⟩
noncomputable def jnF (L : List Ce) : List Ce × Int:=if 5000 < L.length then ([],6) else (Ci L,0)
theorem Zv {v : I} {L : List Ce} (hv : IsSl v (Af L)) (hl : L.length <= 1000000) (hg : ∀ c,c ∈ L -> Cr c = true) (ha : L.Pairwise apart) (H : Hp) : Gives G 35 [.m v] H (.tu [.m (zP (jnF L).1),.m (.i .i64 (jnF L).2)]) H:=by
 rcases WB hv hl H with ⟨e,he,_⟩ | ⟨_,q,hq,hasc,g⟩
 ·rw [Hi hg] at he
  cases he
 ·rw [OF hg] at hq
  have hw:=Tz hasc (Gt hq ha)
  have e : q = Ci L:=MF (FE ha) hw (hq.trans (DA L).symm)
  have et : tw q = false:=Yw hw
  have el : q.length = L.length:=hq.length_eq
  unfold Aan at g
  rw [et,Ads (by simp),el,e] at g
  unfold jnF
  split at g
  ·rename_i h5
   rw [Adu h5]
   exact g
  ·rename_i h5
   rw [Ads h5]
   exact g
theorem Hf {ps : List (List Ce)} (h : ∀ p,p ∈ ps -> p.length <= 5000) : ps.flatten.length <= 5000 * ps.length:=by
 induction ps with
 | nil=>simp
 | cons p r ih =>
  have h1:=h p (AdL ..)
  have h2:=ih fun q hq=>h q (Aek _ hq)
  simp only [Aef,AdC,AdZ]
  omega
theorem Tj {ps : List (List Ce)} {i : Nat} {q : List Ce} (h : ps[i]? = some q) : (ps.take (i + 1)).flatten = (ps.take i).flatten ++ q:=by
 rw [Ao h]
 simp
theorem Vv {ps : List (List Ce)} (h : PO ps) : Vw ps = jnF ps.flatten:=by
 unfold Vw jnF
 rw [Adu h]
theorem EJ (t : TreeC) (l : List Sh) (xs : List St5) (gens : Int) (res : List Ce) : Bh t l xs gens res = if MG t l xs gens res = 0 then jnF (plP t l xs).flatten else ([],MG t l xs gens res):=by
 unfold Bh MG
 by_cases h1 : AJ t = true
 ·simp only [Adu h1]
  by_cases h2 : l.length <= 8 /\ xs.length <= 16
  ·simp only [Adu h2]
   by_cases h3 : 0 <= gens /\ gens <= 10000
   ·simp only [Adu h3]
    by_cases h4 : BY t res = 0
    ·simp only [Adu h4]
     by_cases h5 : (l.all (AU t)) = true
     ·simp only [Adu h5]
      by_cases h6 : plE t l xs = 0
      ·simp only [Adu h6]
       by_cases h7 : PO (plP t l xs)
       ·simp only [Adu h7]
        rw [Vv h7]
        simp
       ·simp only [Ads h7]
        unfold Vw
        rw [Ads h7]
        rfl
      ·simp only [Ads h6]
     ·simp only [Ads h5]
      rfl
    ·simp only [Ads h4]
   ·simp only [Ads h3]
    rfl
  ·simp only [Ads h2]
   rfl
 ·simp only [Ads h1]
  rfl
theorem IZ {t : TreeC} {l : List Sh} {xs : List St5} {gens : Int} {res : List Ce} (h : MG t l xs gens res = 0) : AJ t = true /\ (l.length <= 8 /\ xs.length <= 16) /\ (0 <= gens /\ gens <= 10000) /\ BY t res = 0 /\ (l.all (AU t)) = true /\ plE t l xs = 0 /\ PO (plP t l xs):=by
 unfold MG at h
 by_cases h1 : AJ t = true
 rotate_left
 ·rw [Ads h1] at h; cases h
 rw [Adu h1] at h
 by_cases h2 : l.length <= 8 /\ xs.length <= 16
 rotate_left
 ·rw [Ads h2] at h; cases h
 rw [Adu h2] at h
 by_cases h3 : 0 <= gens /\ gens <= 10000
 rotate_left
 ·rw [Ads h3] at h; cases h
 rw [Adu h3] at h
 by_cases h4 : BY t res = 0
 rotate_left
 ·rw [Ads h4] at h; exact absurd h h4
 rw [Adu h4] at h
 by_cases h5 : (l.all (AU t)) = true
 rotate_left
 ·rw [Ads h5] at h; cases h
 rw [Adu h5] at h
 by_cases h6 : plE t l xs = 0
 rotate_left
 ·rw [Ads h6] at h; exact absurd h h6
 rw [Adu h6] at h
 by_cases h7 : PO (plP t l xs)
 rotate_left
 ·rw [Ads h7] at h; cases h
 exact ⟨h1,h2,h3,h4,h5,h6,h7⟩
set_option maxHeartbeats 4000000 in
theorem YC {t : TreeC} {h n zs zx vr : I} {es fs : List (List I)} {l : List Sh} {xs : List St5} {gens : Int} {res : List Ce} (hT : TreeV t h n es) (hA : RecA zs zx vr fs l xs gens res) (H : Hp) : Gives G 13 [.m (.ag [.i .i64 t.states,h,n]),.m (.ag [zs,zx,.i .i64 gens,vr])] H (.tu [.m (zP (Bh t l xs gens res).1),.m (.i .i64 (Bh t l xs gens res).2)]) H:=by
 have hS:=Ca hT
 obtain ⟨z,z1,z2,gp⟩:=YZ hT hA
 rw [EJ]
 by_cases hE : MG t l xs gens res = 0
 rotate_left
 ·rw [Ads hE]
  have hz:=z1 hE
  subst hz
  generalize MG t l xs gens res = E at *
  refine Ae rfl rfl rfl rfl rfl ?_
  simp (maxSteps:=2000000) (disch:=omega) [cl (gp _),hE,zP]
 rw [Adu hE]
 obtain ⟨us,rfl,hP⟩:=z2 hE
 obtain ⟨_,hsz,_,_,_,_,hd⟩:=IZ hE
 rw [hE] at gp
 have hpr:=FJ hS (l:=l) (xs:=xs)
 have hpl : (plP t l xs).length <= 16:=by unfold plP; rw [AdJ]; exact hsz.2
 have hgd:=LB hpr
 have hap:=(Jg hpr).2 hd
 generalize plP t l xs = ps at *
 have hrz:=(zL_sl us).rules
 rw [Zh] at hrz
 have hul : us.length = ps.length:=hP.1
 have hfl:=Hf (ps:=ps) fun p hp=>(Av (hpr p hp)).2.2
 refine Ae rfl rfl rfl rfl rfl ?_
 generalize zL us = z at *
 simp (maxSteps:=2000000) (disch:=omega) [cl (gp _),hrz]
 refine (?key : ∀ (i : Nat) (o : V) (B : List (Nat × List V)) (H1 : Hp),i <= us.length -> Jl (ps.take i).flatten o H1 -> Run G c13_B0 (S13_0 o (.m z) (.m (.i .i64 (us.length : Int))) (.m (.i .i64 (i : Int))) B H1) _) 0 _ _ _ (Adz _) (.inl ⟨rfl,rfl,rfl⟩)
 refine Bi (fun i : Nat=>us.length - i) fun i ih o B H1 hi ho=>?_
 unfold c13_B0
 obtain ⟨hvw,hnf⟩:=BW ho
 by_cases hil : i < us.length
 ·have hil' : (i : Int) < us.length:=by omega
  have wi : wr .i64 ((i : Int) + 1) = ((i + 1 : Nat) : Int):=Aa (by omega) (by omega)
  obtain ⟨u,hu⟩ : ∃ u,us[i]? = some u:=⟨_,Adt hil⟩
  obtain ⟨q,hq⟩ : ∃ q,ps[i]? = some q:=⟨_,Adt (by omega)⟩
  have hsq:=hP.2 i u q hu hq
  have hn:=Zg hu
  have hru:=hsq.rules
  have hfi:=Hf (ps:=ps.take i) fun p hp=>(Av (hpr p (AeF hp))).2.2
  rw [AdE] at hfi
  have hql:=(Av (hpr q (Ady hq))).2.2
  obtain ⟨o1,H2,ha,hn1,ho1⟩:=FK ho (by omega) (g:=q) (by omega)
  rw [<- Tj hq] at ho1
  have ha2 : ∀ B,Am (fun _ _ _=>none) ⟨B,H1⟩ (.app 73 3 24) [o,.m u] = some (o1,⟨B,H2⟩):=fun B=>by
   rw [Cd (hru.2.2 H1)]
   exact ha B
  have k2:=fun B'=>ih (i + 1) (by omega) o1 B' H2 (by omega) ho1
  simp (maxSteps:=2000000) (disch:=omega) [hrz,hil',hn,-DM,ha2,wi,Ap hn1,-Int.natCast_add]
  exact k2 _
 ·have : i = us.length:=by omega
  subst this
  rw [AdI (by omega)] at ho
  have gF:=fun H=>Zv (Ch ps.flatten) (by omega) hgd hap H
  obtain ⟨H2,gG⟩:=GX rfl rfl ho gF
  generalize jnF ps.flatten = r at *
  generalize zP r.1 = zz at *
  simp (maxSteps:=2000000) (disch:=omega) [cl gG]
theorem Hh {t : TreeC} {h n zs zx vr : I} {es fs : List (List I)} {l : List Sh} {xs : List St5} {gens : Int} {res : List Ce} (hT : TreeV t h n es) (hA : RecA zs zx vr fs l xs gens res) (hsl : (Bh t l xs gens res).1.length <= 1000000) (hrl : (rnE t (Bh t l xs gens res).1 gens).1.length <= 1000000) (H : Hp) : Gives G 15 [.m (.ag [.i .i64 t.states,h,n]),.m (.ag [zs,zx,.i .i64 gens,vr])] H (.m (.i .i64 (Bv t l xs gens res))) H:=by
 have gs:=fun H=>YC hT hA H
 obtain ⟨x,hx,gr⟩:=YP hT (Ch (Bh t l xs gens res).1) (by omega) gens
 have ge:=fun H=>Acm hx hA.r hrl hA.lr H
 unfold Bv
 generalize rnE t (Bh t l xs gens res).1 gens = r at *
 generalize Bh t l xs gens res = s at *
 generalize zP s.1 = z at *
 refine Ae rfl rfl rfl rfl rfl ?_
 by_cases h1 : s.2 = 0
 ·rw [Adu h1]
  rw [h1] at gs
  by_cases h2 : r.2 = 0
  ·rw [Adu h2]
   rw [h2] at gr
   by_cases h3 : r.1 = res
   ·rw [Adu h3]
    rw [AdA (Fa.2 h3)] at ge
    simp (maxSteps:=2000000) (disch:=omega) [cl (gs _),cl (gr _),cl (ge _)]
   ·rw [Ads h3]
    rw [AdB (fun hh=>h3 (Fa.1 hh))] at ge
    simp (maxSteps:=2000000) (disch:=omega) [cl (gs _),cl (gr _),cl (ge _)]
  ·rw [Ads h2]
   simp (maxSteps:=2000000) (disch:=omega) [cl (gs _),cl (gr _),h2]
 ·rw [Ads h1]
  simp (maxSteps:=2000000) (disch:=omega) [cl (gs _),h1]
end Go.Mx.Tryz
