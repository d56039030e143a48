/- The builder's node: walked. -/
import Derived.Test.YtpaddecplgomeaaGreatDoorOe
import Derived.Test.YtpaddecplgomeaaGreatDoorStr
import Derived.Test.YtpaddecplgomeaaGreatDoorItoa
import Derived.Test.YtpaddecplgomeaaGreatDoorDec
set_option linter.unusedSimpArgs false
set_option linter.unusedVariables false
set_option linter.unusedSectionVars false
set_option maxRecDepth 100000
namespace Go.Mx.Tryz
open Go.Sort Go.Lib Go.Proofs
theorem Aaj {P X Y : Int} {s : List Nat} {w : I} {h : List Ce} {e : Int} (d : DecO s w h e) (hf : fmO P X Y h e) : ∀ c,c ∈ s -> c ≠ 32:=by
 rcases d.cas with ⟨_,_,h3⟩ | ⟨_,h2⟩ | ⟨h1,_⟩
 ·exact absurd h3 hf.2.2
 ·exact Aam h2
 ·have:=hf.2.1
  omega
theorem VV {s : List Nat} {w : I} {h : List Ce} {e : Int} (d : DecO (GF (spl 32 s)) w h e) :
  (if (spl 32 s).getD 0 [] = [] then badV else VW (Ms (spl 32 s)) (GF (spl 32 s)) h e s) = VW (KF (spl 32 s)) (GF (spl 32 s)) h e s:=by
 have key : ∀ P X Y,fmO P X Y h e -> CQ P X Y (GF (spl 32 s)) = s -> KF (spl 32 s) = (P,X,Y) /\ Ms (spl 32 s) = (P,X,Y) /\ (spl 32 s).getD 0 [] ≠ []:=fun P X Y hf hn=>by
  have k:=Wx hf.1 (Aaj d hf)
  rw [hn] at k
  exact ⟨k.1,k.2.1,k.2.2.2⟩
 have bad : ∀ o : Int × Int × Int,¬ (fmO o.1 o.2.1 o.2.2 h e /\ CQ o.1 o.2.1 o.2.2 (GF (spl 32 s)) = s) -> VW o (GF (spl 32 s)) h e s = badV:=fun o ho=>AeF ho
 by_cases hA : fmO (KF (spl 32 s)).1 (KF (spl 32 s)).2.1 (KF (spl 32 s)).2.2 h e /\ CQ (KF (spl 32 s)).1 (KF (spl 32 s)).2.1 (KF (spl 32 s)).2.2 (GF (spl 32 s)) = s
 ·obtain ⟨k1,k2,k3⟩:=key _ _ _ hA.1 hA.2
  rw [AeF k3,k2]
 ·rw [bad _ hA]
  split
  ·rfl
  ·by_cases hB : fmO (Ms (spl 32 s)).1 (Ms (spl 32 s)).2.1 (Ms (spl 32 s)).2.2 h e /\ CQ (Ms (spl 32 s)).1 (Ms (spl 32 s)).2.1 (Ms (spl 32 s)).2.2 (GF (spl 32 s)) = s
   ·obtain ⟨k1,_,_⟩:=key _ _ _ hB.1 hB.2
    rw [k1] at hA
    exact absurd hB hA
   ·exact bad _ hB
theorem QA (gw : Gives G 9 [] [] (.m (.b true)) []) {s : List Nat} (hb : ∀ c,c ∈ s -> c < 256) : Gives G 6 [.m (.s s)] [] (.m (.b true)) []:=by
 refine Ah rfl rfl rfl rfl rfl ?_
 by_cases h4 : 400 < (s.length : Int)
 ·simp (maxSteps:=2000000) (disch:=omega) [h4,cl gw]
 ·have hl : s.length <= 65536:=by omega
  have hmem:=JS 32 s.length s (AeI _)
  obtain ⟨w0,t,hws⟩:=Jc 32 s
  have hin : GF (spl 32 s) ∈ spl 32 s:=AeO (En (by rw [hws]; simp))
  obtain ⟨m1,m2⟩:=hmem _ hin
  obtain ⟨w,h,e,d⟩:=decO (GF (spl 32 s)) (fun c hc=>hb c (m2 c hc)) (by omega)
  have g1:=fun H=>ZH s hl d H
  have g2:=fun H=>ZI s hl hb d H
  rw [VV d] at g2
  have gt:=fun P X Y H=>SF d (by omega) P X Y H
  obtain ⟨P,X,Y,hC⟩ : ∃ P X Y,KF (spl 32 s) = (P,X,Y):=⟨_,_,_,rfl⟩
  rw [hC] at g1 g2
  have gt:=gt P X Y
  generalize GF (spl 32 s) = c at *
  clear hws hmem hin hC m1 m2 d hb
  rcases Bv P X Y c h e s with ⟨e1,e2⟩ | ⟨n,hne,e1,e2⟩ | ⟨e1,e2⟩ <;> rw [e2] at g1 g2
  ·rw [e1] at gt
   simp (maxSteps:=2000000) (disch:=omega) [gd_and,Aa,h4,cl (g1 _),cl (g2 _),cl (gt _),cl gw]
  ·simp (maxSteps:=2000000) (disch:=omega) [gd_and,h4,cl (g1 _),cl (g2 _),cl gw]
  ·simp (maxSteps:=2000000) (disch:=omega) [gd_and,h4,cl (g1 _),cl (g2 _),cl gw]
theorem Kc (gw : Gives G 9 [] [] (.m (.b true)) []) (us : List V) (h : Fb Go.Proofs.Tryz.prog maxLen 8 Go.Proofs.Tryz.f6.params.toList us) : Gives G 6 us [] (.m (.b true)) []:=by
 have e : Go.Proofs.Tryz.f6.params.toList = [9]:=by rw [Go.Proofs.Tryz.params6]
 have h:=e ▸ h
 obtain ⟨s,_,rfl,_,hb,h1⟩:=WD h
 have:=Qq h1
 subst this
 exact QA gw hb
end Go.Mx.Tryz
namespace Go.Mx.Tryz
open Go.Lib Go.Proofs
end Go.Mx.Tryz
namespace Go.Mx.Tryz
def onV (xs : List I) : List (List V):=xs.map fun x=>[.m x]
@[simp] theorem Di (xs : List I) : (onV xs).length = xs.length:=by simp [onV]
theorem Ns (xs ys : List I) : onV xs ++ onV ys = onV (xs ++ ys):=by simp [onV]
theorem Cl {xs : List I} {i : Nat} {x : I} (h : xs[i]? = some x) : nth (onV xs) i = some [.m x]:=by
 rw [AA]
 simp [onV,h]
theorem ZK (xs : List I) (a n : Nat) : ((onV xs).drop a).take n = onV ((xs.drop a).take n):=by
 unfold onV
 rw [List.map_take,List.map_drop]
def on1 (xs : List I) : List (List I):=xs.map fun x=>[x]
def Abi (xs : List I) : Prop:=∀ x,x ∈ xs -> BH (.m x) = true
theorem Ij {xs : List I} (h : Abi xs) : ((onV xs).all fun e=>Nat.beq e.length 1 && e.all BH) = true:=by
 rw [AeQ]
 intro e he
 obtain ⟨x,hx,rfl⟩:=Afb.1 he
 simp [h x hx]
theorem ZL (xs : List I) : ((onV xs).all fun e=>e.all isM) = true:=by
 rw [AeQ]
 intro e he
 obtain ⟨x,hx,rfl⟩:=Afb.1 he
 rfl
def LR (ty : Nat) (xs : List I) (o : V) (H : Hp) (ok : Nat -> Prop) : Prop:=(xs = [] /\ o = .m (.nl 4)) \/ (xs ≠ [] /\ ∃ r,ok r /\ o = .sl r xs.length 1 0 xs.length false /\ nth H r = some (.cs ty 1 (onV xs) 0 false))
theorem LR.nil {ty : Nat} {H : Hp} {ok : Nat -> Prop} : LR ty [] (.m (.nl 4)) H ok:=.inl ⟨rfl,rfl⟩
theorem LR.keep {ty : Nat} {xs : List I} {o : V} {H H' : Hp} {ok ok' : Nat -> Prop} (h : LR ty xs o H ok) (hk : ∀ r,ok r -> nth H' r = nth H r) (ho : ∀ r,ok r -> r < H.length -> ok' r) : LR ty xs o H' ok':=by
 rcases h with h | ⟨hne,r,hr,e,h3⟩
 ·exact .inl h
 ·exact .inr ⟨hne,r,ho r hr (AI h3),e,by rw [hk r hr]; exact h3⟩
theorem LR.nf {ty : Nat} {xs : List I} {o : V} {H : Hp} {ok : Nat -> Prop} (h : LR ty xs o H ok) : Ax o = true /\ Ap o = some [o] /\ BH o = true /\ Aj (.len false) [o] = some (.m (.i .i64 (xs.length : Nat))):=by
 rcases h with ⟨rfl,rfl⟩ | ⟨hne,r,hr,rfl,h3⟩
 ·exact ⟨rfl,rfl,rfl,rfl⟩
 ·exact ⟨rfl,rfl,rfl,rfl⟩
theorem LR.rd {ty : Nat} {xs : List I} {o : V} {H : Hp} {ok : Nat -> Prop} (h : LR ty xs o H ok) {i : Nat} {x : I} (hx : xs[i]? = some x) : ∃ p,Aj (.ixa 1) [o,.m (.i .i64 (i : Int))] = some p /\ Ax p = true /\ ∀ B,readX ⟨B,H⟩ (.ld false 1) [p] = some (.m x):=by
 have hlt:=(AeG.1 hx).1
 rcases h with ⟨rfl,rfl⟩ | ⟨hne,r,hr,rfl,h3⟩
 ·simp at hlt
 ·refine ⟨.pt r xs.length i 0,?_,rfl,fun B=>?_⟩
  ·simp (disch:=omega) []
  ·simp (disch:=omega) [gd_and,Cl hx,h3]
theorem LR.elems {ty : Nat} {xs : List I} {o : V} {H : Hp} {ok : Nat -> Prop} (h : LR ty xs o H ok) : Mx.elems H o = some (onV xs):=by
 rcases h with ⟨rfl,rfl⟩ | ⟨hne,r,hr,rfl,h3⟩
 ·rfl
 ·rw [CO,h3]
  show gd (Nat.ble 0 xs.length && Nat.beq 1 1) (some (((onV xs).drop 0).take xs.length)) = _
  rw [Bd,Afc (AeR _),List.drop_zero,AeY (by simp)]
  rfl
theorem LR.push {ty b n0 : Nat} {xs : List I} {o : V} {H : Hp} (h : LR ty xs o H (n0 <= ·)) (hn : n0 <= H.length) (hb : b <= 1000) {ys : List I} (hl : xs.length + ys.length <= 100000000) (ha : Abi ys) : ∃ o1 H1,(∀ B,FP ⟨B,H⟩ ty 1 b o (onV ys) = some (o1,⟨B,H1⟩)) /\ Ax o1 = true /\ LR ty (xs ++ ys) o1 H1 (n0 <= ·) /\ n0 <= H1.length /\ H.length <= H1.length /\ ∀ r,r < n0 -> nth H1 r = nth H r:=by
 have hmul : (xs.length + ys.length) * b <= 100000000 * 1000:=Nat.mul_le_mul hl hb
 cases ys with
 | nil =>
  refine ⟨o,H,fun B=>?_,h.nf.1,by rw [Afd]; exact h,hn,AeI _,fun _ _=>rfl⟩
  rcases h with ⟨rfl,rfl⟩ | ⟨hne,r,hr,rfl,h3⟩ <;> rfl
 | cons y t =>
  rcases h with ⟨rfl,rfl⟩ | ⟨hne,r,hr,rfl,h3⟩
  ·refine ⟨.sl H.length (y :: t).length 1 0 (y :: t).length false,H ++ [.cs ty 1 (onV (y :: t)) 0 false],fun B=>?_,rfl,.inr ⟨by simp,H.length,hn,rfl,Dc H _ 0⟩,by simp; omega,by simp,fun r hr=>BF _ _ _ (by omega)⟩
   show BA ⟨B,H⟩ ty 1 b (onV (y :: t)) = _
   rw [CJ,Ij ha,Di]
   have : Nat.ble ((y :: t).length * b) 140737488355328 = true:=by
    rw [Bd]
    refine Afc ?_
    simp only [Aft,AfL] at hmul
    omega
   rw [this]
   rfl
  ·have ha2:=fun B=>Er (M:=⟨B,H⟩) (bytes:=b) (xs:=onV (y :: t)) h3 (by simp [onV]) (by simp only [Di]; omega) (Ij ha)
   simp only [Di,Ns] at ha2
   have el : xs.length + (y :: t).length = (xs ++ y :: t).length:=by simp
   rw [el] at ha2
   refine ⟨_,_,ha2,rfl,.inr ⟨by simp,r,hr,rfl,AO (AI h3)⟩,by simp; omega,by simp,fun q hq=>Ar fun e=>?_⟩
   subst e
   have : n0 <= r:=hr
   omega
def zL (xs : List I) : I:=if xs = [] then .nl 4 else .sl (on1 xs)
theorem AcU (xs : List I) : IsSl (zL xs) (on1 xs):=by
 unfold zL
 split
 ·rename_i h; subst h; exact ED
 ·exact Ci _
theorem AcV (xs : List I) : BH (.m (zL xs)) = true:=by
 unfold zL
 split <;> rfl
theorem optV (k : Nat) (H : Hp) : ∀ xs : List I,Af (fun e=>Af (view (k + 1) H) e) (onV xs) = some (on1 xs)
 | []=>rfl
 | x :: r=>by
  show Option.bind (some [x]) _ = _
  simp only [AeM]
  show Option.bind (Af _ (onV r)) _ = _
  rw [optV k H r]
  rfl
theorem LR.view {ty : Nat} {xs : List I} {o : V} {H : Hp} {ok : Nat -> Prop} (h : LR ty xs o H ok) (k : Nat) : Mx.view (k + 2) H o = some (zL xs):=by
 have he:=h.elems
 rcases h with ⟨rfl,rfl⟩ | ⟨hne,r,hr,rfl,h3⟩
 ·rfl
 ·show Option.bind (Mx.elems H (.sl r xs.length 1 0 xs.length false)) _ = _
  rw [he]
  show Option.bind (Af (fun e=>Af (Mx.view (k + 1) H) e) (onV xs)) _ = _
  rw [optV]
  unfold zL
  rw [AeF hne]
  rfl
theorem TI {H : Hp} {r ty : Nat} {xs : List I} {b : Nat} {fz : Bool} (h : nth H r = some (.cs ty 1 (onV xs) b fz)) : AT [r] H = some (H.set r (.cs ty 1 (onV xs) b true)):=by
 show Option.bind (nth H r) _ = _
 rw [h]
 show Option.bind (gd ((onV xs).all fun e=>e.all isM) (some (Row.cs ty 1 (onV xs) b true))) _ = _
 rw [ZL]
 show Option.bind (AF H r _) _ = _
 rw [Am _ _ _ (AI h)]
 rfl
theorem LR.viewR {ty : Nat} {xs : List I} {o : V} {H : Hp} {ok : Nat -> Prop} (h : LR ty xs o H ok) : Mx.viewR H o = some (.m (zL xs)):=by
 have hv:=h.view 18
 rcases h with ⟨rfl,rfl⟩ | ⟨hne,r,hr,rfl,h3⟩
 ·rfl
 ·show (Mx.view 20 H (.sl r xs.length 1 0 xs.length false)).bind _ = _
  rw [hv]
  rfl
theorem Cm {call : Bj} {M : Mem} {ty esz b : Nat} {s x : V} {e : List (List V)} (h : Mx.elems M.H x = some e) : Ai call M (.app ty esz b) [s,x] = FP M ty esz b s e:=by
 cases x with
 | m x =>
  cases x with
  | s l=>simp [Mx.elems] at h
  | _=>simp only [Ai]; rw [h]; rfl
 | _=>simp only [Ai]; rw [h]; rfl
def iI (l : List Int) : List I:=l.map (.i .i64)
@[simp] theorem CR (l : List Int) : (iI l).length = l.length:=by simp [iI]
theorem CS {l : List Int} {i : Nat} {x : Int} (h : l[i]? = some x) : (iI l)[i]? = some (.i .i64 x):=by simp [iI,h]
theorem Ma (l : List Int) : on1 (iI l) = Dj l:=by
 unfold on1 iI Dj
 rw [AfW]
 rfl
theorem Tl (l : List Int) : Abi (iI l):=fun x hx=>by
 obtain ⟨y,_,rfl⟩:=Afb.1 hx
 rfl
theorem TC (l m : List Int) : iI l ++ iI m = iI (l ++ m):=by simp [iI]
def zI (l : List Int) : I:=zL (iI l)
theorem zI_sl (l : List Int) : IsSl (zI l) (Dj l):=by
 have:=AcU (iI l)
 rwa [Ma] at this
def AG : V -> Option Nat
 | .sl r _ _ _ _ _=>some r
 | _=>none
abbrev Hk : Nat -> Prop:=fun _=>True
theorem LR.push1 {ty b : Nat} {xs : List I} {o : V} {H : Hp} (h : LR ty xs o H Hk) (hb : b <= 1000) {y : I} (hl : xs.length + 1 <= 100000000) (ha : BH (.m y) = true) : ∃ o1 H1,(∀ B,Ai (fun _ _ _=>none) ⟨B,H⟩ (.app ty 1 b) [o,.ls [[y]]] = some (o1,⟨B,H1⟩)) /\ Ax o1 = true /\ LR ty (xs ++ [y]) o1 H1 Hk /\ H.length <= H1.length /\ (∀ r,r < H.length -> AG o ≠ some r -> nth H1 r = nth H r) /\ (∀ r,AG o1 = some r -> AG o = some r \/ (r = H.length /\ H1.length = H.length + 1)):=by
 have aq : Abi [y]:=fun u hu=>by rw [List.mem_singleton] at hu; subst hu; exact ha
 have hmul : (xs.length + 1) * b <= 100000000 * 1000:=Nat.mul_le_mul hl hb
 rcases h with ⟨rfl,rfl⟩ | ⟨hne,r,hr,rfl,h3⟩
 ·refine ⟨.sl H.length 1 1 0 1 false,H ++ [.cs ty 1 (onV [y]) 0 false],fun B=>(Cm rfl).trans ?_,rfl,.inr ⟨by simp,H.length,AfE,rfl,Dc H _ 0⟩,by simp,fun r hr _=>BF _ _ _ hr,fun r hr=>.inr ⟨(AfD hr).symm,by simp⟩⟩
  show BA ⟨B,H⟩ ty 1 b (onV [y]) = _
  rw [CJ,Ij aq,Di]
  have : Nat.ble ([y].length * b) 140737488355328 = true:=by
   rw [Bd]
   refine Afc ?_
   simp only [Aft,Afj,AfL] at hmul ⊢
   omega
  rw [this]
  rfl
 ·have ha2:=fun B=>Er (M:=⟨B,H⟩) (bytes:=b) (xs:=onV [y]) h3 (by simp [onV]) (by simp only [Di,AfO]; omega) (Ij aq)
  simp only [Di,Ns] at ha2
  have el : xs.length + [y].length = (xs ++ [y]).length:=by simp
  rw [el] at ha2
  refine ⟨_,_,fun B=>(Cm rfl).trans (ha2 B),rfl,.inr ⟨by simp,r,AfE,rfl,AO (AI h3)⟩,by simp,fun q hq hne2=>Ar fun e=>?_,fun q hq=>.inl hq⟩
  subst e
  exact hne2 rfl
theorem LR.keepR {ty : Nat} {xs : List I} {o : V} {H H' : Hp} (h : LR ty xs o H Hk) (hk : ∀ r,AG o = some r -> r < H.length -> nth H' r = nth H r) : LR ty xs o H' Hk:=by
 rcases h with h | ⟨hne,r,hr,e,h3⟩
 ·exact .inl h
 ·subst e
  exact .inr ⟨hne,r,AfE,rfl,by rw [hk r rfl (AI h3)]; exact h3⟩
theorem LR.row_lt {ty : Nat} {xs : List I} {o : V} {H : Hp} {ok : Nat -> Prop} (h : LR ty xs o H ok) {r : Nat} (e : AG o = some r) : r < H.length:=by
 rcases h with ⟨_,rfl⟩ | ⟨hne,q,hr,rfl,h3⟩
 ·cases e
 ·cases e
  exact AI h3
theorem LR.row {ty : Nat} {xs : List I} {o : V} {H : Hp} {ok : Nat -> Prop} (h : LR ty xs o H ok) {r : Nat} (e : AG o = some r) : nth H r = some (.cs ty 1 (onV xs) 0 false):=by
 rcases h with ⟨_,rfl⟩ | ⟨hne,q,hr,rfl,h3⟩
 ·cases e
 ·cases e
  exact h3
open Go.Lib
def Kp (H : Hp) (o : V) (H1 : Hp) (o1 : V) : Prop:=H.length <= H1.length /\ (∀ r,r < H.length -> AG o ≠ some r -> nth H1 r = nth H r) /\ ∀ r,AG o1 = some r -> AG o = some r \/ H.length <= r
theorem Kp.refl (H : Hp) (o : V) : Kp H o H o:=⟨AeI _,fun _ _ _=>rfl,fun _ h=>.inl h⟩
theorem Kp.trans {H H1 H2 : Hp} {o o1 o2 : V} (h : Kp H o H1 o1) (k : Kp H1 o1 H2 o2) : Kp H o H2 o2:=by
 obtain ⟨a1,a2,a3⟩:=h
 obtain ⟨b1,b2,b3⟩:=k
 refine ⟨by omega,fun r hr hne=>?_,fun r hr=>?_⟩
 ·rw [b2 r (by omega) fun e=>?_,a2 r hr hne]
  rcases a3 r e with h | h
  ·exact hne h
  ·omega
 ·rcases b3 r hr with h | h
  ·exact a3 r h
  ·exact .inr (by omega)
theorem LR.pushN {ty b : Nat} {xs : List I} {o : V} {H : Hp} (h : LR ty xs o H Hk) (hb : b <= 1000) {ys : List I} (hl : xs.length + ys.length <= 100000000) (ha : Abi ys) : ∃ o1 H1,(∀ B,FP ⟨B,H⟩ ty 1 b o (onV ys) = some (o1,⟨B,H1⟩)) /\ Ax o1 = true /\ LR ty (xs ++ ys) o1 H1 Hk /\ Kp H o H1 o1:=by
 have hmul : (xs.length + ys.length) * b <= 100000000 * 1000:=Nat.mul_le_mul hl hb
 cases ys with
 | nil =>
  refine ⟨o,H,fun B=>?_,h.nf.1,by rw [Afd]; exact h,.refl _ _⟩
  rcases h with ⟨rfl,rfl⟩ | ⟨hne,r,hr,rfl,h3⟩ <;> rfl
 | cons y t =>
  rcases h with ⟨rfl,rfl⟩ | ⟨hne,r,hr,rfl,h3⟩
  ·refine ⟨.sl H.length (y :: t).length 1 0 (y :: t).length false,H ++ [.cs ty 1 (onV (y :: t)) 0 false],fun B=>?_,rfl,.inr ⟨by simp,H.length,AfE,rfl,Dc H _ 0⟩,by simp,fun r hr _=>BF _ _ _ hr,fun r hr=>.inr (by cases hr; exact AeI _)⟩
   show BA ⟨B,H⟩ ty 1 b (onV (y :: t)) = _
   rw [CJ,Ij ha,Di]
   have : Nat.ble ((y :: t).length * b) 140737488355328 = true:=by
    rw [Bd]
    refine Afc ?_
    simp only [Aft,AfL] at hmul
    omega
   rw [this]
   rfl
  ·have ha2:=fun B=>Er (M:=⟨B,H⟩) (bytes:=b) (xs:=onV (y :: t)) h3 (by simp [onV]) (by simp only [Di]; omega) (Ij ha)
   simp only [Di,Ns] at ha2
   have el : xs.length + (y :: t).length = (xs ++ y :: t).length:=by simp
   rw [el] at ha2
   refine ⟨_,_,ha2,rfl,.inr ⟨by simp,r,AfE,rfl,AO (AI h3)⟩,by simp,fun q hq hne2=>Ar fun e=>?_,fun q hq=>.inl hq⟩
   subst e
   exact hne2 rfl
def bI (s : List Nat) : List I:=s.map fun c : Nat=>.i .u8 (c : Int)
@[simp] theorem PE (s : List Nat) : (bI s).length = s.length:=by simp [bI]
theorem PF (s t : List Nat) : bI s ++ bI t = bI (s ++ t):=by simp [bI]
theorem Kf (s : List Nat) : Abi (bI s):=fun x hx=>by
 obtain ⟨y,_,rfl⟩:=Afb.1 hx
 rfl
theorem AdP (s : List Nat) : (s.map fun c : Nat=>[V.m (.i .u8 (c : Int))]) = onV (bI s):=by simp [onV,bI]
theorem Tg : ∀ (d : List UInt8),d.map LC = onV (bI (d.map UInt8.toNat))
 | []=>rfl
 | c :: r=>by
  show LC c :: r.map LC = _
  rw [Tg r]
  rfl
theorem Pz : ∀ (s : List Nat),(∀ c,c ∈ s -> c < 256) -> Cg (onV (bI s)) = some s
 | [],_=>rfl
 | c :: r,h=>by
  show gd (Nat.blt c 256) ((Cg (onV (bI r))).bind fun l=>some (c :: l)) = _
  rw [Gk,Afc (h c (by simp)),Pz r fun x hx=>h x (by simp [hx])]
  rfl
theorem AdD (nd : Nat) (h : nd <= 24) : ([[V.m (.i .u8 0)],[V.m (.i .u8 0)],[V.m (.i .u8 0)],[V.m (.i .u8 0)],[V.m (.i .u8 0)],[V.m (.i .u8 0)],[V.m (.i .u8 0)],[V.m (.i .u8 0)],[V.m (.i .u8 0)],[V.m (.i .u8 0)],[V.m (.i .u8 0)],[V.m (.i .u8 0)],[V.m (.i .u8 0)],[V.m (.i .u8 0)],[V.m (.i .u8 0)],[V.m (.i .u8 0)],[V.m (.i .u8 0)],[V.m (.i .u8 0)],[V.m (.i .u8 0)],[V.m (.i .u8 0)],[V.m (.i .u8 0)],[V.m (.i .u8 0)],[V.m (.i .u8 0)],[V.m (.i .u8 0)]] : List (List V)) = Ev [] (Array.replicate nd 0) (List.replicate (24 - nd) [.m (.i .u8 0)]):=by
 unfold Ev
 have : (Array.replicate nd (0 : UInt8)).toList.map LC = List.replicate nd [.m (.i .u8 0)]:=by simp [LC]
 rw [this,List.replicate_append_replicate]
 rw [show nd + (24 - nd) = 24 by omega]
 rfl
theorem Aey {H : Hp} {s : List Nat} {o : V} (h : LR 5 (bI s) o H Hk) (hl : s.length <= 1000000) (u : Nat) (hu : u < 18446744073709551616) :
  ∃ o1 H1,Gives G 228 [o,.m (.i .u64 u),.m (.i .i64 10)] H o1 H1 /\ Ax o1 = true /\ LR 5 (bI (s ++ BR u)) o1 H1 Hk /\ Kp H o H1 o1:=by
 have hd:=Hg u hu
 have hnf:=h.nf
 by_cases h100 : u < 100
 ·have g:=Pb u h100
  have h100' : (u : Int) < 100:=by omega
  obtain ⟨o1,H1,ha,n1,l1,k1⟩:=h.pushN (b:=1) (by omega) (ys:=bI (BR u)) (by simp only [PE]; omega) (Kf _)
  rw [PF] at l1
  refine ⟨o1,H1,?_,n1,l1,k1⟩
  have w : wr .i64 (u : Int) = u:=XD u (by omega)
  rw [<- AdP] at ha
  refine .of_ret (AS mono rfl rfl rfl ?_ rfl ?_)
  ·simp [hnf.1]
  ·simp [h100',w,cl (g _),ha,Ag n1,n1]
 ·have h100' : ¬ (u : Int) < 100:=by omega
  have hnd:=nDigits_le20 u (by omega)
  have hnp:=nDigits_pos u
  obtain ⟨d',v',hi,g2⟩:=Aej [] (List.replicate (24 - nDigits u) [.m (.i .u8 0)]) (Array.replicate (nDigits u) 0) u 24 202 0 false H [] (by simp; omega) (by simpa using lt_pow_nDigits u) (by omega) (by simpa using hnp) (by simp; omega) (by omega)
  simp only [Array.size_replicate,Aft] at hi g2
  have hf:=OD hi
  have hsz:=hi.size
  generalize hN : nDigits u = nd at *
  have g1:=fun H=>Xl u (by omega) hu H
  simp only [hN] at g1
  have hrow:=AdD nd (by omega)
  have hb : (Ev [] d' (List.replicate (24 - nd) [.m (.i .u8 0)])).take nd = onV (bI (BR u)):=by
   have:=IC [] d' (List.replicate (24 - nd) [V.m (.i .u8 0)])
   simp only [Aft,hsz,List.drop_zero] at this
   rw [this,Tg,hf]
  have h2 : LR 5 (bI s) o (H ++ [Row.cs 202 1 (Ev [] d' (List.replicate (24 - nd) [.m (.i .u8 0)])) 24 false]) Hk:=h.keepR fun r _ hr=>BF _ _ _ hr
  obtain ⟨o1,H1,ha,n1,l1,k1⟩:=h2.pushN (b:=1) (by omega) (ys:=bI (BR u)) (by simp only [PE]; omega) (Kf _)
  rw [PF] at l1
  refine ⟨o1,H1,?_,n1,l1,?_⟩
  ·have e1 : ¬ nd = 24:=by omega
   have e2 : nd + (24 - nd) = 24:=by omega
   have e3 : (nd : Int) <= 24:=by omega
   refine .of_ret (AS mono rfl rfl rfl ?_ rfl ?_)
   ·simp [hnf.1]
   ·simp [h100',cl (g1 _),hrow,e1,e2,e3,cl g2,hsz,hb,ha,CO,Au,Ag n1,n1]
  ·obtain ⟨a1,a2,a3⟩:=k1
   simp only [AeL,AfO] at a1 a2 a3
   exact ⟨by omega,fun r hr hne=>by rw [a2 r (by omega) hne]; exact BF _ _ _ hr,fun r hr=>(a3 r hr).imp_right fun h=>by omega⟩
theorem Aez {H : Hp} {s : List Nat} {o : V} (h : LR 5 (bI s) o H Hk) (hl : s.length <= 900000) (n : Int) (h0 : -4611686018427387904 <= n) (h1 : n <= 4611686018427387904) :
  ∃ o1 H1,Gives G 194 [o,.m (.i .i64 n),.m (.i .i64 10)] H o1 H1 /\ Ax o1 = true /\ LR 5 (bI (s ++ AN n)) o1 H1 Hk /\ Kp H o H1 o1:=by
 have hnf:=h.nf
 have key : ∃ o1 H1,Gives G 214 [o,.m (.i .i64 n),.m (.i .i64 10)] H o1 H1 /\ Ax o1 = true /\ LR 5 (bI (s ++ AN n)) o1 H1 Hk /\ Kp H o H1 o1:=by
  by_cases hn : n < 0
  ·have en : AN n = 45 :: BR n.natAbs:=by
    have:=BQ n.natAbs (by omega)
    rwa [show -((n.natAbs : Nat) : Int) = n by omega] at this
   have hneg : wr .u64 (-wr .u64 n) = (n.natAbs : Int):=by rw [CE,CE]; omega
   obtain ⟨o2,H2,ha,n2,l2,k2⟩:=h.pushN (b:=1) (by omega) (ys:=bI [45]) (by simp only [PE,AfO]; omega) (Kf _)
   rw [PF] at l2
   obtain ⟨o1,H1,g,n1,l1,k1⟩:=Aey l2 (by simp; omega) n.natAbs (by omega)
   rw [AeS,AfT,<- en] at l1
   refine ⟨o1,H1,?_,n1,l1,k2.trans k1⟩
   refine .of_ret (AS mono rfl rfl rfl ?_ rfl ?_)
   ·simp [hnf.1]
   ·have hb : onV (bI [45]) = [[V.m (.i .u8 45)]]:=rfl
    rw [hb] at ha
    simp [hn,hneg,ha,cl g,Ag n2,Ag n1,n1]
  ·have ep : AN n = BR n.natAbs:=by
    have:=Bg n.natAbs
    rwa [show ((n.natAbs : Nat) : Int) = n by omega] at this
   have hpos : wr .u64 n = (n.natAbs : Int):=by rw [CE]; omega
   obtain ⟨o1,H1,g,n1,l1,k1⟩:=Aey h (by omega) n.natAbs (by omega)
   rw [<- ep] at l1
   refine ⟨o1,H1,?_,n1,l1,k1⟩
   refine .of_ret (AS mono rfl rfl rfl ?_ rfl ?_)
   ·simp [hnf.1]
   ·simp [hn,hpos,cl g,Ag n1,n1]
 obtain ⟨o1,H1,g,n1,l1,k1⟩:=key
 refine ⟨o1,H1,?_,n1,l1,k1⟩
 refine .of_ret (AS mono rfl rfl rfl ?_ rfl ?_)
 ·simp [hnf.1]
 ·simp [cl g,Ag n1,n1]
open Go.Proofs
theorem VO {z y : I} {c d : List Int} (hz : IsSl z (Dj c)) (hy : IsSl y (Dj d)) (hc : c.length <= 9223372036854775807) (H : Hp) : Gives G 175 [.m z,.m y] H (.m (.b (decide (c = d)))) H:=by
 have rx:=hz.rules
 have ry:=hy.rules
 simp only [Da] at rx ry
 refine Ah rfl rfl rfl rfl rfl ?_
 generalize hE : decide (c = d) = E
 have no : c ≠ d -> E = false:=fun h=>by rw [<- hE]; exact Afz h
 by_cases u2 : c.length = d.length
 case neg =>
  have k:=no fun e=>u2 (by rw [e])
  have u2' : ¬ (c.length : Int) = d.length:=by omega
  simp (disch:=omega) [rx,ry,u2',k]
 simp (disch:=omega) [rx,ry,u2]
 refine (?key : ∀ (j : Nat) (B : List (Nat × List V)),j <= d.length -> c.take j = d.take j -> Run G c175_B0 (S175_0 (.m z) (.m y) (.m (.i .i64 (j : Int))) B []) _) 0 _ (AeR _) rfl
 refine BO (fun j : Nat=>d.length - j) fun j ih B hj hX=>?_
 unfold c175_B0
 cases hv : d[j]? with
 | none =>
  have : j = d.length:=by have:=AeU.1 hv; omega
  subst this
  rw [AfM,<- u2,AfM] at hX
  have k : E = true:=by rw [<- hE]; exact Afc hX
  simp (disch:=omega) [rx,u2,k]
 | some w =>
  have hltj:=(AeG.1 hv).1
  have hltj' : (j : Int) < d.length:=by omega
  obtain ⟨v,hp2⟩ : ∃ v,c[j]? = some v:=⟨c[j],AeK (by omega)⟩
  have m1:=JM hp2
  have m2:=JM hv
  have wj : wr .i64 ((j : Int) + 1) = ((j + 1 : Nat) : Int):=wr_i64 (by omega) (by omega)
  by_cases e : v = w
  ·have k:=ih (j + 1) (by omega) B (by omega) (VI hX hp2 hv e)
   subst e
   simp (disch:=omega) [rx,ry,u2,hltj',m1,m2,wj,-Int.natCast_add]
   exact k
  ·have k:=no fun h=>e (by have:=congrArg (fun l=>l[j]?) h; simp only [hp2,hv] at this; exact AfD this)
   simp (disch:=omega) [rx,ry,u2,hltj',m1,m2,e,k,-Int.natCast_add]
end Go.Mx.Tryz
namespace Go.Mx.Tryz
def LW (ty : Nat) (xs : List I) (o : V) (H : Hp) (ok : Nat -> Prop) : Prop:=(xs = [] /\ (o = .m (.nl 4) \/ o = .ls [])) \/
 ∃ (r : Nat) (es : List I) (base : Nat) (lim : Bool),ok r /\ o = .sl r es.length 1 0 xs.length lim /\ nth H r = some (.cs ty 1 (onV es) base false) /\ base <= es.length /\ xs.length <= es.length /\ es.take xs.length = xs
theorem VH {xs es : List I} (h : es.take xs.length = xs) {i : Nat} {x : I} (hx : xs[i]? = some x) : es[i]? = some x:=by
 have hlt:=(AeG.1 hx).1
 have e : (es.take xs.length)[i]? = some x:=by rw [h]; exact hx
 rwa [Afl,AeJ hlt] at e
theorem LW.rd {ty : Nat} {xs : List I} {o : V} {H : Hp} {ok : Nat -> Prop} (h : LW ty xs o H ok) {i : Nat} {x : I} (hx : xs[i]? = some x) : ∃ p,Aj (.ixa 1) [o,.m (.i .i64 (i : Int))] = some p /\ Ax p = true /\ ∀ B,readX ⟨B,H⟩ (.ld false 1) [p] = some (.m x):=by
 have hlt:=(AeG.1 hx).1
 rcases h with ⟨rfl,_⟩ | ⟨r,es,base,lim,hr,rfl,h3,h4,h5,h6⟩
 ·simp at hlt
 ·have hge:=VH h6 hx
  refine ⟨.pt r es.length i 0,?_,rfl,fun B=>?_⟩
  ·simp (disch:=omega) []
  ·have e : readX ⟨B,H⟩ (.ld false 1) [V.pt r es.length i 0] = (readA ⟨B,H⟩ 1 (V.pt r es.length i 0)).bind fun cs=>CV false cs:=rfl
   simp (disch:=omega) [gd_and,Cl hge,h3,h4]
theorem LW.elems {ty : Nat} {xs : List I} {o : V} {H : Hp} {ok : Nat -> Prop} (h : LW ty xs o H ok) : Mx.elems H o = some (onV xs):=by
 rcases h with ⟨rfl,rfl | rfl⟩ | ⟨r,es,base,lim,hr,rfl,h3,h4,h5,h6⟩
 ·rfl
 ·rfl
 ·rw [CO,h3]
  show gd (Nat.ble base es.length && Nat.beq 1 1) (some (((onV es).drop 0).take xs.length)) = _
  rw [Bd,Afc h4,ZK,List.drop_zero,h6]
  rfl
theorem LW.view {ty : Nat} {xs : List I} {o : V} {H : Hp} {ok : Nat -> Prop} (h : LW ty xs o H ok) (k : Nat) : ∃ z,Mx.view (k + 2) H o = some z /\ IsSl z (on1 xs) /\ BH (.m z) = true:=by
 have he:=h.elems
 rcases h with ⟨rfl,rfl | rfl⟩ | ⟨r,es,base,lim,hr,rfl,h3,h4,h5,h6⟩
 ·exact ⟨_,rfl,ED,rfl⟩
 ·exact ⟨_,rfl,Ci _,rfl⟩
 ·refine ⟨.sl (on1 xs),?_,Ci _,rfl⟩
  show Option.bind (Mx.elems H (.sl r es.length 1 0 xs.length lim)) _ = _
  rw [he]
  show Option.bind (Af (fun e=>Af (Mx.view (k + 1) H) e) (onV xs)) _ = _
  rw [optV]
  rfl
theorem Wo (xs : List I) : BC (on1 xs) = onV xs:=by
 unfold BC on1 onV
 rw [AfW]
 rfl
open Go.Lib
theorem Ks (u : Nat) : ∀ c,c ∈ BR u -> 48 <= c /\ c <= 57:=by
 refine BO (P:=fun u=>∀ c,c ∈ BR u -> 48 <= c /\ c <= 57) (fun u : Nat=>u) (fun u ih c hc=>?_) u
 by_cases h : u < 10
 ·rw [Bc h] at hc
  simp at hc
  omega
 ·rw [BL h] at hc
  rcases AfQ.1 hc with h1 | h1
  ·exact ih (u / 10) (by omega) c h1
  ·simp at h1
   omega
def valU (s : List Nat) : Nat:=s.foldl (fun a c=>10 * a + (c - 48)) 0
theorem Hf (u : Nat) : valU (BR u) = u:=by
 refine BO (P:=fun u=>valU (BR u) = u) (fun u : Nat=>u) (fun u ih=>?_) u
 by_cases h : u < 10
 ·rw [Bc h]
  show 10 * 0 + (48 + u - 48) = u
  omega
 ·rw [BL h]
  have:=ih (u / 10) (by omega)
  unfold valU at this ⊢
  rw [List.foldl_append,this]
  show 10 * (u / 10) + (48 + u % 10 - 48) = u
  omega
theorem Mi {x y : Int} (h : AN x = AN y) : x = y:=by
 have hd : ∀ u v : Nat,1 <= v -> BR u ≠ 45 :: BR v:=fun u v _ e=>by
  have:=Ks u 45 (by rw [e]; simp)
  omega
 by_cases hx : 0 <= x
 ·obtain ⟨u,rfl⟩:=AeV hx
  rw [Bg] at h
  by_cases hy : 0 <= y
  ·obtain ⟨v,rfl⟩:=AeV hy
   rw [Bg] at h
   rw [<- Hf u,h,Hf]
  ·obtain ⟨v,hv⟩:=AeV (show 0 <= -y by omega)
   have : y = -(v : Int):=by omega
   subst this
   rw [BQ v (by omega)] at h
   exact absurd h (hd u v (by omega))
 ·obtain ⟨u,hu⟩:=AeV (show 0 <= -x by omega)
  have : x = -(u : Int):=by omega
  subst this
  rw [BQ u (by omega)] at h
  by_cases hy : 0 <= y
  ·obtain ⟨v,rfl⟩:=AeV hy
   rw [Bg] at h
   exact absurd h.symm (hd v u (by omega))
  ·obtain ⟨v,hv⟩:=AeV (show 0 <= -y by omega)
   have : y = -(v : Int):=by omega
   subst this
   rw [BQ v (by omega)] at h
   have h:=(List.cons.inj h).2
   rw [<- Hf u,h,Hf]
theorem EJ (x : Int) : ∀ c,c ∈ AN x -> c ≠ 32 /\ c < 256:=fun c hc=>by
 by_cases h : 0 <= x
 ·obtain ⟨u,rfl⟩:=AeV h
  rw [Bg] at hc
  have:=Ks u c hc
  omega
 ·obtain ⟨u,hu⟩:=AeV (show 0 <= -x by omega)
  have : x = -(u : Int):=by omega
  subst this
  rw [BQ u (by omega)] at hc
  rcases Aff.1 hc with h | h
  ·omega
  ·have:=Ks u c h
   omega
def Ck (c : List Int) : List Nat:=c.flatMap fun k=>32 :: AN k
def Ix (x : Nd) : List Nat:=AN x.1 ++ Ck x.2
theorem JQ : ∀ {a b s t : List Nat},(∀ c,c ∈ a -> c ≠ 32) -> (∀ c,c ∈ b -> c ≠ 32) -> s.take 1 ≠ [] /\ s.take 1 = [32] \/ s = [] -> t.take 1 ≠ [] /\ t.take 1 = [32] \/ t = [] -> a ++ s = b ++ t -> a = b /\ s = t
 | [],[],s,t,_,_,_,_,h=>⟨rfl,h⟩
 | x :: a,y :: b,s,t,ha,hb,hs,ht,h=>by
  simp only [Afo,List.cons.injEq] at h
  obtain ⟨h1,h2⟩:=JQ (fun c hc=>ha c (AfI _ hc)) (fun c hc=>hb c (AfI _ hc)) hs ht h.2
  exact ⟨by rw [h.1,h1],h2⟩
 | [],y :: b,s,t,_,hb,hs,_,h=>by
  have hy:=hb y (Afh ..)
  simp only [Afi,Afo] at h
  subst h
  rcases hs with ⟨_,h⟩ | h
  ·simp at h
   exact absurd h hy
  ·cases h
 | x :: a,[],s,t,ha,_,_,ht,h=>by
  have hx:=ha x (Afh ..)
  simp only [Afi,Afo] at h
  subst h
  rcases ht with ⟨_,h⟩ | h
  ·simp at h
   exact absurd h hx
  ·cases h
theorem GW (c : List Int) : (Ck c).take 1 ≠ [] /\ (Ck c).take 1 = [32] \/ Ck c = []:=by
 cases c with
 | nil=>exact .inr rfl
 | cons k r=>exact .inl ⟨by simp [Ck],by simp [Ck]⟩
theorem LP : ∀ {c d : List Int},Ck c = Ck d -> c = d
 | [],[],_=>rfl
 | [],k :: r,h=>by simp [Ck] at h
 | k :: r,[],h=>by simp [Ck] at h
 | k :: r,j :: s,h=>by
  have h : AN k ++ Ck r = AN j ++ Ck s:=by
   have h : 32 :: (AN k ++ Ck r) = 32 :: (AN j ++ Ck s):=h
   exact (List.cons.inj h).2
  obtain ⟨h1,h2⟩:=JQ (fun c hc=>(EJ _ c hc).1) (fun c hc=>(EJ _ c hc).1) (GW r) (GW s) h
  rw [Mi h1,LP h2]
theorem Wj {x y : Nd} (h : Ix x = Ix y) : x = y:=by
 obtain ⟨h1,h2⟩:=JQ (fun c hc=>(EJ _ c hc).1) (fun c hc=>(EJ _ c hc).1) (GW x.2) (GW y.2) h
 exact Prod.ext (Mi h1) (LP h2)
theorem SG (c : List Int) : ∀ y,y ∈ Ck c -> y < 256:=fun y hy=>by
 obtain ⟨k,_,h⟩:=List.mem_flatMap.1 hy
 rcases Aff.1 h with h | h
 ·omega
 ·exact (EJ k y h).2
theorem Wk (x : Nd) : ∀ y,y ∈ Ix x -> y < 256:=fun y hy=>by
 rcases AfQ.1 hy with h | h
 ·exact (EJ x.1 y h).2
 ·exact SG x.2 y h
def knw : List Nd -> Nat -> List (List Nat × Int)
 | [],_=>[]
 | x :: r,i=>(Ix x,(i : Int)) :: knw r (i + 1)
theorem Kl : ∀ (l : List Nd) (i : Nat) (x : Nd),Df (knw l i) (Ix x) = ((l.idxOf? x).map fun k=>((i + k : Nat) : Int))
 | [],i,x=>rfl
 | y :: r,i,x=>by
  have e : Df (knw (y :: r) i) (Ix x) = if Ix y = Ix x then some (i : Int) else Df (knw r (i + 1)) (Ix x):=rfl
  rw [e,List.idxOf?_cons]
  by_cases h : y = x
  ·subst h
   rw [AeJ rfl,AeJ (by simp)]
   rfl
  ·rw [AeF fun k=>h (Wj k),AeF (by simpa using h),Kl r (i + 1) x]
   cases r.idxOf? x with
   | none=>rfl
   | some k =>
    show some _ = some _
    congr 1
    simp only
    omega
theorem Pp : ∀ (l : List Nd) (i : Nat) (x : Nd),knw (l ++ [x]) i = knw l i ++ [(Ix x,((i + l.length : Nat) : Int))]
 | [],i,x=>rfl
 | y :: r,i,x=>by
  show (Ix y,(i : Int)) :: knw (r ++ [x]) (i + 1) = _
  rw [Pp r (i + 1) x]
  simp only [Afj,knw,Afo]
  rw [show i + 1 + r.length = i + (r.length + 1) by omega]
theorem Aaa {l : List Nd} {x : Nd} (h : l.idxOf? x = none) : ML (knw l 0) (Ix x) ((l.length : Nat) : Int) = knw (l ++ [x]) 0:=by
 rw [Pp,UV,AfL]
 rw [<- Qc,Kl,h]
 rfl
def Es (l : List Nd) (x : Nd) : List Nd × Nat:=match l.idxOf? x with
 | some k=>(l,k)
 | none=>(l ++ [x],l.length)
theorem PI (l : List Nd) (x : Nd) : l.length <= (Es l x).1.length /\ (Es l x).1.length <= l.length + 1:=by
 unfold Es
 split <;> simp
def L2 (es : List (List I)) (o : V) (H : Hp) : Prop:=(es = [] /\ o = .m (.nl 4)) \/ (es ≠ [] /\ ∃ r,o = .sl r es.length 2 0 es.length false /\ nth H r = some (.cs 94 2 (BC es) 0 false))
theorem immS_len (es : List (List I)) : (BC es).length = es.length:=by simp [BC]
theorem L2.nf {es : List (List I)} {o : V} {H : Hp} (h : L2 es o H) : Ax o = true /\ Ap o = some [o] /\ BH o = true /\ Aj (.len false) [o] = some (.m (.i .i64 (es.length : Nat))):=by
 rcases h with ⟨rfl,rfl⟩ | ⟨hne,r,rfl,h3⟩
 ·exact ⟨rfl,rfl,rfl,rfl⟩
 ·exact ⟨rfl,rfl,rfl,rfl⟩
theorem L2.keep {es : List (List I)} {o : V} {H H' : Hp} (h : L2 es o H) (hk : ∀ r,AG o = some r -> r < H.length -> nth H' r = nth H r) : L2 es o H':=by
 rcases h with h | ⟨hne,r,rfl,h3⟩
 ·exact .inl h
 ·exact .inr ⟨hne,r,rfl,by rw [hk r rfl (AI h3)]; exact h3⟩
theorem L2.row_lt {es : List (List I)} {o : V} {H : Hp} (h : L2 es o H) {r : Nat} (e : AG o = some r) : r < H.length:=by
 rcases h with ⟨_,rfl⟩ | ⟨hne,q,rfl,h3⟩
 ·cases e
 ·cases e
  exact AI h3
theorem L2.row {es : List (List I)} {o : V} {H : Hp} (h : L2 es o H) {r : Nat} (e : AG o = some r) : nth H r = some (.cs 94 2 (BC es) 0 false):=by
 rcases h with ⟨_,rfl⟩ | ⟨hne,q,rfl,h3⟩
 ·cases e
 ·cases e
  exact h3
theorem L2.push {es : List (List I)} {o : V} {H : Hp} (h : L2 es o H) {l : Int} {z : I} (hz : BH (.m z) = true) (hl : es.length <= 100000000) : ∃ o1 H1,(∀ B,Ai (fun _ _ _=>none) ⟨B,H⟩ (.app 94 2 32) [o,.ls [[.i .i64 l,z]]] = some (o1,⟨B,H1⟩)) /\ Ax o1 = true /\ L2 (es ++ [[.i .i64 l,z]]) o1 H1 /\ Kp H o H1 o1:=by
 have hok : ((BC [[.i .i64 l,z]]).all fun e=>Nat.beq e.length 2 && e.all BH) = true:=by
  have h1 : BH (.m (.i .i64 l)) = true:=rfl
  simp [BC,hz,h1]
 rcases h with ⟨rfl,rfl⟩ | ⟨hne,r,rfl,h3⟩
 ·refine ⟨.sl H.length 1 2 0 1 false,H ++ [.cs 94 2 (BC [[.i .i64 l,z]]) 0 false],fun B=>(Cm rfl).trans ?_,rfl,.inr ⟨by simp,H.length,rfl,Dc H _ 0⟩,by simp,fun r hr _=>BF _ _ _ hr,fun r hr=>.inr (by cases hr; exact AeI _)⟩
  show BA ⟨B,H⟩ 94 2 32 (BC [[.i .i64 l,z]]) = _
  rw [CJ,hok]
  rfl
 ·have ha2:=fun B=>Er (M:=⟨B,H⟩) (bytes:=32) (xs:=BC [[.i .i64 l,z]]) h3 (by simp [BC]) (by simp only [immS_len,AfO]; omega) hok
  have e2 : BC es ++ BC [[.i .i64 l,z]] = BC (es ++ [[.i .i64 l,z]]):=by simp [BC]
  simp only [immS_len,e2] at ha2
  have el : es.length + [[I.i .i64 l,z]].length = (es ++ [[.i .i64 l,z]]).length:=by simp
  rw [el] at ha2
  refine ⟨_,_,fun B=>(Cm rfl).trans (ha2 B),rfl,.inr ⟨by simp,r,rfl,AO (AI h3)⟩,by simp,fun q hq hne2=>Ar fun e=>?_,fun q hq=>.inl hq⟩
  subst e
  exact hne2 rfl
theorem L2.elems {es : List (List I)} {o : V} {H : Hp} (h : L2 es o H) : Mx.elems H o = some (BC es):=by
 rcases h with ⟨rfl,rfl⟩ | ⟨hne,r,rfl,h3⟩
 ·rfl
 ·rw [CO,h3]
  show gd (Nat.ble 0 es.length && Nat.beq 2 2) (some (((BC es).drop 0).take es.length)) = _
  rw [Bd,Afc (AeR _),List.drop_zero,AeY (by rw [immS_len]; exact AeI _)]
  rfl
theorem rd2 {es : List (List V)} {i : Nat} {a b : V} (h : nth es i = some [a,b]) : CX 2 es i 0 2 = some [a,b] /\ CX 2 es i 0 1 = some [a] /\ CX 2 es i 1 1 = some [b]:=by
 refine ⟨?_,?_,?_⟩ <;>
 ·show Option.bind (nth es (i + 0)) _ = _
  rw [Nat.add_zero,h]
  rfl
theorem L2.rd {es : List (List I)} {o : V} {H : Hp} (h : L2 es o H) {i : Nat} {x : Int} {z : I} (hx : es[i]? = some [.i .i64 x,z]) : ∃ p q,Aj (.ixa 2) [o,.m (.i .i64 (i : Int))] = some p /\ Ax p = true /\ (∀ B,readX ⟨B,H⟩ (.ld true 2) [p] = some (.m (.ag [.i .i64 x,z]))) /\ (∃ p0,Aj (.fad 0) [p] = some p0 /\ Ax p0 = true /\ ∀ B,readX ⟨B,H⟩ (.ld false 1) [p0] = some (.m (.i .i64 x))) /\ Aj (.fad 1) [p] = some q /\ Ax q = true /\ ∀ B,readX ⟨B,H⟩ (.ld false 1) [q] = some (.m z):=by
 have hlt:=(AeG.1 hx).1
 have hn : nth (BC es) i = some [.m (.i .i64 x),.m z]:=by
  rw [AA]
  simp [BC,hx]
 rcases h with ⟨rfl,rfl⟩ | ⟨hne,r,rfl,h3⟩
 ·simp at hlt
 ·refine ⟨.pt r es.length i 0,.pt r es.length i 1,?_,rfl,fun B=>?_,⟨.pt r es.length i 0,rfl,rfl,fun B=>?_⟩,rfl,rfl,fun B=>?_⟩
  ·simp (disch:=omega) []
  ·simp (disch:=omega) [gd_and,rd2 hn,h3,Bo]
  ·simp (disch:=omega) [gd_and,rd2 hn,h3]
  ·simp (disch:=omega) [gd_and,rd2 hn,h3]
def IR (c : List Int) (o : V) (H : Hp) : Prop:=∃ r base lim,o = .sl r c.length 1 0 c.length lim /\ nth H r = some (.cs 3 1 (onV (iI c)) base false) /\ base <= c.length
theorem IR.toLW {c : List Int} {o : V} {H : Hp} (h : IR c o H) : LW 3 (iI c) o H Hk:=by
 obtain ⟨r,base,lim,rfl,h3,h4⟩:=h
 exact .inr ⟨r,iI c,base,lim,AfE,by rw [CR],h3,by rw [CR]; exact h4,AeI _,AfM⟩
theorem IR.keep {c : List Int} {o : V} {H H' : Hp} (h : IR c o H) (hk : ∀ r,AG o = some r -> r < H.length -> nth H' r = nth H r) : IR c o H':=by
 obtain ⟨r,base,lim,rfl,h3,h4⟩:=h
 exact ⟨r,base,lim,rfl,by rw [hk r rfl (AI h3)]; exact h3,h4⟩
theorem IR.bsf {c : List Int} {o : V} {H : Hp} (h : IR c o H) (l : Int) : ∃ z H2,(∀ B,Ai (fun _ _ _=>none) ⟨B,H⟩ (.bsf 2 [.m (.i .i64 0),.m (.nl 4)] 1 [0]) [.ag [.m (.i .i64 l),o]] = some (.ls [[.i .i64 l,z]],⟨B,H2⟩)) /\ IsSl z (Dj c) /\ BH (.m z) = true /\ H2.length = H.length /\ ∀ r,AG o ≠ some r -> nth H2 r = nth H r:=by
 obtain ⟨z,hv,hz,hz1⟩:=h.toLW.view 18
 obtain ⟨r,base,lim,rfl,h3,h4⟩:=h
 rw [Ma] at hz
 refine ⟨z,H.set r (.cs 3 1 (onV (iI c)) base true),fun B=>?_,hz,hz1,by simp,fun q hq=>Ar fun e=>hq (by rw [e]; rfl)⟩
 have e : Ai (fun _ _ _=>none) ⟨B,H⟩ (.bsf 2 [.m (.i .i64 0),.m (.nl 4)] 1 [0]) [.ag [.m (.i .i64 l),.sl r c.length 1 0 c.length lim]] = ((Af (fun e=>Af (Mx.view 20 H) e) [[V.m (.i .i64 l),V.sl r c.length 1 0 c.length lim]]).bind fun l=>(AT [r] H).bind fun H'=>some (.ls l,⟨B,H'⟩)):=rfl
 have hv0 : Mx.view 20 H (.m (.i .i64 l)) = some (.i .i64 l):=rfl
 rw [e,TI h3]
 simp only [Af,hv,hv0,AeM]
theorem IR.nf {c : List Int} {o : V} {H : Hp} (h : IR c o H) : Ax o = true /\ Ap o = some [o] /\ Aj (.len false) [o] = some (.m (.i .i64 (c.length : Nat))):=by
 obtain ⟨r,base,lim,rfl,h3,h4⟩:=h
 exact ⟨rfl,rfl,rfl⟩
theorem IR.row {c : List Int} {o : V} {H : Hp} (h : IR c o H) {r : Nat} (e : AG o = some r) : ∃ base,nth H r = some (.cs 3 1 (onV (iI c)) base false):=by
 obtain ⟨q,base,lim,rfl,h3,h4⟩:=h
 cases e
 exact ⟨base,h3⟩
def Ky (es : List (List I)) : Prop:=∀ e,e ∈ es -> ∃ (x : Int) (z : I),e = [.i .i64 x,z] /\ IsSl z (Dj (dIn z))
structure BldQ (rb rm : Nat) (es : List (List I)) (o : V) (H : Hp) : Prop where
 hb : ∃ base,base <= 1 /\ nth H rb = some (.cs 186 2 [[o,.mp rm]] base false)
 hm : nth H rm = some (mpR ekS evI (knw (es.map dNd) 0))
 hn : L2 es o H
 ok : Ky es
def KpB (rb rm : Nat) (o : V) (H : Hp) (o' : V) (H' : Hp) (nx : V) : Prop:=H.length <= H'.length /\ (∀ r,r < H.length -> r ≠ rb -> r ≠ rm -> AG o ≠ some r -> AG nx ≠ some r -> nth H' r = nth H r) /\ ∀ r,AG o' = some r -> AG o = some r \/ H.length <= r
theorem BldQ.keep {rb rm : Nat} {es : List (List I)} {o : V} {H H' : Hp} (h : BldQ rb rm es o H) (hk : ∀ r,r < H.length -> nth H' r = nth H r) : BldQ rb rm es o H':=by
 obtain ⟨⟨b,hb0,hb⟩,hm,hn,ok⟩:=h
 exact ⟨⟨b,hb0,by rw [hk _ (AI hb)]; exact hb⟩,by rw [hk _ (AI hm)]; exact hm,hn.keep fun r _ hr=>hk r hr,ok⟩
theorem LO : ∀ (c : List Int),(∀ k,k ∈ c -> -1000000000 <= k /\ k <= 1000000000) -> (Ck c).length <= 22 * c.length
 | [],_=>by simp [Ck]
 | k :: r,h=>by
  have h1:=h k (Afh ..)
  have h2:=LO r fun x hx=>h x (AfI _ hx)
  have h3:=FM k (by omega) (by omega)
  have e : Ck (k :: r) = (32 :: AN k) ++ Ck r:=rfl
  rw [e,AeL,Afj,Afj]
  omega
theorem Qs {c : List Int} {i : Nat} {k : Int} (h : c[i]? = some k) : Ck (c.take (i + 1)) = Ck (c.take i) ++ (32 :: AN k):=by
 have : c.take (i + 1) = c.take i ++ [k]:=by rw [List.take_add_one,h]; rfl
 rw [this]
 unfold Ck
 rw [List.flatMap_append]
 simp
theorem ZF (a b : V) : CX 2 [[a,b]] 0 0 1 = some [a]:=rfl
theorem AdF (a b : V) : CX 2 [[a,b]] 0 1 1 = some [b]:=rfl
theorem TO {x : Int} {z : I} {c : List Int} (h : IsSl z (Dj c)) : dNd [.i .i64 x,z] = (x,c):=by
 have : dIn z = c:=by
  rcases h with rfl | ⟨rfl,h0⟩
  ·show (Dj c).map dEn = c
   unfold Dj
   rw [AfW]
   exact List.map_id'' (fun _=>rfl) c
  ·have : c = []:=by simpa [Dj] using h0
   subst this
   rfl
 show (x,dIn z) = _
 rw [this]
set_option maxHeartbeats 4000000 in
theorem Tk {rb rm : Nat} {es : List (List I)} {o : V} {H : Hp} (hB : BldQ rb rm es o H) {l : Int} {c : List Int} {nx : V} (hx : IR c nx H) (hl : -1000000000 <= l /\ l <= 1000000000) (hc : ∀ k,k ∈ c -> -1000000000 <= k /\ k <= 1000000000) (hcl : c.length <= 100) (hel : es.length <= 100000000)
  (Q : V -> Hp -> Prop) (hQ : ∀ es' o' H',BldQ rb rm es' o' H' -> es'.map dNd = (Es (es.map dNd) (l,c)).1 -> KpB rb rm o H o' H' nx -> Q (.m (.i .i64 ((Es (es.map dNd) (l,c)).2 : Nat))) H') :
  Ret G 160 [.pt rb 1 0 0,.m (.i .i64 l),nx] H Q:=by
 have hxn:=hx.nf
 refine AS mono rfl rfl rfl (by simp [hxn.1]) rfl ?_
 obtain ⟨o0,H0,g0,n0,l0,k0⟩:=Aez (H:=H) (s:=[]) (o:=.m (.nl 4)) .nil (by simp) l (by omega) (by omega)
 rw [Afi] at l0
 simp (disch:=omega) [cl g0,Ag n0,Ag hxn.1,hxn.2.2]
 refine (?key : ∀ (i : Nat) (oi : V) (B : List (Nat × List V)) (Hi : Hp),i <= c.length -> LR 5 (bI (AN l ++ Ck (c.take i))) oi Hi Hk -> Kp H (.m (.nl 4)) Hi oi ->
  Run G c160_B0 (S160_0 (.pt rb 1 0 0) (.m (.i .i64 l)) nx oi nx (.m (.i .i64 (c.length : Int))) (.m (.i .i64 (i : Int))) B Hi) _) 0 o0 [] H0 (AeR _) (by simpa [Ck] using l0) k0
 clear g0 n0 l0 k0 o0 H0
 refine BO (fun i : Nat=>c.length - i) fun i ih oi B Hi hi li ki=>?_
 unfold c160_B0
 have hxi : IR c nx Hi:=hx.keep fun r _ hr=>ki.2.1 r hr (by simp [AG])
 have hil:=FM l (by omega) (by omega)
 have htl:=LO (c.take i) fun k hk=>hc k (List.mem_of_mem_take hk)
 have htk : (c.take i).length <= c.length:=by rw [AeZ]; omega
 have hoi:=li.nf
 cases hk : c[i]? with
 | some k =>
  have hlt : i < c.length:=(AeG.1 hk).1
  have hlt' : (i : Int) < c.length:=by omega
  have hkb:=hc k (AeO hk)
  obtain ⟨p,p1,p2,p3⟩:=hxi.toLW.rd (CS hk)
  obtain ⟨o1,H1,ha,n1,l1,k1⟩:=li.pushN (b:=1) (by omega) (ys:=bI [32]) (by simp only [PE,AeL,AfO]; omega) (Kf _)
  rw [PF] at l1
  obtain ⟨o2,H2,g2,n2,l2,k2⟩:=Aez l1 (by simp only [AeL,AfO]; omega) k (by omega) (by omega)
  have e2 : AN l ++ Ck (c.take i) ++ [32] ++ AN k = AN l ++ Ck (c.take (i + 1)):=by rw [Qs hk]; simp
  rw [e2] at l2
  have kk:=fun B=>ih (i + 1) (by omega) o2 B H2 (by omega) l2 ((ki.trans k1).trans k2)
  have hb : onV (bI [32]) = [[V.m (.i .u8 32)]]:=rfl
  rw [hb] at ha
  have wi : wr .i64 ((i : Int) + 1) = ((i + 1 : Nat) : Int):=wr_i64 (by omega) (by omega)
  simp (disch:=omega) [hlt',p1,p3,ha,cl g2,Ag n2,wi]
  exact kk _
 | none =>
  have : i = c.length:=by have:=AeU.1 hk; omega
  subst this
  have hlt' : ¬ (c.length : Int) < c.length:=by omega
  rw [AfM] at li
  have ek : AN l ++ Ck c = Ix (l,c):=rfl
  rw [ek] at li
  have hB2 : BldQ rb rm es o Hi:=hB.keep fun r hr=>ki.2.1 r hr (by simp [AG])
  have hb2 : ∀ (H : Hp) B,LR 5 (bI (Ix (l,c))) oi H Hk -> readX ⟨B,H⟩ .b2s [oi] = some (.m (.s (Ix (l,c)))):=fun H B li=>by rw [SL,li.elems]; simp only [AeM]; rw [Pz _ (Wk _)]; rfl
  have hb3:=fun B=>hb2 Hi B li
  obtain ⟨⟨b,hb0,hb⟩,hm,hn,hok⟩:=id hB2
  have hfind:=Kl (es.map dNd) 0 (l,c)
  cases hf : (es.map dNd).idxOf? (l,c) with
  | some k =>
   have ha : Es (es.map dNd) (l,c) = (es.map dNd,k):=by unfold Es; rw [hf]
   rw [hf] at hfind
   simp only [AfF,AfL] at hfind
   have kk:=hQ es o Hi hB2 (by rw [ha]) ⟨ki.1,fun r hr _ _ _ _=>ki.2.1 r hr (by simp [AG]),fun r hr=>.inl hr⟩
   rw [ha] at kk
   simp (disch:=omega) [gd_and,hlt',hb,hb0,hm,AdF,hb3,hfind]
   exact kk
  | none =>
   have ha : Es (es.map dNd) (l,c) = (es.map dNd ++ [(l,c)],es.length):=by unfold Es; rw [hf]; simp
   rw [hf] at hfind
   simp only [Option.map_none] at hfind
   have hon:=hn.nf
   have d1 : ∀ r,AG nx = some r -> AG o = some r -> False:=fun r e1 e2=>by
    obtain ⟨_,q1⟩:=hxi.row e1
    have q2:=hn.row e2
    rw [q1] at q2
    simp at q2
   have d2 : AG nx ≠ some rb:=fun e1=>by
    obtain ⟨_,q1⟩:=hxi.row e1
    rw [q1] at hb
    simp at hb
   have d3 : AG nx ≠ some rm:=fun e1=>by
    obtain ⟨_,q1⟩:=hxi.row e1
    rw [q1] at hm
    simp [mpR] at hm
   have d4 : AG o ≠ some rb:=fun e1=>by
    have q2:=hn.row e1
    rw [q2] at hb
    simp at hb
   have d5 : AG o ≠ some rm:=fun e1=>by
    have q2:=hn.row e1
    rw [q2] at hm
    simp [mpR] at hm
   have d6 : rb ≠ rm:=fun e1=>by
    subst e1
    rw [hb] at hm
    simp [mpR] at hm
   have d7 : ∀ r,AG oi = some r -> AG nx ≠ some r /\ AG o ≠ some r /\ r ≠ rb /\ r ≠ rm:=fun r e1=>by
    have q:=li.row e1
    refine ⟨fun e2=>?_,fun e2=>?_,fun e2=>?_,fun e2=>?_⟩
    ·obtain ⟨_,q1⟩:=hxi.row e2
     rw [q1] at q
     simp at q
    ·have q2:=hn.row e2
     rw [q2] at q
     simp at q
    ·subst e2
     rw [hb] at q
     simp at q
    ·subst e2
     rw [hm] at q
     simp [mpR] at q
   obtain ⟨z,H2,f1,f2,f3,f4,f5⟩:=hxi.bsf l
   have hn2 : L2 es o H2:=hn.keep fun r hr _=>f5 r fun e=>d1 r e hr
   obtain ⟨o1,H3,g1,g2,g3,g4⟩:=hn2.push (l:=l) f3 hel
   have hb4 : nth H3 rb = some (.cs 186 2 [[o,.mp rm]] b false):=by
    rw [g4.2.1 rb (by rw [f4]; exact AI hb) d4,f5 rb d2]
    exact hb
   have hm4 : nth H3 rm = some (mpR ekS evI (knw (es.map dNd) 0)):=by
    rw [g4.2.1 rm (by rw [f4]; exact AI hm) d5,f5 rm d3]
    exact hm
   have l4 : LR 5 (bI (Ix (l,c))) oi H3 Hk:=li.keepR fun r hr hlt=>by
    obtain ⟨q1,q2,_,_⟩:=d7 r hr
    rw [g4.2.1 r (by rw [f4]; exact hlt) q2,f5 r q1]
   generalize hH4 : H3.set rb (.cs 186 2 [[o1,.mp rm]] 1 false) = H4
   have hb5 : nth H4 rb = some (.cs 186 2 [[o1,.mp rm]] 1 false):=by rw [<- hH4]; exact AO (AI hb4)
   have hm5 : nth H4 rm = some (mpR ekS evI (knw (es.map dNd) 0)):=by rw [<- hH4,Ar d6]; exact hm4
   have l5 : LR 5 (bI (Ix (l,c))) oi H4 Hk:=l4.keepR fun r hr _=>by
    obtain ⟨_,_,q3,_⟩:=d7 r hr
    rw [<- hH4,Ar (AfK q3)]
   have hb6:=fun B=>hb2 H4 B l5
   have l4len : H4.length = H3.length:=by rw [<- hH4]; simp
   have hset4 : AF H3 rb (.cs 186 2 [[o1,.mp rm]] 1 false) = some H4:=by rw [Am _ _ _ (AI hb4),hH4]
   have hset5 : AF H4 rm (mpR ekS evI (ML (knw (es.map dNd) 0) (Ix (l,c)) ((es.length : Nat) : Int))) = some (H4.set rm (mpR ekS evI (ML (knw (es.map dNd) 0) (Ix (l,c)) ((es.length : Nat) : Int)))):=Am _ _ _ (AI hm5)
   have hwr : BD 2 [[o,.mp rm]] 0 0 [o1] = some [[o1,.mp rm]]:=rfl
   have g3n:=g3.nf
   have e1 : (es ++ [[I.i .i64 l,z]]).length = es.length + 1:=by simp
   rw [e1] at g3n
   have wl : wr .i64 (((es.length + 1 : Nat) : Int) - 1) = ((es.length : Nat) : Int):=by rw [wr_i64 (by omega) (by omega)]; omega
   have hd5 : ∀ r,AG o1 = some r -> r ≠ rb /\ r ≠ rm:=fun r e=>by
    have q:=g3.row e
    refine ⟨fun e2=>?_,fun e2=>?_⟩
    ·subst e2
     rw [hb4] at q
     simp at q
    ·subst e2
     rw [hm4] at q
     simp [mpR] at q
   have kk:=hQ (es ++ [[.i .i64 l,z]]) o1 (H4.set rm (mpR ekS evI (ML (knw (es.map dNd) 0) (Ix (l,c)) ((es.length : Nat) : Int)))) ⟨⟨1,AeI _,by rw [Ar (AfK d6)]; exact hb5⟩,by
     rw [AO (AI hm5),List.map_append]
     have:=Aaa hf
     rw [AeX] at this
     rw [this]
     simp [TO f2],g3.keep fun r hr _=>by
     obtain ⟨q1,q2⟩:=hd5 r hr
     rw [Ar (AfK q2),<- hH4,Ar (AfK q1)],fun e he=>by
     rcases AfQ.1 he with h | h
     ·exact hok e h
     ·rw [List.mem_singleton] at h
      subst h
      refine ⟨l,z,rfl,?_⟩
      have:=TO (x:=l) f2
      have : dIn z = c:=(Prod.mk.inj this).2
      rw [this]
      exact f2⟩ (by rw [ha,List.map_append]; simp [TO f2]) ⟨by rw [AfH,l4len]; have:=g4.1; have:=ki.1; omega,fun r hr n1 n2 n3 n4=>by
     rw [Ar (AfK n2),<- hH4,Ar (AfK n1),g4.2.1 r (by rw [f4]; have:=ki.1; omega) n3,f5 r n4]
     exact ki.2.1 r hr (by simp [AG]),fun r hr=>(g4.2.2 r hr).imp_right fun h=>by rw [f4] at h; have:=ki.1; omega⟩
   rw [ha] at kk
   have hb7 : nth (H4.set rm (mpR ekS evI (ML (knw (es.map dNd) 0) (Ix (l,c)) ((es.length : Nat) : Int)))) rb = some (.cs 186 2 [[o1,.mp rm]] 1 false):=by rw [Ar (AfK d6)]; exact hb5
   clear hB2 hQ ih d1 d2 d3 d4 d5 d6 d7 hd5
   obtain ⟨rx,bx,limx,rfl,hrx,hbx⟩:=id hxi
   simp (disch:=omega) [gd_and,wr_i64,hlt',hb,hb0,hm,ZF,AdF,hb3,hfind,Bo,f1,g1,hb4,hset4,hwr,g3n.2.1,g3n.2.2.1,hb5,hm5,hb6,hset5,g3n.2.2.2,hb7]
   exact kk
end Go.Mx.Tryz
