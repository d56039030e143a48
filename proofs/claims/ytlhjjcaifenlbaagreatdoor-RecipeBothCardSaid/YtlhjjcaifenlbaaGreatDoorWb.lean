/- Maps; decimal numerals. Nothing here speaks of a program. -/
import Derived.Test.YtlhjjcaifenlbaaGreatDoorWa
import Derived.Lib.ItoaMem
set_option linter.unusedSimpArgs false
set_option linter.unusedVariables false
set_option linter.unusedSectionVars false
/- Maps: rows of pairs as finite maps. Nothing here speaks of a program. -/
namespace Go.Mx
section
variable {α β : Type} [DecidableEq α]
def Dj : List (α × β) -> α -> Option β
 | [],_=>none
 | (a,b) :: r,k=>if a = k then some b else Dj r k
def QW : List (α × β) -> α -> β -> List (α × β)
 | [],k,v=>[(k,v)]
 | (a,b) :: r,k,v=>if a = k then (k,v) :: r else (a,b) :: QW r k v
def AaX : List (α × β) -> α -> List (α × β)
 | [],_=>[]
 | (a,b) :: r,k=>if a = k then r else (a,b) :: AaX r k
theorem Ny (m : List (α × β)) (k : α) (v : β) (h : k ∉ m.map Prod.fst) : QW m k v = m ++ [(k,v)]:=by
 induction m with
 | nil=>rfl
 | cons p r ih =>
  obtain ⟨a,b⟩:=p
  simp only [Aee,AdP,not_or] at h
  simp only [QW,Ads (fun e=>h.1 (Eq.symm e)),ih h.2]
  rfl
def mpR (ek : α -> I) (ev : β -> V) (m : List (α × β)) : Row:=.mp (m.map fun p=>(ek p.1,ev p.2)) false
variable {ek : α -> I} {ev : β -> V} {kt : KT}
theorem Ro (hk : ∀ a b,CC kt (ek a) (ek b) = some (decide (a = b))) (m : List (α × β)) (k : α) : JD kt (ek k) (m.map fun p=>(ek p.1,ev p.2)) = some ((Dj m k).map ev):=by
 induction m with
 | nil=>rfl
 | cons p r ih =>
  obtain ⟨a,b⟩:=p
  simp only [Aee,JD,hk,Adx,Dj]
  by_cases e : k = a
  ·subst e; simp
  ·rw [AdB e,Ads (fun h=>e h.symm)]
   exact ih
theorem TH (hk : ∀ a b,CC kt (ek a) (ek b) = some (decide (a = b))) (m : List (α × β)) (k : α) (v : β) : TI kt (ek k) (ev v) (m.map fun p=>(ek p.1,ev p.2)) = some ((QW m k v).map fun p=>(ek p.1,ev p.2)):=by
 induction m with
 | nil=>rfl
 | cons p r ih =>
  obtain ⟨a,b⟩:=p
  simp only [Aee,TI,hk,Adx,QW]
  by_cases e : k = a
  ·subst e; simp
  ·rw [AdB e,Ads (fun h=>e h.symm),ih]
   rfl
theorem UN (hk : ∀ a b,CC kt (ek a) (ek b) = some (decide (a = b))) (m : List (α × β)) (k : α) : AbH kt (ek k) (m.map fun p=>(ek p.1,ev p.2)) = some ((AaX m k).map fun p=>(ek p.1,ev p.2)):=by
 induction m with
 | nil=>rfl
 | cons p r ih =>
  obtain ⟨a,b⟩:=p
  simp only [Aee,AbH,hk,Adx,AaX]
  by_cases e : k = a
  ·subst e; simp
  ·rw [AdB e,Ads (fun h=>e h.symm),ih]
   rfl
end
/- What the operations do to a row. -/
def Us (kt : KT) (row : Row) (k : I) (x : V) : Option Row:=match row with
 | .mp es false=>gd (AA x && Ft kt k) ((TI kt k x es).map fun es'=>.mp es' false)
 | _=>none
def mdlR (kt : KT) (row : Row) (k : I) : Option Row:=match row with
 | .mp es false=>(gd (Ft kt k) (AbH kt k es)).map fun es'=>.mp es' false
 | _=>none
def Fw (kt : KT) (zero : List V) (ag ok : Bool) (row : Row) (k : I) : Option V:=match row with
 | .mp es _=>(gd (Ft kt k) (JD kt k es)).bind fun q=>XQ zero ag ok q
 | _=>none
@[simp] theorem Abc (c : Bf) (M : Mem) : Am c M .mkm [] = some (.mp M.H.length,{ M with H:=M.H ++ [.mp [] false] }):=rfl
@[simp] theorem Abb (c : Bf) (M : Mem) (k : IntKind) (n : Int) : Am c M .mkm [.m (.i k n)] = some (.mp M.H.length,{ M with H:=M.H ++ [.mp [] false] }):=rfl
@[simp] theorem loud_mup (c : Bf) (M : Mem) (kt : KT) (r : Nat) (k : I) (x : V) : Am c M (.mup kt) [.mp r,.m k,x] = (nth M.H r).bind fun row=>(Us kt row k x).bind fun row'=>(Bk M.H r row').bind fun H'=>some (.un,{ M with H:=H' }):=by
 simp only [Am]
 congr 1
 funext row
 cases row with
 | cs=>rfl
 | lp=>rfl
 | mp es fz =>
  cases fz with
  | true=>rfl
  | false =>
   simp only [Us,XT,Adx]
   cases (AA x && Ft kt k) with
   | false=>rfl
   | true=>simp only [gd]; cases TI kt k x es <;> rfl
@[simp] theorem rx_lkp (M : Mem) (kt : KT) (z : List V) (ag ok : Bool) (r : Nat) (k : I) : readX M (.lkp kt z ag ok) [.mp r,.m k] = (nth M.H r).bind fun row=>Fw kt z ag ok row k:=by
 simp only [readX,mapOf,XT]
 cases nth M.H r with
 | none=>rfl
 | some row=>cases row <;> rfl
@[simp] theorem okT_t (x : V) (b : Bool) : okT true x b = .tu [x,.m (.b b)]:=rfl
@[simp] theorem okT_f (x : V) (b : Bool) : okT false x b = x:=rfl
section
variable {α β : Type} [DecidableEq α] {ek : α -> I} {ev : β -> V} {kt : KT}
theorem HB (hk : ∀ a b,CC kt (ek a) (ek b) = some (decide (a = b))) (k : α) : Ft kt (ek k) = true:=by simp [Ft,hk]
theorem GP (hk : ∀ a b,CC kt (ek a) (ek b) = some (decide (a = b))) (hv : ∀ v,AA (ev v) = true) (m : List (α × β)) (k : α) (v : β) : Us kt (mpR ek ev m) (ek k) (ev v) = some (mpR ek ev (QW m k v)):=by
 simp only [Us,mpR,HB hk,hv,TH hk,Bool.and_self,gd,Aeq]
theorem Uu (hk : ∀ a b,CC kt (ek a) (ek b) = some (decide (a = b))) (m : List (α × β)) (k : α) : mdlR kt (mpR ek ev m) (ek k) = some (mpR ek ev (AaX m k)):=by
 simp only [mdlR,mpR,HB hk,UN hk,gd,Aeq]
theorem EE (hk : ∀ a b,CC kt (ek a) (ek b) = some (decide (a = b))) {z : List V} {ag ok : Bool} {z0 : β} (hz : Dp ag z = some (ev z0)) (m : List (α × β)) (k : α) : Fw kt z ag ok (mpR ek ev m) (ek k) = some (okT ok (ev ((Dj m k).getD z0)) (Dj m k).isSome):=by
 simp only [Fw,mpR,HB hk,Ro hk,gd,Adx]
 cases Dj m k with
 | none=>simp [XQ,hz]
 | some v=>rfl
omit [DecidableEq α] in
omit [DecidableEq α] in
end
/- Keys: positions (two ints), ints, texts. Values: ints, bools. -/
def ekP (p : Int × Int) : I:=.ag [.i .i64 p.1,.i .i64 p.2]
def ekI (x : Int) : I:=.i .i64 x
def ekS (x : List Nat) : I:=.s x
def evI (x : Int) : V:=.m (.i .i64 x)
def evB (x : Bool) : V:=.m (.b x)
theorem hkP (a b : Int × Int) : CC ⟨true,[1,1]⟩ (ekP a) (ekP b) = some (decide (a = b)):=by
 simp only [CC,ekP,Rs,AbD,UL,Adx,Ado]
 obtain ⟨a1,a2⟩:=a
 obtain ⟨b1,b2⟩:=b
 rw [Aec]
 simp
theorem hkI (a b : Int) : CC ⟨false,[1]⟩ (ekI a) (ekI b) = some (decide (a = b)):=by
 simp only [CC,ekI,AbD]
theorem hkS (a b : List Nat) : CC ⟨false,[2]⟩ (ekS a) (ekS b) = some (decide (a = b)):=by
 simp only [CC,ekS,eqC_s]
abbrev mPI:=mpR ekP evI
abbrev mPB:=mpR ekP evB
@[simp] theorem mPI_up (m : List ((Int × Int) × Int)) (x y s : Int) : Us ⟨true,[1,1]⟩ (mpR ekP evI m) (.ag [.i .i64 x,.i .i64 y]) (.m (.i .i64 s)) = some (mpR ekP evI (QW m (x,y) s)):=GP hkP (fun _=>rfl) m (x,y) s
@[simp] theorem AaZ (m : List ((Int × Int) × Bool)) (x y : Int) (s : Bool) : Us ⟨true,[1,1]⟩ (mpR ekP evB m) (.ag [.i .i64 x,.i .i64 y]) (.m (.b s)) = some (mpR ekP evB (QW m (x,y) s)):=GP hkP (fun _=>rfl) m (x,y) s
@[simp] theorem mIB_up (m : List (Int × Bool)) (x : Int) (s : Bool) : Us ⟨false,[1]⟩ (mpR ekI evB m) (.i .i64 x) (.m (.b s)) = some (mpR ekI evB (QW m x s)):=GP hkI (fun _=>rfl) m x s
@[simp] theorem mSI_up (m : List (List Nat × Int)) (x : List Nat) (s : Int) : Us ⟨false,[2]⟩ (mpR ekS evI m) (.s x) (.m (.i .i64 s)) = some (mpR ekS evI (QW m x s)):=GP hkS (fun _=>rfl) m x s
@[simp] theorem mP_del {β : Type} (ev : β -> V) (m : List ((Int × Int) × β)) (x y : Int) : mdlR ⟨true,[1,1]⟩ (mpR ekP ev m) (.ag [.i .i64 x,.i .i64 y]) = some (mpR ekP ev (AaX m (x,y))):=Uu hkP m (x,y)
@[simp] theorem XO (m : List ((Int × Int) × Int)) (x y : Int) (ok : Bool) : Fw ⟨true,[1,1]⟩ [.m (.i .i64 0)] false ok (mpR ekP evI m) (.ag [.i .i64 x,.i .i64 y]) = some (okT ok (.m (.i .i64 ((Dj m (x,y)).getD 0))) (Dj m (x,y)).isSome):=EE (z0:=0) hkP rfl m (x,y)
@[simp] theorem XP (m : List ((Int × Int) × Bool)) (x y : Int) (ok : Bool) : Fw ⟨true,[1,1]⟩ [.m (.b false)] false ok (mpR ekP evB m) (.ag [.i .i64 x,.i .i64 y]) = some (okT ok (.m (.b ((Dj m (x,y)).getD false))) (Dj m (x,y)).isSome):=EE (z0:=false) hkP rfl m (x,y)
@[simp] theorem mIB_get (m : List (Int × Bool)) (x : Int) (ok : Bool) : Fw ⟨false,[1]⟩ [.m (.b false)] false ok (mpR ekI evB m) (.i .i64 x) = some (okT ok (.m (.b ((Dj m x).getD false))) (Dj m x).isSome):=EE (z0:=false) hkI rfl m x
@[simp] theorem mSI_get (m : List (List Nat × Int)) (x : List Nat) (ok : Bool) : Fw ⟨false,[2]⟩ [.m (.i .i64 0)] false ok (mpR ekS evI m) (.s x) = some (okT ok (.m (.i .i64 ((Dj m x).getD 0))) (Dj m x).isSome):=EE (z0:=0) hkS rfl m x
end Go.Mx
/- Decimal numerals: what the library's own conversion lays into memory. Nothing here speaks of a program. -/
namespace Go.Mx
open Go.Lib
theorem QS {α : Type} {l : List α} {n m : Nat} (h : n = m) : nth l n = nth l m:=by rw [h]
theorem Lf (x : Nat) (h0 : x ≠ 0) (h : x < 2 ^ 64) : 1 <= bitLen x /\ 2 ^ (bitLen x - 1) <= x /\ x < 2 ^ bitLen x:=bitLenAux_bounds 64 x h h0
theorem Ld {x a : Nat} (h1 : 2 ^ a <= x) (h2 : x < 2 ^ (a + 1)) (h : x < 2 ^ 64) : bitLen x = a + 1:=by
 have h0 : x ≠ 0:=by have:=Nat.two_pow_pos a; omega
 obtain ⟨b1,b2,b3⟩:=Lf x h0 h
 have c1 : 2 ^ a < 2 ^ bitLen x:=by omega
 have c2 : 2 ^ (bitLen x - 1) < 2 ^ (a + 1):=by omega
 have d1:=(Nat.pow_lt_pow_iff_right (a:=2) (by decide)).1 c1
 have d2:=(Nat.pow_lt_pow_iff_right (a:=2) (by decide)).1 c2
 omega
theorem AbT {x k : Nat} (h1 : 2 ^ k <= x) (h : x < 2 ^ 64) : bitLen x = k + bitLen (x / 2 ^ k):=by
 have hp:=Nat.two_pow_pos k
 have h0 : x / 2 ^ k ≠ 0:=by have:=Nat.div_pos h1 hp; omega
 have hx : x / 2 ^ k <= x:=Nat.div_le_self _ _
 obtain ⟨b1,b2,b3⟩:=Lf (x / 2 ^ k) h0 (by omega)
 generalize hL : bitLen (x / 2 ^ k) = L at b1 b2 b3 ⊢
 have e : bitLen x = (L - 1 + k) + 1:=by
  refine Ld ?_ ?_ h
  ·rw [Nat.pow_add]
   exact (Nat.le_div_iff_mul_le hp).1 b2
  ·rw [show L - 1 + k + 1 = L + k by omega,Nat.pow_add]
   exact (Nat.div_lt_iff_lt_mul hp).1 b3
 omega
theorem bl_8 {x : Nat} (h : x < 256) : bitLen x = bitLenAux 8 x:=by
 by_cases h0 : x = 0
 ·subst h0; rfl
 ·obtain ⟨b1,b2,b3⟩:=bitLenAux_bounds 8 x h h0
  have:=Ld (x:=x) (a:=bitLenAux 8 x - 1) b2 (by rw [show bitLenAux 8 x - 1 + 1 = bitLenAux 8 x by omega]; exact b3) (by omega)
  omega
def encB (x : UInt8) : List V:=[.m (.i .u8 (x.toNat : Int))]
def rowP (pre : List (List V)) (d : Array UInt8) (post : List (List V)) : List (List V):=pre ++ (d.toList.map encB ++ post)
@[simp] theorem rowP_len (pre : List (List V)) (d : Array UInt8) (post : List (List V)) : (rowP pre d post).length = pre.length + (d.size + post.length):=by simp [rowP]
theorem AR {α : Type} (A : List α) (x : α) (B : List α) : nth (A ++ x :: B) A.length = some x:=by rw [AS]; simp
theorem AB {α : Type} (A : List α) (x y : α) (B : List α) : Bk (A ++ x :: B) A.length y = some (A ++ y :: B):=by
 rw [BA _ _ _ (by simp)]
 congr 1
 rw [List.set_append_right _ _ (by omega)]
 simp
theorem AI {G : Cfg} {f : Nat} {vs : List V} {H : Hp} {Q : V -> Hp -> Prop} (h : Ret G f vs H Q) : ∃ v H',Gives G f vs H v H' /\ Q v H':=by
 obtain ⟨n,v,H',h1,h2⟩:=h
 exact ⟨v,H',⟨n,h1⟩,h2⟩
theorem KY (H : Hp) (r ver esz st len : Nat) (lim : Bool) : elems H (.sl r ver esz st len lim) = (nth H r).bind fun row=>match row with
  | .cs _ esz' es base _=>gd (Nat.ble base ver && Nat.beq esz esz') (some ((es.drop st).take len))
  | _=>none:=rfl
theorem CM {G : Cfg} {f : Nat} {is : List I} {vs : List V} {H H0 H2 : Hp} {v : V} (hp : G.prim f = none) (hs : G.sh f = false) (h : Gives G f (is.map .m) H0 v H0) (hv : Ah (view 20 H) vs = some is)
  (hr : vs.flatMap DH ≠ []) (hfl : Fy v = false) (hsh : vs.all Bn = true) (hfz : AV (vs.flatMap DH) H = some H2) : Gives G f vs H v H2:=by
 obtain ⟨n,h⟩:=h
 cases n with
 | zero=>simp [Br] at h
 | succ n =>
  refine ⟨n + 1,?_⟩
  simp only [Br,hp,hs] at h ⊢
  cases hfn : G.fn f with
  | none =>
   rw [hfn] at h
   simp only [Ag] at h
   obtain ⟨_,h⟩:=h
   cases is <;> simp [DU] at h
  | some fn =>
  rw [hfn] at h
  simp only at h ⊢
  have hm : ∀ (l : List I),Ah (view 20 H0) (l.map V.m) = some l:=by
   intro l
   induction l with
   | nil=>rfl
   | cons a r ih=>simp only [Aee,Ah,MU,ih]; rfl
  have hz : (is.map V.m).flatMap DH = []:=by
   induction is with
   | nil=>rfl
   | cons a r _=>simp [DH,GH]
  unfold DZ at h ⊢
  simp only [hm,hz,Adn] at h
  obtain ⟨is',he,⟨v1,H1⟩,hev,r,hr1,h2⟩:=h
  cases he
  have hrv : r = v:=by
   cases hsh : (is.map V.m).all Bn with
   | false=>rw [hsh] at h2; simp at h2
   | true=>rw [hsh] at h2; simp at h2; exact h2
  subst hrv
  simp only [hv,Adx,hev,hr1]
  cases hl : vs.flatMap DH with
  | nil=>exact absurd hl hr
  | cons a b =>
   rw [hl] at hfz
   simp [hfl,hsh,hfz]
end Go.Mx
