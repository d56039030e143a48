/- Maps; decimal numerals. Nothing here speaks of a program. -/
import Derived.Test.YtgljapjkjbmicaaGreatDoorWa
import Derived.Lib.ItoaMem
set_option linter.unusedSimpArgs false
set_option linter.unusedVariables false
set_option linter.unusedSectionVars false
/- Maps: rows of pairs as finite maps. Nothing here speaks of a program. -/
namespace Go.Mx
section
variable {α β : Type} [DecidableEq α]
def Dc : List (α × β) -> α -> Option β
 | [],_=>none
 | (a,b) :: r,k=>if a = k then some b else Dc r k
def NU : List (α × β) -> α -> β -> List (α × β)
 | [],k,v=>[(k,v)]
 | (a,b) :: r,k,v=>if a = k then (k,v) :: r else (a,b) :: NU r k v
def Up : List (α × β) -> α -> List (α × β)
 | [],_=>[]
 | (a,b) :: r,k=>if a = k then r else (a,b) :: Up r k
theorem Ml (m : List (α × β)) (k : α) (v : β) (h : k ∉ m.map Prod.fst) : NU m k v = m ++ [(k,v)]:=by
 induction m with
 | nil=>rfl
 | cons p r ih =>
  obtain ⟨a,b⟩:=p
  simp only [Abr,Abd,not_or] at h
  simp only [NU,AaL (fun e=>h.1 (Eq.symm e)),ih h.2]
  rfl
def mpR (ek : α -> I) (ev : β -> V) (m : List (α × β)) : Row:=.mp (m.map fun p=>(ek p.1,ev p.2)) false
variable {ek : α -> I} {ev : β -> V} {kt : KT}
theorem PY (hk : ∀ a b,CO kt (ek a) (ek b) = some (decide (a = b))) (m : List (α × β)) (k : α) : IB kt (ek k) (m.map fun p=>(ek p.1,ev p.2)) = some ((Dc m k).map ev):=by
 induction m with
 | nil=>rfl
 | cons p r ih =>
  obtain ⟨a,b⟩:=p
  simp only [Abr,IB,hk,AaR,Dc]
  by_cases e : k = a
  ·subst e; simp
  ·rw [AaO e,AaL (fun h=>e h.symm)]
   exact ih
theorem Sd (hk : ∀ a b,CO kt (ek a) (ek b) = some (decide (a = b))) (m : List (α × β)) (k : α) (v : β) : Se kt (ek k) (ev v) (m.map fun p=>(ek p.1,ev p.2)) = some ((NU m k v).map fun p=>(ek p.1,ev p.2)):=by
 induction m with
 | nil=>rfl
 | cons p r ih =>
  obtain ⟨a,b⟩:=p
  simp only [Abr,Se,hk,AaR,NU]
  by_cases e : k = a
  ·subst e; simp
  ·rw [AaO e,AaL (fun h=>e h.symm),ih]
   rfl
theorem Th (hk : ∀ a b,CO kt (ek a) (ek b) = some (decide (a = b))) (m : List (α × β)) (k : α) : Ti kt (ek k) (m.map fun p=>(ek p.1,ev p.2)) = some ((Up m k).map fun p=>(ek p.1,ev p.2)):=by
 induction m with
 | nil=>rfl
 | cons p r ih =>
  obtain ⟨a,b⟩:=p
  simp only [Abr,Ti,hk,AaR,Up]
  by_cases e : k = a
  ·subst e; simp
  ·rw [AaO e,AaL (fun h=>e h.symm),ih]
   rfl
end
/- What the operations do to a row. -/
def VZ (kt : KT) (row : Row) (k : I) (x : V) : Option Row:=match row with
 | .mp es false=>gd (AE x && ED kt k) ((Se kt k x es).map fun es'=>.mp es' false)
 | _=>none
def YB (kt : KT) (row : Row) (k : I) : Option Row:=match row with
 | .mp es false=>(gd (ED kt k) (Ti kt k es)).map fun es'=>.mp es' false
 | _=>none
def GN (kt : KT) (zero : List V) (ag ok : Bool) (row : Row) (k : I) : Option V:=match row with
 | .mp es _=>(gd (ED kt k) (IB kt k es)).bind fun q=>We zero ag ok q
 | _=>none
@[simp] theorem YF (c : Bp) (M : Mem) : Am c M .mkm [] = some (.mp M.H.length,{ M with H:=M.H ++ [.mp [] false] }):=rfl
@[simp] theorem YE (c : Bp) (M : Mem) (k : IntKind) (n : Int) : Am c M .mkm [.m (.i k n)] = some (.mp M.H.length,{ M with H:=M.H ++ [.mp [] false] }):=rfl
@[simp] theorem loud_mup (c : Bp) (M : Mem) (kt : KT) (r : Nat) (k : I) (x : V) : Am c M (.mup kt) [.mp r,.m k,x] = (nth M.H r).bind fun row=>(VZ kt row k x).bind fun row'=>(Bw M.H r row').bind fun H'=>some (.un,{ M with H:=H' }):=by
 simp only [Am]
 congr 1
 funext row
 cases row with
 | cs=>rfl
 | lp=>rfl
 | mp es fz =>
  cases fz with
  | true=>rfl
  | false =>
   simp only [VZ,Ur,AaR]
   cases (AE x && ED kt k) with
   | false=>rfl
   | true=>simp only [gd]; cases Se kt k x es <;> rfl
@[simp] theorem loud_mdl (c : Bp) (M : Mem) (kt : KT) (r : Nat) (k : I) : Am c M (.mdl kt) [.mp r,.m k] = (nth M.H r).bind fun row=>(YB kt row k).bind fun row'=>(Bw M.H r row').bind fun H'=>some (.tu [],{ M with H:=H' }):=by
 simp only [Am]
 congr 1
 funext row
 cases row with
 | cs=>rfl
 | lp=>rfl
 | mp es fz =>
  cases fz with
  | true=>rfl
  | false =>
   simp only [YB,Ur,AaR]
   cases (gd (ED kt k) (Ti kt k es)) <;> rfl
@[simp] theorem rx_lkp (M : Mem) (kt : KT) (z : List V) (ag ok : Bool) (r : Nat) (k : I) : readX M (.lkp kt z ag ok) [.mp r,.m k] = (nth M.H r).bind fun row=>GN kt z ag ok row k:=by
 simp only [readX,mapOf,Ur]
 cases nth M.H r with
 | none=>rfl
 | some row=>cases row <;> rfl
@[simp] theorem okT_t (x : V) (b : Bool) : okT true x b = .tu [x,.m (.b b)]:=rfl
@[simp] theorem okT_f (x : V) (b : Bool) : okT false x b = x:=rfl
section
variable {α β : Type} [DecidableEq α] {ek : α -> I} {ev : β -> V} {kt : KT}
theorem GL (hk : ∀ a b,CO kt (ek a) (ek b) = some (decide (a = b))) (k : α) : ED kt (ek k) = true:=by simp [ED,hk]
theorem Mk (hk : ∀ a b,CO kt (ek a) (ek b) = some (decide (a = b))) (hv : ∀ v,AE (ev v) = true) (m : List (α × β)) (k : α) (v : β) : VZ kt (mpR ek ev m) (ek k) (ev v) = some (mpR ek ev (NU m k v)):=by
 simp only [VZ,mpR,GL hk,hv,Sd hk,Bool.and_self,gd,AbE]
theorem SQ (hk : ∀ a b,CO kt (ek a) (ek b) = some (decide (a = b))) (m : List (α × β)) (k : α) : YB kt (mpR ek ev m) (ek k) = some (mpR ek ev (Up m k)):=by
 simp only [YB,mpR,GL hk,Th hk,gd,AbE]
theorem HM (hk : ∀ a b,CO kt (ek a) (ek b) = some (decide (a = b))) {z : List V} {ag ok : Bool} {z0 : β} (hz : CD ag z = some (ev z0)) (m : List (α × β)) (k : α) : GN kt z ag ok (mpR ek ev m) (ek k) = some (okT ok (ev ((Dc m k).getD z0)) (Dc m k).isSome):=by
 simp only [GN,mpR,GL hk,PY hk,gd,AaR]
 cases Dc m k with
 | none=>simp [We,hz]
 | some v=>rfl
omit [DecidableEq α] in
omit [DecidableEq α] in
end
/- Keys: positions (two ints), ints, texts. Values: ints, bools. -/
def ekP (p : Int × Int) : I:=.ag [.i .i64 p.1,.i .i64 p.2]
def evI (x : Int) : V:=.m (.i .i64 x)
def evB (x : Bool) : V:=.m (.b x)
theorem hkP (a b : Int × Int) : CO ⟨true,[1,1]⟩ (ekP a) (ekP b) = some (decide (a = b)):=by
 simp only [CO,ekP,Qe,eqC_i,Tg,AaR,AaG]
 obtain ⟨a1,a2⟩:=a
 obtain ⟨b1,b2⟩:=b
 rw [Abu]
 simp
abbrev mPI:=mpR ekP evI
abbrev mPB:=mpR ekP evB
@[simp] theorem mPI_up (m : List ((Int × Int) × Int)) (x y s : Int) : VZ ⟨true,[1,1]⟩ (mpR ekP evI m) (.ag [.i .i64 x,.i .i64 y]) (.m (.i .i64 s)) = some (mpR ekP evI (NU m (x,y) s)):=Mk hkP (fun _=>rfl) m (x,y) s
@[simp] theorem YD (m : List ((Int × Int) × Bool)) (x y : Int) (s : Bool) : VZ ⟨true,[1,1]⟩ (mpR ekP evB m) (.ag [.i .i64 x,.i .i64 y]) (.m (.b s)) = some (mpR ekP evB (NU m (x,y) s)):=Mk hkP (fun _=>rfl) m (x,y) s
@[simp] theorem mP_del {β : Type} (ev : β -> V) (m : List ((Int × Int) × β)) (x y : Int) : YB ⟨true,[1,1]⟩ (mpR ekP ev m) (.ag [.i .i64 x,.i .i64 y]) = some (mpR ekP ev (Up m (x,y))):=SQ hkP m (x,y)
@[simp] theorem Wc (m : List ((Int × Int) × Int)) (x y : Int) (ok : Bool) : GN ⟨true,[1,1]⟩ [.m (.i .i64 0)] false ok (mpR ekP evI m) (.ag [.i .i64 x,.i .i64 y]) = some (okT ok (.m (.i .i64 ((Dc m (x,y)).getD 0))) (Dc m (x,y)).isSome):=HM (z0:=0) hkP rfl m (x,y)
@[simp] theorem Wd (m : List ((Int × Int) × Bool)) (x y : Int) (ok : Bool) : GN ⟨true,[1,1]⟩ [.m (.b false)] false ok (mpR ekP evB m) (.ag [.i .i64 x,.i .i64 y]) = some (okT ok (.m (.b ((Dc m (x,y)).getD false))) (Dc m (x,y)).isSome):=HM (z0:=false) hkP rfl m (x,y)
end Go.Mx
/- Decimal numerals: what the library's own conversion lays into memory. Nothing here speaks of a program. -/
namespace Go.Mx
open Go.Lib
theorem PI {α : Type} {l : List α} {n m : Nat} (h : n = m) : nth l n = nth l m:=by rw [h]
theorem JZ (x : Nat) (h0 : x ≠ 0) (h : x < 2 ^ 64) : 1 <= bitLen x /\ 2 ^ (bitLen x - 1) <= x /\ x < 2 ^ bitLen x:=bitLenAux_bounds 64 x h h0
theorem JY {x a : Nat} (h1 : 2 ^ a <= x) (h2 : x < 2 ^ (a + 1)) (h : x < 2 ^ 64) : bitLen x = a + 1:=by
 have h0 : x ≠ 0:=by have:=Nat.two_pow_pos a; omega
 obtain ⟨b1,b2,b3⟩:=JZ x h0 h
 have c1 : 2 ^ a < 2 ^ bitLen x:=by omega
 have c2 : 2 ^ (bitLen x - 1) < 2 ^ (a + 1):=by omega
 have d1:=(Nat.pow_lt_pow_iff_right (a:=2) (by decide)).1 c1
 have d2:=(Nat.pow_lt_pow_iff_right (a:=2) (by decide)).1 c2
 omega
theorem Zr {x k : Nat} (h1 : 2 ^ k <= x) (h : x < 2 ^ 64) : bitLen x = k + bitLen (x / 2 ^ k):=by
 have hp:=Nat.two_pow_pos k
 have h0 : x / 2 ^ k ≠ 0:=by have:=Nat.div_pos h1 hp; omega
 have hx : x / 2 ^ k <= x:=Nat.div_le_self _ _
 obtain ⟨b1,b2,b3⟩:=JZ (x / 2 ^ k) h0 (by omega)
 generalize hL : bitLen (x / 2 ^ k) = L at b1 b2 b3 ⊢
 have e : bitLen x = (L - 1 + k) + 1:=by
  refine JY ?_ ?_ h
  ·rw [Nat.pow_add]
   exact (Nat.le_div_iff_mul_le hp).1 b2
  ·rw [show L - 1 + k + 1 = L + k by omega,Nat.pow_add]
   exact (Nat.div_lt_iff_lt_mul hp).1 b3
 omega
theorem bl_8 {x : Nat} (h : x < 256) : bitLen x = bitLenAux 8 x:=by
 by_cases h0 : x = 0
 ·subst h0; rfl
 ·obtain ⟨b1,b2,b3⟩:=bitLenAux_bounds 8 x h h0
  have:=JY (x:=x) (a:=bitLenAux 8 x - 1) b2 (by rw [show bitLenAux 8 x - 1 + 1 = bitLenAux 8 x by omega]; exact b3) (by omega)
  omega
def encB (x : UInt8) : List V:=[.m (.i .u8 (x.toNat : Int))]
def rowP (pre : List (List V)) (d : Array UInt8) (post : List (List V)) : List (List V):=pre ++ (d.toList.map encB ++ post)
@[simp] theorem rowP_len (pre : List (List V)) (d : Array UInt8) (post : List (List V)) : (rowP pre d post).length = pre.length + (d.size + post.length):=by simp [rowP]
theorem AM {α : Type} (A : List α) (x : α) (B : List α) : nth (A ++ x :: B) A.length = some x:=by rw [Bb]; simp
theorem Aw {α : Type} (A : List α) (x y : α) (B : List α) : Bw (A ++ x :: B) A.length y = some (A ++ y :: B):=by
 rw [BX _ _ _ (by simp)]
 congr 1
 rw [List.set_append_right _ _ (by omega)]
 simp
theorem Ba {G : Cfg} {f : Nat} {vs : List V} {H : Hp} {Q : V -> Hp -> Prop} (h : Ret G f vs H Q) : ∃ v H',Gives G f vs H v H' /\ Q v H':=by
 obtain ⟨n,v,H',h1,h2⟩:=h
 exact ⟨v,H',⟨n,h1⟩,h2⟩
theorem Cv {G : Cfg} {f : Nat} {is : List I} {vs : List V} {H H0 H2 : Hp} {v : V} (hp : G.prim f = none) (hs : G.sh f = false) (h : Gives G f (is.map .m) H0 v H0) (hv : Ai (view 20 H) vs = some is)
  (hr : vs.flatMap DG ≠ []) (hfl : Hy v = false) (hsh : vs.all CE = true) (hfz : AO (vs.flatMap DG) H = some H2) : Gives G f vs H v H2:=by
 obtain ⟨n,h⟩:=h
 cases n with
 | zero=>simp [AQ] at h
 | succ n =>
  refine ⟨n + 1,?_⟩
  simp only [AQ,hp,hs] at h ⊢
  cases hfn : G.fn f with
  | none =>
   rw [hfn] at h
   simp only [Ah] at h
   obtain ⟨_,h⟩:=h
   cases is <;> simp [HE] at h
  | some fn =>
  rw [hfn] at h
  simp only at h ⊢
  have hm : ∀ (l : List I),Ai (view 20 H0) (l.map V.m) = some l:=by
   intro l
   induction l with
   | nil=>rfl
   | cons a r ih=>simp only [Abr,Ai,LF,ih]; rfl
  have hz : (is.map V.m).flatMap DG = []:=by
   induction is with
   | nil=>rfl
   | cons a r _=>simp [DG,Fy]
  unfold EF at h ⊢
  simp only [hm,hz,AaF] at h
  obtain ⟨is',he,⟨v1,H1⟩,hev,r,hr1,h2⟩:=h
  cases he
  have hrv : r = v:=by
   cases hsh : (is.map V.m).all CE with
   | false=>rw [hsh] at h2; simp at h2
   | true=>rw [hsh] at h2; simp at h2; exact h2
  subst hrv
  simp only [hv,AaR,hev,hr1]
  cases hl : vs.flatMap DG with
  | nil=>exact absurd hl hr
  | cons a b =>
   rw [hl] at hfz
   simp [hfl,hsh,hfz]
end Go.Mx
