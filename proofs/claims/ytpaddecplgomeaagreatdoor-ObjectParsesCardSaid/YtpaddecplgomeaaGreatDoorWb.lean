/- Maps; decimal numerals. Nothing here speaks of a program. -/
import Derived.Test.YtpaddecplgomeaaGreatDoorWa
import Derived.Lib.ItoaMem
set_option linter.unusedSimpArgs false
set_option linter.unusedVariables false
set_option linter.unusedSectionVars false
/- Maps: rows of pairs as finite maps. Nothing here speaks of a program. -/
namespace Go.Mx
section
variable {α β : Type} [DecidableEq α]
def Df : List (α × β) -> α -> Option β
 | [],_=>none
 | (a,b) :: r,k=>if a = k then some b else Df r k
def ML : List (α × β) -> α -> β -> List (α × β)
 | [],k,v=>[(k,v)]
 | (a,b) :: r,k,v=>if a = k then (k,v) :: r else (a,b) :: ML r k v
def AbT : List (α × β) -> α -> List (α × β)
 | [],_=>[]
 | (a,b) :: r,k=>if a = k then r else (a,b) :: AbT r k
theorem UV (m : List (α × β)) (k : α) (v : β) (h : k ∉ m.map Prod.fst) : ML m k v = m ++ [(k,v)]:=by
 induction m with
 | nil=>rfl
 | cons p r ih =>
  obtain ⟨a,b⟩:=p
  simp only [Afx,Aff,not_or] at h
  simp only [ML,AeF (fun e=>h.1 (Eq.symm e)),ih h.2]
  rfl
theorem Qc (m : List (α × β)) (k : α) : Df m k = none ↔ k ∉ m.map Prod.fst:=by
 induction m with
 | nil=>simp [Df]
 | cons p r ih =>
  obtain ⟨a,b⟩:=p
  by_cases h : a = k
  ·subst h; simp [Df]
  ·have h' : ¬ k = a:=fun e=>h e.symm
   simp only [Df,AeF h,ih,Afx,Aff,not_or]
   exact ⟨fun x=>⟨h',x⟩,fun x=>x.2⟩
def mpR (ek : α -> I) (ev : β -> V) (m : List (α × β)) : Row:=.mp (m.map fun p=>(ek p.1,ev p.2)) false
variable {ek : α -> I} {ev : β -> V} {kt : KT}
theorem RX (hk : ∀ a b,Cs kt (ek a) (ek b) = some (decide (a = b))) (m : List (α × β)) (k : α) : JF kt (ek k) (m.map fun p=>(ek p.1,ev p.2)) = some ((Df m k).map ev):=by
 induction m with
 | nil=>rfl
 | cons p r ih =>
  obtain ⟨a,b⟩:=p
  simp only [Afx,JF,hk,AeM,Df]
  by_cases e : k = a
  ·subst e; simp
  ·rw [Afz e,AeF (fun h=>e h.symm)]
   exact ih
theorem Uh (hk : ∀ a b,Cs kt (ek a) (ek b) = some (decide (a = b))) (m : List (α × β)) (k : α) (v : β) : Ui kt (ek k) (ev v) (m.map fun p=>(ek p.1,ev p.2)) = some ((ML m k v).map fun p=>(ek p.1,ev p.2)):=by
 induction m with
 | nil=>rfl
 | cons p r ih =>
  obtain ⟨a,b⟩:=p
  simp only [Afx,Ui,hk,AeM,ML]
  by_cases e : k = a
  ·subst e; simp
  ·rw [Afz e,AeF (fun h=>e h.symm),ih]
   rfl
theorem Vq (hk : ∀ a b,Cs kt (ek a) (ek b) = some (decide (a = b))) (m : List (α × β)) (k : α) : AcD kt (ek k) (m.map fun p=>(ek p.1,ev p.2)) = some ((AbT m k).map fun p=>(ek p.1,ev p.2)):=by
 induction m with
 | nil=>rfl
 | cons p r ih =>
  obtain ⟨a,b⟩:=p
  simp only [Afx,AcD,hk,AeM,AbT]
  by_cases e : k = a
  ·subst e; simp
  ·rw [Afz e,AeF (fun h=>e h.symm),ih]
   rfl
end
/- What the operations do to a row. -/
def WP (kt : KT) (row : Row) (k : I) (x : V) : Option Row:=match row with
 | .mp es false=>gd (Ax x && Fy kt k) ((Ui kt k x es).map fun es'=>.mp es' false)
 | _=>none
def mdlR (kt : KT) (row : Row) (k : I) : Option Row:=match row with
 | .mp es false=>(gd (Fy kt k) (AcD kt k es)).map fun es'=>.mp es' false
 | _=>none
def HJ (kt : KT) (zero : List V) (ag ok : Bool) (row : Row) (k : I) : Option V:=match row with
 | .mp es _=>(gd (Fy kt k) (JF kt k es)).bind fun q=>YJ zero ag ok q
 | _=>none
@[simp] theorem AbX (c : Bj) (M : Mem) : Ai c M .mkm [] = some (.mp M.H.length,{ M with H:=M.H ++ [.mp [] false] }):=rfl
@[simp] theorem AbW (c : Bj) (M : Mem) (k : IntKind) (n : Int) : Ai c M .mkm [.m (.i k n)] = some (.mp M.H.length,{ M with H:=M.H ++ [.mp [] false] }):=rfl
@[simp] theorem loud_mup (c : Bj) (M : Mem) (kt : KT) (r : Nat) (k : I) (x : V) : Ai c M (.mup kt) [.mp r,.m k,x] = (nth M.H r).bind fun row=>(WP kt row k x).bind fun row'=>(AF M.H r row').bind fun H'=>some (.un,{ M with H:=H' }):=by
 simp only [Ai]
 congr 1
 funext row
 cases row with
 | cs=>rfl
 | lp=>rfl
 | mp es fz =>
  cases fz with
  | true=>rfl
  | false =>
   simp only [WP,YM,AeM]
   cases (Ax x && Fy kt k) with
   | false=>rfl
   | true=>simp only [gd]; cases Ui kt k x es <;> rfl
@[simp] theorem rx_lkp (M : Mem) (kt : KT) (z : List V) (ag ok : Bool) (r : Nat) (k : I) : readX M (.lkp kt z ag ok) [.mp r,.m k] = (nth M.H r).bind fun row=>HJ kt z ag ok row k:=by
 simp only [readX,mapOf,YM]
 cases nth M.H r with
 | none=>rfl
 | some row=>cases row <;> rfl
@[simp] theorem okT_t (x : V) (b : Bool) : okT true x b = .tu [x,.m (.b b)]:=rfl
@[simp] theorem okT_f (x : V) (b : Bool) : okT false x b = x:=rfl
section
variable {α β : Type} [DecidableEq α] {ek : α -> I} {ev : β -> V} {kt : KT}
theorem HE (hk : ∀ a b,Cs kt (ek a) (ek b) = some (decide (a = b))) (k : α) : Fy kt (ek k) = true:=by simp [Fy,hk]
theorem GT (hk : ∀ a b,Cs kt (ek a) (ek b) = some (decide (a = b))) (hv : ∀ v,Ax (ev v) = true) (m : List (α × β)) (k : α) (v : β) : WP kt (mpR ek ev m) (ek k) (ev v) = some (mpR ek ev (ML m k v)):=by
 simp only [WP,mpR,HE hk,hv,Uh hk,Bool.and_self,gd,AfF]
theorem UX (hk : ∀ a b,Cs kt (ek a) (ek b) = some (decide (a = b))) (m : List (α × β)) (k : α) : mdlR kt (mpR ek ev m) (ek k) = some (mpR ek ev (AbT m k)):=by
 simp only [mdlR,mpR,HE hk,Vq hk,gd,AfF]
theorem EC (hk : ∀ a b,Cs kt (ek a) (ek b) = some (decide (a = b))) {z : List V} {ag ok : Bool} {z0 : β} (hz : CV ag z = some (ev z0)) (m : List (α × β)) (k : α) : HJ kt z ag ok (mpR ek ev m) (ek k) = some (okT ok (ev ((Df m k).getD z0)) (Df m k).isSome):=by
 simp only [HJ,mpR,HE hk,RX hk,gd,AeM]
 cases Df m k with
 | none=>simp [YJ,hz]
 | some v=>rfl
omit [DecidableEq α] in
omit [DecidableEq α] in
end
/- Keys: positions (two ints), ints, texts. Values: ints, bools. -/
def ekP (p : Int × Int) : I:=.ag [.i .i64 p.1,.i .i64 p.2]
def ekI (x : Int) : I:=.i .i64 x
def ekS (x : List Nat) : I:=.s x
def evI (x : Int) : V:=.m (.i .i64 x)
def evB (x : Bool) : V:=.m (.b x)
theorem hkP (a b : Int × Int) : Cs ⟨true,[1,1]⟩ (ekP a) (ekP b) = some (decide (a = b)):=by
 simp only [Cs,ekP,Sb,Acz,Vo,AeM,AeD]
 obtain ⟨a1,a2⟩:=a
 obtain ⟨b1,b2⟩:=b
 rw [Afs]
 simp
theorem hkI (a b : Int) : Cs ⟨false,[1]⟩ (ekI a) (ekI b) = some (decide (a = b)):=by
 simp only [Cs,ekI,Acz]
theorem hkS (a b : List Nat) : Cs ⟨false,[2]⟩ (ekS a) (ekS b) = some (decide (a = b)):=by
 simp only [Cs,ekS,eqC_s]
@[simp] theorem mPI_up (m : List ((Int × Int) × Int)) (x y s : Int) : WP ⟨true,[1,1]⟩ (mpR ekP evI m) (.ag [.i .i64 x,.i .i64 y]) (.m (.i .i64 s)) = some (mpR ekP evI (ML m (x,y) s)):=GT hkP (fun _=>rfl) m (x,y) s
@[simp] theorem mPB_up (m : List ((Int × Int) × Bool)) (x y : Int) (s : Bool) : WP ⟨true,[1,1]⟩ (mpR ekP evB m) (.ag [.i .i64 x,.i .i64 y]) (.m (.b s)) = some (mpR ekP evB (ML m (x,y) s)):=GT hkP (fun _=>rfl) m (x,y) s
@[simp] theorem mIB_up (m : List (Int × Bool)) (x : Int) (s : Bool) : WP ⟨false,[1]⟩ (mpR ekI evB m) (.i .i64 x) (.m (.b s)) = some (mpR ekI evB (ML m x s)):=GT hkI (fun _=>rfl) m x s
@[simp] theorem mSI_up (m : List (List Nat × Int)) (x : List Nat) (s : Int) : WP ⟨false,[2]⟩ (mpR ekS evI m) (.s x) (.m (.i .i64 s)) = some (mpR ekS evI (ML m x s)):=GT hkS (fun _=>rfl) m x s
@[simp] theorem mP_del {β : Type} (ev : β -> V) (m : List ((Int × Int) × β)) (x y : Int) : mdlR ⟨true,[1,1]⟩ (mpR ekP ev m) (.ag [.i .i64 x,.i .i64 y]) = some (mpR ekP ev (AbT m (x,y))):=UX hkP m (x,y)
@[simp] theorem mPI_get (m : List ((Int × Int) × Int)) (x y : Int) (ok : Bool) : HJ ⟨true,[1,1]⟩ [.m (.i .i64 0)] false ok (mpR ekP evI m) (.ag [.i .i64 x,.i .i64 y]) = some (okT ok (.m (.i .i64 ((Df m (x,y)).getD 0))) (Df m (x,y)).isSome):=EC (z0:=0) hkP rfl m (x,y)
@[simp] theorem mPB_get (m : List ((Int × Int) × Bool)) (x y : Int) (ok : Bool) : HJ ⟨true,[1,1]⟩ [.m (.b false)] false ok (mpR ekP evB m) (.ag [.i .i64 x,.i .i64 y]) = some (okT ok (.m (.b ((Df m (x,y)).getD false))) (Df m (x,y)).isSome):=EC (z0:=false) hkP rfl m (x,y)
@[simp] theorem mIB_get (m : List (Int × Bool)) (x : Int) (ok : Bool) : HJ ⟨false,[1]⟩ [.m (.b false)] false ok (mpR ekI evB m) (.i .i64 x) = some (okT ok (.m (.b ((Df m x).getD false))) (Df m x).isSome):=EC (z0:=false) hkI rfl m x
@[simp] theorem mSI_get (m : List (List Nat × Int)) (x : List Nat) (ok : Bool) : HJ ⟨false,[2]⟩ [.m (.i .i64 0)] false ok (mpR ekS evI m) (.s x) = some (okT ok (.m (.i .i64 ((Df m x).getD 0))) (Df m x).isSome):=EC (z0:=0) hkS rfl m x
end Go.Mx
/- Decimal numerals: what the library's own conversion lays into memory. Nothing here speaks of a program. -/
namespace Go.Mx
open Go.Lib
theorem La {α : Type} {l : List α} {n m : Nat} (h : n = m) : nth l n = nth l m:=by rw [h]
theorem HZ (x : Nat) (h0 : x ≠ 0) (h : x < 2 ^ 64) : 1 <= bitLen x /\ 2 ^ (bitLen x - 1) <= x /\ x < 2 ^ bitLen x:=bitLenAux_bounds 64 x h h0
theorem LL {x a : Nat} (h1 : 2 ^ a <= x) (h2 : x < 2 ^ (a + 1)) (h : x < 2 ^ 64) : bitLen x = a + 1:=by
 have h0 : x ≠ 0:=by have:=Nat.two_pow_pos a; omega
 obtain ⟨b1,b2,b3⟩:=HZ x h0 h
 have c1 : 2 ^ a < 2 ^ bitLen x:=by omega
 have c2 : 2 ^ (bitLen x - 1) < 2 ^ (a + 1):=by omega
 have d1:=(Nat.pow_lt_pow_iff_right (a:=2) (by decide)).1 c1
 have d2:=(Nat.pow_lt_pow_iff_right (a:=2) (by decide)).1 c2
 omega
theorem AcO {x k : Nat} (h1 : 2 ^ k <= x) (h : x < 2 ^ 64) : bitLen x = k + bitLen (x / 2 ^ k):=by
 have hp:=Nat.two_pow_pos k
 have h0 : x / 2 ^ k ≠ 0:=by have:=Nat.div_pos h1 hp; omega
 have hx : x / 2 ^ k <= x:=Nat.div_le_self _ _
 obtain ⟨b1,b2,b3⟩:=HZ (x / 2 ^ k) h0 (by omega)
 generalize hL : bitLen (x / 2 ^ k) = L at b1 b2 b3 ⊢
 have e : bitLen x = (L - 1 + k) + 1:=by
  refine LL ?_ ?_ h
  ·rw [Nat.pow_add]
   exact (Nat.le_div_iff_mul_le hp).1 b2
  ·rw [show L - 1 + k + 1 = L + k by omega,Nat.pow_add]
   exact (Nat.div_lt_iff_lt_mul hp).1 b3
 omega
theorem bl_8 {x : Nat} (h : x < 256) : bitLen x = bitLenAux 8 x:=by
 by_cases h0 : x = 0
 ·subst h0; rfl
 ·obtain ⟨b1,b2,b3⟩:=bitLenAux_bounds 8 x h h0
  have:=LL (x:=x) (a:=bitLenAux 8 x - 1) b2 (by rw [show bitLenAux 8 x - 1 + 1 = bitLenAux 8 x by omega]; exact b3) (by omega)
  omega
def LC (x : UInt8) : List V:=[.m (.i .u8 (x.toNat : Int))]
def Ev (pre : List (List V)) (d : Array UInt8) (post : List (List V)) : List (List V):=pre ++ (d.toList.map LC ++ post)
@[simp] theorem rowP_len (pre : List (List V)) (d : Array UInt8) (post : List (List V)) : (Ev pre d post).length = pre.length + (d.size + post.length):=by simp [Ev]
theorem UJ (pre : List (List V)) (d : Array UInt8) (post : List (List V)) {i : Nat} (h : i < d.size) : nth (Ev pre d post) (pre.length + i) = some (LC d[i]):=by
 rw [AA,Ev,Afp (by omega),AeW (by simp; omega)]
 simp [h]
theorem UI (pre : List (List V)) (d : Array UInt8) (post : List (List V)) {i : Nat} (x : UInt8) (h : i < d.size) : AF (Ev pre d post) (pre.length + i) (LC x) = some (Ev pre (d.setIfInBounds i x) post):=by
 rw [Am _ _ _ (by simp; omega)]
 congr 1
 unfold Ev
 rw [Aga _ _ (by omega),List.set_append_left _ _ (by simp; omega)]
 simp [List.map_set]
theorem An (pre : List (List V)) (d : Array UInt8) (post : List (List V)) {i : Nat} (x : UInt8) (h : i < d.size) : BD 1 (Ev pre d post) (pre.length + i) 0 [.m (.i .u8 (x.toNat : Int))] = some (Ev pre (d.setIfInBounds i x) post):=by
 rw [Ca,UJ pre d post h]
 show (Fe (LC d[i]) 0 [.m (.i .u8 (x.toNat : Int))]).bind _ = _
 have : Fe (LC d[i]) 0 [.m (.i .u8 (x.toNat : Int))] = some (LC x):=by simp [LC]
 rw [this]
 exact UI pre d post x h
theorem Fc (pre : List (List V)) (d : Array UInt8) (post : List (List V)) (x : UInt8) (h : 0 < d.size) : BD 1 (Ev pre d post) pre.length 0 [.m (.i .u8 (x.toNat : Int))] = some (Ev pre (d.setIfInBounds 0 x) post):=An pre d post (i:=0) x h
theorem Fx (pre : List (List V)) (d : Array UInt8) (post : List (List V)) (v : Nat) (h : 0 < d.size) (hv : v < 10) : BD 1 (Ev pre d post) pre.length 0 [.m (.i .u8 (48 + (v : Int)))] = some (Ev pre (d.setIfInBounds 0 (UInt8.ofNat (48 + v))) post):=by
 have:=An pre d post (i:=0) (UInt8.ofNat (48 + v)) h
 have e : ((UInt8.ofNat (48 + v)).toNat : Int) = 48 + (v : Int):=by simp; omega
 rw [e] at this
 exact this
theorem LJ : ∀ (l : List UInt8),Cg (l.map LC) = some (l.map UInt8.toNat)
 | []=>rfl
 | x :: r=>by
  have hx : x.toNat < 256:=x.toNat_lt
  show gd (Nat.blt x.toNat 256) ((Cg (r.map LC)).bind fun l=>some (x.toNat :: l)) = _
  rw [Gk,Afc hx,LJ r]
  rfl
theorem IC (pre : List (List V)) (d : Array UInt8) (post : List (List V)) : ((Ev pre d post).drop pre.length).take d.size = d.toList.map LC:=by
 unfold Ev
 rw [List.drop_left,List.take_left' (by simp)]
theorem Au {α : Type} (A : List α) (x : α) (B : List α) : nth (A ++ x :: B) A.length = some x:=by rw [AA]; simp
theorem Al {α : Type} (A : List α) (x y : α) (B : List α) : AF (A ++ x :: B) A.length y = some (A ++ y :: B):=by
 rw [Am _ _ _ (by simp)]
 congr 1
 rw [Aga _ _ (by omega)]
 simp
def BR (u : Nat) : List Nat:=(decDigits u).map UInt8.toNat
def AN (n : Int) : List Nat:=(Lib.itoa n).map UInt8.toNat
theorem OD {u v' : Nat} {dk : Array UInt8} (h : FmtInv (nDigits u) u 0 v' dk) : dk.toList.map UInt8.toNat = BR u:=by
 have hs : dk.size = (decDigits u).length:=by rw [decDigits_length]; exact h.size
 have : dk.toList = decDigits u:=by
  refine List.ext_getElem (by simpa using hs) fun j h1 h2=>?_
  rw [row_is_numeral h j h2,getElem!_pos dk j (by simpa using h1)]
  simp
 rw [this]; rfl
theorem Bc {i : Nat} (h : i < 10) : BR i = [48 + i]:=by
 unfold BR
 rw [decDigits_one h]
 simp
 omega
theorem Vr {i : Nat} (h1 : ¬ i < 10) (h2 : i < 100) : BR i = [48 + i / 10,48 + i % 10]:=by
 unfold BR
 rw [decDigits_two h1 h2]
 simp
 omega
theorem BL {u : Nat} (h : ¬ u < 10) : BR u = BR (u / 10) ++ [48 + u % 10]:=by
 unfold BR
 rw [decDigits,dif_neg h]
 simp
 omega
theorem Bg (u : Nat) : AN (u : Int) = BR u:=by unfold AN BR; rw [itoa_nonneg]
theorem BQ (u : Nat) (h : 1 <= u) : AN (-(u : Int)) = 45 :: BR u:=by unfold AN BR; rw [itoa_neg u h]; rfl
theorem BX {G : Cfg} {f : Nat} {vs : List V} {H : Hp} {Q : V -> Hp -> Prop} (h : Ret G f vs H Q) : ∃ v H',Gives G f vs H v H' /\ Q v H':=by
 obtain ⟨n,v,H',h1,h2⟩:=h
 exact ⟨v,H',⟨n,h1⟩,h2⟩
theorem CO (H : Hp) (r ver esz st len : Nat) (lim : Bool) : elems H (.sl r ver esz st len lim) = (nth H r).bind fun row=>match row with
  | .cs _ esz' es base _=>gd (Nat.ble base ver && Nat.beq esz esz') (some ((es.drop st).take len))
  | _=>none:=rfl
theorem CA {G : Cfg} {f : Nat} {is : List I} {vs : List V} {H H0 H2 : Hp} {v : V} (hp : G.prim f = none) (hs : G.sh f = false) (h : Gives G f (is.map .m) H0 v H0) (hv : Af (view 20 H) vs = some is)
  (hr : vs.flatMap DT ≠ []) (hfl : Gg v = false) (hsh : vs.all Bz = true) (hfz : AT (vs.flatMap DT) H = some H2) : Gives G f vs H v H2:=by
 obtain ⟨n,h⟩:=h
 cases n with
 | zero=>simp [Bi] at h
 | succ n =>
  refine ⟨n + 1,?_⟩
  simp only [Bi,hp,hs] at h ⊢
  cases hfn : G.fn f with
  | none =>
   rw [hfn] at h
   simp only [Ad] at h
   obtain ⟨_,h⟩:=h
   cases is <;> simp [DQ] at h
  | some fn =>
  rw [hfn] at h
  simp only at h ⊢
  have hm : ∀ (l : List I),Af (view 20 H0) (l.map V.m) = some l:=by
   intro l
   induction l with
   | nil=>rfl
   | cons a r ih=>simp only [Afx,Af,NI,ih]; rfl
  have hz : (is.map V.m).flatMap DT = []:=by
   induction is with
   | nil=>rfl
   | cons a r _=>simp [DT,GS]
  unfold DV at h ⊢
  simp only [hm,hz,AeC] at h
  obtain ⟨is',he,⟨v1,H1⟩,hev,r,hr1,h2⟩:=h
  cases he
  have hrv : r = v:=by
   cases hsh : (is.map V.m).all Bz with
   | false=>rw [hsh] at h2; simp at h2
   | true=>rw [hsh] at h2; simp at h2; exact h2
  subst hrv
  simp only [hv,AeM,hev,hr1]
  cases hl : vs.flatMap DT with
  | nil=>exact absurd hl hr
  | cons a b =>
   rw [hl] at hfz
   simp [hfl,hsh,hfz]
end Go.Mx
