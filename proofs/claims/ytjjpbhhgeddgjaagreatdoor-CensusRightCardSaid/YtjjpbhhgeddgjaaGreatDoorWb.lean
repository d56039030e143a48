/- Maps; decimal numerals. Nothing here speaks of a program. -/
import Derived.Test.YtjjpbhhgeddgjaaGreatDoorWa
import Derived.Lib.ItoaMem
set_option linter.unusedSimpArgs false
set_option linter.unusedVariables false
set_option linter.unusedSectionVars false
/- Maps: rows of pairs as finite maps. Nothing here speaks of a program. -/
namespace Go.Mx
section
variable {α β : Type} [DecidableEq α]
def Bf : List (α × β) -> α -> Option β
 | [],_=>none
 | (a,b) :: r,k=>if a = k then some b else Bf r k
def Ft : List (α × β) -> α -> β -> List (α × β)
 | [],k,v=>[(k,v)]
 | (a,b) :: r,k,v=>if a = k then (k,v) :: r else (a,b) :: Ft r k v
def Zv : List (α × β) -> α -> List (α × β)
 | [],_=>[]
 | (a,b) :: r,k=>if a = k then r else (a,b) :: Zv r k
theorem Od (m : List (α × β)) (k : α) (v : β) (j : α) : Bf (Ft m k v) j = if k = j then some v else Bf m j:=by
 induction m with
 | nil=>simp [Ft,Bf]
 | cons p r ih =>
  obtain ⟨a,b⟩:=p
  by_cases h : a = k
  ·subst h
   by_cases h2 : a = j <;> simp [Ft,Bf,h2]
  ·by_cases h2 : k = j
   ·subst h2
    simp [Ft,Bf,h,ih]
   ·simp [Ft,Bf,h,ih,h2]
theorem Fu (m : List (α × β)) (k : α) (v : β) : (Ft m k v).map Prod.fst = if k ∈ m.map Prod.fst then m.map Prod.fst else m.map Prod.fst ++ [k]:=by
 induction m with
 | nil=>simp [Ft]
 | cons p r ih =>
  obtain ⟨a,b⟩:=p
  by_cases h : a = k
  ·subst h; simp [Ft]
  ·have h' : ¬ k = a:=fun e=>h e.symm
   by_cases hm : k ∈ r.map Prod.fst
   ·rw [AcY hm] at ih
    simp only [Ft,AcQ h,Adp,ih]
    rw [AcY (by simp only [Adf]; exact .inr hm)]
   ·rw [AcQ hm] at ih
    simp only [Ft,AcQ h,Adp,ih]
    rw [AcQ (by simp only [Adf,not_or]; exact ⟨h',hm⟩)]
    rfl
theorem SF (m : List (α × β)) (k : α) (v : β) (h : k ∉ m.map Prod.fst) : Ft m k v = m ++ [(k,v)]:=by
 induction m with
 | nil=>rfl
 | cons p r ih =>
  obtain ⟨a,b⟩:=p
  simp only [Adp,Adf,not_or] at h
  simp only [Ft,AcQ (fun e=>h.1 (Eq.symm e)),ih h.2]
  rfl
theorem HO (m : List (α × β)) (k : α) : Bf m k = none ↔ k ∉ m.map Prod.fst:=by
 induction m with
 | nil=>simp [Bf]
 | cons p r ih =>
  obtain ⟨a,b⟩:=p
  by_cases h : a = k
  ·subst h; simp [Bf]
  ·have h' : ¬ k = a:=fun e=>h e.symm
   simp only [Bf,AcQ h,ih,Adp,Adf,not_or]
   exact ⟨fun x=>⟨h',x⟩,fun x=>x.2⟩
theorem Oc {m : List (α × β)} (hd : (m.map Prod.fst).Nodup) (k : α) (v : β) : ((Ft m k v).map Prod.fst).Nodup:=by
 rw [Fu]
 split
 ·exact hd
 ·rename_i h
  rw [List.nodup_append]
  exact ⟨hd,by simp,fun a ha b hb=>by simp at hb; subst hb; exact fun e=>h (e ▸ ha)⟩
def mpR (ek : α -> I) (ev : β -> V) (m : List (α × β)) : Row:=.mp (m.map fun p=>(ek p.1,ev p.2)) false
variable {ek : α -> I} {ev : β -> V} {kt : KT}
theorem Qe (hk : ∀ a b,Cd kt (ek a) (ek b) = some (decide (a = b))) (m : List (α × β)) (k : α) : IC kt (ek k) (m.map fun p=>(ek p.1,ev p.2)) = some ((Bf m k).map ev):=by
 induction m with
 | nil=>rfl
 | cons p r ih =>
  obtain ⟨a,b⟩:=p
  simp only [Adp,IC,hk,AcS,Bf]
  by_cases e : k = a
  ·subst e; simp
  ·rw [Adr e,AcQ (fun h=>e h.symm)]
   exact ih
theorem RR (hk : ∀ a b,Cd kt (ek a) (ek b) = some (decide (a = b))) (m : List (α × β)) (k : α) (v : β) : RS kt (ek k) (ev v) (m.map fun p=>(ek p.1,ev p.2)) = some ((Ft m k v).map fun p=>(ek p.1,ev p.2)):=by
 induction m with
 | nil=>rfl
 | cons p r ih =>
  obtain ⟨a,b⟩:=p
  simp only [Adp,RS,hk,AcS,Ft]
  by_cases e : k = a
  ·subst e; simp
  ·rw [Adr e,AcQ (fun h=>e h.symm),ih]
   rfl
theorem SZ (hk : ∀ a b,Cd kt (ek a) (ek b) = some (decide (a = b))) (m : List (α × β)) (k : α) : Ui kt (ek k) (m.map fun p=>(ek p.1,ev p.2)) = some ((Zv m k).map fun p=>(ek p.1,ev p.2)):=by
 induction m with
 | nil=>rfl
 | cons p r ih =>
  obtain ⟨a,b⟩:=p
  simp only [Adp,Ui,hk,AcS,Zv]
  by_cases e : k = a
  ·subst e; simp
  ·rw [Adr e,AcQ (fun h=>e h.symm),ih]
   rfl
end
/- What the operations do to a row. -/
def TX (kt : KT) (row : Row) (k : I) (x : V) : Option Row:=match row with
 | .mp es false=>gd (Av x && EX kt k) ((RS kt k x es).map fun es'=>.mp es' false)
 | _=>none
def mdlR (kt : KT) (row : Row) (k : I) : Option Row:=match row with
 | .mp es false=>(gd (EX kt k) (Ui kt k es)).map fun es'=>.mp es' false
 | _=>none
def GL (kt : KT) (zero : List V) (ag ok : Bool) (row : Row) (k : I) : Option V:=match row with
 | .mp es _=>(gd (EX kt k) (IC kt k es)).bind fun q=>VO zero ag ok q
 | _=>none
@[simp] theorem ZA (c : Ba) (M : Mem) : Af c M .mkm [] = some (.mp M.H.length,{ M with H:=M.H ++ [.mp [] false] }):=rfl
@[simp] theorem Zz (c : Ba) (M : Mem) (k : IntKind) (n : Int) : Af c M .mkm [.m (.i k n)] = some (.mp M.H.length,{ M with H:=M.H ++ [.mp [] false] }):=rfl
@[simp] theorem loud_mup (c : Ba) (M : Mem) (kt : KT) (r : Nat) (k : I) (x : V) : Af c M (.mup kt) [.mp r,.m k,x] = (nth M.H r).bind fun row=>(TX kt row k x).bind fun row'=>(AD M.H r row').bind fun H'=>some (.un,{ M with H:=H' }):=by
 simp only [Af]
 congr 1
 funext row
 cases row with
 | cs=>rfl
 | lp=>rfl
 | mp es fz =>
  cases fz with
  | true=>rfl
  | false =>
   simp only [TX,VT,AcS]
   cases (Av x && EX kt k) with
   | false=>rfl
   | true=>simp only [gd]; cases RS kt k x es <;> rfl
@[simp] theorem rx_lkp (M : Mem) (kt : KT) (z : List V) (ag ok : Bool) (r : Nat) (k : I) : readX M (.lkp kt z ag ok) [.mp r,.m k] = (nth M.H r).bind fun row=>GL kt z ag ok row k:=by
 simp only [readX,mapOf,VT]
 cases nth M.H r with
 | none=>rfl
 | some row=>cases row <;> rfl
@[simp] theorem okT_t (x : V) (b : Bool) : okT true x b = .tu [x,.m (.b b)]:=rfl
@[simp] theorem okT_f (x : V) (b : Bool) : okT false x b = x:=rfl
section
variable {α β : Type} [DecidableEq α] {ek : α -> I} {ev : β -> V} {kt : KT}
theorem GG (hk : ∀ a b,Cd kt (ek a) (ek b) = some (decide (a = b))) (k : α) : EX kt (ek k) = true:=by simp [EX,hk]
theorem Gf (hk : ∀ a b,Cd kt (ek a) (ek b) = some (decide (a = b))) (hv : ∀ v,Av (ev v) = true) (m : List (α × β)) (k : α) (v : β) : TX kt (mpR ek ev m) (ek k) (ev v) = some (mpR ek ev (Ft m k v)):=by
 simp only [TX,mpR,GG hk,hv,RR hk,Bool.and_self,gd,AdK]
theorem SH (hk : ∀ a b,Cd kt (ek a) (ek b) = some (decide (a = b))) (m : List (α × β)) (k : α) : mdlR kt (mpR ek ev m) (ek k) = some (mpR ek ev (Zv m k)):=by
 simp only [mdlR,mpR,GG hk,SZ hk,gd,AdK]
theorem Ed (hk : ∀ a b,Cd kt (ek a) (ek b) = some (decide (a = b))) {z : List V} {ag ok : Bool} {z0 : β} (hz : CL ag z = some (ev z0)) (m : List (α × β)) (k : α) : GL kt z ag ok (mpR ek ev m) (ek k) = some (okT ok (ev ((Bf m k).getD z0)) (Bf m k).isSome):=by
 simp only [GL,mpR,GG hk,Qe hk,gd,AcS]
 cases Bf m k with
 | none=>simp [VO,hz]
 | some v=>rfl
omit [DecidableEq α] in
omit [DecidableEq α] in
end
/- Keys: positions (two ints), ints, texts. Values: ints, bools. -/
def ekP (p : Int × Int) : I:=.ag [.i .i64 p.1,.i .i64 p.2]
def ekI (x : Int) : I:=.i .i64 x
def ekS (x : List Nat) : I:=.s x
def evI (x : Int) : V:=.m (.i .i64 x)
def evB (x : Bool) : V:=.m (.b x)
theorem hkP (a b : Int × Int) : Cd ⟨true,[1,1]⟩ (ekP a) (ekP b) = some (decide (a = b)):=by
 simp only [Cd,ekP,Qi,Aab,SX,AcS,AcM]
 obtain ⟨a1,a2⟩:=a
 obtain ⟨b1,b2⟩:=b
 rw [AdF]
 simp
theorem hkI (a b : Int) : Cd ⟨false,[1]⟩ (ekI a) (ekI b) = some (decide (a = b)):=by
 simp only [Cd,ekI,Aab]
theorem hkS (a b : List Nat) : Cd ⟨false,[2]⟩ (ekS a) (ekS b) = some (decide (a = b)):=by
 simp only [Cd,ekS,eqC_s]
@[simp] theorem mPI_up (m : List ((Int × Int) × Int)) (x y s : Int) : TX ⟨true,[1,1]⟩ (mpR ekP evI m) (.ag [.i .i64 x,.i .i64 y]) (.m (.i .i64 s)) = some (mpR ekP evI (Ft m (x,y) s)):=Gf hkP (fun _=>rfl) m (x,y) s
@[simp] theorem mPB_up (m : List ((Int × Int) × Bool)) (x y : Int) (s : Bool) : TX ⟨true,[1,1]⟩ (mpR ekP evB m) (.ag [.i .i64 x,.i .i64 y]) (.m (.b s)) = some (mpR ekP evB (Ft m (x,y) s)):=Gf hkP (fun _=>rfl) m (x,y) s
@[simp] theorem mIB_up (m : List (Int × Bool)) (x : Int) (s : Bool) : TX ⟨false,[1]⟩ (mpR ekI evB m) (.i .i64 x) (.m (.b s)) = some (mpR ekI evB (Ft m x s)):=Gf hkI (fun _=>rfl) m x s
@[simp] theorem mSI_up (m : List (List Nat × Int)) (x : List Nat) (s : Int) : TX ⟨false,[2]⟩ (mpR ekS evI m) (.s x) (.m (.i .i64 s)) = some (mpR ekS evI (Ft m x s)):=Gf hkS (fun _=>rfl) m x s
@[simp] theorem mP_del {β : Type} (ev : β -> V) (m : List ((Int × Int) × β)) (x y : Int) : mdlR ⟨true,[1,1]⟩ (mpR ekP ev m) (.ag [.i .i64 x,.i .i64 y]) = some (mpR ekP ev (Zv m (x,y))):=SH hkP m (x,y)
@[simp] theorem mPI_get (m : List ((Int × Int) × Int)) (x y : Int) (ok : Bool) : GL ⟨true,[1,1]⟩ [.m (.i .i64 0)] false ok (mpR ekP evI m) (.ag [.i .i64 x,.i .i64 y]) = some (okT ok (.m (.i .i64 ((Bf m (x,y)).getD 0))) (Bf m (x,y)).isSome):=Ed (z0:=0) hkP rfl m (x,y)
@[simp] theorem mPB_get (m : List ((Int × Int) × Bool)) (x y : Int) (ok : Bool) : GL ⟨true,[1,1]⟩ [.m (.b false)] false ok (mpR ekP evB m) (.ag [.i .i64 x,.i .i64 y]) = some (okT ok (.m (.b ((Bf m (x,y)).getD false))) (Bf m (x,y)).isSome):=Ed (z0:=false) hkP rfl m (x,y)
@[simp] theorem mIB_get (m : List (Int × Bool)) (x : Int) (ok : Bool) : GL ⟨false,[1]⟩ [.m (.b false)] false ok (mpR ekI evB m) (.i .i64 x) = some (okT ok (.m (.b ((Bf m x).getD false))) (Bf m x).isSome):=Ed (z0:=false) hkI rfl m x
@[simp] theorem mSI_get (m : List (List Nat × Int)) (x : List Nat) (ok : Bool) : GL ⟨false,[2]⟩ [.m (.i .i64 0)] false ok (mpR ekS evI m) (.s x) = some (okT ok (.m (.i .i64 ((Bf m x).getD 0))) (Bf m x).isSome):=Ed (z0:=0) hkS rfl m x
end Go.Mx
/- Decimal numerals: what the library's own conversion lays into memory. Nothing here speaks of a program. -/
namespace Go.Mx
open Go.Lib
theorem JD {α : Type} {l : List α} {n m : Nat} (h : n = m) : nth l n = nth l m:=by rw [h]
theorem Hf (x : Nat) (h0 : x ≠ 0) (h : x < 2 ^ 64) : 1 <= bitLen x /\ 2 ^ (bitLen x - 1) <= x /\ x < 2 ^ bitLen x:=bitLenAux_bounds 64 x h h0
theorem Kn {x a : Nat} (h1 : 2 ^ a <= x) (h2 : x < 2 ^ (a + 1)) (h : x < 2 ^ 64) : bitLen x = a + 1:=by
 have h0 : x ≠ 0:=by have:=Nat.two_pow_pos a; omega
 obtain ⟨b1,b2,b3⟩:=Hf x h0 h
 have c1 : 2 ^ a < 2 ^ bitLen x:=by omega
 have c2 : 2 ^ (bitLen x - 1) < 2 ^ (a + 1):=by omega
 have d1:=(Nat.pow_lt_pow_iff_right (a:=2) (by decide)).1 c1
 have d2:=(Nat.pow_lt_pow_iff_right (a:=2) (by decide)).1 c2
 omega
theorem Aaq {x k : Nat} (h1 : 2 ^ k <= x) (h : x < 2 ^ 64) : bitLen x = k + bitLen (x / 2 ^ k):=by
 have hp:=Nat.two_pow_pos k
 have h0 : x / 2 ^ k ≠ 0:=by have:=Nat.div_pos h1 hp; omega
 have hx : x / 2 ^ k <= x:=Nat.div_le_self _ _
 obtain ⟨b1,b2,b3⟩:=Hf (x / 2 ^ k) h0 (by omega)
 generalize hL : bitLen (x / 2 ^ k) = L at b1 b2 b3 ⊢
 have e : bitLen x = (L - 1 + k) + 1:=by
  refine Kn ?_ ?_ h
  ·rw [Nat.pow_add]
   exact (Nat.le_div_iff_mul_le hp).1 b2
  ·rw [show L - 1 + k + 1 = L + k by omega,Nat.pow_add]
   exact (Nat.div_lt_iff_lt_mul hp).1 b3
 omega
theorem bl_8 {x : Nat} (h : x < 256) : bitLen x = bitLenAux 8 x:=by
 by_cases h0 : x = 0
 ·subst h0; rfl
 ·obtain ⟨b1,b2,b3⟩:=bitLenAux_bounds 8 x h h0
  have:=Kn (x:=x) (a:=bitLenAux 8 x - 1) b2 (by rw [show bitLenAux 8 x - 1 + 1 = bitLenAux 8 x by omega]; exact b3) (by omega)
  omega
def Kh (x : UInt8) : List V:=[.m (.i .u8 (x.toNat : Int))]
def DY (pre : List (List V)) (d : Array UInt8) (post : List (List V)) : List (List V):=pre ++ (d.toList.map Kh ++ post)
@[simp] theorem rowP_len (pre : List (List V)) (d : Array UInt8) (post : List (List V)) : (DY pre d post).length = pre.length + (d.size + post.length):=by simp [DY]
theorem Su (pre : List (List V)) (d : Array UInt8) (post : List (List V)) {i : Nat} (h : i < d.size) : nth (DY pre d post) (pre.length + i) = some (Kh d[i]):=by
 rw [AC,DY,AdS (by omega),Adb (by simp; omega)]
 simp [h]
theorem Ss (pre : List (List V)) (d : Array UInt8) (post : List (List V)) {i : Nat} (x : UInt8) (h : i < d.size) : AD (DY pre d post) (pre.length + i) (Kh x) = some (DY pre (d.setIfInBounds i x) post):=by
 rw [As _ _ _ (by simp; omega)]
 congr 1
 unfold DY
 rw [List.set_append_right _ _ (by omega),List.set_append_left _ _ (by simp; omega)]
 simp [List.map_set]
theorem Al (pre : List (List V)) (d : Array UInt8) (post : List (List V)) {i : Nat} (x : UInt8) (h : i < d.size) : Ct 1 (DY pre d post) (pre.length + i) 0 [.m (.i .u8 (x.toNat : Int))] = some (DY pre (d.setIfInBounds i x) post):=by
 rw [BM,Su pre d post h]
 show (EW (Kh d[i]) 0 [.m (.i .u8 (x.toNat : Int))]).bind _ = _
 have : EW (Kh d[i]) 0 [.m (.i .u8 (x.toNat : Int))] = some (Kh x):=by simp [Kh]
 rw [this]
 exact Ss pre d post x h
theorem EA (pre : List (List V)) (d : Array UInt8) (post : List (List V)) (x : UInt8) (h : 0 < d.size) : Ct 1 (DY pre d post) pre.length 0 [.m (.i .u8 (x.toNat : Int))] = some (DY pre (d.setIfInBounds 0 x) post):=Al pre d post (i:=0) x h
theorem ET (pre : List (List V)) (d : Array UInt8) (post : List (List V)) (v : Nat) (h : 0 < d.size) (hv : v < 10) : Ct 1 (DY pre d post) pre.length 0 [.m (.i .u8 (48 + (v : Int)))] = some (DY pre (d.setIfInBounds 0 (UInt8.ofNat (48 + v))) post):=by
 have:=Al pre d post (i:=0) (UInt8.ofNat (48 + v)) h
 have e : ((UInt8.ofNat (48 + v)).toNat : Int) = 48 + (v : Int):=by simp; omega
 rw [e] at this
 exact this
theorem Kl : ∀ (l : List UInt8),BQ (l.map Kh) = some (l.map UInt8.toNat)
 | []=>rfl
 | x :: r=>by
  have hx : x.toNat < 256:=x.toNat_lt
  show gd (Nat.blt x.toNat 256) ((BQ (r.map Kh)).bind fun l=>some (x.toNat :: l)) = _
  rw [He,Ade hx,Kl r]
  rfl
theorem HF (pre : List (List V)) (d : Array UInt8) (post : List (List V)) : ((DY pre d post).drop pre.length).take d.size = d.toList.map Kh:=by
 unfold DY
 rw [List.drop_left,List.take_left' (by simp)]
theorem Bj {α : Type} (A : List α) (x : α) (B : List α) : nth (A ++ x :: B) A.length = some x:=by rw [AC]; simp
theorem Bd {α : Type} (A : List α) (x y : α) (B : List α) : AD (A ++ x :: B) A.length y = some (A ++ y :: B):=by
 rw [As _ _ _ (by simp)]
 congr 1
 rw [List.set_append_right _ _ (by omega)]
 simp
def Dy (u : Nat) : List Nat:=(decDigits u).map UInt8.toNat
def BC (n : Int) : List Nat:=(Lib.itoa n).map UInt8.toNat
theorem ML {u v' : Nat} {dk : Array UInt8} (h : FmtInv (nDigits u) u 0 v' dk) : dk.toList.map UInt8.toNat = Dy u:=by
 have hs : dk.size = (decDigits u).length:=by rw [decDigits_length]; exact h.size
 have : dk.toList = decDigits u:=by
  refine List.ext_getElem (by simpa using hs) fun j h1 h2=>?_
  rw [row_is_numeral h j h2,getElem!_pos dk j (by simpa using h1)]
  simp
 rw [this]; rfl
theorem Fa {i : Nat} (h : i < 10) : Dy i = [48 + i]:=by
 unfold Dy
 rw [decDigits_one h]
 simp
 omega
theorem Ta {i : Nat} (h1 : ¬ i < 10) (h2 : i < 100) : Dy i = [48 + i / 10,48 + i % 10]:=by
 unfold Dy
 rw [decDigits_two h1 h2]
 simp
 omega
theorem IK {u : Nat} (h : ¬ u < 10) : Dy u = Dy (u / 10) ++ [48 + u % 10]:=by
 unfold Dy
 rw [decDigits,dif_neg h]
 simp
 omega
theorem Ca (u : Nat) : BC (u : Int) = Dy u:=by unfold BC Dy; rw [itoa_nonneg]
theorem Db (u : Nat) (h : 1 <= u) : BC (-(u : Int)) = 45 :: Dy u:=by unfold BC Dy; rw [itoa_neg u h]; rfl
theorem CI {G : Cfg} {f : Nat} {vs : List V} {H : Hp} {Q : V -> Hp -> Prop} (h : Ret G f vs H Q) : ∃ v H',Gives G f vs H v H' /\ Q v H':=by
 obtain ⟨n,v,H',h1,h2⟩:=h
 exact ⟨v,H',⟨n,h1⟩,h2⟩
theorem Cf (H : Hp) (r ver esz st len : Nat) (lim : Bool) : elems H (.sl r ver esz st len lim) = (nth H r).bind fun row=>match row with
  | .cs _ esz' es base _=>gd (Nat.ble base ver && Nat.beq esz esz') (some ((es.drop st).take len))
  | _=>none:=rfl
theorem Iv {G : Cfg} {f : Nat} {is : List I} {vs : List V} {H H0 H2 : Hp} {v : V} (hp : G.prim f = none) (hs : G.sh f = false) (h : Gives G f (is.map .m) H0 v H0) (hv : Ac (view 20 H) vs = some is)
  (hr : vs.flatMap EJ ≠ []) (hfl : Hy v = false) (hsh : vs.all Bv = true) (hfz : AL (vs.flatMap EJ) H = some H2) : Gives G f vs H v H2:=by
 obtain ⟨n,h⟩:=h
 cases n with
 | zero=>simp [Bg] at h
 | succ n =>
  refine ⟨n + 1,?_⟩
  simp only [Bg,hp,hs] at h ⊢
  cases hfn : G.fn f with
  | none =>
   rw [hfn] at h
   simp only [Ab] at h
   obtain ⟨_,h⟩:=h
   cases is <;> simp [Dx] at h
  | some fn =>
  rw [hfn] at h
  simp only at h ⊢
  have hm : ∀ (l : List I),Ac (view 20 H0) (l.map V.m) = some l:=by
   intro l
   induction l with
   | nil=>rfl
   | cons a r ih=>simp only [Adp,Ac,LX,ih]; rfl
  have hz : (is.map V.m).flatMap EJ = []:=by
   induction is with
   | nil=>rfl
   | cons a r _=>simp [EJ,HK]
  unfold DA at h ⊢
  simp only [hm,hz,AcL] at h
  obtain ⟨is',he,⟨v1,H1⟩,hev,r,hr1,h2⟩:=h
  cases he
  have hrv : r = v:=by
   cases hsh : (is.map V.m).all Bv with
   | false=>rw [hsh] at h2; simp at h2
   | true=>rw [hsh] at h2; simp at h2; exact h2
  subst hrv
  simp only [hv,AcS,hev,hr1]
  cases hl : vs.flatMap EJ with
  | nil=>exact absurd hl hr
  | cons a b =>
   rw [hl] at hfz
   simp [hfl,hsh,hfz]
end Go.Mx
