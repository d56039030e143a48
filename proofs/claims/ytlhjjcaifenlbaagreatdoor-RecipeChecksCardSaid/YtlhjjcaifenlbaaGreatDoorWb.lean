/- Maps; decimal numerals. Nothing here speaks of a program. -/
import Derived.Test.YtlhjjcaifenlbaaGreatDoorWa
import Derived.Lib.ItoaMem
set_option linter.unusedSimpArgs false
set_option linter.unusedVariables false
set_option linter.unusedSectionVars false
/- Maps: rows of pairs as finite maps. Nothing here speaks of a program. -/
namespace Go.Mx
section
variable {α β : Type} [DecidableEq α]
def CW : List (α × β) -> α -> Option β
 | [],_=>none
 | (a,b) :: r,k=>if a = k then some b else CW r k
def Qn : List (α × β) -> α -> β -> List (α × β)
 | [],k,v=>[(k,v)]
 | (a,b) :: r,k,v=>if a = k then (k,v) :: r else (a,b) :: Qn r k v
def Aah : List (α × β) -> α -> List (α × β)
 | [],_=>[]
 | (a,b) :: r,k=>if a = k then r else (a,b) :: Aah r k
theorem ML (m : List (α × β)) (k : α) (v : β) (h : k ∉ m.map Prod.fst) : Qn m k v = m ++ [(k,v)]:=by
 induction m with
 | nil=>rfl
 | cons p r ih =>
  obtain ⟨a,b⟩:=p
  simp only [Adi,AcU,not_or] at h
  simp only [Qn,Acz (fun e=>h.1 (Eq.symm e)),ih h.2]
  rfl
def mpR (ek : α -> I) (ev : β -> V) (m : List (α × β)) : Row:=.mp (m.map fun p=>(ek p.1,ev p.2)) false
variable {ek : α -> I} {ev : β -> V} {kt : KT}
theorem QF (hk : ∀ a b,Cq kt (ek a) (ek b) = some (decide (a = b))) (m : List (α × β)) (k : α) : Ja kt (ek k) (m.map fun p=>(ek p.1,ev p.2)) = some ((CW m k).map ev):=by
 induction m with
 | nil=>rfl
 | cons p r ih =>
  obtain ⟨a,b⟩:=p
  simp only [Adi,Ja,hk,AcG,CW]
  by_cases e : k = a
  ·subst e; simp
  ·rw [AcH e,Acz (fun h=>e h.symm)]
   exact ih
theorem SZ (hk : ∀ a b,Cq kt (ek a) (ek b) = some (decide (a = b))) (m : List (α × β)) (k : α) (v : β) : Ta kt (ek k) (ev v) (m.map fun p=>(ek p.1,ev p.2)) = some ((Qn m k v).map fun p=>(ek p.1,ev p.2)):=by
 induction m with
 | nil=>rfl
 | cons p r ih =>
  obtain ⟨a,b⟩:=p
  simp only [Adi,Ta,hk,AcG,Qn]
  by_cases e : k = a
  ·subst e; simp
  ·rw [AcH e,Acz (fun h=>e h.symm),ih]
   rfl
theorem Uf (hk : ∀ a b,Cq kt (ek a) (ek b) = some (decide (a = b))) (m : List (α × β)) (k : α) : AaR kt (ek k) (m.map fun p=>(ek p.1,ev p.2)) = some ((Aah m k).map fun p=>(ek p.1,ev p.2)):=by
 induction m with
 | nil=>rfl
 | cons p r ih =>
  obtain ⟨a,b⟩:=p
  simp only [Adi,AaR,hk,AcG,Aah]
  by_cases e : k = a
  ·subst e; simp
  ·rw [AcH e,Acz (fun h=>e h.symm),ih]
   rfl
end
/- What the operations do to a row. -/
def TK (kt : KT) (row : Row) (k : I) (x : V) : Option Row:=match row with
 | .mp es false=>gd (AB x && Fc kt k) ((Ta kt k x es).map fun es'=>.mp es' false)
 | _=>none
def mdlR (kt : KT) (row : Row) (k : I) : Option Row:=match row with
 | .mp es false=>(gd (Fc kt k) (AaR kt k es)).map fun es'=>.mp es' false
 | _=>none
def Ff (kt : KT) (zero : List V) (ag ok : Bool) (row : Row) (k : I) : Option V:=match row with
 | .mp es _=>(gd (Fc kt k) (Ja kt k es)).bind fun q=>Xi zero ag ok q
 | _=>none
@[simp] theorem Aam (c : Bc) (M : Mem) : Am c M .mkm [] = some (.mp M.H.length,{ M with H:=M.H ++ [.mp [] false] }):=rfl
@[simp] theorem Aal (c : Bc) (M : Mem) (k : IntKind) (n : Int) : Am c M .mkm [.m (.i k n)] = some (.mp M.H.length,{ M with H:=M.H ++ [.mp [] false] }):=rfl
@[simp] theorem loud_mup (c : Bc) (M : Mem) (kt : KT) (r : Nat) (k : I) (x : V) : Am c M (.mup kt) [.mp r,.m k,x] = (nth M.H r).bind fun row=>(TK kt row k x).bind fun row'=>(Bl M.H r row').bind fun H'=>some (.un,{ M with H:=H' }):=by
 simp only [Am]
 congr 1
 funext row
 cases row with
 | cs=>rfl
 | lp=>rfl
 | mp es fz =>
  cases fz with
  | true=>rfl
  | false =>
   simp only [TK,Xl,AcG]
   cases (AB x && Fc kt k) with
   | false=>rfl
   | true=>simp only [gd]; cases Ta kt k x es <;> rfl
@[simp] theorem rx_lkp (M : Mem) (kt : KT) (z : List V) (ag ok : Bool) (r : Nat) (k : I) : readX M (.lkp kt z ag ok) [.mp r,.m k] = (nth M.H r).bind fun row=>Ff kt z ag ok row k:=by
 simp only [readX,mapOf,Xl]
 cases nth M.H r with
 | none=>rfl
 | some row=>cases row <;> rfl
@[simp] theorem okT_t (x : V) (b : Bool) : okT true x b = .tu [x,.m (.b b)]:=rfl
@[simp] theorem okT_f (x : V) (b : Bool) : okT false x b = x:=rfl
section
variable {α β : Type} [DecidableEq α] {ek : α -> I} {ev : β -> V} {kt : KT}
theorem GW (hk : ∀ a b,Cq kt (ek a) (ek b) = some (decide (a = b))) (k : α) : Fc kt (ek k) = true:=by simp [Fc,hk]
theorem Gl (hk : ∀ a b,Cq kt (ek a) (ek b) = some (decide (a = b))) (hv : ∀ v,AB (ev v) = true) (m : List (α × β)) (k : α) (v : β) : TK kt (mpR ek ev m) (ek k) (ev v) = some (mpR ek ev (Qn m k v)):=by
 simp only [TK,mpR,GW hk,hv,SZ hk,Bool.and_self,gd,Ads]
theorem TM (hk : ∀ a b,Cq kt (ek a) (ek b) = some (decide (a = b))) (m : List (α × β)) (k : α) : mdlR kt (mpR ek ev m) (ek k) = some (mpR ek ev (Aah m k)):=by
 simp only [mdlR,mpR,GW hk,Uf hk,gd,Ads]
theorem Ep (hk : ∀ a b,Cq kt (ek a) (ek b) = some (decide (a = b))) {z : List V} {ag ok : Bool} {z0 : β} (hz : De ag z = some (ev z0)) (m : List (α × β)) (k : α) : Ff kt z ag ok (mpR ek ev m) (ek k) = some (okT ok (ev ((CW m k).getD z0)) (CW m k).isSome):=by
 simp only [Ff,mpR,GW hk,QF hk,gd,AcG]
 cases CW m k with
 | none=>simp [Xi,hz]
 | some v=>rfl
omit [DecidableEq α] in
omit [DecidableEq α] in
end
/- Keys: positions (two ints), ints, texts. Values: ints, bools. -/
def ekP (p : Int × Int) : I:=.ag [.i .i64 p.1,.i .i64 p.2]
def ekI (x : Int) : I:=.i .i64 x
def ekS (x : List Nat) : I:=.s x
def evI (x : Int) : V:=.m (.i .i64 x)
def evB (x : Bool) : V:=.m (.b x)
theorem hkP (a b : Int × Int) : Cq ⟨true,[1,1]⟩ (ekP a) (ekP b) = some (decide (a = b)):=by
 simp only [Cq,ekP,QJ,AaN,Ud,AcG,Acv]
 obtain ⟨a1,a2⟩:=a
 obtain ⟨b1,b2⟩:=b
 rw [Adg]
 simp
theorem hkI (a b : Int) : Cq ⟨false,[1]⟩ (ekI a) (ekI b) = some (decide (a = b)):=by
 simp only [Cq,ekI,AaN]
theorem hkS (a b : List Nat) : Cq ⟨false,[2]⟩ (ekS a) (ekS b) = some (decide (a = b)):=by
 simp only [Cq,ekS,eqC_s]
abbrev mPI:=mpR ekP evI
abbrev mPB:=mpR ekP evB
@[simp] theorem mPI_up (m : List ((Int × Int) × Int)) (x y s : Int) : TK ⟨true,[1,1]⟩ (mpR ekP evI m) (.ag [.i .i64 x,.i .i64 y]) (.m (.i .i64 s)) = some (mpR ekP evI (Qn m (x,y) s)):=Gl hkP (fun _=>rfl) m (x,y) s
@[simp] theorem Aaj (m : List ((Int × Int) × Bool)) (x y : Int) (s : Bool) : TK ⟨true,[1,1]⟩ (mpR ekP evB m) (.ag [.i .i64 x,.i .i64 y]) (.m (.b s)) = some (mpR ekP evB (Qn m (x,y) s)):=Gl hkP (fun _=>rfl) m (x,y) s
@[simp] theorem mIB_up (m : List (Int × Bool)) (x : Int) (s : Bool) : TK ⟨false,[1]⟩ (mpR ekI evB m) (.i .i64 x) (.m (.b s)) = some (mpR ekI evB (Qn m x s)):=Gl hkI (fun _=>rfl) m x s
@[simp] theorem mSI_up (m : List (List Nat × Int)) (x : List Nat) (s : Int) : TK ⟨false,[2]⟩ (mpR ekS evI m) (.s x) (.m (.i .i64 s)) = some (mpR ekS evI (Qn m x s)):=Gl hkS (fun _=>rfl) m x s
@[simp] theorem mP_del {β : Type} (ev : β -> V) (m : List ((Int × Int) × β)) (x y : Int) : mdlR ⟨true,[1,1]⟩ (mpR ekP ev m) (.ag [.i .i64 x,.i .i64 y]) = some (mpR ekP ev (Aah m (x,y))):=TM hkP m (x,y)
@[simp] theorem Xg (m : List ((Int × Int) × Int)) (x y : Int) (ok : Bool) : Ff ⟨true,[1,1]⟩ [.m (.i .i64 0)] false ok (mpR ekP evI m) (.ag [.i .i64 x,.i .i64 y]) = some (okT ok (.m (.i .i64 ((CW m (x,y)).getD 0))) (CW m (x,y)).isSome):=Ep (z0:=0) hkP rfl m (x,y)
@[simp] theorem Xh (m : List ((Int × Int) × Bool)) (x y : Int) (ok : Bool) : Ff ⟨true,[1,1]⟩ [.m (.b false)] false ok (mpR ekP evB m) (.ag [.i .i64 x,.i .i64 y]) = some (okT ok (.m (.b ((CW m (x,y)).getD false))) (CW m (x,y)).isSome):=Ep (z0:=false) hkP rfl m (x,y)
@[simp] theorem mIB_get (m : List (Int × Bool)) (x : Int) (ok : Bool) : Ff ⟨false,[1]⟩ [.m (.b false)] false ok (mpR ekI evB m) (.i .i64 x) = some (okT ok (.m (.b ((CW m x).getD false))) (CW m x).isSome):=Ep (z0:=false) hkI rfl m x
@[simp] theorem mSI_get (m : List (List Nat × Int)) (x : List Nat) (ok : Bool) : Ff ⟨false,[2]⟩ [.m (.i .i64 0)] false ok (mpR ekS evI m) (.s x) = some (okT ok (.m (.i .i64 ((CW m x).getD 0))) (CW m x).isSome):=Ep (z0:=0) hkS rfl m x
end Go.Mx
/- Decimal numerals: what the library's own conversion lays into memory. Nothing here speaks of a program. -/
namespace Go.Mx
open Go.Lib
theorem Qi {α : Type} {l : List α} {n m : Nat} (h : n = m) : nth l n = nth l m:=by rw [h]
theorem KA (x : Nat) (h0 : x ≠ 0) (h : x < 2 ^ 64) : 1 <= bitLen x /\ 2 ^ (bitLen x - 1) <= x /\ x < 2 ^ bitLen x:=bitLenAux_bounds 64 x h h0
theorem Kz {x a : Nat} (h1 : 2 ^ a <= x) (h2 : x < 2 ^ (a + 1)) (h : x < 2 ^ 64) : bitLen x = a + 1:=by
 have h0 : x ≠ 0:=by have:=Nat.two_pow_pos a; omega
 obtain ⟨b1,b2,b3⟩:=KA x h0 h
 have c1 : 2 ^ a < 2 ^ bitLen x:=by omega
 have c2 : 2 ^ (bitLen x - 1) < 2 ^ (a + 1):=by omega
 have d1:=(Nat.pow_lt_pow_iff_right (a:=2) (by decide)).1 c1
 have d2:=(Nat.pow_lt_pow_iff_right (a:=2) (by decide)).1 c2
 omega
theorem Abd {x k : Nat} (h1 : 2 ^ k <= x) (h : x < 2 ^ 64) : bitLen x = k + bitLen (x / 2 ^ k):=by
 have hp:=Nat.two_pow_pos k
 have h0 : x / 2 ^ k ≠ 0:=by have:=Nat.div_pos h1 hp; omega
 have hx : x / 2 ^ k <= x:=Nat.div_le_self _ _
 obtain ⟨b1,b2,b3⟩:=KA (x / 2 ^ k) h0 (by omega)
 generalize hL : bitLen (x / 2 ^ k) = L at b1 b2 b3 ⊢
 have e : bitLen x = (L - 1 + k) + 1:=by
  refine Kz ?_ ?_ h
  ·rw [Nat.pow_add]
   exact (Nat.le_div_iff_mul_le hp).1 b2
  ·rw [show L - 1 + k + 1 = L + k by omega,Nat.pow_add]
   exact (Nat.div_lt_iff_lt_mul hp).1 b3
 omega
theorem bl_8 {x : Nat} (h : x < 256) : bitLen x = bitLenAux 8 x:=by
 by_cases h0 : x = 0
 ·subst h0; rfl
 ·obtain ⟨b1,b2,b3⟩:=bitLenAux_bounds 8 x h h0
  have:=Kz (x:=x) (a:=bitLenAux 8 x - 1) b2 (by rw [show bitLenAux 8 x - 1 + 1 = bitLenAux 8 x by omega]; exact b3) (by omega)
  omega
def encB (x : UInt8) : List V:=[.m (.i .u8 (x.toNat : Int))]
def rowP (pre : List (List V)) (d : Array UInt8) (post : List (List V)) : List (List V):=pre ++ (d.toList.map encB ++ post)
@[simp] theorem rowP_len (pre : List (List V)) (d : Array UInt8) (post : List (List V)) : (rowP pre d post).length = pre.length + (d.size + post.length):=by simp [rowP]
theorem AN {α : Type} (A : List α) (x : α) (B : List α) : nth (A ++ x :: B) A.length = some x:=by rw [AV]; simp
theorem AA {α : Type} (A : List α) (x y : α) (B : List α) : Bl (A ++ x :: B) A.length y = some (A ++ y :: B):=by
 rw [BF _ _ _ (by simp)]
 congr 1
 rw [List.set_append_right _ _ (by omega)]
 simp
theorem AQ {G : Cfg} {f : Nat} {vs : List V} {H : Hp} {Q : V -> Hp -> Prop} (h : Ret G f vs H Q) : ∃ v H',Gives G f vs H v H' /\ Q v H':=by
 obtain ⟨n,v,H',h1,h2⟩:=h
 exact ⟨v,H',⟨n,h1⟩,h2⟩
theorem QL (H : Hp) (r ver esz st len : Nat) (lim : Bool) : elems H (.sl r ver esz st len lim) = (nth H r).bind fun row=>match row with
  | .cs _ esz' es base _=>gd (Nat.ble base ver && Nat.beq esz esz') (some ((es.drop st).take len))
  | _=>none:=rfl
theorem Dy {G : Cfg} {f : Nat} {is : List I} {vs : List V} {H H0 H2 : Hp} {v : V} (hp : G.prim f = none) (hs : G.sh f = false) (h : Gives G f (is.map .m) H0 v H0) (hv : Ak (view 20 H) vs = some is)
  (hr : vs.flatMap DN ≠ []) (hfl : Gg v = false) (hsh : vs.all BE = true) (hfz : AR (vs.flatMap DN) H = some H2) : Gives G f vs H v H2:=by
 obtain ⟨n,h⟩:=h
 cases n with
 | zero=>simp [Bm] at h
 | succ n =>
  refine ⟨n + 1,?_⟩
  simp only [Bm,hp,hs] at h ⊢
  cases hfn : G.fn f with
  | none =>
   rw [hfn] at h
   simp only [Af] at h
   obtain ⟨_,h⟩:=h
   cases is <;> simp [DF] at h
  | some fn =>
  rw [hfn] at h
  simp only at h ⊢
  have hm : ∀ (l : List I),Ak (view 20 H0) (l.map V.m) = some l:=by
   intro l
   induction l with
   | nil=>rfl
   | cons a r ih=>simp only [Adi,Ak,Mi,ih]; rfl
  have hz : (is.map V.m).flatMap DN = []:=by
   induction is with
   | nil=>rfl
   | cons a r _=>simp [DN,GP]
  unfold DK at h ⊢
  simp only [hm,hz,Acu] at h
  obtain ⟨is',he,⟨v1,H1⟩,hev,r,hr1,h2⟩:=h
  cases he
  have hrv : r = v:=by
   cases hsh : (is.map V.m).all BE with
   | false=>rw [hsh] at h2; simp at h2
   | true=>rw [hsh] at h2; simp at h2; exact h2
  subst hrv
  simp only [hv,AcG,hev,hr1]
  cases hl : vs.flatMap DN with
  | nil=>exact absurd hl hr
  | cons a b =>
   rw [hl] at hfz
   simp [hfl,hsh,hfz]
end Go.Mx
