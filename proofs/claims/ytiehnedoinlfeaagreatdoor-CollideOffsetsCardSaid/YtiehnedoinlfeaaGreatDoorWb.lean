/- Maps; decimal numerals. Nothing here speaks of a program. -/
import Derived.Test.YtiehnedoinlfeaaGreatDoorWa
import Derived.Lib.ItoaMem
set_option linter.unusedSimpArgs false
set_option linter.unusedVariables false
set_option linter.unusedSectionVars false
namespace Go.Mx
section
variable {α β:Type} [DecidableEq α]
def CJ:List (α×β)->α->Option β
 | [],_=>none
 | (a,b)::r,k=>if a=k then some b else CJ r k
def NM:List (α×β)->α->β->List (α×β)
 | [],k,v=>[(k,v)]
 | (a,b)::r,k,v=>if a=k then (k,v)::r else (a,b)::NM r k v
theorem Kl (m:List (α×β))(k:α)(v:β)(h:k ∉ m.map Prod.fst):NM m k v=m++[(k,v)]:=by
 induction m with
 | nil=>rfl
 | cons p r u =>
  obtain⟨a,b⟩:=p
  simp only[AhV,AhO,not_or]at h
  simp only[NM,Aht (fun e=>h.1 (Eq.symm e)),u h.2]
  rfl
theorem RB (m:List (α×β))(k:α):CJ m k=none↔k ∉ m.map Prod.fst:=by
 induction m with
 | nil=>simp[CJ]
 | cons p r u =>
  obtain⟨a,b⟩:=p
  by_cases h:a=k
  ·subst h;simp[CJ]
  ·have z:¬k=a:=fun e=>h e.symm
   simp only[CJ,Aht h,u,AhV,AhO,not_or]
   exact⟨fun x=>⟨z,x⟩,fun x=>x.2⟩
def mpR (ek:α->I)(ev:β->V)(m:List (α×β)):Row:=.mp (m.map fun p=>(ek p.1,ev p.2)) false
variable {ek:α->I} {ev:β->V} {kt:KT}
theorem TJ (u:∀a b,Dy kt (ek a) (ek b)=some (decide (a=b)))(m:List (α×β))(k:α):Kv kt (ek k) (m.map fun p=>(ek p.1,ev p.2))=some ((CJ m k).map ev):=by
 induction m with
 | nil=>rfl
 | cons p r z =>
  obtain⟨a,b⟩:=p
  simp only[AhV,Kv,u,Ahz,CJ]
  by_cases e:k=a
  ·subst e;simp
  ·rw[AhB e,Aht (fun h=>e h.symm)]
   exact z
theorem Ww (u:∀a b,Dy kt (ek a) (ek b)=some (decide (a=b)))(m:List (α×β))(k:α)(v:β):Wx kt (ek k) (ev v) (m.map fun p=>(ek p.1,ev p.2))=some ((NM m k v).map fun p=>(ek p.1,ev p.2)):=by
 induction m with
 | nil=>rfl
 | cons p r z =>
  obtain⟨a,b⟩:=p
  simp only[AhV,Wx,u,Ahz,NM]
  by_cases e:k=a
  ·subst e;simp
  ·rw[AhB e,Aht (fun h=>e h.symm),z]
   rfl
end
def Zw (kt:KT)(row:Row)(k:I)(x:V):Option Row:=match row with
 | .mp es false=>gd (Az x&&GA kt k) ((Wx kt k x es).map fun es'=>.mp es' false)
 | _=>none
def He (kt:KT)(zero:List V)(ag ok:Bool)(row:Row)(k:I):Option V:=match row with
 | .mp es _=>(gd (GA kt k) (Kv kt k es)).bind fun q=>AbD zero ag ok q
 | _=>none
@[simp] theorem AeU (c:Bt)(M:Mem):An c M .mkm []=some (.mp M.H.length,{ M with H:=M.H++[.mp [] false] }):=rfl
@[simp] theorem loud_mup (c:Bt)(M:Mem)(kt:KT)(r:Nat)(k:I)(x:V):An c M (.mup kt) [.mp r,.m k,x]=(nth M.H r).bind fun row=>(Zw kt row k x).bind fun row'=>(AN M.H r row').bind fun H'=>some (.un,{ M with H:=H' }):=by
 simp only[An]
 congr 1
 funext row
 cases row with
 | cs=>rfl
 | lp=>rfl
 | mp u z =>
  cases z with
  | true=>rfl
  | false =>
   simp only[Zw,AbI,Ahz]
   cases (Az x&&GA kt k) with
   | false=>rfl
   | true=>simp only[gd];cases Wx kt k x u <;> rfl
@[simp] theorem rx_lkp (M:Mem)(kt:KT)(z:List V)(ag ok:Bool)(r:Nat)(k:I):readX M (.lkp kt z ag ok) [.mp r,.m k]=(nth M.H r).bind fun row=>He kt z ag ok row k:=by
 simp only[readX,mapOf,AbI]
 cases nth M.H r with
 | none=>rfl
 | some row=>cases row <;> rfl
@[simp] theorem okT_t (x:V)(b:Bool):okT true x b=.tu [x,.m (.b b)]:=rfl
section
variable {α β:Type} [DecidableEq α] {ek:α->I} {ev:β->V} {kt:KT}
theorem LL (u:∀a b,Dy kt (ek a) (ek b)=some (decide (a=b)))(k:α):GA kt (ek k)=true:=by simp[GA,u]
theorem Kk (u:∀a b,Dy kt (ek a) (ek b)=some (decide (a=b)))(z:∀v,Az (ev v)=true)(m:List (α×β))(k:α)(v:β):Zw kt (mpR ek ev m) (ek k) (ev v)=some (mpR ek ev (NM m k v)):=by
 simp only[Zw,mpR,LL u,z,Ww u,Bool.and_self,gd,Aix]
theorem GG (u:∀a b,Dy kt (ek a) (ek b)=some (decide (a=b))){z:List V}{ag ok:Bool}{z0:β}(E:DF ag z=some (ev z0))(m:List (α×β))(k:α):He kt z ag ok (mpR ek ev m) (ek k)=some (okT ok (ev ((CJ m k).getD z0)) (CJ m k).isSome):=by
 simp only[He,mpR,LL u,TJ u,gd,Ahz]
 cases CJ m k with
 | none=>simp[AbD,E]
 | some v=>rfl
omit [DecidableEq α] in
omit [DecidableEq α] in
end
def ekP (p:Int×Int):I:=.ag [.i .i64 p.1,.i .i64 p.2]
def ekS (x:List Nat):I:=.s x
def evI (x:Int):V:=.m (.i .i64 x)
def evB (x:Bool):V:=.m (.b x)
theorem hkP (a b:Int×Int):Dy ⟨true,[1,1]⟩ (ekP a) (ekP b)=some (decide (a=b)):=by
 simp only[Dy,ekP,TN,eqC_i,XD,Ahz,Aho]
 obtain⟨u,J⟩:=a
 obtain⟨E,z⟩:=b
 rw[Aio]
 simp
theorem hkS (a b:List Nat):Dy ⟨false,[2]⟩ (ekS a) (ekS b)=some (decide (a=b)):=by
 simp only[Dy,ekS,eqC_s]
abbrev mPI:=mpR ekP evI
abbrev mPB:=mpR ekP evB
@[simp] theorem mPI_up (m:List ((Int×Int)×Int))(x y s:Int):Zw ⟨true,[1,1]⟩ (mpR ekP evI m) (.ag [.i .i64 x,.i .i64 y]) (.m (.i .i64 s))=some (mpR ekP evI (NM m (x,y) s)):=Kk hkP (fun _=>rfl) m (x,y) s
@[simp] theorem AeR (m:List ((Int×Int)×Bool))(x y:Int)(s:Bool):Zw ⟨true,[1,1]⟩ (mpR ekP evB m) (.ag [.i .i64 x,.i .i64 y]) (.m (.b s))=some (mpR ekP evB (NM m (x,y) s)):=Kk hkP (fun _=>rfl) m (x,y) s
@[simp] theorem mSI_up (m:List (List Nat×Int))(x:List Nat)(s:Int):Zw ⟨false,[2]⟩ (mpR ekS evI m) (.s x) (.m (.i .i64 s))=some (mpR ekS evI (NM m x s)):=Kk hkS (fun _=>rfl) m x s
@[simp] theorem AbB (m:List ((Int×Int)×Int))(x y:Int)(ok:Bool):He ⟨true,[1,1]⟩ [.m (.i .i64 0)] false ok (mpR ekP evI m) (.ag [.i .i64 x,.i .i64 y])=some (okT ok (.m (.i .i64 ((CJ m (x,y)).getD 0))) (CJ m (x,y)).isSome):=GG (z0:=0) hkP rfl m (x,y)
@[simp] theorem AbC (m:List ((Int×Int)×Bool))(x y:Int)(ok:Bool):He ⟨true,[1,1]⟩ [.m (.b false)] false ok (mpR ekP evB m) (.ag [.i .i64 x,.i .i64 y])=some (okT ok (.m (.b ((CJ m (x,y)).getD false))) (CJ m (x,y)).isSome):=GG (z0:=false) hkP rfl m (x,y)
@[simp] theorem mSI_get (m:List (List Nat×Int))(x:List Nat)(ok:Bool):He ⟨false,[2]⟩ [.m (.i .i64 0)] false ok (mpR ekS evI m) (.s x)=some (okT ok (.m (.i .i64 ((CJ m x).getD 0))) (CJ m x).isSome):=GG (z0:=0) hkS rfl m x
end Go.Mx
namespace Go.Mx
open Go.Lib
variable {α:Type}
theorem LN {l:List α}{n m:Nat}(h:n=m):nth l n=nth l m:=by rw[h]
theorem II (x:Nat)(u:x≠0)(h:x<2 ^ 64):1<=bitLen x/\2 ^ (bitLen x-1)<=x/\x<2 ^ bitLen x:=bitLenAux_bounds 64 x h u
variable {x:Nat}
theorem My {a:Nat}(Z:2 ^ a<=x)(U:x<2 ^ (a+1))(h:x<2 ^ 64):bitLen x=a+1:=by
 have u:x≠0:=by have:=Nat.two_pow_pos a;omega
 obtain⟨Q,W,N⟩:=II x u h
 have z:2 ^ a<2 ^ bitLen x:=by omega
 have E:2 ^ (bitLen x-1)<2 ^ (a+1):=by omega
 have Y:=(Nat.pow_lt_pow_iff_right (a:=2) (by decide)).1 z
 have J:=(Nat.pow_lt_pow_iff_right (a:=2) (by decide)).1 E
 omega
theorem Afu {k:Nat}(Q:2 ^ k<=x)(h:x<2 ^ 64):bitLen x=k+bitLen (x / 2 ^ k):=by
 have u:=Nat.two_pow_pos k
 have J:x / 2 ^ k≠0:=by have:=Nat.div_pos Q u;omega
 have W:x / 2 ^ k<=x:=Nat.div_le_self _ _
 obtain⟨N,E,z⟩:=II (x / 2 ^ k) J (by omega)
 generalize U:bitLen (x / 2 ^ k)=L at N E z ⊢
 have e:bitLen x=(L-1+k)+1:=by
  refine My ?_ ?_ h
  ·rw[Nat.pow_add]
   exact(Nat.le_div_iff_mul_le u).1 E
  ·rw[show L-1+k+1=L+k by omega,Nat.pow_add]
   exact(Nat.div_lt_iff_lt_mul u).1 z
 omega
theorem bl_8 (h:x<256):bitLen x=bitLenAux 8 x:=by
 by_cases u:x=0
 ·subst u;rfl
 ·obtain⟨J,z,E⟩:=bitLenAux_bounds 8 x h u
  have:=My (x:=x) (a:=bitLenAux 8 x-1) z (by rw[show bitLenAux 8 x-1+1=bitLenAux 8 x by omega];exact E) (by omega)
  omega
def RG (x:UInt8):List V:=[.m (.i .u8 (x.toNat:Int))]
def Hu (pre:L0)(d:Array UInt8)(post:L0):L0:=pre++(d.toList.map RG++post)
@[simp] theorem rowP_len (z:L0)(d:Array UInt8)(u:L0):(Hu z d u).length=z.length+(d.size+u.length):=by simp[Hu]
variable {i:Nat}
theorem WZ (u:L0)(d:Array UInt8)(z:L0)(h:i<d.size):nth (Hu u d z) (u.length+i)=some (RG d[i]):=by
 rw[AL,Hu,AhZ (by omega),AhM (by simp;omega)]
 simp[h]
theorem WY (z:L0)(d:Array UInt8)(u:L0)(x:UInt8)(h:i<d.size):AN (Hu z d u) (z.length+i) (RG x)=some (Hu z (d.setIfInBounds i x) u):=by
 rw[AB _ _ _ (by simp;omega)]
 congr 1
 unfold Hu
 rw[AiP _ _ (by omega),List.set_append_left _ _ (by simp;omega)]
 simp[List.map_set]
theorem Ax (z:L0)(d:Array UInt8)(u:L0)(x:UInt8)(h:i<d.size):BQ 1 (Hu z d u) (z.length+i) 0 [.m (.i .u8 (x.toNat:Int))]=some (Hu z (d.setIfInBounds i x) u):=by
 rw[Co,WZ z d u h]
 show (FC (RG d[i]) 0 [.m (.i .u8 (x.toNat:Int))]).bind _=_
 have:FC (RG d[i]) 0 [.m (.i .u8 (x.toNat:Int))]=some (RG x):=by simp[RG]
 rw[this]
 exact WY z d u x h
theorem FA (z:L0)(d:Array UInt8)(u:L0)(x:UInt8)(h:0<d.size):BQ 1 (Hu z d u) z.length 0 [.m (.i .u8 (x.toNat:Int))]=some (Hu z (d.setIfInBounds 0 x) u):=Ax z d u (i:=0) x h
theorem FY (z:L0)(d:Array UInt8)(u:L0)(v:Nat)(h:0<d.size)(E:v<10):BQ 1 (Hu z d u) z.length 0 [.m (.i .u8 (48+(v:Int)))]=some (Hu z (d.setIfInBounds 0 (UInt8.ofNat (48+v))) u):=by
 have:=Ax z d u (i:=0) (UInt8.ofNat (48+v)) h
 have e:((UInt8.ofNat (48+v)).toNat:Int)=48+(v:Int):=by simp;omega
 rw[e]at this
 exact this
theorem Rr (u:L0)(d:Array UInt8)(z:L0):((Hu u d z).drop u.length).take d.size=d.toList.map RG:=by
 unfold Hu
 rw[List.drop_left,List.take_left' (by simp)]
theorem AC (A:List α)(x:α)(B:List α):nth (A++x::B) A.length=some x:=by rw[AL];simp
theorem Av (A:List α)(x y:α)(B:List α):AN (A++x::B) A.length y=some (A++y::B):=by
 rw[AB _ _ _ (by simp)]
 congr 1
 rw[AiP _ _ (by omega)]
 simp
def GN (u:Nat):List Nat:=(decDigits u).map UInt8.toNat
def CK (n:Int):List Nat:=(Lib.itoa n).map UInt8.toNat
theorem Xx {u N:Nat}{z:Array UInt8}(h:FmtInv (nDigits u) u 0 N z):z.toList.map UInt8.toNat=GN u:=by
 have E:z.size=(decDigits u).length:=by rw[decDigits_length];exact h.size
 have:z.toList=decDigits u:=by
  refine List.ext_getElem (by simpa using E) fun j J Q=>?_
  rw[row_is_numeral h j Q,getElem!_pos z j (by simpa using J)]
  simp
 rw[this];rfl
theorem KD (h:i<10):GN i=[48+i]:=by
 unfold GN
 rw[decDigits_one h]
 simp
 omega
theorem XE (u:¬i<10)(z:i<100):GN i=[48+i / 10,48+i%10]:=by
 unfold GN
 rw[decDigits_two u z]
 simp
 omega
theorem PK {u:Nat}(h:¬u<10):GN u=GN (u / 10)++[48+u%10]:=by
 unfold GN
 rw[decDigits,dif_neg h]
 simp
 omega
theorem EI (u:Nat):CK (u:Int)=GN u:=by unfold CK GN;rw[itoa_nonneg]
theorem EJ (u:Nat)(h:1<=u):CK (-(u:Int))=45::GN u:=by unfold CK GN;rw[itoa_neg u h];rfl
variable {vs:List V}
theorem AJ {G:Cfg}{f:Nat}{H:Hp}{Q:V->Hp->Prop}(h:Ret G f vs H Q):∃v H',Gives G f vs H v H'/\Q v H':=by
 obtain⟨n,v,H',z,u⟩:=h
 exact⟨v,H',⟨n,z⟩,u⟩
theorem DZ (H:Hp)(r ver u st len:Nat)(lim:Bool):elems H (.sl r ver u st len lim)=(nth H r).bind fun row=>match row with
  | .cs _ esz' es base _=>gd (Nat.ble base ver&&Nat.beq u esz') (some ((es.drop st).take len))
  | _=>none:=rfl
theorem BV {G:Cfg}{f:Nat}{is:List I}{H H0 W:Hp}{v:V}(hp:G.prim f=none)(hs:G.sh f=false)(h:Gives G f (is.map .m) H0 v H0)(hv:Ah (view 20 H) vs=some is) 
  (hr:vs.flatMap Dv≠[]) (Q:FG v=false) (u:vs.all BN=true) (E:AY (vs.flatMap Dv) H=some W):Gives G f vs H v W:=by
 obtain⟨n,h⟩:=h
 cases n with
 | zero=>simp[BE]at h
 | succ n =>
  refine⟨n+1,?_⟩
  simp only[BE,hp,hs]at h ⊢
  cases hfn:G.fn f with
  | none =>
   rw[hfn]at h
   simp only[Ag]at h
   obtain⟨_,h⟩:=h
   cases is <;> simp[Er]at h
  | some fn =>
  rw[hfn]at h
  simp only at h ⊢
  have hm:∀(l:List I),Ah (view 20 H0) (l.map V.m)=some l:=by
   intro l
   induction l with
   | nil=>rfl
   | cons a r Z=>simp only[AhV,Ah,OO,Z];rfl
  have hz:(is.map V.m).flatMap Dv=[]:=by
   induction is with
   | nil=>rfl
   | cons a r _=>simp[Dv,Fs]
  unfold Ey at h ⊢
  simp only[hm,hz,Ahn]at h
  obtain⟨Y,he,⟨v1,H1⟩,N,r,J,z⟩:=h
  cases he
  have U:r=v:=by
   cases u:(is.map V.m).all BN with
   | false=>rw[u]at z;simp at z
   | true=>rw[u]at z;simp at z;exact z
  subst U
  simp only[hv,Ahz,N,J]
  cases hl:vs.flatMap Dv with
  | nil=>exact absurd hl hr
  | cons a b =>
   rw[hl]at E
   simp[Q,u,E]
end Go.Mx
