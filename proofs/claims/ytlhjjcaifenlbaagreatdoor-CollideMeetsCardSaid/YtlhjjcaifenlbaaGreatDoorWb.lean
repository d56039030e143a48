/- Maps; decimal numerals. Nothing here speaks of a program. -/
import Derived.Test.YtlhjjcaifenlbaaGreatDoorWa
import Derived.Lib.ItoaMem
set_option linter.unusedSimpArgs false
set_option linter.unusedVariables false
set_option linter.unusedSectionVars false
namespace Go.Mx
section
variable {α β:Type} [DecidableEq α]
def CG:List (α×β)->α->Option β
 | [],_=>none
 | (a,b)::r,k=>if a=k then some b else CG r k
def NP:List (α×β)->α->β->List (α×β)
 | [],k,v=>[(k,v)]
 | (a,b)::r,k,v=>if a=k then (k,v)::r else (a,b)::NP r k v
theorem Kn (m:List (α×β))(k:α)(v:β)(h:k ∉ m.map Prod.fst):NP m k v=m++[(k,v)]:=by
 induction m with
 | nil=>rfl
 | cons p r u =>
  obtain⟨a,b⟩:=p
  simp only[AhL,AhF,not_or]at h
  simp only[NP,Ahj (fun e=>h.1 (Eq.symm e)),u h.2]
  rfl
theorem RD (m:List (α×β))(k:α):CG m k=none↔k ∉ m.map Prod.fst:=by
 induction m with
 | nil=>simp[CG]
 | cons p r z =>
  obtain⟨a,b⟩:=p
  by_cases h:a=k
  ·subst h;simp[CG]
  ·have u:¬k=a:=fun e=>h e.symm
   simp only[CG,Ahj h,z,AhL,AhF,not_or]
   exact⟨fun x=>⟨u,x⟩,fun x=>x.2⟩
def mpR (ek:α->I)(ev:β->V)(m:List (α×β)):Row:=.mp (m.map fun p=>(ek p.1,ev p.2)) false
variable {ek:α->I} {ev:β->V} {kt:KT}
theorem TI (z:∀a b,Dx kt (ek a) (ek b)=some (decide (a=b)))(m:List (α×β))(k:α):Ky kt (ek k) (m.map fun p=>(ek p.1,ev p.2))=some ((CG m k).map ev):=by
 induction m with
 | nil=>rfl
 | cons p r u =>
  obtain⟨a,b⟩:=p
  simp only[AhL,Ky,z,Ahp,CG]
  by_cases e:k=a
  ·subst e;simp
  ·rw[Ahs e,Ahj (fun h=>e h.symm)]
   exact u
theorem WA (z:∀a b,Dx kt (ek a) (ek b)=some (decide (a=b)))(m:List (α×β))(k:α)(v:β):WB kt (ek k) (ev v) (m.map fun p=>(ek p.1,ev p.2))=some ((NP m k v).map fun p=>(ek p.1,ev p.2)):=by
 induction m with
 | nil=>rfl
 | cons p r u =>
  obtain⟨a,b⟩:=p
  simp only[AhL,WB,z,Ahp,NP]
  by_cases e:k=a
  ·subst e;simp
  ·rw[Ahs e,Ahj (fun h=>e h.symm),u]
   rfl
end
def Zx (kt:KT)(row:Row)(k:I)(x:V):Option Row:=match row with
 | .mp es false=>gd (AB x&&Gy kt k) ((WB kt k x es).map fun es'=>.mp es' false)
 | _=>none
def Hb (kt:KT)(zero:List V)(ag ok:Bool)(row:Row)(k:I):Option V:=match row with
 | .mp es _=>(gd (Gy kt k) (Ky kt k es)).bind fun q=>Aby zero ag ok q
 | _=>none
@[simp] theorem AeO (c:Bt)(M:Mem):An c M .mkm []=some (.mp M.H.length,{ M with H:=M.H++[.mp [] false] }):=rfl
@[simp] theorem loud_mup (c:Bt)(M:Mem)(kt:KT)(r:Nat)(k:I)(x:V):An c M (.mup kt) [.mp r,.m k,x]=(nth M.H r).bind fun row=>(Zx kt row k x).bind fun row'=>(AO M.H r row').bind fun H'=>some (.un,{ M with H:=H' }):=by
 simp only[An]
 congr 1
 funext row
 cases row with
 | cs=>rfl
 | lp=>rfl
 | mp z u =>
  cases u with
  | true=>rfl
  | false =>
   simp only[Zx,AbD,Ahp]
   cases (AB x&&Gy kt k) with
   | false=>rfl
   | true=>simp only[gd];cases WB kt k x z <;> rfl
@[simp] theorem rx_lkp (M:Mem)(kt:KT)(z:List V)(ag ok:Bool)(r:Nat)(k:I):readX M (.lkp kt z ag ok) [.mp r,.m k]=(nth M.H r).bind fun row=>Hb kt z ag ok row k:=by
 simp only[readX,mapOf,AbD]
 cases nth M.H r with
 | none=>rfl
 | some row=>cases row <;> rfl
@[simp] theorem okT_t (x:V)(b:Bool):okT true x b=.tu [x,.m (.b b)]:=rfl
section
variable {α β:Type} [DecidableEq α] {ek:α->I} {ev:β->V} {kt:KT}
theorem LV (u:∀a b,Dx kt (ek a) (ek b)=some (decide (a=b)))(k:α):Gy kt (ek k)=true:=by simp[Gy,u]
theorem Km (u:∀a b,Dx kt (ek a) (ek b)=some (decide (a=b)))(z:∀v,AB (ev v)=true)(m:List (α×β))(k:α)(v:β):Zx kt (mpR ek ev m) (ek k) (ev v)=some (mpR ek ev (NP m k v)):=by
 simp only[Zx,mpR,LV u,z,WA u,Bool.and_self,gd,Ail]
theorem GE (u:∀a b,Dx kt (ek a) (ek b)=some (decide (a=b))){z:List V}{ag ok:Bool}{z0:β}(E:DD ag z=some (ev z0))(m:List (α×β))(k:α):Hb kt z ag ok (mpR ek ev m) (ek k)=some (okT ok (ev ((CG m k).getD z0)) (CG m k).isSome):=by
 simp only[Hb,mpR,LV u,TI u,gd,Ahp]
 cases CG m k with
 | none=>simp[Aby,E]
 | some v=>rfl
omit [DecidableEq α] in
omit [DecidableEq α] in
end
def ekP (p:Int×Int):I:=.ag [.i .i64 p.1,.i .i64 p.2]
def ekS (x:List Nat):I:=.s x
def evI (x:Int):V:=.m (.i .i64 x)
def evB (x:Bool):V:=.m (.b x)
theorem hkP (a b:Int×Int):Dx ⟨true,[1,1]⟩ (ekP a) (ekP b)=some (decide (a=b)):=by
 simp only[Dx,ekP,TM,eqC_i,XG,Ahp,Ahe]
 obtain⟨u,E⟩:=a
 obtain⟨J,z⟩:=b
 rw[Aie]
 simp
theorem hkS (a b:List Nat):Dx ⟨false,[2]⟩ (ekS a) (ekS b)=some (decide (a=b)):=by
 simp only[Dx,ekS,eqC_s]
abbrev mPI:=mpR ekP evI
abbrev mPB:=mpR ekP evB
@[simp] theorem mPI_up (m:List ((Int×Int)×Int))(x y s:Int):Zx ⟨true,[1,1]⟩ (mpR ekP evI m) (.ag [.i .i64 x,.i .i64 y]) (.m (.i .i64 s))=some (mpR ekP evI (NP m (x,y) s)):=Km hkP (fun _=>rfl) m (x,y) s
@[simp] theorem AeL (m:List ((Int×Int)×Bool))(x y:Int)(s:Bool):Zx ⟨true,[1,1]⟩ (mpR ekP evB m) (.ag [.i .i64 x,.i .i64 y]) (.m (.b s))=some (mpR ekP evB (NP m (x,y) s)):=Km hkP (fun _=>rfl) m (x,y) s
@[simp] theorem mSI_up (m:List (List Nat×Int))(x:List Nat)(s:Int):Zx ⟨false,[2]⟩ (mpR ekS evI m) (.s x) (.m (.i .i64 s))=some (mpR ekS evI (NP m x s)):=Km hkS (fun _=>rfl) m x s
@[simp] theorem Abw (m:List ((Int×Int)×Int))(x y:Int)(ok:Bool):Hb ⟨true,[1,1]⟩ [.m (.i .i64 0)] false ok (mpR ekP evI m) (.ag [.i .i64 x,.i .i64 y])=some (okT ok (.m (.i .i64 ((CG m (x,y)).getD 0))) (CG m (x,y)).isSome):=GE (z0:=0) hkP rfl m (x,y)
@[simp] theorem Abx (m:List ((Int×Int)×Bool))(x y:Int)(ok:Bool):Hb ⟨true,[1,1]⟩ [.m (.b false)] false ok (mpR ekP evB m) (.ag [.i .i64 x,.i .i64 y])=some (okT ok (.m (.b ((CG m (x,y)).getD false))) (CG m (x,y)).isSome):=GE (z0:=false) hkP rfl m (x,y)
@[simp] theorem mSI_get (m:List (List Nat×Int))(x:List Nat)(ok:Bool):Hb ⟨false,[2]⟩ [.m (.i .i64 0)] false ok (mpR ekS evI m) (.s x)=some (okT ok (.m (.i .i64 ((CG m x).getD 0))) (CG m x).isSome):=GE (z0:=0) hkS rfl m x
end Go.Mx
namespace Go.Mx
open Go.Lib
variable {α:Type}
theorem LY {l:List α}{n m:Nat}(h:n=m):nth l n=nth l m:=by rw[h]
theorem IE (x:Nat)(u:x≠0)(h:x<2 ^ 64):1<=bitLen x/\2 ^ (bitLen x-1)<=x/\x<2 ^ bitLen x:=bitLenAux_bounds 64 x h u
variable {x:Nat}
theorem MH {a:Nat}(Z:2 ^ a<=x)(J:x<2 ^ (a+1))(h:x<2 ^ 64):bitLen x=a+1:=by
 have u:x≠0:=by have:=Nat.two_pow_pos a;omega
 obtain⟨N,W,U⟩:=IE x u h
 have z:2 ^ a<2 ^ bitLen x:=by omega
 have E:2 ^ (bitLen x-1)<2 ^ (a+1):=by omega
 have Y:=(Nat.pow_lt_pow_iff_right (a:=2) (by decide)).1 z
 have Q:=(Nat.pow_lt_pow_iff_right (a:=2) (by decide)).1 E
 omega
theorem Afo {k:Nat}(Q:2 ^ k<=x)(h:x<2 ^ 64):bitLen x=k+bitLen (x / 2 ^ k):=by
 have u:=Nat.two_pow_pos k
 have J:x / 2 ^ k≠0:=by have:=Nat.div_pos Q u;omega
 have U:x / 2 ^ k<=x:=Nat.div_le_self _ _
 obtain⟨N,E,z⟩:=IE (x / 2 ^ k) J (by omega)
 generalize W:bitLen (x / 2 ^ k)=L at N E z ⊢
 have e:bitLen x=(L-1+k)+1:=by
  refine MH ?_ ?_ h
  ·rw[Nat.pow_add]
   exact(Nat.le_div_iff_mul_le u).1 E
  ·rw[show L-1+k+1=L+k by omega,Nat.pow_add]
   exact(Nat.div_lt_iff_lt_mul u).1 z
 omega
theorem bl_8 (h:x<256):bitLen x=bitLenAux 8 x:=by
 by_cases u:x=0
 ·subst u;rfl
 ·obtain⟨J,E,z⟩:=bitLenAux_bounds 8 x h u
  have:=MH (x:=x) (a:=bitLenAux 8 x-1) E (by rw[show bitLenAux 8 x-1+1=bitLenAux 8 x by omega];exact z) (by omega)
  omega
def RI (x:UInt8):List V:=[.m (.i .u8 (x.toNat:Int))]
def Hq (pre:L0)(d:Array UInt8)(post:L0):L0:=pre++(d.toList.map RI++post)
@[simp] theorem rowP_len (z:L0)(d:Array UInt8)(u:L0):(Hq z d u).length=z.length+(d.size+u.length):=by simp[Hq]
variable {i:Nat}
theorem Xd (z:L0)(d:Array UInt8)(u:L0)(h:i<d.size):nth (Hq z d u) (z.length+i)=some (RI d[i]):=by
 rw[AL,Hq,AhP (by omega),AhC (by simp;omega)]
 simp[h]
theorem Xc (z:L0)(d:Array UInt8)(u:L0)(x:UInt8)(h:i<d.size):AO (Hq z d u) (z.length+i) (RI x)=some (Hq z (d.setIfInBounds i x) u):=by
 rw[AA _ _ _ (by simp;omega)]
 congr 1
 unfold Hq
 rw[AiF _ _ (by omega),List.set_append_left _ _ (by simp;omega)]
 simp[List.map_set]
theorem Ax (z:L0)(d:Array UInt8)(u:L0)(x:UInt8)(h:i<d.size):BS 1 (Hq z d u) (z.length+i) 0 [.m (.i .u8 (x.toNat:Int))]=some (Hq z (d.setIfInBounds i x) u):=by
 rw[Co,Xd z d u h]
 show (Fz (RI d[i]) 0 [.m (.i .u8 (x.toNat:Int))]).bind _=_
 have:Fz (RI d[i]) 0 [.m (.i .u8 (x.toNat:Int))]=some (RI x):=by simp[RI]
 rw[this]
 exact Xc z d u x h
theorem Fx (z:L0)(d:Array UInt8)(u:L0)(x:UInt8)(h:0<d.size):BS 1 (Hq z d u) z.length 0 [.m (.i .u8 (x.toNat:Int))]=some (Hq z (d.setIfInBounds 0 x) u):=Ax z d u (i:=0) x h
theorem FV (z:L0)(d:Array UInt8)(u:L0)(v:Nat)(h:0<d.size)(E:v<10):BS 1 (Hq z d u) z.length 0 [.m (.i .u8 (48+(v:Int)))]=some (Hq z (d.setIfInBounds 0 (UInt8.ofNat (48+v))) u):=by
 have:=Ax z d u (i:=0) (UInt8.ofNat (48+v)) h
 have e:((UInt8.ofNat (48+v)).toNat:Int)=48+(v:Int):=by simp;omega
 rw[e]at this
 exact this
theorem Rt (z:L0)(d:Array UInt8)(u:L0):((Hq z d u).drop z.length).take d.size=d.toList.map RI:=by
 unfold Hq
 rw[List.drop_left,List.take_left' (by simp)]
theorem AC (A:List α)(x:α)(B:List α):nth (A++x::B) A.length=some x:=by rw[AL];simp
theorem Au (A:List α)(x y:α)(B:List α):AO (A++x::B) A.length y=some (A++y::B):=by
 rw[AA _ _ _ (by simp)]
 congr 1
 rw[AiF _ _ (by omega)]
 simp
def GL (u:Nat):List Nat:=(decDigits u).map UInt8.toNat
def CH (n:Int):List Nat:=(Lib.itoa n).map UInt8.toNat
theorem XA {u N:Nat}{z:Array UInt8}(h:FmtInv (nDigits u) u 0 N z):z.toList.map UInt8.toNat=GL u:=by
 have J:z.size=(decDigits u).length:=by rw[decDigits_length];exact h.size
 have:z.toList=decDigits u:=by
  refine List.ext_getElem (by simpa using J) fun j Q E=>?_
  rw[row_is_numeral h j E,getElem!_pos z j (by simpa using Q)]
  simp
 rw[this];rfl
theorem KG (h:i<10):GL i=[48+i]:=by
 unfold GL
 rw[decDigits_one h]
 simp
 omega
theorem XH (u:¬i<10)(z:i<100):GL i=[48+i / 10,48+i%10]:=by
 unfold GL
 rw[decDigits_two u z]
 simp
 omega
theorem PK {u:Nat}(h:¬u<10):GL u=GL (u / 10)++[48+u%10]:=by
 unfold GL
 rw[decDigits,dif_neg h]
 simp
 omega
theorem EF (u:Nat):CH (u:Int)=GL u:=by unfold CH GL;rw[itoa_nonneg]
theorem EG (u:Nat)(h:1<=u):CH (-(u:Int))=45::GL u:=by unfold CH GL;rw[itoa_neg u h];rfl
variable {vs:List V}
theorem AJ {G:Cfg}{f:Nat}{H:Hp}{Q:V->Hp->Prop}(h:Ret G f vs H Q):∃v H',Gives G f vs H v H'/\Q v H':=by
 obtain⟨n,v,H',z,u⟩:=h
 exact⟨v,H',⟨n,z⟩,u⟩
theorem DX (H:Hp)(r ver u st len:Nat)(lim:Bool):elems H (.sl r ver u st len lim)=(nth H r).bind fun row=>match row with
  | .cs _ esz' es base _=>gd (Nat.ble base ver&&Nat.beq u esz') (some ((es.drop st).take len))
  | _=>none:=rfl
theorem BW {G:Cfg}{f:Nat}{is:List I}{H H0 W:Hp}{v:V}(hp:G.prim f=none)(hs:G.sh f=false)(h:Gives G f (is.map .m) H0 v H0)(hv:Ah (view 20 H) vs=some is) 
  (hr:vs.flatMap Du≠[]) (Q:FD v=false) (u:vs.all BO=true) (z:AX (vs.flatMap Du) H=some W):Gives G f vs H v W:=by
 obtain⟨n,h⟩:=h
 cases n with
 | zero=>simp[BE]at h
 | succ n =>
  refine⟨n+1,?_⟩
  simp only[BE,hp,hs]at h ⊢
  cases hfn:G.fn f with
  | none =>
   rw[hfn]at h
   simp only[Ag]at h
   obtain⟨_,h⟩:=h
   cases is <;> simp[Ep]at h
  | some fn =>
  rw[hfn]at h
  simp only at h ⊢
  have hm:∀(l:List I),Ah (view 20 H0) (l.map V.m)=some l:=by
   intro l
   induction l with
   | nil=>rfl
   | cons a r Z=>simp only[AhL,Ah,OO,Z];rfl
  have hz:(is.map V.m).flatMap Du=[]:=by
   induction is with
   | nil=>rfl
   | cons a r _=>simp[Du,Fp]
  unfold Eu at h ⊢
  simp only[hm,hz,Ahd]at h
  obtain⟨Y,he,⟨v1,H1⟩,U,r,J,E⟩:=h
  cases he
  have N:r=v:=by
   cases u:(is.map V.m).all BO with
   | false=>rw[u]at E;simp at E
   | true=>rw[u]at E;simp at E;exact E
  subst N
  simp only[hv,Ahp,U,J]
  cases hl:vs.flatMap Du with
  | nil=>exact absurd hl hr
  | cons a b =>
   rw[hl]at z
   simp[Q,u,z]
end Go.Mx
