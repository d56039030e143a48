/- Maps; decimal numerals. Nothing here speaks of a program. -/
import Derived.Test.YtlhjjcaifenlbaaGreatDoorWa
import Derived.Lib.ItoaMem
set_option linter.unusedSimpArgs false
set_option linter.unusedVariables false
set_option linter.unusedSectionVars false
/- Maps: rows of pairs as finite maps. Nothing here speaks of a program. -/
namespace Go.Mx
section
variable {α β:Type} [DecidableEq α]
def Cp:List (α×β)->α->Option β
 | [],_=>none
 | (a,b)::r,k=>if a=k then some b else Cp r k
def MO:List (α×β)->α->β->List (α×β)
 | [],k,v=>[(k,v)]
 | (a,b)::r,k,v=>if a=k then (k,v)::r else (a,b)::MO r k v
def Aei:List (α×β)->α->List (α×β)
 | [],_=>[]
 | (a,b)::r,k=>if a=k then r else (a,b)::Aei r k
theorem JV (m:List (α×β))(k:α)(v:β)(h:k ∉ m.map Prod.fst):MO m k v=m++[(k,v)]:=by
 induction m with
 | nil=>rfl
 | cons p r ih =>
  obtain⟨a,b⟩:=p
  simp only[AiT,AiK,not_or]at h
  simp only[MO,Aiq (fun e=>h.1 (Eq.symm e)),ih h.2]
  rfl
theorem QI (m:List (α×β))(k:α):Cp m k=none↔k ∉ m.map Prod.fst:=by
 induction m with
 | nil=>simp[Cp]
 | cons p r ih =>
  obtain⟨a,b⟩:=p
  by_cases h:a=k
  ·subst h;simp[Cp]
  ·have h':¬k=a:=fun e=>h e.symm
   simp only[Cp,Aiq h,ih,AiT,AiK,not_or]
   exact⟨fun x=>⟨h',x⟩,fun x=>x.2⟩
def mpR (ek:α->I)(ev:β->V)(m:List (α×β)):Row:=.mp (m.map fun p=>(ek p.1,ev p.2)) false
variable {ek:α->I} {ev:β->V} {kt:KT}
theorem SU (hk:∀a b,CD kt (ek a) (ek b)=some (decide (a=b)))(m:List (α×β))(k:α):Kf kt (ek k) (m.map fun p=>(ek p.1,ev p.2))=some ((Cp m k).map ev):=by
 induction m with
 | nil=>rfl
 | cons p r ih =>
  obtain⟨a,b⟩:=p
  simp only[AiT,Kf,hk,Ait,Cp]
  by_cases e:k=a
  ·subst e;simp
  ·rw[AiE e,Aiq (fun h=>e h.symm)]
   exact ih
theorem Vm (hk:∀a b,CD kt (ek a) (ek b)=some (decide (a=b)))(m:List (α×β))(k:α)(v:β):Vn kt (ek k) (ev v) (m.map fun p=>(ek p.1,ev p.2))=some ((MO m k v).map fun p=>(ek p.1,ev p.2)):=by
 induction m with
 | nil=>rfl
 | cons p r ih =>
  obtain⟨a,b⟩:=p
  simp only[AiT,Vn,hk,Ait,MO]
  by_cases e:k=a
  ·subst e;simp
  ·rw[AiE e,Aiq (fun h=>e h.symm),ih]
   rfl
theorem Wy (hk:∀a b,CD kt (ek a) (ek b)=some (decide (a=b)))(m:List (α×β))(k:α):Ys kt (ek k) (m.map fun p=>(ek p.1,ev p.2))=some ((Aei m k).map fun p=>(ek p.1,ev p.2)):=by
 induction m with
 | nil=>rfl
 | cons p r ih =>
  obtain⟨a,b⟩:=p
  simp only[AiT,Ys,hk,Ait,Aei]
  by_cases e:k=a
  ·subst e;simp
  ·rw[AiE e,Aiq (fun h=>e h.symm),ih]
   rfl
end
/- What the operations do to a row. -/
def Wc (kt:KT)(row:Row)(k:I)(x:V):Option Row:=match row with
 | .mp es false=>gd (AA x&&FU kt k) ((Vn kt k x es).map fun es'=>.mp es' false)
 | _=>none
def mdlR (kt:KT)(row:Row)(k:I):Option Row:=match row with
 | .mp es false=>(gd (FU kt k) (Ys kt k es)).map fun es'=>.mp es' false
 | _=>none
def FV (kt:KT)(zero:List V)(ag ok:Bool)(row:Row)(k:I):Option V:=match row with
 | .mp es _=>(gd (FU kt k) (Kf kt k es)).bind fun q=>Aaj zero ag ok q
 | _=>none
@[simp] theorem Aeo (c:Bq)(M:Mem):An c M .mkm []=some (.mp M.H.length,{ M with H:=M.H++[.mp [] false] }):=rfl
@[simp] theorem Aen (c:Bq)(M:Mem)(k:IntKind)(n:Int):An c M .mkm [.m (.i k n)]=some (.mp M.H.length,{ M with H:=M.H++[.mp [] false] }):=rfl
@[simp] theorem loud_mup (c:Bq)(M:Mem)(kt:KT)(r:Nat)(k:I)(x:V):An c M (.mup kt) [.mp r,.m k,x]=(nth M.H r).bind fun row=>(Wc kt row k x).bind fun row'=>(AN M.H r row').bind fun H'=>some (.un,{ M with H:=H' }):=by
 simp only[An]
 congr 1
 funext row
 cases row with
 | cs=>rfl
 | lp=>rfl
 | mp es fz =>
  cases fz with
  | true=>rfl
  | false =>
   simp only[Wc,Aao,Ait]
   cases (AA x&&FU kt k) with
   | false=>rfl
   | true=>simp only[gd];cases Vn kt k x es <;> rfl
@[simp] theorem rx_lkp (M:Mem)(kt:KT)(z:List V)(ag ok:Bool)(r:Nat)(k:I):readX M (.lkp kt z ag ok) [.mp r,.m k]=(nth M.H r).bind fun row=>FV kt z ag ok row k:=by
 simp only[readX,mapOf,Aao]
 cases nth M.H r with
 | none=>rfl
 | some row=>cases row <;> rfl
@[simp] theorem okT_t (x:V)(b:Bool):okT true x b=.tu [x,.m (.b b)]:=rfl
@[simp] theorem okT_f (x:V)(b:Bool):okT false x b=x:=rfl
section
variable {α β:Type} [DecidableEq α] {ek:α->I} {ev:β->V} {kt:KT}
theorem HW (hk:∀a b,CD kt (ek a) (ek b)=some (decide (a=b)))(k:α):FU kt (ek k)=true:=by simp[FU,hk]
theorem Hl (hk:∀a b,CD kt (ek a) (ek b)=some (decide (a=b)))(hv:∀v,AA (ev v)=true)(m:List (α×β))(k:α)(v:β):Wc kt (mpR ek ev m) (ek k) (ev v)=some (mpR ek ev (MO m k v)):=by
 simp only[Wc,mpR,HW hk,hv,Vm hk,Bool.and_self,gd,Ajo]
theorem We (hk:∀a b,CD kt (ek a) (ek b)=some (decide (a=b)))(m:List (α×β))(k:α):mdlR kt (mpR ek ev m) (ek k)=some (mpR ek ev (Aei m k)):=by
 simp only[mdlR,mpR,HW hk,Wy hk,gd,Ajo]
theorem ES (hk:∀a b,CD kt (ek a) (ek b)=some (decide (a=b))){z:List V}{ag ok:Bool}{z0:β}(hz:Dk ag z=some (ev z0))(m:List (α×β))(k:α):FV kt z ag ok (mpR ek ev m) (ek k)=some (okT ok (ev ((Cp m k).getD z0)) (Cp m k).isSome):=by
 simp only[FV,mpR,HW hk,SU hk,gd,Ait]
 cases Cp m k with
 | none=>simp[Aaj,hz]
 | some v=>rfl
omit [DecidableEq α] in
omit [DecidableEq α] in
end
/- Keys: positions (two ints), ints, texts. Values: ints, bools. -/
def ekP (p:Int×Int):I:=.ag [.i .i64 p.1,.i .i64 p.2]
def ekI (x:Int):I:=.i .i64 x
def ekS (x:List Nat):I:=.s x
def evI (x:Int):V:=.m (.i .i64 x)
def evB (x:Bool):V:=.m (.b x)
theorem hkP (a b:Int×Int):CD ⟨true,[1,1]⟩ (ekP a) (ekP b)=some (decide (a=b)):=by
 simp only[CD,ekP,SY,AeP,Ww,Ait,Ail]
 obtain⟨a1,a2⟩:=a
 obtain⟨b1,b2⟩:=b
 rw[Ajg]
 simp
theorem hkI (a b:Int):CD ⟨false,[1]⟩ (ekI a) (ekI b)=some (decide (a=b)):=by
 simp only[CD,ekI,AeP]
theorem hkS (a b:List Nat):CD ⟨false,[2]⟩ (ekS a) (ekS b)=some (decide (a=b)):=by
 simp only[CD,ekS,eqC_s]
abbrev mPI:=mpR ekP evI
abbrev mPB:=mpR ekP evB
@[simp] theorem mPI_up (m:List ((Int×Int)×Int))(x y s:Int):Wc ⟨true,[1,1]⟩ (mpR ekP evI m) (.ag [.i .i64 x,.i .i64 y]) (.m (.i .i64 s))=some (mpR ekP evI (MO m (x,y) s)):=Hl hkP (fun _=>rfl) m (x,y) s
@[simp] theorem Aek (m:List ((Int×Int)×Bool))(x y:Int)(s:Bool):Wc ⟨true,[1,1]⟩ (mpR ekP evB m) (.ag [.i .i64 x,.i .i64 y]) (.m (.b s))=some (mpR ekP evB (MO m (x,y) s)):=Hl hkP (fun _=>rfl) m (x,y) s
@[simp] theorem mIB_up (m:List (Int×Bool))(x:Int)(s:Bool):Wc ⟨false,[1]⟩ (mpR ekI evB m) (.i .i64 x) (.m (.b s))=some (mpR ekI evB (MO m x s)):=Hl hkI (fun _=>rfl) m x s
@[simp] theorem mSI_up (m:List (List Nat×Int))(x:List Nat)(s:Int):Wc ⟨false,[2]⟩ (mpR ekS evI m) (.s x) (.m (.i .i64 s))=some (mpR ekS evI (MO m x s)):=Hl hkS (fun _=>rfl) m x s
@[simp] theorem mP_del {β:Type}(ev:β->V)(m:List ((Int×Int)×β))(x y:Int):mdlR ⟨true,[1,1]⟩ (mpR ekP ev m) (.ag [.i .i64 x,.i .i64 y])=some (mpR ekP ev (Aei m (x,y))):=We hkP m (x,y)
@[simp] theorem Aah (m:List ((Int×Int)×Int))(x y:Int)(ok:Bool):FV ⟨true,[1,1]⟩ [.m (.i .i64 0)] false ok (mpR ekP evI m) (.ag [.i .i64 x,.i .i64 y])=some (okT ok (.m (.i .i64 ((Cp m (x,y)).getD 0))) (Cp m (x,y)).isSome):=ES (z0:=0) hkP rfl m (x,y)
@[simp] theorem Aai (m:List ((Int×Int)×Bool))(x y:Int)(ok:Bool):FV ⟨true,[1,1]⟩ [.m (.b false)] false ok (mpR ekP evB m) (.ag [.i .i64 x,.i .i64 y])=some (okT ok (.m (.b ((Cp m (x,y)).getD false))) (Cp m (x,y)).isSome):=ES (z0:=false) hkP rfl m (x,y)
@[simp] theorem mIB_get (m:List (Int×Bool))(x:Int)(ok:Bool):FV ⟨false,[1]⟩ [.m (.b false)] false ok (mpR ekI evB m) (.i .i64 x)=some (okT ok (.m (.b ((Cp m x).getD false))) (Cp m x).isSome):=ES (z0:=false) hkI rfl m x
@[simp] theorem mSI_get (m:List (List Nat×Int))(x:List Nat)(ok:Bool):FV ⟨false,[2]⟩ [.m (.i .i64 0)] false ok (mpR ekS evI m) (.s x)=some (okT ok (.m (.i .i64 ((Cp m x).getD 0))) (Cp m x).isSome):=ES (z0:=0) hkS rfl m x
end Go.Mx
/- Decimal numerals: what the library's own conversion lays into memory. Nothing here speaks of a program. -/
namespace Go.Mx
open Go.Lib
theorem Lq {α:Type}{l:List α}{n m:Nat}(h:n=m):nth l n=nth l m:=by rw[h]
theorem Is (x:Nat)(h0:x≠0)(h:x<2 ^ 64):1<=bitLen x/\2 ^ (bitLen x-1)<=x/\x<2 ^ bitLen x:=bitLenAux_bounds 64 x h h0
theorem Mg {x a:Nat}(h1:2 ^ a<=x)(h2:x<2 ^ (a+1))(h:x<2 ^ 64):bitLen x=a+1:=by
 have h0:x≠0:=by have:=Nat.two_pow_pos a;omega
 obtain⟨b1,b2,b3⟩:=Is x h0 h
 have c1:2 ^ a<2 ^ bitLen x:=by omega
 have c2:2 ^ (bitLen x-1)<2 ^ (a+1):=by omega
 have d1:=(Nat.pow_lt_pow_iff_right (a:=2) (by decide)).1 c1
 have d2:=(Nat.pow_lt_pow_iff_right (a:=2) (by decide)).1 c2
 omega
theorem Afe {x k:Nat}(h1:2 ^ k<=x)(h:x<2 ^ 64):bitLen x=k+bitLen (x / 2 ^ k):=by
 have hp:=Nat.two_pow_pos k
 have h0:x / 2 ^ k≠0:=by have:=Nat.div_pos h1 hp;omega
 have hx:x / 2 ^ k<=x:=Nat.div_le_self _ _
 obtain⟨b1,b2,b3⟩:=Is (x / 2 ^ k) h0 (by omega)
 generalize hL:bitLen (x / 2 ^ k)=L at b1 b2 b3 ⊢
 have e:bitLen x=(L-1+k)+1:=by
  refine Mg ?_ ?_ h
  ·rw[Nat.pow_add]
   exact(Nat.le_div_iff_mul_le hp).1 b2
  ·rw[show L-1+k+1=L+k by omega,Nat.pow_add]
   exact(Nat.div_lt_iff_lt_mul hp).1 b3
 omega
theorem bl_8 {x:Nat}(h:x<256):bitLen x=bitLenAux 8 x:=by
 by_cases h0:x=0
 ·subst h0;rfl
 ·obtain⟨b1,b2,b3⟩:=bitLenAux_bounds 8 x h h0
  have:=Mg (x:=x) (a:=bitLenAux 8 x-1) b2 (by rw[show bitLenAux 8 x-1+1=bitLenAux 8 x by omega];exact b3) (by omega)
  omega
def QN (x:UInt8):List V:=[.m (.i .u8 (x.toNat:Int))]
def He (pre:List (List V))(d:Array UInt8)(post:List (List V)):List (List V):=pre++(d.toList.map QN++post)
@[simp] theorem rowP_len (pre:List (List V))(d:Array UInt8)(post:List (List V)):(He pre d post).length=pre.length+(d.size+post.length):=by simp[He]
theorem VQ (pre:List (List V))(d:Array UInt8)(post:List (List V)){i:Nat}(h:i<d.size):nth (He pre d post) (pre.length+i)=some (QN d[i]):=by
 rw[AP,He,AiX (by omega),AiI (by simp;omega)]
 simp[h]
theorem VP (pre:List (List V))(d:Array UInt8)(post:List (List V)){i:Nat}(x:UInt8)(h:i<d.size):AN (He pre d post) (pre.length+i) (QN x)=some (He pre (d.setIfInBounds i x) post):=by
 rw[AE _ _ _ (by simp;omega)]
 congr 1
 unfold He
 rw[AjJ _ _ (by omega),List.set_append_left _ _ (by simp;omega)]
 simp[List.map_set]
theorem Av (pre:List (List V))(d:Array UInt8)(post:List (List V)){i:Nat}(x:UInt8)(h:i<d.size):Cb 1 (He pre d post) (pre.length+i) 0 [.m (.i .u8 (x.toNat:Int))]=some (He pre (d.setIfInBounds i x) post):=by
 rw[Cj,VQ pre d post h]
 show (Fw (QN d[i]) 0 [.m (.i .u8 (x.toNat:Int))]).bind _=_
 have:Fw (QN d[i]) 0 [.m (.i .u8 (x.toNat:Int))]=some (QN x):=by simp[QN]
 rw[this]
 exact VP pre d post x h
theorem Ft (pre:List (List V))(d:Array UInt8)(post:List (List V))(x:UInt8)(h:0<d.size):Cb 1 (He pre d post) pre.length 0 [.m (.i .u8 (x.toNat:Int))]=some (He pre (d.setIfInBounds 0 x) post):=Av pre d post (i:=0) x h
theorem FQ (pre:List (List V))(d:Array UInt8)(post:List (List V))(v:Nat)(h:0<d.size)(hv:v<10):Cb 1 (He pre d post) pre.length 0 [.m (.i .u8 (48+(v:Int)))]=some (He pre (d.setIfInBounds 0 (UInt8.ofNat (48+v))) post):=by
 have:=Av pre d post (i:=0) (UInt8.ofNat (48+v)) h
 have e:((UInt8.ofNat (48+v)).toNat:Int)=48+(v:Int):=by simp;omega
 rw[e]at this
 exact this
theorem Qz (pre:List (List V))(d:Array UInt8)(post:List (List V)):((He pre d post).drop pre.length).take d.size=d.toList.map QN:=by
 unfold He
 rw[List.drop_left,List.take_left' (by simp)]
theorem AC {α:Type}(A:List α)(x:α)(B:List α):nth (A++x::B) A.length=some x:=by rw[AP];simp
theorem As {α:Type}(A:List α)(x y:α)(B:List α):AN (A++x::B) A.length y=some (A++y::B):=by
 rw[AE _ _ _ (by simp)]
 congr 1
 rw[AjJ _ _ (by omega)]
 simp
def GF (u:Nat):List Nat:=(decDigits u).map UInt8.toNat
def CA (n:Int):List Nat:=(Lib.itoa n).map UInt8.toNat
theorem Wq {u v':Nat}{dk:Array UInt8}(h:FmtInv (nDigits u) u 0 v' dk):dk.toList.map UInt8.toNat=GF u:=by
 have hs:dk.size=(decDigits u).length:=by rw[decDigits_length];exact h.size
 have:dk.toList=decDigits u:=by
  refine List.ext_getElem (by simpa using hs) fun j h1 h2=>?_
  rw[row_is_numeral h j h2,getElem!_pos dk j (by simpa using h1)]
  simp
 rw[this];rfl
theorem Km {i:Nat}(h:i<10):GF i=[48+i]:=by
 unfold GF
 rw[decDigits_one h]
 simp
 omega
theorem Wz {i:Nat}(h1:¬i<10)(h2:i<100):GF i=[48+i / 10,48+i%10]:=by
 unfold GF
 rw[decDigits_two h1 h2]
 simp
 omega
theorem OX {u:Nat}(h:¬u<10):GF u=GF (u / 10)++[48+u%10]:=by
 unfold GF
 rw[decDigits,dif_neg h]
 simp
 omega
theorem Ey (u:Nat):CA (u:Int)=GF u:=by unfold CA GF;rw[itoa_nonneg]
theorem Ez (u:Nat)(h:1<=u):CA (-(u:Int))=45::GF u:=by unfold CA GF;rw[itoa_neg u h];rfl
theorem Bn {G:Cfg}{f:Nat}{vs:List V}{H:Hp}{Q:V->Hp->Prop}(h:Ret G f vs H Q):∃v H',Gives G f vs H v H'/\Q v H':=by
 obtain⟨n,v,H',h1,h2⟩:=h
 exact⟨v,H',⟨n,h1⟩,h2⟩
theorem DM (H:Hp)(r ver esz st len:Nat)(lim:Bool):elems H (.sl r ver esz st len lim)=(nth H r).bind fun row=>match row with
  | .cs _ esz' es base _=>gd (Nat.ble base ver&&Nat.beq esz esz') (some ((es.drop st).take len))
  | _=>none:=rfl
theorem Cm {G:Cfg}{f:Nat}{is:List I}{vs:List V}{H H0 H2:Hp}{v:V}(hp:G.prim f=none)(hs:G.sh f=false)(h:Gives G f (is.map .m) H0 v H0)(hv:Af (view 20 H) vs=some is) 
  (hr:vs.flatMap DA≠[]) (hfl:FY v=false) (hsh:vs.all BJ=true) (hfz:AW (vs.flatMap DA) H=some H2):Gives G f vs H v H2:=by
 obtain⟨n,h⟩:=h
 cases n with
 | zero=>simp[BB]at h
 | succ n =>
  refine⟨n+1,?_⟩
  simp only[BB,hp,hs]at h ⊢
  cases hfn:G.fn f with
  | none =>
   rw[hfn]at h
   simp only[Ae]at h
   obtain⟨_,h⟩:=h
   cases is <;> simp[Ei]at h
  | some fn =>
  rw[hfn]at h
  simp only at h ⊢
  have hm:∀(l:List I),Af (view 20 H0) (l.map V.m)=some l:=by
   intro l
   induction l with
   | nil=>rfl
   | cons a r ih=>simp only[AiT,Af,NV,ih];rfl
  have hz:(is.map V.m).flatMap DA=[]:=by
   induction is with
   | nil=>rfl
   | cons a r _=>simp[DA,FR]
  unfold Em at h ⊢
  simp only[hm,hz,Aik]at h
  obtain⟨is',he,⟨v1,H1⟩,hev,r,hr1,h2⟩:=h
  cases he
  have hrv:r=v:=by
   cases hsh:(is.map V.m).all BJ with
   | false=>rw[hsh]at h2;simp at h2
   | true=>rw[hsh]at h2;simp at h2;exact h2
  subst hrv
  simp only[hv,Ait,hev,hr1]
  cases hl:vs.flatMap DA with
  | nil=>exact absurd hl hr
  | cons a b =>
   rw[hl]at hfz
   simp[hfl,hsh,hfz]
end Go.Mx
