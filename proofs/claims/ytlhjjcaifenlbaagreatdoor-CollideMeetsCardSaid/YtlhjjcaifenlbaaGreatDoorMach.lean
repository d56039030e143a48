/- The abstract machine: a small deterministic interpreter for compact code, with immutable values (I), values with references (V) and rows of mutable memory. Definitions only; nothing here speaks of a program. -/
import GoSem.Core.Sem
set_option linter.unusedSimpArgs false
set_option linter.unusedVariables false
set_option linter.unusedSectionVars false
namespace Go.Mx
set_option linter.defProp false
def Ahd:=@Option.bind_eq_some_iff
def Ahe:=@Option.some.injEq
def Ahf:=@Prod.mk.injEq
def Ahg:=@List.getElem?_eq_some_iff
def Ahh:=@List.getElem?_eq_getElem
def Ahi:=@Bool.and_eq_true
def Ahj:=@if_neg
def Ahk:=@Nat.le_refl
def Ahl:=@if_pos
def Ahm:=@List.mem_of_getElem?
def Ahn:=@List.getElem?_eq_none_iff
def Aho:=@Nat.zero_le
def Ahp:=@Option.bind_some
def Ahq:=@decide_eq_true
def Ahr:=@List.length_map
def Ahs:=@decide_eq_false
def Aht:=@decide_eq_true_eq
def Ahu:=@List.all_eq_true
def Ahv:=@List.length_append
def Ahw:=@Array.size_setIfInBounds
def Ahx:=@List.length_take
def Ahy:=@Nat.eq_of_beq_eq_true
def Ahz:=@List.take_of_length_le
def AhA:=@Int.eq_ofNat_of_zero_le
def AhB:=@Nat.beq_eq
def AhC:=@List.getElem?_append_left
def AhD:=@List.getElem?_map
def AhE:=@List.mem_map
def AhF:=@List.mem_cons
def AhG:=@List.mem_cons_self
def AhH:=@List.mem_singleton
def AhI:=@List.take_length
def AhJ:=@List.eq_nil_of_length_eq_zero
def AhK:=@List.pairwise_cons
def AhL:=@List.map_cons
def AhM:=@Option.map_eq_some_iff
def AhN:=@List.getElem?_take
def AhO:=@Array.getElem?_eq_some_iff
def AhP:=@List.getElem?_append_right
def AhQ:=@Bool.not_eq_true'
def AhR:=@List.length_cons
def AhS:=@Nat.ble_eq
def AhT:=@List.length_drop
def AhU:=@Nat.add_mul
def AhV:=@List.mem_append
def AhW:=@List.length_nil
def AhX:=@Array.length_toList
def AhY:=@trivial
def AhZ:=@List.mem_cons_of_mem
def Aia:=@List.drop_length
def Aib:=@List.length_set
def Aic:=@List.flatten_cons
def Aid:=@List.append_nil
def Aie:=@Bool.eq_iff_iff
def Aif:=@Nat.mul_le_mul_right
def Aig:=@List.cons_append
def Aih:=@Nat.zero_add
def Aii:=@Option.isSome_iff_exists
def Aij:=@List.getElem?_set_ne
def Aik:=@Option.some.inj
def Ail:=@Option.map_some
def Aim:=@List.map_map
def Ain:=@List.mem_of_mem_take
def Aio:=@List.drop_zero
def Aip:=@List.append_assoc
def Aiq:=@Option.bind_assoc
def Air:=@Ne.symm
def Ais:=@List.length_singleton
def Ait:=@List.pairwise_append
def Aiu:=@Classical.byContradiction
def Aiv:=@List.pairwise_iff_getElem
def Aiw:=@List.drop_drop
def Aix:=@Bool.or_eq_true
def Aiy:=@Bool.true_and
def Aiz:=@Nat.le_of_ble_eq_true
def AiA:=@Nat.blt_eq
def AiB:=@Nat.le_trans
def AiC:=@List.drop_eq_getElem_cons
def AiD:=@List.mem_map_of_mem
def AiE:=@congrArg
def AiF:=@List.set_append_right
def AiG:=@Bool.false_eq_true
def AiH:=@Nat.lt_of_lt_of_le
def AiI:=@List.getElem?_drop
def AiJ:=@Option.getD_some
def AiK:=@Nat.mul_comm
def AiL:=@List.exists_cons_of_ne_nil
def AiM:=@List.getElem?_set_self
def AiN:=@List.length_pos_iff
inductive I where
 | b (x:Bool)
 | i (k:IntKind) (n:Int)
 | s (x:List Nat)
 | nl (k:Nat)
 | er
 | sl (es:List (List I))
 | pt (cs:List I)
 | ag (cs:List I)
 | mp (es:List (List I))
 | fn (f:Nat) (cap:List I)
 deriving Inhabited
inductive V where
 | m (x:I)
 | un
 | ls (es:List (List I))
 | sl (r ver esz st len:Nat) (lim:Bool)
 | pt (r ver ix off:Nat)
 | fa (d off:Nat)
 | mp (r:Nat)
 | fn (f:Nat) (cap:List V)
 | ag (cs:List V)
 | tu (vs:List V)
 | yl (r:Nat)
 deriving Inhabited
abbrev LE:=List (Nat×List V)
abbrev LT:=List (List I)
abbrev L0:=List (List V)
abbrev J0 (n:Int):V:=.m (.i .i64 n)
abbrev J4 (n:Int):I:=.i .i64 n
structure KT where
 ag:Bool
 ks:List Nat
inductive OP where
 | mv|pick
 | un (op:UnOp)
 | bin (op:BinOp)
 | eqb (neg:Bool)
 | eqs (neg:Bool) (ks:List Nat)
 | eqn (neg:Bool) (k:Nat)
 | build (zero:List V) (places:List (Nat×Nat))
 | bsl (esz:Nat) (zero:List V) (n:Nat) (places:List Nat)
 | cv (k:IntKind)
 | cvs
 | s2b
 | fad (off:Nat)
 | fld (ag:Bool) (sz off:Nat)
 | ixa (esz:Nat)
 | ixaA (n esz:Nat)
 | ixv (n esz:Nat) (ag:Bool)
 | ixs
 | ext (j:Nat)
 | mkf (f:Nat)
 | nck
 | mm (mx:Bool)
 | len (str:Bool)
 | usd
 | slc (esz:Nat) (lo hi mx:Bool)
inductive OR where
 | ld (ag:Bool) (sz:Nat)
 | ld1
 | ldb (ag:Bool) (sz:Nat)
 | ldx (d:Nat) (ag:Bool) (sz:Nat)
 | lkp (kt:KT) (zero:List V) (ag ok:Bool)
 | lenm
 | b2s
 | slcA (n esz:Nat) (lo hi mx:Bool)
inductive OL where
 | alp (d:Nat) (zero:List V)
 | bxp (d sz:Nat)
 | als (ty esz n:Nat) (zero:List V)
 | bxs (ty esz n:Nat)
 | st (sz:Nat)
 | stb (d sz:Nat)
 | str (sz:Nat)
 | mkm
 | mks (ty esz:Nat) (zero:List V) (bytes:Nat)
 | bss (ty esz:Nat) (zero:List V) (n:Nat) (places:List Nat)
 | bsw (ty esz:Nat) (zero:List V) (n:Nat) (places:List Nat)
 | bsf (esz:Nat) (zero:List V) (n:Nat) (places:List Nat)
 | s2w
 | app (ty esz bytes:Nat)
 | mup (kt:KT)
 | mdl (kt:KT)
 | cpy (esz:Nat)
 | clr (z:V)
 | ust (ty:Nat)
 | s2r (ty:Nat)
 | cal (f:Nat)
 | cav
inductive O where
 | p (o:OP)
 | r (o:OR)
 | l (o:OL)
inductive Opnd where
 | v (n:Nat)
 | l (n:Nat)
 | k (x:V)
inductive Dst where
 | no
 | v (n:Nat)
 | l (n:Nat)
structure Op where
 dst:Dst
 op:O
 args:List Opnd
 guard:Option (Opnd×Bool)
inductive C where
 | skip
 | reg (ops:List Op)
 | seq (a b:C)
 | ite (c:Opnd) (a b:C)
 | blk (id:Nat) (c:C)
 | loop (drop:List Nat) (c:C)
 | rng (f:Opnd) (drop ps:List Nat) (ca cb:C)
 | ex (id:Nat)
 | ret
inductive Row where
 | cs (ty esz:Nat) (es:L0) (base:Nat) (fz:Bool)
 | mp (es:List (I×V)) (fz:Bool)
 | lp (st:Nat) (pd:Option (Option Nat)) (E:List (Nat×V)) (ps:List Nat) (ca cb:C)
 deriving Inhabited
abbrev Hp:=List Row
abbrev Env:=List (Nat×V)
structure Mem where
 B:LE
 H:Hp
inductive Res where
 | t (n:Nat)
 | c (n sz:Nat) (ag:Bool)
structure F where
 np:Nat
 res:List Res
 body:C
inductive Ex where
 | nm
 | ex (id:Nat)
 | ret
structure St where
 E:Env
 L:Env
 M:Mem
def gd {α:Type}(b:Bool)(x:Option α):Option α:=match b with
 | true=>x
 | false=>none
def inR (lo hi:Nat):Int->Bool
 | .ofNat m=>Nat.ble m hi
 | .negSucc m=>Nat.blt m lo
def okK:IntKind->Int->Bool
 | .i64,n=>inR 9223372036854775808 9223372036854775807 n
 | .u64,n=>inR 0 18446744073709551615 n
 | .i32,n=>inR 2147483648 2147483647 n
 | .u32,n=>inR 0 4294967295 n
 | .i16,n=>inR 32768 32767 n
 | .u16,n=>inR 0 65535 n
 | .i8,n=>inR 128 127 n
 | .u8,n=>inR 0 255 n
def wr (k:IntKind)(n:Int):Int:=match okK k n with
 | true=>n
 | false=>k.wrap n
def ltI:Int->Int->Bool
 | .ofNat a,.ofNat b=>Nat.blt a b
 | .ofNat _,.negSucc _=>false
 | .negSucc _,.ofNat _=>true
 | .negSucc a,.negSucc b=>Nat.blt b a
def eqI:Int->Int->Bool
 | .ofNat a,.ofNat b=>Nat.beq a b
 | .negSucc a,.negSucc b=>Nat.beq a b
 | _,_=>false
def leI (a b:Int):Bool:=!ltI b a
def eqK:IntKind->IntKind->Bool
 | .i64,.i64=>true
 | .u64,.u64=>true
 | .i32,.i32=>true
 | .u32,.u32=>true
 | .i16,.i16=>true
 | .u16,.u16=>true
 | .i8,.i8=>true
 | .u8,.u8=>true
 | _,_=>false
def Abt:Int->Option Nat
 | .ofNat m=>some m
 | .negSucc _=>none
def eqL:List Nat->List Nat->Bool
 | [],[]=>true
 | a::x,b::y=>Nat.beq a b&&eqL x y
 | _,_=>false
def ltL:List Nat->List Nat->Bool
 | _,[]=>false
 | [],_::_=>true
 | a::x,b::y=>Nat.blt a b||(Nat.beq a b&&ltL x y)
def eqC (k:Nat):I->I->Option Bool
 | .b x,.b y=>gd (Nat.beq k 0) (some (x==y))
 | .i j x,.i j' y=>gd (Nat.beq k 1&&eqK j j') (some (eqI x y))
 | .s x,.s y=>gd (Nat.beq k 2) (some (eqL x y))
 | _,_=>none
def Fs:List Nat->List I->List I->Option Bool
 | [],[],[]=>some true
 | k::ks,x::xs,y::ys=>(eqC k x y).bind fun r=>(Fs ks xs ys).bind fun rs=>some (r&&rs)
 | _,_,_=>none
def Dx (kt:KT)(x y:I):Option Bool:=match kt.ag with
 | true=>match x,y with
  | .ag xs,.ag ys=>Fs kt.ks xs ys
  | _,_=>none
 | false=>match kt.ks with
  | [k]=>eqC k x y
  | _=>none
def Gy (kt:KT)(x:I):Bool:=match Dx kt x x with
 | some _=>true
 | none=>false
def BF:List V->Option (List I)
 | []=>some []
 | .m x::r=>(BF r).bind fun l=>some (x::l)
 | _=>none
def mkAg (cs:List V):V:=match BF cs with
 | some l=>.m (.ag l)
 | none=>.ag cs
def Ay:V->Option (List V)
 | .m (.ag cs)=>some (cs.map .m)
 | .ag cs=>some cs
 | .tu _=>none
 | .un=>none
 | .fa _ _=>none
 | v=>some [v]
def aggC:V->Option (List V)
 | .m (.ag cs)=>some (cs.map .m)
 | .ag cs=>some cs
 | _=>none
def BM:V->Bool
 | .m (.ag _)=>false
 | .ag _=>false
 | .tu _=>false
 | .un=>false
 | .fa _ _=>false
 | _=>true
def DD (ag:Bool)(cs:List V):Option V:=match ag with
 | true=>some (mkAg cs)
 | false=>match cs with
  | [x]=>some x
  | _=>none
def Dw (n:Nat)(l:List V):Option (List V):=gd (Nat.beq (l.take n).length n) (some (l.take n))
def Fz (cs:List V)(off:Nat)(xs:List V):Option (List V) :=
 gd (Nat.ble (off+xs.length) cs.length) (some (cs.take off++xs++cs.drop (off+xs.length)))
def Cf:Env->Nat->Option V
 | [],_=>none
 | (k,x)::r,n=>match Nat.beq k n with
  | true=>some x
  | false=>Cf r n
def CO:Env->Nat->V->Env
 | [],n,x=>[(n,x)]
 | (k,y)::r,n,x=>match Nat.blt n k with
  | true=>(n,x)::(k,y)::r
  | false=>match Nat.beq k n with
   | true=>(n,x)::r
   | false=>(k,y)::CO r n x
def rmE:Env->Nat->Env
 | [],_=>[]
 | (k,x)::r,n=>match Nat.beq k n with
  | true=>rmE r n
  | false=>(k,x)::rmE r n
def getB:LE->Nat->Option (List V)
 | [],_=>none
 | (k,x)::r,n=>match Nat.beq k n with
  | true=>some x
  | false=>getB r n
def Eo:LE->Nat->List V->LE
 | [],n,x=>[(n,x)]
 | (k,y)::r,n,x=>match Nat.beq k n with
  | true=>(n,x)::r
  | false=>match Nat.blt n k with
   | true=>(n,x)::(k,y)::r
   | false=>(k,y)::Eo r n x
def Ah {α β:Type}(f:α->Option β):List α->Option (List β)
 | []=>some []
 | a::r=>(f a).bind fun x=>(Ah f r).bind fun l=>some (x::l)
def MI:IntKind->Nat
 | .i8=>8
 | .u8=>8
 | .i16=>16
 | .u16=>16
 | .i32=>32
 | .u32=>32
 | .i64=>64
 | .u64=>64
def Nw:IntKind->Nat
 | .i8=>256
 | .u8=>256
 | .i16=>65536
 | .u16=>65536
 | .i32=>4294967296
 | .u32=>4294967296
 | .i64=>18446744073709551616
 | .u64=>18446744073709551616
def Gp (k:IntKind):Int->Nat
 | .ofNat m=>m%Nw k
 | .negSucc m=>Nw k-1-m%Nw k
def vi (k:IntKind)(n:Int):Option V:=some (.m (.i k n))
def vb (x:Bool):Option V:=some (.m (.b x))
def arX (op:BinOp)(k:IntKind)(x y:Int):Option V:=match op with
 | .add=>vi k (wr k (x+y))
 | .sub=>vi k (wr k (x-y))
 | .mul=>vi k (wr k (x*y))
 | .quo=>gd (!eqI y 0) (vi k (wr k (x.tdiv y)))
 | .rem=>gd (!eqI y 0) (vi k (x.tmod y))
 | .eql=>vb (eqI x y)
 | .neq=>vb (!eqI x y)
 | .lss=>vb (ltI x y)
 | .leq=>vb (leI x y)
 | .gtr=>vb (ltI y x)
 | .geq=>vb (leI y x)
 | .and=>vi k (wr k (Int.ofNat (Nat.land (Gp k x) (Gp k y))))
 | .or=>vi k (wr k (Int.ofNat (Nat.lor (Gp k x) (Gp k y))))
 | .xor=>vi k (wr k (Int.ofNat (Nat.xor (Gp k x) (Gp k y))))
 | _=>none
def shX (op:BinOp)(k:IntKind)(x:Int)(y:Nat):Option V:=match op with
 | .shl=>vi k (wr k (x*Int.ofNat (Nat.pow 2 (Nat.min y (MI k)))))
 | .shr=>vi k (x.fdiv (Int.ofNat (Nat.pow 2 (Nat.min y (MI k)))))
 | _=>none
def stX (op:BinOp)(x y:List Nat):Option V:=match op with
 | .add=>gd (Nat.ble (x.length+y.length) 9223372036854775807) (some (.m (.s (x++y))))
 | .eql=>vb (eqL x y)
 | .neq=>vb (!eqL x y)
 | .lss=>vb (ltL x y)
 | .leq=>vb (ltL x y||eqL x y)
 | .gtr=>vb (!(ltL x y||eqL x y))
 | .geq=>vb (!ltL x y)
 | _=>none
def Ev (op:BinOp):V->V->Option V
 | .m (.i k x),.m (.i k' y)=>match op with
  | .shl=>(Abt y).bind fun n=>shX .shl k x n
  | .shr=>(Abt y).bind fun n=>shX .shr k x n
  | op=>gd (eqK k k') (arX op k x y)
 | .m (.s x),.m (.s y)=>stX op x y
 | _,_=>none
def unX (op:UnOp):V->Option V
 | .m (.i k x)=>match op with
  | .neg=>vi k (wr k (0-x))
  | .xor=>vi k (wr k (Int.ofNat (Nw k-1-Gp k x)))
  | _=>none
 | .m (.b x)=>match op with
  | .not=>vb (!x)
  | _=>none
 | _=>none
def FC:Nat->V->Option Bool
 | 0,.m (.nl 0)=>some true
 | 0,.m (.pt _)=>some false
 | 0,.pt _ _ _ _=>some false
 | 0,.fa _ _=>some false
 | 1,.m (.nl 1)=>some true
 | 1,.m (.mp _)=>some false
 | 1,.mp _=>some false
 | 2,.m (.nl 2)=>some true
 | 2,.m (.fn _ _)=>some false
 | 2,.fn _ _=>some false
 | 3,.m (.nl 3)=>some true
 | 3,.m .er=>some false
 | 4,.m (.nl 4)=>some true
 | 4,.m (.sl _)=>some false
 | 4,.ls _=>some false
 | 4,.sl _ _ _ _ _ _=>some false
 | _,_=>none
def TJ (cs:List V):List (Nat×Nat)->List V->Option (List V)
 | [],[]=>some cs
 | (off,sz)::ps,x::xs=>(Ay x).bind fun l=>gd (Nat.beq l.length sz) ((Fz cs off l).bind fun cs'=>TJ cs' ps xs)
 | _,_=>none
def AO {α:Type}:List α->Nat->α->Option (List α)
 | [],_,_=>none
 | _::r,0,x=>some (x::r)
 | y::r,n+1,x=>(AO r n x).bind fun l=>some (y::l)
def BP (esz:Nat)(es:L0):List Nat->List V->Option (L0)
 | [],[]=>some es
 | ix::ps,x::xs=>(Ay x).bind fun l=>gd (Nat.beq l.length esz) ((AO es ix l).bind fun es'=>BP esz es' ps xs)
 | _,_=>none
def nth {α:Type}:List α->Nat->Option α
 | [],_=>none
 | x::_,0=>some x
 | _::r,n+1=>nth r n
def idx (n:Nat):V->Option Nat
 | .m (.i _ (.ofNat j))=>gd (Nat.blt j n) (some j)
 | _=>none
def bnd (n:Nat):V->Option Nat
 | .m (.i _ (.ofNat j))=>gd (Nat.ble j n) (some j)
 | _=>none
def KK (n:Nat)(lo hi mx:Bool)(vs:List V):Option (Nat×Nat) :=
 match lo,hi,mx,vs with
 | false,false,false,[]=>some (0,n)
 | true,false,false,[a]=>(bnd n a).bind fun l=>some (l,n)
 | false,true,false,[b]=>(bnd n b).bind fun h=>some (0,h)
 | true,true,false,[a,b]=>(bnd n b).bind fun h=>(bnd h a).bind fun l=>some (l,h)
 | false,true,true,[b,c]=>(bnd n c).bind fun m=>(bnd m b).bind fun h=>gd (Nat.beq h m) (some (0,h))
 | true,true,true,[a,b,c]=>(bnd n c).bind fun m=>(bnd m b).bind fun h=>gd (Nat.beq h m) ((bnd h a).bind fun l=>some (l,h))
 | _,_,_,_=>none
def AeK (x y:Int):Int:=match ltI x y with
 | true=>y
 | false=>x
def AeJ (x y:Int):Int:=match ltI y x with
 | true=>y
 | false=>x
def mmX (mx:Bool)(k:IntKind)(x:Int):List V->Option V
 | []=>vi k x
 | .m (.i _ y)::r=>mmX mx k (match mx with
  | true=>AeK x y
  | false=>AeJ x y) r
 | _=>none
def Ct {α:Type}(esz:Nat):Nat->List α->List (List α)
 | 0,_=>[]
 | n+1,l=>l.take esz::Ct esz n (l.drop esz)
def AB:V->Bool
 | .fa _ _=>false
 | _=>true
def Ww (n:Nat):LT->Bool
 | []=>true
 | e::_=>Nat.beq e.length n
def Mg:V->Bool
 | .m (.s _)=>true
 | _=>false
def eqB:Bool->Bool->Bool
 | true,b=>b
 | false,b=>!b
def Aq:OP->List V->Option V
 | .mv,[x]=>some x
 | .pick,[c,a,b]=>match c with
  | .m (.b true)=>some a
  | .m (.b false)=>some b
  | _=>none
 | .un op,[x]=>unX op x
 | .bin op,[x,y]=>Ev op x y
 | .eqb neg,[x,y]=>match x,y with
  | .m (.b x),.m (.b y)=>vb (xor neg (x==y))
  | _,_=>none
 | .eqs neg ks,[x,y]=>match x,y with
  | .m (.ag xs),.m (.ag ys)=>(Fs ks xs ys).bind fun r=>vb (xor neg r)
  | _,_=>none
 | .eqn neg k,[x]=>(FC k x).bind fun r=>vb (xor neg r)
 | .build zero places,xs=>(TJ zero places xs).bind fun cs=>some (mkAg cs)
 | .bsl esz zero n places,xs=>(BP esz (List.replicate n zero) places xs).bind fun es=>(Ah BF es).bind fun l=>some (.ls l)
 | .cv k,[x]=>match x with
  | .m (.i _ n)=>vi k (wr k n)
  | _=>none
 | .cvs,[x]=>match x with
  | .m (.s x)=>some (.m (.s x))
  | _=>none
 | .s2b,[x]=>match x with
  | .m (.s x)=>gd (Nat.ble x.length 9223372036854775807) (some (.m (.sl (x.map fun c:Nat=>[.i .u8 (Int.ofNat c)]))))
  | _=>none
 | .fad off,[x]=>match x with
  | .fa d o=>some (.fa d (o+off))
  | .pt r ver ix o=>some (.pt r ver ix (o+off))
  | .m (.pt cs)=>some (.m (.pt (cs.drop off)))
  | _=>none
 | .fld ag sz off,[x]=>(aggC x).bind fun cs=>(Dw sz (cs.drop off)).bind fun l=>DD ag l
 | .ixa esz,[x,i]=>match x with
  | .m (.sl es)=>(idx es.length i).bind fun j=>(nth es j).bind fun e=>gd (Nat.beq e.length esz) (some (.m (.pt e)))
  | .ls es=>(idx es.length i).bind fun j=>(nth es j).bind fun e=>gd (Nat.beq e.length esz) (some (.m (.pt e)))
  | .sl r ver esz' st len _=>gd (Nat.beq esz esz') ((idx len i).bind fun j=>some (.pt r ver (st+j) 0))
  | _=>none
 | .ixaA n esz,[x,i]=>(idx n i).bind fun j=>match x with
  | .fa d o=>some (.fa d (o+j*esz))
  | .pt r ver ix o=>some (.pt r ver ix (o+j*esz))
  | .m (.pt cs)=>some (.m (.pt (cs.drop (j*esz))))
  | _=>none
 | .ixv n esz ag,[x,i]=>(idx n i).bind fun j=>(aggC x).bind fun cs=>(Dw esz (cs.drop (j*esz))).bind fun l=>DD ag l
 | .ixs,[x,i]=>match x with
  | .m (.s l)=>(idx l.length i).bind fun j=>(nth l j).bind fun c=>vi .u8 (Int.ofNat c)
  | _=>none
 | .ext j,[x]=>match x with
  | .tu vs=>nth vs j
  | _=>none
 | .mkf f,xs=>gd (xs.all AB) (some (.fn f xs))
 | .nck,[x]=>match x with
  | .fa _ _=>some x
  | .pt _ _ _ _=>some x
  | .m (.pt _)=>some x
  | .fn _ _=>some x
  | .m (.fn _ _)=>some x
  | .yl _=>some x
  | _=>none
 | .mm mx,x::r=>match x with
  | .m (.i k x)=>mmX mx k x r
  | _=>none
 | .len str,[x]=>gd (eqB (Mg x) str) (match x with
  | .m (.nl 4)=>vi .i64 0
  | .m (.sl es)=>vi .i64 (Int.ofNat es.length)
  | .ls es=>vi .i64 (Int.ofNat es.length)
  | .m (.s l)=>vi .i64 (Int.ofNat l.length)
  | .sl _ _ _ _ len _=>vi .i64 (Int.ofNat len)
  | _=>none)
 | .usd,[x]=>match x with
  | .m (.nl 4)=>some (.m (.nl 0))
  | .sl r ver esz st len _=>gd (Nat.beq esz 1&&Nat.beq st 0&&Nat.ble 1 len) (some (.pt r ver 0 0))
  | _=>none
 | .slc esz lo hi mx,x::vs=>gd (eqB (Mg x) (Nat.beq esz 0)) (match x with
  | .m (.s l)=>gd (!mx) ((KK l.length lo hi mx vs).bind fun p=>some (.m (.s ((l.drop p.1).take (p.2-p.1)))))
  | .m (.nl 4)=>(KK 0 lo hi mx vs).bind fun _=>some (.m (.nl 4))
  | .m (.sl es)=>gd (Ww esz es) ((KK es.length lo hi mx vs).bind fun p=>some (match mx with
   | true=>.ls ((es.drop p.1).take (p.2-p.1))
   | false=>.m (.sl ((es.drop p.1).take (p.2-p.1)))))
  | .ls es=>gd (Ww esz es) ((KK es.length lo hi mx vs).bind fun p=>some (match mx||Nat.beq p.2 es.length with
   | true=>.ls ((es.drop p.1).take (p.2-p.1))
   | false=>.m (.sl ((es.drop p.1).take (p.2-p.1)))))
  | .sl r ver esz' st len lim=>gd (Nat.beq esz esz') ((KK len lo hi mx vs).bind fun p=>some (.sl r ver esz' (st+p.1) (p.2-p.1) (mx||(lim&&Nat.beq p.2 len))))
  | _=>none)
 | _,_=>none
def Ky (kt:KT)(key:I):List (I×V)->Option (Option V)
 | []=>some none
 | (k,x)::r=>(Dx kt key k).bind fun q=>match q with
  | true=>some (some x)
  | false=>Ky kt key r
def pairs:LT->Option (List (I×V))
 | []=>some []
 | [k,x]::r=>(pairs r).bind fun l=>some ((k,.m x)::l)
 | _=>none
def mapOf (H:Hp):V->Option (List (I×V))
 | .m (.nl 1)=>some []
 | .m (.mp es)=>pairs es
 | .mp r=>(nth H r).bind fun row=>match row with
  | .mp es _=>some es
  | _=>none
 | _=>none
def Bn (es:LT):L0:=es.map fun e=>e.map .m
def elems (H:Hp):V->Option (L0)
 | .m (.nl 4)=>some []
 | .m (.sl es)=>some (Bn es)
 | .ls es=>some (Bn es)
 | .sl r ver esz st len _=>(nth H r).bind fun row=>match row with
  | .cs _ esz' es base _=>gd (Nat.ble base ver&&Nat.beq esz esz') (some ((es.drop st).take len))
  | _=>none
 | _=>none
def Ft:L0->Option (List Nat)
 | []=>some []
 | [.m (.i .u8 (.ofNat c))]::r=>gd (Nat.blt c 256) ((Ft r).bind fun l=>some (c::l))
 | _=>none
def CW (esz:Nat)(es:L0)(ix off sz:Nat):Option (List V) :=
 match Nat.ble (off%esz+sz) esz with
 | true=>(nth es (ix+off / esz)).bind fun e=>Dw sz (e.drop (off%esz))
 | false=>Dw sz (es.flatten.drop (ix*esz+off))
def readA (M:Mem)(sz:Nat):V->Option (List V)
 | .fa d off=>(getB M.B d).bind fun cs=>Dw sz (cs.drop off)
 | .pt r ver ix off=>(nth M.H r).bind fun row=>match row with
  | .cs _ esz es base _=>gd (Nat.ble base ver&&(Nat.ble (off+sz) esz||Nat.beq ver es.length)) (CW esz es ix off sz)
  | _=>none
 | .m (.pt cs)=>Dw sz (cs.map .m)
 | _=>none
def AbD:V->Option I
 | .m x=>some x
 | _=>none
def okT (ok:Bool)(x:V)(b:Bool):V:=match ok with
 | true=>.tu [x,.m (.b b)]
 | false=>x
def Aby (zero:List V)(ag ok:Bool):Option V->Option V
 | some x=>some (okT ok x true)
 | none=>(DD ag zero).bind fun z=>some (okT ok z false)
def AdR (d:Nat):V->Bool
 | .fa k _=>Nat.beq k d
 | _=>false
def readX (M:Mem):OR->List V->Option V
 | .ld ag sz,[a]=>(readA M sz a).bind fun cs=>DD ag cs
 | .lkp kt zero ag ok,[m,k]=>(mapOf M.H m).bind fun es=>(AbD k).bind fun key=>(gd (Gy kt key) (Ky kt key es)).bind fun q=>Aby zero ag ok q
 | .lenm,[m]=>(mapOf M.H m).bind fun es=>vi .i64 (Int.ofNat es.length)
 | .slcA n esz lo hi mx,x::vs=>match x with
  | .m (.pt cs)=>gd (Nat.beq cs.length (n*esz)&&Nat.ble n 9223372036854775807) ((KK n lo hi mx vs).bind fun p=>some (match mx||Nat.beq p.2 n with
   | true=>.ls (((Ct esz n cs).drop p.1).take (p.2-p.1))
   | false=>.m (.sl (((Ct esz n cs).drop p.1).take (p.2-p.1)))))
  | .pt r ver 0 0=>(nth M.H r).bind fun row=>match row with
   | .cs _ esz' es _ _=>gd (Nat.beq esz esz'&&Nat.beq es.length n&&Nat.beq ver n) ((KK n lo hi mx vs).bind fun p=>some (.sl r ver esz p.1 (p.2-p.1) (mx||Nat.beq p.2 n)))
   | _=>none
  | .pt r ver 0 (off+1)=>(nth M.H r).bind fun row=>match row with
   | .cs _ esz' es _ _=>gd (Nat.beq esz esz'&&Nat.beq esz 1&&Nat.ble (off+1+n) es.length&&Nat.beq ver es.length) ((KK n lo hi mx vs).bind fun p=>some (.sl r ver esz (off+1+p.1) (p.2-p.1) (mx||Nat.beq p.2 n)))
   | _=>none
  | _=>none
 | .ld1,[a]=>match a with
  | .pt r ver ix off=>(nth M.H r).bind fun row=>match row with
   | .cs _ esz es base _=>gd (Nat.ble base ver&&Nat.blt off esz) ((nth es ix).bind fun e=>nth e off)
   | _=>none
  | _=>none
 | .ldb ag sz,[a]=>match a with
  | .fa d off=>(readA M sz (.fa d off)).bind fun cs=>DD ag cs
  | _=>none
 | .ldx d ag sz,[a]=>gd (!AdR d a) ((readA M sz a).bind fun cs=>DD ag cs)
 | .b2s,[x]=>(elems M.H x).bind fun es=>(Ft es).bind fun l=>some (.m (.s l))
 | _,_=>none
def BS (esz:Nat)(es:L0)(ix off:Nat)(xs:List V):Option (L0) :=
 match Nat.ble (off%esz+xs.length) esz with
 | true=>(nth es (ix+off / esz)).bind fun e=>(Fz e (off%esz) xs).bind fun e'=>AO es (ix+off / esz) e'
 | false=>(Fz es.flatten (ix*esz+off) xs).bind fun l=>some (Ct esz es.length l)
def Fm (M:Mem)(xs:List V):V->Option Mem
 | .fa d off=>(getB M.B d).bind fun cs=>(Fz cs off xs).bind fun cs'=>some { M with B:=Eo M.B d cs' }
 | .pt r ver ix off=>(nth M.H r).bind fun row=>match row with
  | .cs ty esz es _ fz=>gd (!fz&&Nat.beq ver es.length) ((BS esz es ix off xs).bind fun es'=>(AO M.H r (.cs ty esz es' es.length false)).bind fun H'=>some { M with H:=H' })
  | _=>none
 | _=>none
def WB (kt:KT)(key:I)(x:V):List (I×V)->Option (List (I×V))
 | []=>some [(key,x)]
 | (k,y)::r=>(Dx kt key k).bind fun q=>match q with
  | true=>some ((key,x)::r)
  | false=>(WB kt key x r).bind fun l=>some ((k,y)::l)
def Afe (kt:KT)(key:I):List (I×V)->Option (List (I×V))
 | []=>some []
 | (k,y)::r=>(Dx kt key k).bind fun q=>match q with
  | true=>some r
  | false=>(Afe kt key r).bind fun l=>some ((k,y)::l)
def view:Nat->Hp->V->Option I
 | 0,_,_=>none
 | n+1,H,v=>match v with
  | .m x=>some x
  | .ls es=>some (.sl es)
  | .sl r ver esz st len lim=>(elems H (.sl r ver esz st len lim)).bind fun es=>(Ah (fun e=>Ah (view n H) e) es).bind fun l=>some (.sl l)
  | .pt r ver ix off=>(nth H r).bind fun row=>match row with
   | .cs _ esz _ _ _=>(readA ⟨[],H⟩ (esz-off) (.pt r ver ix off)).bind fun cs=>(Ah (view n H) cs).bind fun l=>some (.pt l)
   | _=>none
  | .mp r=>(nth H r).bind fun row=>match row with
   | .mp es _=>(Ah (fun(p:I×V)=>(view n H p.2).bind fun x=>some [p.1,x]) es).bind fun l=>some (.mp l)
   | _=>none
  | .fn f cap=>(Ah (view n H) cap).bind fun l=>some (.fn f l)
  | .ag cs=>(Ah (view n H) cs).bind fun l=>some (.ag l)
  | _=>none
def viewR (H:Hp):V->Option V
 | .tu vs=>(Ah (view 20 H) vs).bind fun l=>some (.tu (l.map .m))
 | v=>(view 20 H v).bind fun x=>some (.m x)
mutual
def Mz:I->Bool
 | .b _=>true
 | .i _ _=>true
 | .s _=>true
 | .nl _=>true
 | .er=>true
 | .ag cs=>PF cs
 | _=>false
def PF:List I->Bool
 | []=>true
 | x::r=>Mz x&&PF r
end
def FD:V->Bool
 | .m x=>Mz x
 | .tu vs=>vs.all fun v=>match v with
  | .m x=>Mz x
  | _=>false
 | _=>false
def isM:V->Bool
 | .m _=>true
 | .ls _=>true
 | _=>false
def Fp:V->List Nat
 | .sl r _ _ _ _ _=>[r]
 | .pt r _ _ _=>[r]
 | .mp r=>[r]
 | _=>[]
def Du:V->List Nat
 | .fn _ cap=>cap.flatMap Fp
 | .ag cs=>cs.flatMap Fp
 | v=>Fp v
def AV:Row->Option Row
 | .cs ty esz es base _=>gd (es.all fun e=>e.all isM) (some (.cs ty esz es base true))
 | .mp es _=>gd (es.all fun p=>isM p.2) (some (.mp es true))
 | .lp _ _ _ _ _ _=>none
def AX:List Nat->Hp->Option Hp
 | [],H=>some H
 | r::rs,H=>(nth H r).bind fun row=>(AV row).bind fun row'=>(AO H r row').bind fun H'=>AX rs H'
def CV:V->Bool
 | .fn _ _=>false
 | .ag _=>false
 | .tu _=>false
 | .un=>false
 | .fa _ _=>false
 | _=>true
def BO:V->Bool
 | .fn _ cap=>cap.all CV
 | .ag cs=>cs.all CV
 | v=>CV v
abbrev Bt:=Nat->List V->Hp->Option (V×Hp)
abbrev yN:Nat:=1000000000
def Afl:V->Option (Nat×List V)
 | .fn f cap=>some (f,cap)
 | .m (.fn f cap)=>some (f,cap.map .m)
 | _=>none
def Bv (M:Mem)(ty esz bytes:Nat)(es:L0):Option (V×Mem) :=
 gd (Nat.ble (es.length*bytes) 140737488355328&&Nat.ble 1 esz&&es.all fun e=>Nat.beq e.length esz&&e.all BM)
  (some (.sl M.H.length es.length esz 0 es.length false,{ M with H:=M.H++[.cs ty esz es 0 false] }))
def EK (M:Mem)(ty esz bytes:Nat)(s:V)(xs:L0):Option (V×Mem) :=
 match xs with
 | []=>match s with
  | .m (.nl 4)=>some (s,M)
  | .m (.sl _)=>some (s,M)
  | .ls _=>some (s,M)
  | .sl _ _ _ _ _ _=>some (s,M)
  | _=>none
 | _::_=>match s with
  | .m (.nl 4)=>Bv M ty esz bytes xs
  | .ls es=>Bv M ty esz bytes (Bn es++xs)
  | .sl r ver esz0 st len lim=>(nth M.H r).bind fun row=>match row with
   | .cs ty' esz' es base fz=>match lim with
    | true=>gd (Nat.ble base ver&&Nat.beq esz0 esz'&&Nat.beq esz esz') (Bv M ty esz bytes ((es.drop st).take len++xs))
    | false=>gd (!fz&&Nat.beq ty ty'&&Nat.beq esz esz'&&Nat.beq esz0 esz'&&Nat.beq st 0&&Nat.beq ver es.length&&Nat.beq len es.length&&Nat.ble ((es.length+xs.length)*bytes) 140737488355328&&xs.all fun e=>Nat.beq e.length esz&&e.all BM)
     ((AO M.H r (.cs ty' esz' (es++xs) base false)).bind fun H'=>some (.sl r (es.length+xs.length) esz' 0 (es.length+xs.length) false,{ M with H:=H' }))
   | _=>none
  | _=>none
def Aff (es:L0)(st:Nat)(xs:L0):L0:=es.take st++xs++es.drop (st+xs.length)
def An (call:Bt)(M:Mem):OL->List V->Option (V×Mem)
 | .alp d zero,[]=>some (.fa d 0,{ M with B:=Eo M.B d zero })
 | .bxp d sz,[x]=>(Ay x).bind fun cs=>gd (Nat.beq cs.length sz) (some (.fa d 0,{ M with B:=Eo M.B d cs }))
 | .als ty esz n zero,[]=>gd (Nat.beq zero.length (n*esz)&&Nat.ble 1 esz&&Nat.ble 1 n&&Nat.ble n 9223372036854775807) (some (.pt M.H.length n 0 0,{ M with H:=M.H++[.cs ty esz (Ct esz n zero) 0 false] }))
 | .bxs ty esz n,[x]=>(Ay x).bind fun cs=>gd (Nat.beq cs.length (n*esz)&&Nat.ble 1 esz&&Nat.ble 1 n&&Nat.ble n 9223372036854775807) (some (.pt M.H.length n 0 0,{ M with H:=M.H++[.cs ty esz (Ct esz n cs) 0 false] }))
 | .st sz,[a,x]=>(Ay x).bind fun cs=>gd (Nat.beq cs.length sz&&cs.all BM) ((Fm M cs a).bind fun M'=>some (.un,M'))
 | .stb d sz,[a,x]=>gd (AdR d a) ((Ay x).bind fun cs=>gd (Nat.beq cs.length sz&&cs.all BM) ((Fm M cs a).bind fun M'=>some (.un,M')))
 | .str sz,[a,x]=>gd (AB a) ((Ay x).bind fun cs=>gd (Nat.beq cs.length sz&&cs.all BM) ((Fm M cs a).bind fun M'=>some (.un,M')))
 | .mkm,[]=>some (.mp M.H.length,{ M with H:=M.H++[.mp [] false] })
 | .mkm,[x]=>match x with
  | .m (.i _ _)=>some (.mp M.H.length,{ M with H:=M.H++[.mp [] false] })
  | _=>none
 | .mks ty esz zero bytes,[a,b]=>match b with
  | .m (.i .i64 (.ofNat c))=>(bnd c a).bind fun n=>gd (Nat.ble (c*bytes) 281474976710656&&Nat.ble c 9223372036854775807&&Nat.ble 1 esz&&Nat.beq zero.length esz)
   (some (.sl M.H.length n esz 0 n (Nat.beq n c),{ M with H:=M.H++[.cs ty esz (List.replicate n zero) 0 false] }))
  | _=>none
 | .bss ty esz zero n places,xs=>(BP esz (List.replicate n zero) places xs).bind fun es=>gd (Nat.ble 1 esz&&Nat.beq zero.length esz)
   (some (.sl M.H.length n esz 0 n true,{ M with H:=M.H++[.cs ty esz es 0 false] }))
 | .bsw ty esz zero n places,xs=>(BP esz (List.replicate n zero) places xs).bind fun es=>gd (Nat.ble 1 esz&&Nat.beq zero.length esz)
   (some (.sl M.H.length n esz 0 n false,{ M with H:=M.H++[.cs ty esz es 0 false] }))
 | .bsf esz zero n places,xs=>(BP esz (List.replicate n zero) places xs).bind fun es=>gd (xs.all BO)
   ((Ah (fun e=>Ah (view 20 M.H) e) es).bind fun l=>(AX (xs.flatMap Du) M.H).bind fun H'=>some (.ls l,{ M with H:=H' }))
 | .s2r ty,[x]=>match x with
  | .m (.s l)=>Bv M ty 1 1 (l.map fun c:Nat=>[.m (.i .u8 (Int.ofNat c))])
  | _=>none
 | .s2w,[x]=>match x with
  | .sl r ver 1 0 len false=>(nth M.H r).bind fun row=>match row with
   | .cs _ 1 es _ false=>gd (Nat.beq ver es.length&&Nat.beq len es.length) (some (.sl r ver 1 0 len false,M))
   | _=>none
  | _=>none
 | .app ty esz bytes,[s,x]=>match x with
  | .m (.s l)=>EK M ty esz bytes s (l.map fun c:Nat=>[.m (.i .u8 (Int.ofNat c))])
  | x=>(elems M.H x).bind fun xs=>EK M ty esz bytes s xs
 | .mup kt,[m,k,x]=>match m with
  | .mp r=>(nth M.H r).bind fun row=>match row with
   | .mp es false=>(AbD k).bind fun key=>gd (AB x&&Gy kt key) ((WB kt key x es).bind fun es'=>(AO M.H r (.mp es' false)).bind fun H'=>some (.un,{ M with H:=H' }))
   | _=>none
  | _=>none
 | .mdl kt,[m,k]=>match m with
  | .mp r=>(nth M.H r).bind fun row=>match row with
   | .mp es false=>(AbD k).bind fun key=>(gd (Gy kt key) (Afe kt key es)).bind fun es'=>(AO M.H r (.mp es' false)).bind fun H'=>some (.tu [],{ M with H:=H' })
   | _=>none
  | _=>none
 | .cpy esz0,[d,x]=>(elems M.H x).bind fun xs=>match d with
  | .sl r ver esz st len _=>(nth M.H r).bind fun row=>match row with
   | .cs ty esz' es _ false=>gd (Nat.beq ver es.length&&Nat.beq esz esz'&&Nat.beq esz0 esz'&&xs.all fun e=>Nat.beq e.length esz&&e.all BM)
    ((AO M.H r (.cs ty esz (Aff es st (xs.take len)) es.length false)).bind fun H'=>some (.m (.i .i64 (Int.ofNat (Nat.min xs.length len))),{ M with H:=H' }))
   | _=>none
  | _=>none
 | .clr z,[d]=>match d with
  | .sl r ver esz st len _=>(nth M.H r).bind fun row=>match row with
   | .cs ty esz' es _ false=>gd (Nat.beq ver es.length&&Nat.beq esz esz'&&Nat.beq esz 1&&BM z)
    ((AO M.H r (.cs ty esz' (Aff es st (List.replicate len [z])) es.length false)).bind fun H'=>some (.tu [],{ M with H:=H' }))
   | _=>none
  | _=>none
 | .ust ty,[a,n]=>match n with
  | .m (.i .i64 (.ofNat k))=>match a with
   | .m (.nl 0)=>gd (Nat.beq k 0) (some (.m (.s []),M))
   | .pt r ver 0 0=>(nth M.H r).bind fun row=>match row with
    | .cs ty' esz es base false=>gd (Nat.beq ty ty'&&Nat.beq esz 1&&Nat.ble base ver&&Nat.beq ver es.length&&Nat.beq k es.length&&Nat.ble 1 k) ((Ft es).bind fun l=>(AO M.H r (.cs ty esz es base true)).bind fun H'=>some (.m (.s l),{ M with H:=H' }))
    | _=>none
   | _=>none
  | _=>none
 | .cal f,xs=>(call f xs M.H).bind fun p=>some (p.1,{ M with H:=p.2 })
 | .cav,g::xs=>match g with
  | .fn f cap=>(call f (xs++cap) M.H).bind fun p=>some (p.1,{ M with H:=p.2 })
  | .m (.fn f cap)=>(call f (xs++cap.map .m) M.H).bind fun p=>some (p.1,{ M with H:=p.2 })
  | .yl r=>(call yN (.yl r::xs) M.H).bind fun p=>some (p.1,{ M with H:=p.2 })
  | _=>none
 | _,_=>none
def evO (call:Bt)(M:Mem):O->List V->Option (V×Mem)
 | .p o,vs=>(Aq o vs).bind fun v=>some (v,M)
 | .r o,vs=>(readX M o vs).bind fun v=>some (v,M)
 | .l o,vs=>An call M o vs
def evA (s:St):Opnd->Option V
 | .v n=>Cf s.E n
 | .l n=>Cf s.L n
 | .k x=>some x
def ED (n:Nat):V->Bool
 | .fa d off=>Nat.beq d n&&Nat.beq off 0
 | _=>true
def FJ (s:St)(d:Dst)(x:V):Option St:=match d with
 | .no=>some s
 | .v n=>gd (ED n x) (some { s with E:=CO s.E n x })
 | .l n=>some { s with L:=CO s.L n x }
def AG (s:St):Option (Opnd×Bool)->Option Bool
 | none=>some true
 | some (a,want)=>(evA s a).bind fun v=>match v with
  | .m (.b x)=>some (x==want)
  | .un=>some false
  | _=>none
def Dy (d:Nat):Env->Bool
 | []=>true
 | (_,.fa k _)::r=>!Nat.beq k d&&Dy d r
 | _::r=>Dy d r
def Bu (s:St):O->Bool
 | .l (.alp d _)=>Dy d s.L
 | .l (.bxp d _)=>Dy d s.L
 | _=>true
def Ei (call:Bt)(s:St)(o:Op):Option St:=(AG s o.guard).bind fun q=>match q with
 | true=>gd (Bu s o.op) ((Ah (evA s) o.args).bind fun vs=>(evO call s.M o.op vs).bind fun p=>FJ { s with M:=p.2 } o.dst p.1)
 | false=>FJ s o.dst .un
def BX (call:Bt):List Op->St->Option St
 | [],s=>some s
 | o::r,s=>(Ei call s o).bind fun s'=>BX call r s'
def Av:List Nat->Env->Env
 | [],e=>e
 | n::r,e=>Av r (rmE e n)
def Il:Env->Env
 | []=>[]
 | (n,x)::r=>match AB x with
  | true=>(n,x)::Il r
  | false=>rmE (Il r) n
def Js:Env->List Nat->List V->Env
 | e,p::ps,x::xs=>Js (CO e p x) ps xs
 | e,_,_=>e
def pdX:Option (Option Nat)->Ex
 | none=>.nm
 | some none=>.ret
 | some (some id)=>.ex id
def AbW (r:Nat)(H:Hp):Option Hp:=(nth H r).bind fun row=>match row with
 | .lp st pd E ps ca cb=>gd (Nat.beq st 0) (AO H r (.lp 1 pd E ps ca cb))
 | _=>none
def Rq (r st0 st1:Nat)(pd1:Option (Option Nat))(H:Hp):Option Hp:=(nth H r).bind fun row=>match row with
 | .lp st _ E ps ca cb=>gd (Nat.beq st st0) (AO H r (.lp st1 pd1 E ps ca cb))
 | _=>none
def AbO (r:Nat)(H:Hp):Option (Ex×Hp):=(nth H r).bind fun row=>match row with
 | .lp st pd E ps ca cb=>gd (!Nat.beq st 1) ((AO H r (.lp 3 pd E ps ca cb)).bind fun H'=>some (pdX pd,H'))
 | _=>none
def Fj (body:St->Option (Ex×St)):Nat->St->Option (Ex×St)
 | 0,_=>none
 | k+1,s=>(body s).bind fun p=>match p.1 with
  | .nm=>Fj body k p.2
  | e=>some (e,p.2)
def evC (call:Bt)(n:Nat):C->St->Option (Ex×St)
 | .skip,s=>some (.nm,s)
 | .reg ops,s=>(BX call ops s).bind fun s'=>some (.nm,{ s' with L:=[] })
 | .seq a b,s=>(evC call n a s).bind fun p=>match p.1 with
  | .nm=>evC call n b p.2
  | e=>some (e,p.2)
 | .ite c a b,s=>(evA s c).bind fun v=>match v with
  | .m (.b true)=>evC call n a s
  | .m (.b false)=>evC call n b s
  | _=>none
 | .blk id c,s=>(evC call n c s).bind fun p=>match p.1 with
  | .ex j=>match Nat.beq j id with
   | true=>some (.nm,p.2)
   | false=>some (.ex j,p.2)
  | e=>some (e,p.2)
 | .loop dr c,s=>Fj (fun t=>evC call n c { t with E:=Av dr t.E }) n s
 | .rng f dr ps ca cb,s=>(evA s f).bind fun fv=>(Afl fv).bind fun gc =>
  (call gc.1 (.yl s.M.H.length::gc.2) (s.M.H++[.lp 0 none (Il (Av dr s.E)) ps ca cb])).bind fun p =>
   (AbO s.M.H.length p.2).bind fun q=>some (q.1,{ s with M:={ s.M with H:=q.2 } })
 | .ex id,s=>some (.ex id,s)
 | .ret,s=>some (.ret,s)
def Rz (s:St):Res->Option V
 | .t n=>(Cf s.E n).bind fun v=>gd (AB v) (some v)
 | .c n sz ag=>(Cf s.E n).bind fun a=>(readA s.M sz a).bind fun cs=>DD ag cs
def Dn:Nat->List V->Env
 | _,[]=>[]
 | k,x::r=>(k,x)::Dn (k+1) r
def tup:List V->V
 | [v]=>v
 | vs=>.tu vs
def Eg (s:St)(rs:List Res):Option V:=(Ah (Rz s) rs).bind fun vs=>some (tup vs)
def evF (call:Bt)(n:Nat)(f:F)(vs:List V)(H:Hp):Option (V×Hp) :=
 gd (vs.all AB&&Nat.beq vs.length f.np) ((evC call n f.body ⟨Dn 0 vs,[],⟨[],H⟩⟩).bind fun p=>match p.1 with
  | .ex _=>none
  | _=>(Eg p.2 f.res).bind fun v=>some (v,p.2.M.H))
def Ep (call:Bt)(n:Nat)(vs:List V)(H:Hp):Option (V×Hp):=match vs with
 | .yl r::xs=>(nth H r).bind fun row=>match row with
  | .lp _ _ E ps ca cb=>gd (xs.all AB&&Nat.beq ps.length xs.length)
   ((evC call n ca ⟨Js E ps xs,[],⟨[],H⟩⟩).bind fun p=>match p.1 with
    | .nm=>(AbW r p.2.M.H).bind fun H1=>(evC call n cb ⟨p.2.E,[],⟨p.2.M.B,H1⟩⟩).bind fun p2=>match p2.1 with
     | .nm=>(Rq r 1 0 none p2.2.M.H).bind fun H2=>some (.m (.b true),H2)
     | .ret=>(Rq r 1 2 (some none) p2.2.M.H).bind fun H2=>some (.m (.b false),H2)
     | .ex id=>(Rq r 1 2 (some (some id)) p2.2.M.H).bind fun H2=>some (.m (.b false),H2)
    | _=>none)
  | _=>none
 | _=>none
structure Cfg where
 fn:Nat->Option F
 sh:Nat->Bool
 prim:Nat->Option (Bt->List V->Hp->Option (V×Hp))
inductive T where
 | nil
 | lf (k:Nat) (f:F)
 | nd (m:Nat) (a b:T)
def T.look:T->Nat->Option F
 | .nil,_=>none
 | .lf k f,n=>match Nat.beq k n with
  | true=>some f
  | false=>none
 | .nd m a b,n=>match Nat.blt n m with
  | true=>a.look n
  | false=>b.look n
def T.all:T->List (Nat×F)
 | .nil=>[]
 | .lf k f=>[(k,f)]
 | .nd _ a b=>a.all++b.all
def Eu (call:Bt)(n:Nat)(fn:F)(vs:List V)(H:Hp):Option (V×Hp) :=
 (Ah (view 20 H) vs).bind fun is=>(evF call n fn (is.map .m) []).bind fun p=>(viewR p.2 p.1).bind fun r=>match vs.flatMap Du with
  | []=>gd (vs.all BO) (some (r,H))
  | rs=>match FD r with
   | true=>some (r,H)
   | false=>gd (vs.all BO) ((AX rs H).bind fun H2=>some (r,H2))
def BE (G:Cfg):Nat->Bt
 | 0,_,_,_=>none
 | n+1,f,vs,H=>match G.prim f with
  | some p=>p (BE G n) vs H
  | none=>match G.fn f with
   | some fn=>match G.sh f with
    | true=>evF (BE G n) n fn vs H
    | false=>Eu (BE G n) n fn vs H
   | none=>gd (Nat.beq f yN) (Ep (BE G n) n vs H)
end Go.Mx
