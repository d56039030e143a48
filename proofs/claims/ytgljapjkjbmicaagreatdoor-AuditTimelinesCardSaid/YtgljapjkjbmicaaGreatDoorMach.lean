/- The abstract machine: a small deterministic interpreter for compact code, with immutable values (I), values with references (V) and rows of mutable memory. Definitions only; nothing here speaks of a program. -/
import GoSem.Core.Sem
set_option linter.unusedSimpArgs false
set_option linter.unusedVariables false
set_option linter.unusedSectionVars false
namespace Go.Mx
set_option linter.defProp false
def AaF:=@Option.bind_eq_some_iff
def AaG:=@Option.some.injEq
def AaH:=@Prod.mk.injEq
def AaI:=@List.getElem?_eq_some_iff
def AaJ:=@Bool.and_eq_true
def AaK:=@List.getElem?_eq_getElem
def AaL:=@if_neg
def AaM:=@List.getElem?_eq_none_iff
def AaN:=@if_pos
def AaO:=@decide_eq_false
def AaP:=@decide_eq_true
def AaQ:=@Nat.le_refl
def AaR:=@Option.bind_some
def AaS:=@List.mem_of_getElem?
def AaT:=@Nat.zero_le
def AaU:=@decide_eq_true_eq
def AaV:=@Nat.beq_eq
def AaW:=@List.length_take
def AaX:=@List.length_append
def AaY:=@Nat.eq_of_beq_eq_true
def AaZ:=@List.all_eq_true
def Aba:=@List.getElem?_append_left
def Abb:=@List.getElem?_map
def Abc:=@List.take_of_length_le
def Abd:=@List.mem_cons
def Abe:=@List.length_map
def Abf:=@List.eq_nil_of_length_eq_zero
def Abg:=@Nat.mul_le_mul_right
def Abh:=@Option.map_eq_some_iff
def Abi:=@Bool.not_eq_true'
def Abj:=@List.drop_length
def Abk:=@Array.getElem?_eq_some_iff
def Abl:=@Bool.true_and
def Abm:=@Nat.add_mul
def Abn:=@List.mem_singleton
def Abo:=@Bool.false_and
def Abp:=@Array.length_toList
def Abq:=@List.mem_cons_self
def Abr:=@List.map_cons
def Abs:=@Int.eq_ofNat_of_zero_le
def Abt:=@List.length_drop
def Abu:=@Bool.eq_iff_iff
def Abv:=@Nat.ble_eq
def Abw:=@List.pairwise_cons
def Abx:=@List.getElem?_take
def Aby:=@List.take_length
def Abz:=@List.mem_map
def AbA:=@List.flatten_cons
def AbB:=@Option.isSome_iff_exists
def AbC:=@List.mem_append
def AbD:=@List.length_cons
def AbE:=@Option.map_some
def AbF:=@Nat.le_trans
def AbG:=@List.append_assoc
def AbH:=@List.pairwise_iff_getElem
def AbI:=@List.append_nil
def AbJ:=@Nat.le_max_left
def AbK:=@List.getElem?_append_right
def AbL:=@trivial
def AbM:=@List.getElem?_set_ne
def AbN:=@List.pairwise_append
def AbO:=@Bool.false_eq_true
def AbP:=@List.length_nil
def AbQ:=@List.cons_append
def AbR:=@Nat.le_max_right
def AbS:=@List.mem_filter
def AbT:=@List.filter_append
def AbU:=@Nat.blt_eq
def AbV:=@List.drop_zero
def AbW:=@List.mem_iff_getElem?
def AbX:=@List.length_filter_le
def AbY:=@Nat.lt_of_lt_of_le
def AbZ:=@List.mem_of_mem_take
def Aca:=@Nat.mul_comm
inductive I where
 | b (x : Bool)
 | i (k : IntKind) (n : Int)
 | s (x : List Nat)
 | nl (k : Nat)
 | er
 | sl (es : List (List I))
 | pt (cs : List I)
 | ag (cs : List I)
 | mp (es : List (List I))
 | fn (f : Nat) (cap : List I)
 deriving Inhabited
inductive V where
 | m (x : I)
 | un
 | ls (es : List (List I))
 | sl (r ver esz st len : Nat) (lim : Bool)
 | pt (r ver ix off : Nat)
 | fa (d off : Nat)
 | mp (r : Nat)
 | fn (f : Nat) (cap : List V)
 | ag (cs : List V)
 | tu (vs : List V)
 | yl (r : Nat)
 deriving Inhabited
structure KT where
 ag : Bool
 ks : List Nat
inductive OP where
 | mv | pick
 | un (op : UnOp)
 | bin (op : BinOp)
 | eqb (neg : Bool)
 | eqs (neg : Bool) (ks : List Nat)
 | eqn (neg : Bool) (k : Nat)
 | build (zero : List V) (places : List (Nat × Nat))
 | bsl (esz : Nat) (zero : List V) (n : Nat) (places : List Nat)
 | cv (k : IntKind)
 | cvs
 | s2b
 | fad (off : Nat)
 | fld (ag : Bool) (sz off : Nat)
 | ixa (esz : Nat)
 | ixaA (n esz : Nat)
 | ixv (n esz : Nat) (ag : Bool)
 | ixs
 | ext (j : Nat)
 | mkf (f : Nat)
 | nck
 | mm (mx : Bool)
 | len (str : Bool)
 | usd
 | slc (esz : Nat) (lo hi mx : Bool)
inductive OR where
 | ld (ag : Bool) (sz : Nat)
 | ld1
 | ldb (ag : Bool) (sz : Nat)
 | ldx (d : Nat) (ag : Bool) (sz : Nat)
 | lkp (kt : KT) (zero : List V) (ag ok : Bool)
 | lenm
 | b2s
 | slcA (n esz : Nat) (lo hi mx : Bool)
inductive OL where
 | alp (d : Nat) (zero : List V)
 | bxp (d sz : Nat)
 | als (ty esz n : Nat) (zero : List V)
 | bxs (ty esz n : Nat)
 | st (sz : Nat)
 | stb (d sz : Nat)
 | str (sz : Nat)
 | mkm
 | mks (ty esz : Nat) (zero : List V) (bytes : Nat)
 | bss (ty esz : Nat) (zero : List V) (n : Nat) (places : List Nat)
 | bsw (ty esz : Nat) (zero : List V) (n : Nat) (places : List Nat)
 | bsf (esz : Nat) (zero : List V) (n : Nat) (places : List Nat)
 | s2w
 | app (ty esz bytes : Nat)
 | mup (kt : KT)
 | mdl (kt : KT)
 | cpy (esz : Nat)
 | clr (z : V)
 | ust (ty : Nat)
 | s2r (ty : Nat)
 | cal (f : Nat)
 | cav
inductive O where
 | p (o : OP)
 | r (o : OR)
 | l (o : OL)
inductive Opnd where
 | v (n : Nat)
 | l (n : Nat)
 | k (x : V)
inductive Dst where
 | no
 | v (n : Nat)
 | l (n : Nat)
structure Op where
 dst : Dst
 op : O
 args : List Opnd
 guard : Option (Opnd × Bool)
inductive C where
 | skip
 | reg (ops : List Op)
 | seq (a b : C)
 | ite (c : Opnd) (a b : C)
 | blk (id : Nat) (c : C)
 | loop (drop : List Nat) (c : C)
 | rng (f : Opnd) (drop ps : List Nat) (ca cb : C)
 | ex (id : Nat)
 | ret
inductive Row where
 | cs (ty esz : Nat) (es : List (List V)) (base : Nat) (fz : Bool)
 | mp (es : List (I × V)) (fz : Bool)
 | lp (st : Nat) (pd : Option (Option Nat)) (E : List (Nat × V)) (ps : List Nat) (ca cb : C)
 deriving Inhabited
abbrev Hp:=List Row
abbrev Env:=List (Nat × V)
structure Mem where
 B : List (Nat × List V)
 H : Hp
inductive Res where
 | t (n : Nat)
 | c (n sz : Nat) (ag : Bool)
structure F where
 np : Nat
 res : List Res
 body : C
inductive Ex where
 | nm
 | ex (id : Nat)
 | ret
structure St where
 E : Env
 L : Env
 M : Mem
def gd {α : Type} (b : Bool) (x : Option α) : Option α:=match b with
 | true=>x
 | false=>none
/- Integers: tests by their shapes, which the kernel decides fast. -/
def inR (lo hi : Nat) : Int -> Bool
 | .ofNat m=>Nat.ble m hi
 | .negSucc m=>Nat.blt m lo
def okK : IntKind -> Int -> Bool
 | .i64,n=>inR 9223372036854775808 9223372036854775807 n
 | .u64,n=>inR 0 18446744073709551615 n
 | .i32,n=>inR 2147483648 2147483647 n
 | .u32,n=>inR 0 4294967295 n
 | .i16,n=>inR 32768 32767 n
 | .u16,n=>inR 0 65535 n
 | .i8,n=>inR 128 127 n
 | .u8,n=>inR 0 255 n
def wr (k : IntKind) (n : Int) : Int:=match okK k n with
 | true=>n
 | false=>k.wrap n
def ltI : Int -> Int -> Bool
 | .ofNat a,.ofNat b=>Nat.blt a b
 | .ofNat _,.negSucc _=>false
 | .negSucc _,.ofNat _=>true
 | .negSucc a,.negSucc b=>Nat.blt b a
def eqI : Int -> Int -> Bool
 | .ofNat a,.ofNat b=>Nat.beq a b
 | .negSucc a,.negSucc b=>Nat.beq a b
 | _,_=>false
def leI (a b : Int) : Bool:=!ltI b a
def eqK : IntKind -> IntKind -> Bool
 | .i64,.i64=>true
 | .u64,.u64=>true
 | .i32,.i32=>true
 | .u32,.u32=>true
 | .i16,.i16=>true
 | .u16,.u16=>true
 | .i8,.i8=>true
 | .u8,.u8=>true
 | _,_=>false
def XF : Int -> Option Nat
 | .ofNat m=>some m
 | .negSucc _=>none
def eqL : List Nat -> List Nat -> Bool
 | [],[]=>true
 | a :: x,b :: y=>Nat.beq a b && eqL x y
 | _,_=>false
def ltL : List Nat -> List Nat -> Bool
 | _,[]=>false
 | [],_ :: _=>true
 | a :: x,b :: y=>Nat.blt a b || (Nat.beq a b && ltL x y)
def eqC (k : Nat) : I -> I -> Option Bool
 | .b x,.b y=>gd (Nat.beq k 0) (some (x == y))
 | .i j x,.i j' y=>gd (Nat.beq k 1 && eqK j j') (some (eqI x y))
 | .s x,.s y=>gd (Nat.beq k 2) (some (eqL x y))
 | _,_=>none
def Ew : List Nat -> List I -> List I -> Option Bool
 | [],[],[]=>some true
 | k :: ks,x :: xs,y :: ys=>(eqC k x y).bind fun r=>(Ew ks xs ys).bind fun rs=>some (r && rs)
 | _,_,_=>none
def CO (kt : KT) (x y : I) : Option Bool:=match kt.ag with
 | true=>match x,y with
  | .ag xs,.ag ys=>Ew kt.ks xs ys
  | _,_=>none
 | false=>match kt.ks with
  | [k]=>eqC k x y
  | _=>none
def ED (kt : KT) (x : I) : Bool:=match CO kt x x with
 | some _=>true
 | none=>false
def Cc : List V -> Option (List I)
 | []=>some []
 | .m x :: r=>(Cc r).bind fun l=>some (x :: l)
 | _=>none
def mkAg (cs : List V) : V:=match Cc cs with
 | some l=>.m (.ag l)
 | none=>.ag cs
def Av : V -> Option (List V)
 | .m (.ag cs)=>some (cs.map .m)
 | .ag cs=>some cs
 | .tu _=>none
 | .un=>none
 | .fa _ _=>none
 | v=>some [v]
def Wt : V -> Option (List V)
 | .m (.ag cs)=>some (cs.map .m)
 | .ag cs=>some cs
 | _=>none
def CS : V -> Bool
 | .m (.ag _)=>false
 | .ag _=>false
 | .tu _=>false
 | .un=>false
 | .fa _ _=>false
 | _=>true
def CD (ag : Bool) (cs : List V) : Option V:=match ag with
 | true=>some (mkAg cs)
 | false=>match cs with
  | [x]=>some x
  | _=>none
def CN (n : Nat) (l : List V) : Option (List V):=gd (Nat.beq (l.take n).length n) (some (l.take n))
def FA (cs : List V) (off : Nat) (xs : List V) : Option (List V) :=
 gd (Nat.ble (off + xs.length) cs.length) (some (cs.take off ++ xs ++ cs.drop (off + xs.length)))
def BA : Env -> Nat -> Option V
 | [],_=>none
 | (k,x) :: r,n=>match Nat.beq k n with
  | true=>some x
  | false=>BA r n
def BT : Env -> Nat -> V -> Env
 | [],n,x=>[(n,x)]
 | (k,y) :: r,n,x=>match Nat.blt n k with
  | true=>(n,x) :: (k,y) :: r
  | false=>match Nat.beq k n with
   | true=>(n,x) :: r
   | false=>(k,y) :: BT r n x
def rmE : Env -> Nat -> Env
 | [],_=>[]
 | (k,x) :: r,n=>match Nat.beq k n with
  | true=>rmE r n
  | false=>(k,x) :: rmE r n
def getB : List (Nat × List V) -> Nat -> Option (List V)
 | [],_=>none
 | (k,x) :: r,n=>match Nat.beq k n with
  | true=>some x
  | false=>getB r n
def DB : List (Nat × List V) -> Nat -> List V -> List (Nat × List V)
 | [],n,x=>[(n,x)]
 | (k,y) :: r,n,x=>match Nat.beq k n with
  | true=>(n,x) :: r
  | false=>match Nat.blt n k with
   | true=>(n,x) :: (k,y) :: r
   | false=>(k,y) :: DB r n x
def Ai {α β : Type} (f : α -> Option β) : List α -> Option (List β)
 | []=>some []
 | a :: r=>(f a).bind fun x=>(Ai f r).bind fun l=>some (x :: l)
def Ka : IntKind -> Nat
 | .i8=>8
 | .u8=>8
 | .i16=>16
 | .u16=>16
 | .i32=>32
 | .u32=>32
 | .i64=>64
 | .u64=>64
def KG : IntKind -> Nat
 | .i8=>256
 | .u8=>256
 | .i16=>65536
 | .u16=>65536
 | .i32=>4294967296
 | .u32=>4294967296
 | .i64=>18446744073709551616
 | .u64=>18446744073709551616
def Fu (k : IntKind) : Int -> Nat
 | .ofNat m=>m % KG k
 | .negSucc m=>KG k - 1 - m % KG k
def vi (k : IntKind) (n : Int) : Option V:=some (.m (.i k n))
def vb (x : Bool) : Option V:=some (.m (.b x))
def arX (op : BinOp) (k : IntKind) (x y : Int) : Option V:=match op with
 | .add=>vi k (wr k (x + y))
 | .sub=>vi k (wr k (x - y))
 | .mul=>vi k (wr k (x * y))
 | .quo=>gd (!eqI y 0) (vi k (wr k (x.tdiv y)))
 | .rem=>gd (!eqI y 0) (vi k (x.tmod y))
 | .eql=>vb (eqI x y)
 | .neq=>vb (!eqI x y)
 | .lss=>vb (ltI x y)
 | .leq=>vb (leI x y)
 | .gtr=>vb (ltI y x)
 | .geq=>vb (leI y x)
 | .and=>vi k (wr k (Int.ofNat (Nat.land (Fu k x) (Fu k y))))
 | .or=>vi k (wr k (Int.ofNat (Nat.lor (Fu k x) (Fu k y))))
 | .xor=>vi k (wr k (Int.ofNat (Nat.xor (Fu k x) (Fu k y))))
 | _=>none
def shX (op : BinOp) (k : IntKind) (x : Int) (y : Nat) : Option V:=match op with
 | .shl=>vi k (wr k (x * Int.ofNat (Nat.pow 2 (Nat.min y (Ka k)))))
 | .shr=>vi k (x.fdiv (Int.ofNat (Nat.pow 2 (Nat.min y (Ka k)))))
 | _=>none
def stX (op : BinOp) (x y : List Nat) : Option V:=match op with
 | .add=>gd (Nat.ble (x.length + y.length) 9223372036854775807) (some (.m (.s (x ++ y))))
 | .eql=>vb (eqL x y)
 | .neq=>vb (!eqL x y)
 | .lss=>vb (ltL x y)
 | .leq=>vb (ltL x y || eqL x y)
 | .gtr=>vb (!(ltL x y || eqL x y))
 | .geq=>vb (!ltL x y)
 | _=>none
def DH (op : BinOp) : V -> V -> Option V
 | .m (.i k x),.m (.i k' y)=>match op with
  | .shl=>(XF y).bind fun n=>shX .shl k x n
  | .shr=>(XF y).bind fun n=>shX .shr k x n
  | op=>gd (eqK k k') (arX op k x y)
 | .m (.s x),.m (.s y)=>stX op x y
 | _,_=>none
def unX (op : UnOp) : V -> Option V
 | .m (.i k x)=>match op with
  | .neg=>vi k (wr k (0 - x))
  | .xor=>vi k (wr k (Int.ofNat (KG k - 1 - Fu k x)))
  | _=>none
 | .m (.b x)=>match op with
  | .not=>vb (!x)
  | _=>none
 | _=>none
def Fa : Nat -> V -> Option Bool
 | 0,.m (.nl 0)=>some true
 | 0,.m (.pt _)=>some false
 | 0,.pt _ _ _ _=>some false
 | 0,.fa _ _=>some false
 | 1,.m (.nl 1)=>some true
 | 1,.m (.mp _)=>some false
 | 1,.mp _=>some false
 | 2,.m (.nl 2)=>some true
 | 2,.m (.fn _ _)=>some false
 | 2,.fn _ _=>some false
 | 3,.m (.nl 3)=>some true
 | 3,.m .er=>some false
 | 4,.m (.nl 4)=>some true
 | 4,.m (.sl _)=>some false
 | 4,.ls _=>some false
 | 4,.sl _ _ _ _ _ _=>some false
 | _,_=>none
def PZ (cs : List V) : List (Nat × Nat) -> List V -> Option (List V)
 | [],[]=>some cs
 | (off,sz) :: ps,x :: xs=>(Av x).bind fun l=>gd (Nat.beq l.length sz) ((FA cs off l).bind fun cs'=>PZ cs' ps xs)
 | _,_=>none
def Bw {α : Type} : List α -> Nat -> α -> Option (List α)
 | [],_,_=>none
 | _ :: r,0,x=>some (x :: r)
 | y :: r,n + 1,x=>(Bw r n x).bind fun l=>some (y :: l)
def Bu (esz : Nat) (es : List (List V)) : List Nat -> List V -> Option (List (List V))
 | [],[]=>some es
 | ix :: ps,x :: xs=>(Av x).bind fun l=>gd (Nat.beq l.length esz) ((Bw es ix l).bind fun es'=>Bu esz es' ps xs)
 | _,_=>none
def nth {α : Type} : List α -> Nat -> Option α
 | [],_=>none
 | x :: _,0=>some x
 | _ :: r,n + 1=>nth r n
def idx (n : Nat) : V -> Option Nat
 | .m (.i _ (.ofNat j))=>gd (Nat.blt j n) (some j)
 | _=>none
def bnd (n : Nat) : V -> Option Nat
 | .m (.i _ (.ofNat j))=>gd (Nat.ble j n) (some j)
 | _=>none
def Ja (n : Nat) (lo hi mx : Bool) (vs : List V) : Option (Nat × Nat) :=
 match lo,hi,mx,vs with
 | false,false,false,[]=>some (0,n)
 | true,false,false,[a]=>(bnd n a).bind fun l=>some (l,n)
 | false,true,false,[b]=>(bnd n b).bind fun h=>some (0,h)
 | true,true,false,[a,b]=>(bnd n b).bind fun h=>(bnd h a).bind fun l=>some (l,h)
 | false,true,true,[b,c]=>(bnd n c).bind fun m=>(bnd m b).bind fun h=>gd (Nat.beq h m) (some (0,h))
 | true,true,true,[a,b,c]=>(bnd n c).bind fun m=>(bnd m b).bind fun h=>gd (Nat.beq h m) ((bnd h a).bind fun l=>some (l,h))
 | _,_,_,_=>none
def YC (x y : Int) : Int:=match ltI x y with
 | true=>y
 | false=>x
def YA (x y : Int) : Int:=match ltI y x with
 | true=>y
 | false=>x
def mmX (mx : Bool) (k : IntKind) (x : Int) : List V -> Option V
 | []=>vi k x
 | .m (.i _ y) :: r=>mmX mx k (match mx with
  | true=>YC x y
  | false=>YA x y) r
 | _=>none
def BK {α : Type} (esz : Nat) : Nat -> List α -> List (List α)
 | 0,_=>[]
 | n + 1,l=>l.take esz :: BK esz n (l.drop esz)
def AE : V -> Bool
 | .fa _ _=>false
 | _=>true
def okEl (n : Nat) : List (List I) -> Bool
 | []=>true
 | e :: _=>Nat.beq e.length n
def JD : V -> Bool
 | .m (.s _)=>true
 | _=>false
def eqB : Bool -> Bool -> Bool
 | true,b=>b
 | false,b=>!b
def Ap : OP -> List V -> Option V
 | .mv,[x]=>some x
 | .pick,[c,a,b]=>match c with
  | .m (.b true)=>some a
  | .m (.b false)=>some b
  | _=>none
 | .un op,[x]=>unX op x
 | .bin op,[x,y]=>DH op x y
 | .eqb neg,[x,y]=>match x,y with
  | .m (.b x),.m (.b y)=>vb (xor neg (x == y))
  | _,_=>none
 | .eqs neg ks,[x,y]=>match x,y with
  | .m (.ag xs),.m (.ag ys)=>(Ew ks xs ys).bind fun r=>vb (xor neg r)
  | _,_=>none
 | .eqn neg k,[x]=>(Fa k x).bind fun r=>vb (xor neg r)
 | .build zero places,xs=>(PZ zero places xs).bind fun cs=>some (mkAg cs)
 | .bsl esz zero n places,xs=>(Bu esz (List.replicate n zero) places xs).bind fun es=>(Ai Cc es).bind fun l=>some (.ls l)
 | .cv k,[x]=>match x with
  | .m (.i _ n)=>vi k (wr k n)
  | _=>none
 | .cvs,[x]=>match x with
  | .m (.s x)=>some (.m (.s x))
  | _=>none
 | .s2b,[x]=>match x with
  | .m (.s x)=>gd (Nat.ble x.length 9223372036854775807) (some (.m (.sl (x.map fun c : Nat=>[.i .u8 (Int.ofNat c)]))))
  | _=>none
 | .fad off,[x]=>match x with
  | .fa d o=>some (.fa d (o + off))
  | .pt r ver ix o=>some (.pt r ver ix (o + off))
  | .m (.pt cs)=>some (.m (.pt (cs.drop off)))
  | _=>none
 | .fld ag sz off,[x]=>(Wt x).bind fun cs=>(CN sz (cs.drop off)).bind fun l=>CD ag l
 | .ixa esz,[x,i]=>match x with
  | .m (.sl es)=>(idx es.length i).bind fun j=>(nth es j).bind fun e=>gd (Nat.beq e.length esz) (some (.m (.pt e)))
  | .ls es=>(idx es.length i).bind fun j=>(nth es j).bind fun e=>gd (Nat.beq e.length esz) (some (.m (.pt e)))
  | .sl r ver esz' st len _=>gd (Nat.beq esz esz') ((idx len i).bind fun j=>some (.pt r ver (st + j) 0))
  | _=>none
 | .ixaA n esz,[x,i]=>(idx n i).bind fun j=>match x with
  | .fa d o=>some (.fa d (o + j * esz))
  | .pt r ver ix o=>some (.pt r ver ix (o + j * esz))
  | .m (.pt cs)=>some (.m (.pt (cs.drop (j * esz))))
  | _=>none
 | .ixv n esz ag,[x,i]=>(idx n i).bind fun j=>(Wt x).bind fun cs=>(CN esz (cs.drop (j * esz))).bind fun l=>CD ag l
 | .ixs,[x,i]=>match x with
  | .m (.s l)=>(idx l.length i).bind fun j=>(nth l j).bind fun c=>vi .u8 (Int.ofNat c)
  | _=>none
 | .ext j,[x]=>match x with
  | .tu vs=>nth vs j
  | _=>none
 | .mkf f,xs=>gd (xs.all AE) (some (.fn f xs))
 | .nck,[x]=>match x with
  | .fa _ _=>some x
  | .pt _ _ _ _=>some x
  | .m (.pt _)=>some x
  | .fn _ _=>some x
  | .m (.fn _ _)=>some x
  | .yl _=>some x
  | _=>none
 | .mm mx,x :: r=>match x with
  | .m (.i k x)=>mmX mx k x r
  | _=>none
 | .len str,[x]=>gd (eqB (JD x) str) (match x with
  | .m (.nl 4)=>vi .i64 0
  | .m (.sl es)=>vi .i64 (Int.ofNat es.length)
  | .ls es=>vi .i64 (Int.ofNat es.length)
  | .m (.s l)=>vi .i64 (Int.ofNat l.length)
  | .sl _ _ _ _ len _=>vi .i64 (Int.ofNat len)
  | _=>none)
 | .usd,[x]=>match x with
  | .m (.nl 4)=>some (.m (.nl 0))
  | .sl r ver esz st len _=>gd (Nat.beq esz 1 && Nat.beq st 0 && Nat.ble 1 len) (some (.pt r ver 0 0))
  | _=>none
 | .slc esz lo hi mx,x :: vs=>gd (eqB (JD x) (Nat.beq esz 0)) (match x with
  | .m (.s l)=>gd (!mx) ((Ja l.length lo hi mx vs).bind fun p=>some (.m (.s ((l.drop p.1).take (p.2 - p.1)))))
  | .m (.nl 4)=>(Ja 0 lo hi mx vs).bind fun _=>some (.m (.nl 4))
  | .m (.sl es)=>gd (okEl esz es) ((Ja es.length lo hi mx vs).bind fun p=>some (match mx with
   | true=>.ls ((es.drop p.1).take (p.2 - p.1))
   | false=>.m (.sl ((es.drop p.1).take (p.2 - p.1)))))
  | .ls es=>gd (okEl esz es) ((Ja es.length lo hi mx vs).bind fun p=>some (match mx || Nat.beq p.2 es.length with
   | true=>.ls ((es.drop p.1).take (p.2 - p.1))
   | false=>.m (.sl ((es.drop p.1).take (p.2 - p.1)))))
  | .sl r ver esz' st len lim=>gd (Nat.beq esz esz') ((Ja len lo hi mx vs).bind fun p=>some (.sl r ver esz' (st + p.1) (p.2 - p.1) (mx || (lim && Nat.beq p.2 len))))
  | _=>none)
 | _,_=>none
def IB (kt : KT) (key : I) : List (I × V) -> Option (Option V)
 | []=>some none
 | (k,x) :: r=>(CO kt key k).bind fun q=>match q with
  | true=>some (some x)
  | false=>IB kt key r
def pairs : List (List I) -> Option (List (I × V))
 | []=>some []
 | [k,x] :: r=>(pairs r).bind fun l=>some ((k,.m x) :: l)
 | _=>none
def mapOf (H : Hp) : V -> Option (List (I × V))
 | .m (.nl 1)=>some []
 | .m (.mp es)=>pairs es
 | .mp r=>(nth H r).bind fun row=>match row with
  | .mp es _=>some es
  | _=>none
 | _=>none
def Et (es : List (List I)) : List (List V):=es.map fun e=>e.map .m
def elems (H : Hp) : V -> Option (List (List V))
 | .m (.nl 4)=>some []
 | .m (.sl es)=>some (Et es)
 | .ls es=>some (Et es)
 | .sl r ver esz st len _=>(nth H r).bind fun row=>match row with
  | .cs _ esz' es base _=>gd (Nat.ble base ver && Nat.beq esz esz') (some ((es.drop st).take len))
  | _=>none
 | _=>none
def Hd : List (List V) -> Option (List Nat)
 | []=>some []
 | [.m (.i .u8 (.ofNat c))] :: r=>gd (Nat.blt c 256) ((Hd r).bind fun l=>some (c :: l))
 | _=>none
def DF (esz : Nat) (es : List (List V)) (ix off sz : Nat) : Option (List V) :=
 match Nat.ble (off % esz + sz) esz with
 | true=>(nth es (ix + off / esz)).bind fun e=>CN sz (e.drop (off % esz))
 | false=>CN sz (es.flatten.drop (ix * esz + off))
def readA (M : Mem) (sz : Nat) : V -> Option (List V)
 | .fa d off=>(getB M.B d).bind fun cs=>CN sz (cs.drop off)
 | .pt r ver ix off=>(nth M.H r).bind fun row=>match row with
  | .cs _ esz es base _=>gd (Nat.ble base ver && (Nat.ble (off + sz) esz || Nat.beq ver es.length)) (DF esz es ix off sz)
  | _=>none
 | .m (.pt cs)=>CN sz (cs.map .m)
 | _=>none
def Ur : V -> Option I
 | .m x=>some x
 | _=>none
def okT (ok : Bool) (x : V) (b : Bool) : V:=match ok with
 | true=>.tu [x,.m (.b b)]
 | false=>x
def We (zero : List V) (ag ok : Bool) : Option V -> Option V
 | some x=>some (okT ok x true)
 | none=>(CD ag zero).bind fun z=>some (okT ok z false)
def Us (d : Nat) : V -> Bool
 | .fa k _=>Nat.beq k d
 | _=>false
def readX (M : Mem) : OR -> List V -> Option V
 | .ld ag sz,[a]=>(readA M sz a).bind fun cs=>CD ag cs
 | .lkp kt zero ag ok,[m,k]=>(mapOf M.H m).bind fun es=>(Ur k).bind fun key=>(gd (ED kt key) (IB kt key es)).bind fun q=>We zero ag ok q
 | .lenm,[m]=>(mapOf M.H m).bind fun es=>vi .i64 (Int.ofNat es.length)
 | .slcA n esz lo hi mx,x :: vs=>match x with
  | .m (.pt cs)=>gd (Nat.beq cs.length (n * esz) && Nat.ble n 9223372036854775807) ((Ja n lo hi mx vs).bind fun p=>some (match mx || Nat.beq p.2 n with
   | true=>.ls (((BK esz n cs).drop p.1).take (p.2 - p.1))
   | false=>.m (.sl (((BK esz n cs).drop p.1).take (p.2 - p.1)))))
  | .pt r ver 0 0=>(nth M.H r).bind fun row=>match row with
   | .cs _ esz' es _ _=>gd (Nat.beq esz esz' && Nat.beq es.length n && Nat.beq ver n) ((Ja n lo hi mx vs).bind fun p=>some (.sl r ver esz p.1 (p.2 - p.1) (mx || Nat.beq p.2 n)))
   | _=>none
  | .pt r ver 0 (off + 1)=>(nth M.H r).bind fun row=>match row with
   | .cs _ esz' es _ _=>gd (Nat.beq esz esz' && Nat.beq esz 1 && Nat.ble (off + 1 + n) es.length && Nat.beq ver es.length) ((Ja n lo hi mx vs).bind fun p=>some (.sl r ver esz (off + 1 + p.1) (p.2 - p.1) (mx || Nat.beq p.2 n)))
   | _=>none
  | _=>none
 | .ld1,[a]=>match a with
  | .pt r ver ix off=>(nth M.H r).bind fun row=>match row with
   | .cs _ esz es base _=>gd (Nat.ble base ver && Nat.blt off esz) ((nth es ix).bind fun e=>nth e off)
   | _=>none
  | _=>none
 | .ldb ag sz,[a]=>match a with
  | .fa d off=>(readA M sz (.fa d off)).bind fun cs=>CD ag cs
  | _=>none
 | .ldx d ag sz,[a]=>gd (!Us d a) ((readA M sz a).bind fun cs=>CD ag cs)
 | .b2s,[x]=>(elems M.H x).bind fun es=>(Hd es).bind fun l=>some (.m (.s l))
 | _,_=>none
def EN (esz : Nat) (es : List (List V)) (ix off : Nat) (xs : List V) : Option (List (List V)) :=
 match Nat.ble (off % esz + xs.length) esz with
 | true=>(nth es (ix + off / esz)).bind fun e=>(FA e (off % esz) xs).bind fun e'=>Bw es (ix + off / esz) e'
 | false=>(FA es.flatten (ix * esz + off) xs).bind fun l=>some (BK esz es.length l)
def EO (M : Mem) (xs : List V) : V -> Option Mem
 | .fa d off=>(getB M.B d).bind fun cs=>(FA cs off xs).bind fun cs'=>some { M with B:=DB M.B d cs' }
 | .pt r ver ix off=>(nth M.H r).bind fun row=>match row with
  | .cs ty esz es _ fz=>gd (!fz && Nat.beq ver es.length) ((EN esz es ix off xs).bind fun es'=>(Bw M.H r (.cs ty esz es' es.length false)).bind fun H'=>some { M with H:=H' })
  | _=>none
 | _=>none
def Se (kt : KT) (key : I) (x : V) : List (I × V) -> Option (List (I × V))
 | []=>some [(key,x)]
 | (k,y) :: r=>(CO kt key k).bind fun q=>match q with
  | true=>some ((key,x) :: r)
  | false=>(Se kt key x r).bind fun l=>some ((k,y) :: l)
def Ti (kt : KT) (key : I) : List (I × V) -> Option (List (I × V))
 | []=>some []
 | (k,y) :: r=>(CO kt key k).bind fun q=>match q with
  | true=>some r
  | false=>(Ti kt key r).bind fun l=>some ((k,y) :: l)
def view : Nat -> Hp -> V -> Option I
 | 0,_,_=>none
 | n + 1,H,v=>match v with
  | .m x=>some x
  | .ls es=>some (.sl es)
  | .sl r ver esz st len lim=>(elems H (.sl r ver esz st len lim)).bind fun es=>(Ai (fun e=>Ai (view n H) e) es).bind fun l=>some (.sl l)
  | .pt r ver ix off=>(nth H r).bind fun row=>match row with
   | .cs _ esz _ _ _=>(readA ⟨[],H⟩ (esz - off) (.pt r ver ix off)).bind fun cs=>(Ai (view n H) cs).bind fun l=>some (.pt l)
   | _=>none
  | .mp r=>(nth H r).bind fun row=>match row with
   | .mp es _=>(Ai (fun (p : I × V)=>(view n H p.2).bind fun x=>some [p.1,x]) es).bind fun l=>some (.mp l)
   | _=>none
  | .fn f cap=>(Ai (view n H) cap).bind fun l=>some (.fn f l)
  | .ag cs=>(Ai (view n H) cs).bind fun l=>some (.ag l)
  | _=>none
def DK (H : Hp) : V -> Option V
 | .tu vs=>(Ai (view 20 H) vs).bind fun l=>some (.tu (l.map .m))
 | v=>(view 20 H v).bind fun x=>some (.m x)
mutual
def JP : I -> Bool
 | .b _=>true
 | .i _ _=>true
 | .s _=>true
 | .nl _=>true
 | .er=>true
 | .ag cs=>MD cs
 | _=>false
def MD : List I -> Bool
 | []=>true
 | x :: r=>JP x && MD r
end
def Hy : V -> Bool
 | .m x=>JP x
 | .tu vs=>vs.all fun v=>match v with
  | .m x=>JP x
  | _=>false
 | _=>false
def isM : V -> Bool
 | .m _=>true
 | .ls _=>true
 | _=>false
def Fy : V -> List Nat
 | .sl r _ _ _ _ _=>[r]
 | .pt r _ _ _=>[r]
 | .mp r=>[r]
 | _=>[]
def DG : V -> List Nat
 | .fn _ cap=>cap.flatMap Fy
 | .ag cs=>cs.flatMap Fy
 | v=>Fy v
def AD : Row -> Option Row
 | .cs ty esz es base _=>gd (es.all fun e=>e.all isM) (some (.cs ty esz es base true))
 | .mp es _=>gd (es.all fun p=>isM p.2) (some (.mp es true))
 | .lp _ _ _ _ _ _=>none
def AO : List Nat -> Hp -> Option Hp
 | [],H=>some H
 | r :: rs,H=>(nth H r).bind fun row=>(AD row).bind fun row'=>(Bw H r row').bind fun H'=>AO rs H'
def CP : V -> Bool
 | .fn _ _=>false
 | .ag _=>false
 | .tu _=>false
 | .un=>false
 | .fa _ _=>false
 | _=>true
def CE : V -> Bool
 | .fn _ cap=>cap.all CP
 | .ag cs=>cs.all CP
 | v=>CP v
abbrev Bp:=Nat -> List V -> Hp -> Option (V × Hp)
abbrev yN : Nat:=1000000000
def cavF : V -> Option (Nat × List V)
 | .fn f cap=>some (f,cap)
 | .m (.fn f cap)=>some (f,cap.map .m)
 | _=>none
def BI (M : Mem) (ty esz bytes : Nat) (es : List (List V)) : Option (V × Mem) :=
 gd (Nat.ble (es.length * bytes) 140737488355328 && Nat.ble 1 esz && es.all fun e=>Nat.beq e.length esz && e.all CS)
  (some (.sl M.H.length es.length esz 0 es.length false,{ M with H:=M.H ++ [.cs ty esz es 0 false] }))
def EG (M : Mem) (ty esz bytes : Nat) (s : V) (xs : List (List V)) : Option (V × Mem) :=
 match xs with
 | []=>match s with
  | .m (.nl 4)=>some (s,M)
  | .m (.sl _)=>some (s,M)
  | .ls _=>some (s,M)
  | .sl _ _ _ _ _ _=>some (s,M)
  | _=>none
 | _ :: _=>match s with
  | .m (.nl 4)=>BI M ty esz bytes xs
  | .ls es=>BI M ty esz bytes (Et es ++ xs)
  | .sl r ver esz0 st len lim=>(nth M.H r).bind fun row=>match row with
   | .cs ty' esz' es base fz=>match lim with
    | true=>gd (Nat.ble base ver && Nat.beq esz0 esz' && Nat.beq esz esz') (BI M ty esz bytes ((es.drop st).take len ++ xs))
    | false=>gd (!fz && Nat.beq ty ty' && Nat.beq esz esz' && Nat.beq esz0 esz' && Nat.beq st 0 && Nat.beq ver es.length && Nat.beq len es.length && Nat.ble ((es.length + xs.length) * bytes) 140737488355328 && xs.all fun e=>Nat.beq e.length esz && e.all CS)
     ((Bw M.H r (.cs ty' esz' (es ++ xs) base false)).bind fun H'=>some (.sl r (es.length + xs.length) esz' 0 (es.length + xs.length) false,{ M with H:=H' }))
   | _=>none
  | _=>none
def Qh (es : List (List V)) (st : Nat) (xs : List (List V)) : List (List V):=es.take st ++ xs ++ es.drop (st + xs.length)
def Am (call : Bp) (M : Mem) : OL -> List V -> Option (V × Mem)
 | .alp d zero,[]=>some (.fa d 0,{ M with B:=DB M.B d zero })
 | .bxp d sz,[x]=>(Av x).bind fun cs=>gd (Nat.beq cs.length sz) (some (.fa d 0,{ M with B:=DB M.B d cs }))
 | .als ty esz n zero,[]=>gd (Nat.beq zero.length (n * esz) && Nat.ble 1 esz && Nat.ble 1 n && Nat.ble n 9223372036854775807) (some (.pt M.H.length n 0 0,{ M with H:=M.H ++ [.cs ty esz (BK esz n zero) 0 false] }))
 | .bxs ty esz n,[x]=>(Av x).bind fun cs=>gd (Nat.beq cs.length (n * esz) && Nat.ble 1 esz && Nat.ble 1 n && Nat.ble n 9223372036854775807) (some (.pt M.H.length n 0 0,{ M with H:=M.H ++ [.cs ty esz (BK esz n cs) 0 false] }))
 | .st sz,[a,x]=>(Av x).bind fun cs=>gd (Nat.beq cs.length sz && cs.all CS) ((EO M cs a).bind fun M'=>some (.un,M'))
 | .stb d sz,[a,x]=>gd (Us d a) ((Av x).bind fun cs=>gd (Nat.beq cs.length sz && cs.all CS) ((EO M cs a).bind fun M'=>some (.un,M')))
 | .str sz,[a,x]=>gd (AE a) ((Av x).bind fun cs=>gd (Nat.beq cs.length sz && cs.all CS) ((EO M cs a).bind fun M'=>some (.un,M')))
 | .mkm,[]=>some (.mp M.H.length,{ M with H:=M.H ++ [.mp [] false] })
 | .mkm,[x]=>match x with
  | .m (.i _ _)=>some (.mp M.H.length,{ M with H:=M.H ++ [.mp [] false] })
  | _=>none
 | .mks ty esz zero bytes,[a,b]=>match b with
  | .m (.i .i64 (.ofNat c))=>(bnd c a).bind fun n=>gd (Nat.ble (c * bytes) 281474976710656 && Nat.ble c 9223372036854775807 && Nat.ble 1 esz && Nat.beq zero.length esz)
   (some (.sl M.H.length n esz 0 n (Nat.beq n c),{ M with H:=M.H ++ [.cs ty esz (List.replicate n zero) 0 false] }))
  | _=>none
 | .bss ty esz zero n places,xs=>(Bu esz (List.replicate n zero) places xs).bind fun es=>gd (Nat.ble 1 esz && Nat.beq zero.length esz)
   (some (.sl M.H.length n esz 0 n true,{ M with H:=M.H ++ [.cs ty esz es 0 false] }))
 | .bsw ty esz zero n places,xs=>(Bu esz (List.replicate n zero) places xs).bind fun es=>gd (Nat.ble 1 esz && Nat.beq zero.length esz)
   (some (.sl M.H.length n esz 0 n false,{ M with H:=M.H ++ [.cs ty esz es 0 false] }))
 | .bsf esz zero n places,xs=>(Bu esz (List.replicate n zero) places xs).bind fun es=>gd (xs.all CE)
   ((Ai (fun e=>Ai (view 20 M.H) e) es).bind fun l=>(AO (xs.flatMap DG) M.H).bind fun H'=>some (.ls l,{ M with H:=H' }))
 | .s2r ty,[x]=>match x with
  | .m (.s l)=>BI M ty 1 1 (l.map fun c : Nat=>[.m (.i .u8 (Int.ofNat c))])
  | _=>none
 | .s2w,[x]=>match x with
  | .sl r ver 1 0 len false=>(nth M.H r).bind fun row=>match row with
   | .cs _ 1 es _ false=>gd (Nat.beq ver es.length && Nat.beq len es.length) (some (.sl r ver 1 0 len false,M))
   | _=>none
  | _=>none
 | .app ty esz bytes,[s,x]=>match x with
  | .m (.s l)=>EG M ty esz bytes s (l.map fun c : Nat=>[.m (.i .u8 (Int.ofNat c))])
  | x=>(elems M.H x).bind fun xs=>EG M ty esz bytes s xs
 | .mup kt,[m,k,x]=>match m with
  | .mp r=>(nth M.H r).bind fun row=>match row with
   | .mp es false=>(Ur k).bind fun key=>gd (AE x && ED kt key) ((Se kt key x es).bind fun es'=>(Bw M.H r (.mp es' false)).bind fun H'=>some (.un,{ M with H:=H' }))
   | _=>none
  | _=>none
 | .mdl kt,[m,k]=>match m with
  | .mp r=>(nth M.H r).bind fun row=>match row with
   | .mp es false=>(Ur k).bind fun key=>(gd (ED kt key) (Ti kt key es)).bind fun es'=>(Bw M.H r (.mp es' false)).bind fun H'=>some (.tu [],{ M with H:=H' })
   | _=>none
  | _=>none
 | .cpy esz0,[d,x]=>(elems M.H x).bind fun xs=>match d with
  | .sl r ver esz st len _=>(nth M.H r).bind fun row=>match row with
   | .cs ty esz' es _ false=>gd (Nat.beq ver es.length && Nat.beq esz esz' && Nat.beq esz0 esz' && xs.all fun e=>Nat.beq e.length esz && e.all CS)
    ((Bw M.H r (.cs ty esz (Qh es st (xs.take len)) es.length false)).bind fun H'=>some (.m (.i .i64 (Int.ofNat (Nat.min xs.length len))),{ M with H:=H' }))
   | _=>none
  | _=>none
 | .clr z,[d]=>match d with
  | .sl r ver esz st len _=>(nth M.H r).bind fun row=>match row with
   | .cs ty esz' es _ false=>gd (Nat.beq ver es.length && Nat.beq esz esz' && Nat.beq esz 1 && CS z)
    ((Bw M.H r (.cs ty esz' (Qh es st (List.replicate len [z])) es.length false)).bind fun H'=>some (.tu [],{ M with H:=H' }))
   | _=>none
  | _=>none
 | .ust ty,[a,n]=>match n with
  | .m (.i .i64 (.ofNat k))=>match a with
   | .m (.nl 0)=>gd (Nat.beq k 0) (some (.m (.s []),M))
   | .pt r ver 0 0=>(nth M.H r).bind fun row=>match row with
    | .cs ty' esz es base false=>gd (Nat.beq ty ty' && Nat.beq esz 1 && Nat.ble base ver && Nat.beq ver es.length && Nat.beq k es.length && Nat.ble 1 k) ((Hd es).bind fun l=>(Bw M.H r (.cs ty esz es base true)).bind fun H'=>some (.m (.s l),{ M with H:=H' }))
    | _=>none
   | _=>none
  | _=>none
 | .cal f,xs=>(call f xs M.H).bind fun p=>some (p.1,{ M with H:=p.2 })
 | .cav,g :: xs=>match g with
  | .fn f cap=>(call f (xs ++ cap) M.H).bind fun p=>some (p.1,{ M with H:=p.2 })
  | .m (.fn f cap)=>(call f (xs ++ cap.map .m) M.H).bind fun p=>some (p.1,{ M with H:=p.2 })
  | .yl r=>(call yN (.yl r :: xs) M.H).bind fun p=>some (p.1,{ M with H:=p.2 })
  | _=>none
 | _,_=>none
def evO (call : Bp) (M : Mem) : O -> List V -> Option (V × Mem)
 | .p o,vs=>(Ap o vs).bind fun v=>some (v,M)
 | .r o,vs=>(readX M o vs).bind fun v=>some (v,M)
 | .l o,vs=>Am call M o vs
def evA (s : St) : Opnd -> Option V
 | .v n=>BA s.E n
 | .l n=>BA s.L n
 | .k x=>some x
def EW (n : Nat) : V -> Bool
 | .fa d off=>Nat.beq d n && Nat.beq off 0
 | _=>true
def CB (s : St) (d : Dst) (x : V) : Option St:=match d with
 | .no=>some s
 | .v n=>gd (EW n x) (some { s with E:=BT s.E n x })
 | .l n=>some { s with L:=BT s.L n x }
def Ay (s : St) : Option (Opnd × Bool) -> Option Bool
 | none=>some true
 | some (a,want)=>(evA s a).bind fun v=>match v with
  | .m (.b x)=>some (x == want)
  | .un=>some false
  | _=>none
def BU (d : Nat) : Env -> Bool
 | []=>true
 | (_,.fa k _) :: r=>!Nat.beq k d && BU d r
 | _ :: r=>BU d r
def AW (s : St) : O -> Bool
 | .l (.alp d _)=>BU d s.L
 | .l (.bxp d _)=>BU d s.L
 | _=>true
def DD (call : Bp) (s : St) (o : Op) : Option St:=(Ay s o.guard).bind fun q=>match q with
 | true=>gd (AW s o.op) ((Ai (evA s) o.args).bind fun vs=>(evO call s.M o.op vs).bind fun p=>CB { s with M:=p.2 } o.dst p.1)
 | false=>CB s o.dst .un
def Bc (call : Bp) : List Op -> St -> Option St
 | [],s=>some s
 | o :: r,s=>(DD call s o).bind fun s'=>Bc call r s'
def Ar : List Nat -> Env -> Env
 | [],e=>e
 | n :: r,e=>Ar r (rmE e n)
def NV : Env -> Env
 | []=>[]
 | (n,x) :: r=>match AE x with
  | true=>(n,x) :: NV r
  | false=>rmE (NV r) n
def LR : Env -> List Nat -> List V -> Env
 | e,p :: ps,x :: xs=>LR (BT e p x) ps xs
 | e,_,_=>e
def EZ (body : St -> Option (Ex × St)) : Nat -> St -> Option (Ex × St)
 | 0,_=>none
 | k + 1,s=>(body s).bind fun p=>match p.1 with
  | .nm=>EZ body k p.2
  | e=>some (e,p.2)
def evC (call : Bp) (n : Nat) : C -> St -> Option (Ex × St)
 | .skip,s=>some (.nm,s)
 | .reg ops,s=>(Bc call ops s).bind fun s'=>some (.nm,{ s' with L:=[] })
 | .seq a b,s=>(evC call n a s).bind fun p=>match p.1 with
  | .nm=>evC call n b p.2
  | e=>some (e,p.2)
 | .ite c a b,s=>(evA s c).bind fun v=>match v with
  | .m (.b true)=>evC call n a s
  | .m (.b false)=>evC call n b s
  | _=>none
 | .blk id c,s=>(evC call n c s).bind fun p=>match p.1 with
  | .ex j=>match Nat.beq j id with
   | true=>some (.nm,p.2)
   | false=>some (.ex j,p.2)
  | e=>some (e,p.2)
 | .loop dr c,s=>EZ (fun t=>evC call n c { t with E:=Ar dr t.E }) n s
 | .rng _ _ _ _ _,_=>none
 | .ex id,s=>some (.ex id,s)
 | .ret,s=>some (.ret,s)
def NQ (s : St) : Res -> Option V
 | .t n=>(BA s.E n).bind fun v=>gd (AE v) (some v)
 | .c n sz ag=>(BA s.E n).bind fun a=>(readA s.M sz a).bind fun cs=>CD ag cs
def Cw : Nat -> List V -> Env
 | _,[]=>[]
 | k,x :: r=>(k,x) :: Cw (k + 1) r
def tup : List V -> V
 | [v]=>v
 | vs=>.tu vs
def DM (s : St) (rs : List Res) : Option V:=(Ai (NQ s) rs).bind fun vs=>some (tup vs)
def evF (call : Bp) (n : Nat) (f : F) (vs : List V) (H : Hp) : Option (V × Hp) :=
 gd (vs.all AE && Nat.beq vs.length f.np) ((evC call n f.body ⟨Cw 0 vs,[],⟨[],H⟩⟩).bind fun p=>match p.1 with
  | .ex _=>none
  | _=>(DM p.2 f.res).bind fun v=>some (v,p.2.M.H))
def HE (_ : Bp) (_ : Nat) (_ : List V) (_ : Hp) : Option (V × Hp):=none
structure Cfg where
 fn : Nat -> Option F
 sh : Nat -> Bool
 prim : Nat -> Option (Bp -> List V -> Hp -> Option (V × Hp))
inductive T where
 | nil
 | lf (k : Nat) (f : F)
 | nd (m : Nat) (a b : T)
def T.look : T -> Nat -> Option F
 | .nil,_=>none
 | .lf k f,n=>match Nat.beq k n with
  | true=>some f
  | false=>none
 | .nd m a b,n=>match Nat.blt n m with
  | true=>a.look n
  | false=>b.look n
def T.all : T -> List (Nat × F)
 | .nil=>[]
 | .lf k f=>[(k,f)]
 | .nd _ a b=>a.all ++ b.all
def EF (call : Bp) (n : Nat) (fn : F) (vs : List V) (H : Hp) : Option (V × Hp) :=
 (Ai (view 20 H) vs).bind fun is=>(evF call n fn (is.map .m) []).bind fun p=>(DK p.2 p.1).bind fun r=>match vs.flatMap DG with
  | []=>gd (vs.all CE) (some (r,H))
  | rs=>match Hy r with
   | true=>some (r,H)
   | false=>gd (vs.all CE) ((AO rs H).bind fun H2=>some (r,H2))
def AQ (G : Cfg) : Nat -> Bp
 | 0,_,_,_=>none
 | n + 1,f,vs,H=>match G.prim f with
  | some p=>p (AQ G n) vs H
  | none=>match G.fn f with
   | some fn=>match G.sh f with
    | true=>evF (AQ G n) n fn vs H
    | false=>EF (AQ G n) n fn vs H
   | none=>gd (Nat.beq f yN) (HE (AQ G n) n vs H)
end Go.Mx
