/- The checked translation of the loaded code into the machine's. Nothing here speaks of a program. -/
import GoSem.Core.Sem
import Derived.Calls
import Derived.Laws.AppendOwn
import Derived.Below
import GoSem.Core.Layout
import GoSem.Machine.Frame
set_option linter.unusedSimpArgs false
set_option linter.unusedVariables false
set_option linter.unusedSectionVars false
namespace Go.Mx

inductive I where
 | b (x : Bool)
 | i (k : IntKind) (n : Int)
 | s (x : List Nat)
 | nl (k : Nat)
 | er
 | sl (es : List (List I))
 | pt (cs : List I)
 | ag (cs : List I)
 | mp (es : List (List I))
 | fn (f : Nat) (cap : List I)
 deriving Inhabited

inductive V where
 | m (x : I)
 | un
 | ls (es : List (List I))
 | sl (r ver esz st len : Nat) (lim : Bool)
 | pt (r ver ix off : Nat)
 | fa (d off : Nat)
 | mp (r : Nat)
 | fn (f : Nat) (cap : List V)
 | ag (cs : List V)
 | tu (vs : List V)
 | yl (r : Nat)
 deriving Inhabited

structure KT where
 ag : Bool
 ks : List Nat

inductive OP where
 | mv | pick
 | un (op : UnOp)
 | bin (op : BinOp)
 | eqb (neg : Bool)
 | eqs (neg : Bool) (ks : List Nat)
 | eqn (neg : Bool) (k : Nat)
 | build (zero : List V) (places : List (Nat × Nat))
 | bsl (esz : Nat) (zero : List V) (n : Nat) (places : List Nat)
 | cv (k : IntKind)
 | cvs
 | s2b
 | fad (off : Nat)
 | fld (ag : Bool) (sz off : Nat)
 | ixa (esz : Nat)
 | ixaA (n esz : Nat)
 | ixv (n esz : Nat) (ag : Bool)
 | ixs
 | ext (j : Nat)
 | mkf (f : Nat)
 | nck
 | mm (mx : Bool)
 | len (str : Bool)
 | usd
 | slc (esz : Nat) (lo hi mx : Bool)

inductive OR where
 | ld (ag : Bool) (sz : Nat)
 | ld1
 | ldb (ag : Bool) (sz : Nat)
 | ldx (d : Nat) (ag : Bool) (sz : Nat)
 | lkp (kt : KT) (zero : List V) (ag ok : Bool)
 | lenm
 | b2s
 | slcA (n esz : Nat) (lo hi mx : Bool)

inductive OL where
 | alp (d : Nat) (zero : List V)
 | bxp (d sz : Nat)
 | als (ty esz n : Nat) (zero : List V)
 | bxs (ty esz n : Nat)
 | st (sz : Nat)
 | stb (d sz : Nat)
 | str (sz : Nat)
 | mkm
 | mks (ty esz : Nat) (zero : List V) (bytes : Nat)
 | bss (ty esz : Nat) (zero : List V) (n : Nat) (places : List Nat)
 | bsw (ty esz : Nat) (zero : List V) (n : Nat) (places : List Nat)
 | bsf (esz : Nat) (zero : List V) (n : Nat) (places : List Nat)
 | s2w
 | app (ty esz bytes : Nat)
 | mup (kt : KT)
 | mdl (kt : KT)
 | cpy (esz : Nat)
 | clr (z : V)
 | ust (ty : Nat)
 | s2r (ty : Nat)
 | cal (f : Nat)
 | cav

inductive O where
 | p (o : OP)
 | r (o : OR)
 | l (o : OL)

inductive Opnd where
 | v (n : Nat)
 | l (n : Nat)
 | k (x : V)

inductive Dst where
 | no
 | v (n : Nat)
 | l (n : Nat)

structure Op where
 dst : Dst
 op : O
 args : List Opnd
 guard : Option (Opnd × Bool)

inductive C where
 | skip
 | reg (ops : List Op)
 | seq (a b : C)
 | ite (c : Opnd) (a b : C)
 | blk (id : Nat) (c : C)
 | loop (drop : List Nat) (c : C)
 | rng (f : Opnd) (drop ps : List Nat) (ca cb : C)
 | ex (id : Nat)
 | ret

inductive Row where
 | cs (ty esz : Nat) (es : List (List V)) (base : Nat) (fz : Bool)
 | mp (es : List (I × V)) (fz : Bool)
 | lp (st : Nat) (pd : Option (Option Nat)) (E : List (Nat × V)) (ps : List Nat) (ca cb : C)
 deriving Inhabited

abbrev Hp:=List Row
abbrev Env:=List (Nat × V)

structure Mem where
 B : List (Nat × List V)
 H : Hp

inductive Res where
 | t (n : Nat)
 | c (n sz : Nat) (ag : Bool)

structure F where
 np : Nat
 res : List Res
 body : C

inductive Ex where
 | nm
 | ex (id : Nat)
 | ret

structure St where
 E : Env
 L : Env
 M : Mem

def gd {α : Type} (b : Bool) (x : Option α) : Option α:=match b with
 | true=>x
 | false=>none

/- Integers: tests by their shapes, which the kernel decides fast. -/
def inR (lo hi : Nat) : Int → Bool
 | .ofNat m=>Nat.ble m hi
 | .negSucc m=>Nat.blt m lo

def okK : IntKind → Int → Bool
 | .i64,n=>inR 9223372036854775808 9223372036854775807 n
 | .u64,n=>inR 0 18446744073709551615 n
 | .i32,n=>inR 2147483648 2147483647 n
 | .u32,n=>inR 0 4294967295 n
 | .i16,n=>inR 32768 32767 n
 | .u16,n=>inR 0 65535 n
 | .i8,n=>inR 128 127 n
 | .u8,n=>inR 0 255 n

def wr (k : IntKind) (n : Int) : Int:=match okK k n with
 | true=>n
 | false=>k.wrap n

def ltI : Int → Int → Bool
 | .ofNat a,.ofNat b=>Nat.blt a b
 | .ofNat _,.negSucc _=>false
 | .negSucc _,.ofNat _=>true
 | .negSucc a,.negSucc b=>Nat.blt b a

def eqI : Int → Int → Bool
 | .ofNat a,.ofNat b=>Nat.beq a b
 | .negSucc a,.negSucc b=>Nat.beq a b
 | _,_=>false

def leI (a b : Int) : Bool:=!ltI b a

def eqK : IntKind → IntKind → Bool
 | .i64,.i64=>true
 | .u64,.u64=>true
 | .i32,.i32=>true
 | .u32,.u32=>true
 | .i16,.i16=>true
 | .u16,.u16=>true
 | .i8,.i8=>true
 | .u8,.u8=>true
 | _,_=>false

def nat? : Int → Option Nat
 | .ofNat m=>some m
 | .negSucc _=>none

def eqL : List Nat → List Nat → Bool
 | [],[]=>true
 | a :: x,b :: y=>Nat.beq a b && eqL x y
 | _,_=>false

def ltL : List Nat → List Nat → Bool
 | _,[]=>false
 | [],_ :: _=>true
 | a :: x,b :: y=>Nat.blt a b || (Nat.beq a b && ltL x y)

def eqC (k : Nat) : I → I → Option Bool
 | .b x,.b y=>gd (Nat.beq k 0) (some (x == y))
 | .i j x,.i j' y=>gd (Nat.beq k 1 && eqK j j') (some (eqI x y))
 | .s x,.s y=>gd (Nat.beq k 2) (some (eqL x y))
 | _,_=>none

def eqCs : List Nat → List I → List I → Option Bool
 | [],[],[]=>some true
 | k :: ks,x :: xs,y :: ys=>(eqC k x y).bind fun r=>(eqCs ks xs ys).bind fun rs=>some (r && rs)
 | _,_,_=>none

def eqKey (kt : KT) (x y : I) : Option Bool:=match kt.ag with
 | true=>match x,y with
  | .ag xs,.ag ys=>eqCs kt.ks xs ys
  | _,_=>none
 | false=>match kt.ks with
  | [k]=>eqC k x y
  | _=>none

def okKey (kt : KT) (x : I) : Bool:=match eqKey kt x x with
 | some _=>true
 | none=>false

def allM : List V → Option (List I)
 | []=>some []
 | .m x :: r=>(allM r).bind fun l=>some (x :: l)
 | _=>none

def mkAg (cs : List V) : V:=match allM cs with
 | some l=>.m (.ag l)
 | none=>.ag cs

def cellsV : V → Option (List V)
 | .m (.ag cs)=>some (cs.map .m)
 | .ag cs=>some cs
 | .tu _=>none
 | .un=>none
 | .fa _ _=>none
 | v=>some [v]

def aggC : V → Option (List V)
 | .m (.ag cs)=>some (cs.map .m)
 | .ag cs=>some cs
 | _=>none

def oneV : V → Bool
 | .m (.ag _)=>false
 | .ag _=>false
 | .tu _=>false
 | .un=>false
 | .fa _ _=>false
 | _=>true

def valOf (ag : Bool) (cs : List V) : Option V:=match ag with
 | true=>some (mkAg cs)
 | false=>match cs with
  | [x]=>some x
  | _=>none

def takeN (n : Nat) (l : List V) : Option (List V):=gd (Nat.beq (l.take n).length n) (some (l.take n))

def putAt (cs : List V) (off : Nat) (xs : List V) : Option (List V) :=
 gd (Nat.ble (off + xs.length) cs.length) (some (cs.take off ++ xs ++ cs.drop (off + xs.length)))

def getE : Env → Nat → Option V
 | [],_=>none
 | (k,x) :: r,n=>match Nat.beq k n with
  | true=>some x
  | false=>getE r n

def setE : Env → Nat → V → Env
 | [],n,x=>[(n,x)]
 | (k,y) :: r,n,x=>match Nat.blt n k with
  | true=>(n,x) :: (k,y) :: r
  | false=>match Nat.beq k n with
   | true=>(n,x) :: r
   | false=>(k,y) :: setE r n x

def rmE : Env → Nat → Env
 | [],_=>[]
 | (k,x) :: r,n=>match Nat.beq k n with
  | true=>rmE r n
  | false=>(k,x) :: rmE r n

def getB : List (Nat × List V) → Nat → Option (List V)
 | [],_=>none
 | (k,x) :: r,n=>match Nat.beq k n with
  | true=>some x
  | false=>getB r n

def setB : List (Nat × List V) → Nat → List V → List (Nat × List V)
 | [],n,x=>[(n,x)]
 | (k,y) :: r,n,x=>match Nat.beq k n with
  | true=>(n,x) :: r
  | false=>match Nat.blt n k with
   | true=>(n,x) :: (k,y) :: r
   | false=>(k,y) :: setB r n x

def optMap {α β : Type} (f : α → Option β) : List α → Option (List β)
 | []=>some []
 | a :: r=>(f a).bind fun x=>(optMap f r).bind fun l=>some (x :: l)

def bitsK : IntKind → Nat
 | .i8=>8
 | .u8=>8
 | .i16=>16
 | .u16=>16
 | .i32=>32
 | .u32=>32
 | .i64=>64
 | .u64=>64

def modK : IntKind → Nat
 | .i8=>256
 | .u8=>256
 | .i16=>65536
 | .u16=>65536
 | .i32=>4294967296
 | .u32=>4294967296
 | .i64=>18446744073709551616
 | .u64=>18446744073709551616

def patK (k : IntKind) : Int → Nat
 | .ofNat m=>m % modK k
 | .negSucc m=>modK k - 1 - m % modK k

def vi (k : IntKind) (n : Int) : Option V:=some (.m (.i k n))
def vb (x : Bool) : Option V:=some (.m (.b x))

def arX (op : BinOp) (k : IntKind) (x y : Int) : Option V:=match op with
 | .add=>vi k (wr k (x + y))
 | .sub=>vi k (wr k (x - y))
 | .mul=>vi k (wr k (x * y))
 | .quo=>gd (!eqI y 0) (vi k (wr k (x.tdiv y)))
 | .rem=>gd (!eqI y 0) (vi k (x.tmod y))
 | .eql=>vb (eqI x y)
 | .neq=>vb (!eqI x y)
 | .lss=>vb (ltI x y)
 | .leq=>vb (leI x y)
 | .gtr=>vb (ltI y x)
 | .geq=>vb (leI y x)
 | .and=>vi k (wr k (Int.ofNat (Nat.land (patK k x) (patK k y))))
 | .or=>vi k (wr k (Int.ofNat (Nat.lor (patK k x) (patK k y))))
 | .xor=>vi k (wr k (Int.ofNat (Nat.xor (patK k x) (patK k y))))
 | _=>none

def shX (op : BinOp) (k : IntKind) (x : Int) (y : Nat) : Option V:=match op with
 | .shl=>vi k (wr k (x * Int.ofNat (Nat.pow 2 (Nat.min y (bitsK k)))))
 | .shr=>vi k (x.fdiv (Int.ofNat (Nat.pow 2 (Nat.min y (bitsK k)))))
 | _=>none

def stX (op : BinOp) (x y : List Nat) : Option V:=match op with
 | .add=>gd (Nat.ble (x.length + y.length) 9223372036854775807) (some (.m (.s (x ++ y))))
 | .eql=>vb (eqL x y)
 | .neq=>vb (!eqL x y)
 | .lss=>vb (ltL x y)
 | .leq=>vb (ltL x y || eqL x y)
 | .gtr=>vb (!(ltL x y || eqL x y))
 | .geq=>vb (!ltL x y)
 | _=>none

def binX (op : BinOp) : V → V → Option V
 | .m (.i k x),.m (.i k' y)=>match op with
  | .shl=>(nat? y).bind fun n=>shX .shl k x n
  | .shr=>(nat? y).bind fun n=>shX .shr k x n
  | op=>gd (eqK k k') (arX op k x y)
 | .m (.s x),.m (.s y)=>stX op x y
 | _,_=>none

def unX (op : UnOp) : V → Option V
 | .m (.i k x)=>match op with
  | .neg=>vi k (wr k (0 - x))
  | .xor=>vi k (wr k (Int.ofNat (modK k - 1 - patK k x)))
  | _=>none
 | .m (.b x)=>match op with
  | .not=>vb (!x)
  | _=>none
 | _=>none

def isNil : Nat → V → Option Bool
 | 0,.m (.nl 0)=>some true
 | 0,.m (.pt _)=>some false
 | 0,.pt _ _ _ _=>some false
 | 0,.fa _ _=>some false
 | 1,.m (.nl 1)=>some true
 | 1,.m (.mp _)=>some false
 | 1,.mp _=>some false
 | 2,.m (.nl 2)=>some true
 | 2,.m (.fn _ _)=>some false
 | 2,.fn _ _=>some false
 | 3,.m (.nl 3)=>some true
 | 3,.m .er=>some false
 | 4,.m (.nl 4)=>some true
 | 4,.m (.sl _)=>some false
 | 4,.ls _=>some false
 | 4,.sl _ _ _ _ _ _=>some false
 | _,_=>none

def fill (cs : List V) : List (Nat × Nat) → List V → Option (List V)
 | [],[]=>some cs
 | (off,sz) :: ps,x :: xs=>(cellsV x).bind fun l=>gd (Nat.beq l.length sz) ((putAt cs off l).bind fun cs'=>fill cs' ps xs)
 | _,_=>none

def setEl {α : Type} : List α → Nat → α → Option (List α)
 | [],_,_=>none
 | _ :: r,0,x=>some (x :: r)
 | y :: r,n + 1,x=>(setEl r n x).bind fun l=>some (y :: l)

def fillEl (esz : Nat) (es : List (List V)) : List Nat → List V → Option (List (List V))
 | [],[]=>some es
 | ix :: ps,x :: xs=>(cellsV x).bind fun l=>gd (Nat.beq l.length esz) ((setEl es ix l).bind fun es'=>fillEl esz es' ps xs)
 | _,_=>none

def nth {α : Type} : List α → Nat → Option α
 | [],_=>none
 | x :: _,0=>some x
 | _ :: r,n + 1=>nth r n

def idx (n : Nat) : V → Option Nat
 | .m (.i _ (.ofNat j))=>gd (Nat.blt j n) (some j)
 | _=>none

def bnd (n : Nat) : V → Option Nat
 | .m (.i _ (.ofNat j))=>gd (Nat.ble j n) (some j)
 | _=>none

def bnds (n : Nat) (lo hi mx : Bool) (vs : List V) : Option (Nat × Nat) :=
 match lo,hi,mx,vs with
 | false,false,false,[]=>some (0,n)
 | true,false,false,[a]=>(bnd n a).bind fun l=>some (l,n)
 | false,true,false,[b]=>(bnd n b).bind fun h=>some (0,h)
 | true,true,false,[a,b]=>(bnd n b).bind fun h=>(bnd h a).bind fun l=>some (l,h)
 | false,true,true,[b,c]=>(bnd n c).bind fun m=>(bnd m b).bind fun h=>gd (Nat.beq h m) (some (0,h))
 | true,true,true,[a,b,c]=>(bnd n c).bind fun m=>(bnd m b).bind fun h=>gd (Nat.beq h m) ((bnd h a).bind fun l=>some (l,h))
 | _,_,_,_=>none

def maxI (x y : Int) : Int:=match ltI x y with
 | true=>y
 | false=>x

def minI (x y : Int) : Int:=match ltI y x with
 | true=>y
 | false=>x

def mmX (mx : Bool) (k : IntKind) (x : Int) : List V → Option V
 | []=>vi k x
 | .m (.i _ y) :: r=>mmX mx k (match mx with
  | true=>maxI x y
  | false=>minI x y) r
 | _=>none

def chunk {α : Type} (esz : Nat) : Nat → List α → List (List α)
 | 0,_=>[]
 | n + 1,l=>l.take esz :: chunk esz n (l.drop esz)

def noFaV : V → Bool
 | .fa _ _=>false
 | _=>true

def okEl (n : Nat) : List (List I) → Bool
 | []=>true
 | e :: _=>Nat.beq e.length n

def isStr : V → Bool
 | .m (.s _)=>true
 | _=>false

def eqB : Bool → Bool → Bool
 | true,b=>b
 | false,b=>!b

def pureX : OP → List V → Option V
 | .mv,[x]=>some x
 | .pick,[c,a,b]=>match c with
  | .m (.b true)=>some a
  | .m (.b false)=>some b
  | _=>none
 | .un op,[x]=>unX op x
 | .bin op,[x,y]=>binX op x y
 | .eqb neg,[x,y]=>match x,y with
  | .m (.b x),.m (.b y)=>vb (xor neg (x == y))
  | _,_=>none
 | .eqs neg ks,[x,y]=>match x,y with
  | .m (.ag xs),.m (.ag ys)=>(eqCs ks xs ys).bind fun r=>vb (xor neg r)
  | _,_=>none
 | .eqn neg k,[x]=>(isNil k x).bind fun r=>vb (xor neg r)
 | .build zero places,xs=>(fill zero places xs).bind fun cs=>some (mkAg cs)
 | .bsl esz zero n places,xs=>(fillEl esz (List.replicate n zero) places xs).bind fun es=>(optMap allM es).bind fun l=>some (.ls l)
 | .cv k,[x]=>match x with
  | .m (.i _ n)=>vi k (wr k n)
  | _=>none
 | .cvs,[x]=>match x with
  | .m (.s x)=>some (.m (.s x))
  | _=>none
 | .s2b,[x]=>match x with
  | .m (.s x)=>gd (Nat.ble x.length 9223372036854775807) (some (.m (.sl (x.map fun c : Nat=>[.i .u8 (Int.ofNat c)]))))
  | _=>none
 | .fad off,[x]=>match x with
  | .fa d o=>some (.fa d (o + off))
  | .pt r ver ix o=>some (.pt r ver ix (o + off))
  | .m (.pt cs)=>some (.m (.pt (cs.drop off)))
  | _=>none
 | .fld ag sz off,[x]=>(aggC x).bind fun cs=>(takeN sz (cs.drop off)).bind fun l=>valOf ag l
 | .ixa esz,[x,i]=>match x with
  | .m (.sl es)=>(idx es.length i).bind fun j=>(nth es j).bind fun e=>gd (Nat.beq e.length esz) (some (.m (.pt e)))
  | .ls es=>(idx es.length i).bind fun j=>(nth es j).bind fun e=>gd (Nat.beq e.length esz) (some (.m (.pt e)))
  | .sl r ver esz' st len _=>gd (Nat.beq esz esz') ((idx len i).bind fun j=>some (.pt r ver (st + j) 0))
  | _=>none
 | .ixaA n esz,[x,i]=>(idx n i).bind fun j=>match x with
  | .fa d o=>some (.fa d (o + j * esz))
  | .pt r ver ix o=>some (.pt r ver ix (o + j * esz))
  | .m (.pt cs)=>some (.m (.pt (cs.drop (j * esz))))
  | _=>none
 | .ixv n esz ag,[x,i]=>(idx n i).bind fun j=>(aggC x).bind fun cs=>(takeN esz (cs.drop (j * esz))).bind fun l=>valOf ag l
 | .ixs,[x,i]=>match x with
  | .m (.s l)=>(idx l.length i).bind fun j=>(nth l j).bind fun c=>vi .u8 (Int.ofNat c)
  | _=>none
 | .ext j,[x]=>match x with
  | .tu vs=>nth vs j
  | _=>none
 | .mkf f,xs=>gd (xs.all noFaV) (some (.fn f xs))
 | .nck,[x]=>match x with
  | .fa _ _=>some x
  | .pt _ _ _ _=>some x
  | .m (.pt _)=>some x
  | .fn _ _=>some x
  | .m (.fn _ _)=>some x
  | .yl _=>some x
  | _=>none
 | .mm mx,x :: r=>match x with
  | .m (.i k x)=>mmX mx k x r
  | _=>none
 | .len str,[x]=>gd (eqB (isStr x) str) (match x with
  | .m (.nl 4)=>vi .i64 0
  | .m (.sl es)=>vi .i64 (Int.ofNat es.length)
  | .ls es=>vi .i64 (Int.ofNat es.length)
  | .m (.s l)=>vi .i64 (Int.ofNat l.length)
  | .sl _ _ _ _ len _=>vi .i64 (Int.ofNat len)
  | _=>none)
 | .usd,[x]=>match x with
  | .m (.nl 4)=>some (.m (.nl 0))
  | .sl r ver esz st len _=>gd (Nat.beq esz 1 && Nat.beq st 0 && Nat.ble 1 len) (some (.pt r ver 0 0))
  | _=>none
 | .slc esz lo hi mx,x :: vs=>gd (eqB (isStr x) (Nat.beq esz 0)) (match x with
  | .m (.s l)=>gd (!mx) ((bnds l.length lo hi mx vs).bind fun p=>some (.m (.s ((l.drop p.1).take (p.2 - p.1)))))
  | .m (.nl 4)=>(bnds 0 lo hi mx vs).bind fun _=>some (.m (.nl 4))
  | .m (.sl es)=>gd (okEl esz es) ((bnds es.length lo hi mx vs).bind fun p=>some (match mx with
   | true=>.ls ((es.drop p.1).take (p.2 - p.1))
   | false=>.m (.sl ((es.drop p.1).take (p.2 - p.1)))))
  | .ls es=>gd (okEl esz es) ((bnds es.length lo hi mx vs).bind fun p=>some (match mx || Nat.beq p.2 es.length with
   | true=>.ls ((es.drop p.1).take (p.2 - p.1))
   | false=>.m (.sl ((es.drop p.1).take (p.2 - p.1)))))
  | .sl r ver esz' st len lim=>gd (Nat.beq esz esz') ((bnds len lo hi mx vs).bind fun p=>some (.sl r ver esz' (st + p.1) (p.2 - p.1) (mx || (lim && Nat.beq p.2 len))))
  | _=>none)
 | _,_=>none

def findK (kt : KT) (key : I) : List (I × V) → Option (Option V)
 | []=>some none
 | (k,x) :: r=>(eqKey kt key k).bind fun q=>match q with
  | true=>some (some x)
  | false=>findK kt key r

def pairs : List (List I) → Option (List (I × V))
 | []=>some []
 | [k,x] :: r=>(pairs r).bind fun l=>some ((k,.m x) :: l)
 | _=>none

def mapOf (H : Hp) : V → Option (List (I × V))
 | .m (.nl 1)=>some []
 | .m (.mp es)=>pairs es
 | .mp r=>(nth H r).bind fun row=>match row with
  | .mp es _=>some es
  | _=>none
 | _=>none

def immS (es : List (List I)) : List (List V):=es.map fun e=>e.map .m

def elems (H : Hp) : V → Option (List (List V))
 | .m (.nl 4)=>some []
 | .m (.sl es)=>some (immS es)
 | .ls es=>some (immS es)
 | .sl r ver esz st len _=>(nth H r).bind fun row=>match row with
  | .cs _ esz' es base _=>gd (Nat.ble base ver && Nat.beq esz esz') (some ((es.drop st).take len))
  | _=>none
 | _=>none

def bytes? : List (List V) → Option (List Nat)
 | []=>some []
 | [.m (.i .u8 (.ofNat c))] :: r=>gd (Nat.blt c 256) ((bytes? r).bind fun l=>some (c :: l))
 | _=>none

def readR (esz : Nat) (es : List (List V)) (ix off sz : Nat) : Option (List V) :=
 match Nat.ble (off % esz + sz) esz with
 | true=>(nth es (ix + off / esz)).bind fun e=>takeN sz (e.drop (off % esz))
 | false=>takeN sz (es.flatten.drop (ix * esz + off))

def readA (M : Mem) (sz : Nat) : V → Option (List V)
 | .fa d off=>(getB M.B d).bind fun cs=>takeN sz (cs.drop off)
 | .pt r ver ix off=>(nth M.H r).bind fun row=>match row with
  | .cs _ esz es base _=>gd (Nat.ble base ver && (Nat.ble (off + sz) esz || Nat.beq ver es.length)) (readR esz es ix off sz)
  | _=>none
 | .m (.pt cs)=>takeN sz (cs.map .m)
 | _=>none

def keyV : V → Option I
 | .m x=>some x
 | _=>none

def okT (ok : Bool) (x : V) (b : Bool) : V:=match ok with
 | true=>.tu [x,.m (.b b)]
 | false=>x

def lkpR (zero : List V) (ag ok : Bool) : Option V → Option V
 | some x=>some (okT ok x true)
 | none=>(valOf ag zero).bind fun z=>some (okT ok z false)

def isFa (d : Nat) : V → Bool
 | .fa k _=>Nat.beq k d
 | _=>false

def readX (M : Mem) : OR → List V → Option V
 | .ld ag sz,[a]=>(readA M sz a).bind fun cs=>valOf ag cs
 | .lkp kt zero ag ok,[m,k]=>(mapOf M.H m).bind fun es=>(keyV k).bind fun key=>(gd (okKey kt key) (findK kt key es)).bind fun q=>lkpR zero ag ok q
 | .lenm,[m]=>(mapOf M.H m).bind fun es=>vi .i64 (Int.ofNat es.length)
 | .slcA n esz lo hi mx,x :: vs=>match x with
  | .m (.pt cs)=>gd (Nat.beq cs.length (n * esz) && Nat.ble n 9223372036854775807) ((bnds n lo hi mx vs).bind fun p=>some (match mx || Nat.beq p.2 n with
   | true=>.ls (((chunk esz n cs).drop p.1).take (p.2 - p.1))
   | false=>.m (.sl (((chunk esz n cs).drop p.1).take (p.2 - p.1)))))
  | .pt r ver 0 0=>(nth M.H r).bind fun row=>match row with
   | .cs _ esz' es _ _=>gd (Nat.beq esz esz' && Nat.beq es.length n && Nat.beq ver n) ((bnds n lo hi mx vs).bind fun p=>some (.sl r ver esz p.1 (p.2 - p.1) (mx || Nat.beq p.2 n)))
   | _=>none
  | .pt r ver 0 (off + 1)=>(nth M.H r).bind fun row=>match row with
   | .cs _ esz' es _ _=>gd (Nat.beq esz esz' && Nat.beq esz 1 && Nat.ble (off + 1 + n) es.length && Nat.beq ver es.length) ((bnds n lo hi mx vs).bind fun p=>some (.sl r ver esz (off + 1 + p.1) (p.2 - p.1) (mx || Nat.beq p.2 n)))
   | _=>none
  | _=>none
 | .ld1,[a]=>match a with
  | .pt r ver ix off=>(nth M.H r).bind fun row=>match row with
   | .cs _ esz es base _=>gd (Nat.ble base ver && Nat.blt off esz) ((nth es ix).bind fun e=>nth e off)
   | _=>none
  | _=>none
 | .ldb ag sz,[a]=>match a with
  | .fa d off=>(readA M sz (.fa d off)).bind fun cs=>valOf ag cs
  | _=>none
 | .ldx d ag sz,[a]=>gd (!isFa d a) ((readA M sz a).bind fun cs=>valOf ag cs)
 | .b2s,[x]=>(elems M.H x).bind fun es=>(bytes? es).bind fun l=>some (.m (.s l))
 | _,_=>none

def writeR (esz : Nat) (es : List (List V)) (ix off : Nat) (xs : List V) : Option (List (List V)) :=
 match Nat.ble (off % esz + xs.length) esz with
 | true=>(nth es (ix + off / esz)).bind fun e=>(putAt e (off % esz) xs).bind fun e'=>setEl es (ix + off / esz) e'
 | false=>(putAt es.flatten (ix * esz + off) xs).bind fun l=>some (chunk esz es.length l)

def writeA (M : Mem) (xs : List V) : V → Option Mem
 | .fa d off=>(getB M.B d).bind fun cs=>(putAt cs off xs).bind fun cs'=>some { M with B:=setB M.B d cs' }
 | .pt r ver ix off=>(nth M.H r).bind fun row=>match row with
  | .cs ty esz es _ fz=>gd (!fz && Nat.beq ver es.length) ((writeR esz es ix off xs).bind fun es'=>(setEl M.H r (.cs ty esz es' es.length false)).bind fun H'=>some { M with H:=H' })
  | _=>none
 | _=>none

def updK (kt : KT) (key : I) (x : V) : List (I × V) → Option (List (I × V))
 | []=>some [(key,x)]
 | (k,y) :: r=>(eqKey kt key k).bind fun q=>match q with
  | true=>some ((key,x) :: r)
  | false=>(updK kt key x r).bind fun l=>some ((k,y) :: l)

def delK (kt : KT) (key : I) : List (I × V) → Option (List (I × V))
 | []=>some []
 | (k,y) :: r=>(eqKey kt key k).bind fun q=>match q with
  | true=>some r
  | false=>(delK kt key r).bind fun l=>some ((k,y) :: l)

def view : Nat → Hp → V → Option I
 | 0,_,_=>none
 | n + 1,H,v=>match v with
  | .m x=>some x
  | .ls es=>some (.sl es)
  | .sl r ver esz st len lim=>(elems H (.sl r ver esz st len lim)).bind fun es=>(optMap (fun e=>optMap (view n H) e) es).bind fun l=>some (.sl l)
  | .pt r ver ix off=>(nth H r).bind fun row=>match row with
   | .cs _ esz _ _ _=>(readA ⟨[],H⟩ (esz - off) (.pt r ver ix off)).bind fun cs=>(optMap (view n H) cs).bind fun l=>some (.pt l)
   | _=>none
  | .mp r=>(nth H r).bind fun row=>match row with
   | .mp es _=>(optMap (fun (p : I × V)=>(view n H p.2).bind fun x=>some [p.1,x]) es).bind fun l=>some (.mp l)
   | _=>none
  | .fn f cap=>(optMap (view n H) cap).bind fun l=>some (.fn f l)
  | .ag cs=>(optMap (view n H) cs).bind fun l=>some (.ag l)
  | _=>none

def viewR (H : Hp) : V → Option V
 | .tu vs=>(optMap (view 20 H) vs).bind fun l=>some (.tu (l.map .m))
 | v=>(view 20 H v).bind fun x=>some (.m x)

mutual
def flatI : I → Bool
 | .b _=>true
 | .i _ _=>true
 | .s _=>true
 | .nl _=>true
 | .er=>true
 | .ag cs=>flatIs cs
 | _=>false
def flatIs : List I → Bool
 | []=>true
 | x :: r=>flatI x && flatIs r
end

def flatV : V → Bool
 | .m x=>flatI x
 | .tu vs=>vs.all fun v=>match v with
  | .m x=>flatI x
  | _=>false
 | _=>false

def isM : V → Bool
 | .m _=>true
 | .ls _=>true
 | _=>false

def ref1 : V → List Nat
 | .sl r _ _ _ _ _=>[r]
 | .pt r _ _ _=>[r]
 | .mp r=>[r]
 | _=>[]

def refs : V → List Nat
 | .fn _ cap=>cap.flatMap ref1
 | .ag cs=>cs.flatMap ref1
 | v=>ref1 v

def freezeRow : Row → Option Row
 | .cs ty esz es base _=>gd (es.all fun e=>e.all isM) (some (.cs ty esz es base true))
 | .mp es _=>gd (es.all fun p=>isM p.2) (some (.mp es true))
 | .lp _ _ _ _ _ _=>none

def freeze : List Nat → Hp → Option Hp
 | [],H=>some H
 | r :: rs,H=>(nth H r).bind fun row=>(freezeRow row).bind fun row'=>(setEl H r row').bind fun H'=>freeze rs H'

def shallow1 : V → Bool
 | .fn _ _=>false
 | .ag _=>false
 | .tu _=>false
 | .un=>false
 | .fa _ _=>false
 | _=>true

def shallow : V → Bool
 | .fn _ cap=>cap.all shallow1
 | .ag cs=>cs.all shallow1
 | v=>shallow1 v

abbrev Call:=Nat → List V → Hp → Option (V × Hp)

abbrev yN : Nat:=1000000000

def cavF : V → Option (Nat × List V)
 | .fn f cap=>some (f,cap)
 | .m (.fn f cap)=>some (f,cap.map .m)
 | _=>none

def newRow (M : Mem) (ty esz bytes : Nat) (es : List (List V)) : Option (V × Mem) :=
 gd (Nat.ble (es.length * bytes) 140737488355328 && Nat.ble 1 esz && es.all fun e=>Nat.beq e.length esz && e.all oneV)
  (some (.sl M.H.length es.length esz 0 es.length false,{ M with H:=M.H ++ [.cs ty esz es 0 false] }))

def appX (M : Mem) (ty esz bytes : Nat) (s : V) (xs : List (List V)) : Option (V × Mem) :=
 match xs with
 | []=>match s with
  | .m (.nl 4)=>some (s,M)
  | .m (.sl _)=>some (s,M)
  | .ls _=>some (s,M)
  | .sl _ _ _ _ _ _=>some (s,M)
  | _=>none
 | _ :: _=>match s with
  | .m (.nl 4)=>newRow M ty esz bytes xs
  | .ls es=>newRow M ty esz bytes (immS es ++ xs)
  | .sl r ver esz0 st len lim=>(nth M.H r).bind fun row=>match row with
   | .cs ty' esz' es base fz=>match lim with
    | true=>gd (Nat.ble base ver && Nat.beq esz0 esz' && Nat.beq esz esz') (newRow M ty esz bytes ((es.drop st).take len ++ xs))
    | false=>gd (!fz && Nat.beq ty ty' && Nat.beq esz esz' && Nat.beq esz0 esz' && Nat.beq st 0 && Nat.beq ver es.length && Nat.beq len es.length && Nat.ble ((es.length + xs.length) * bytes) 140737488355328 && xs.all fun e=>Nat.beq e.length esz && e.all oneV)
     ((setEl M.H r (.cs ty' esz' (es ++ xs) base false)).bind fun H'=>some (.sl r (es.length + xs.length) esz' 0 (es.length + xs.length) false,{ M with H:=H' }))
   | _=>none
  | _=>none

def cpyEl (es : List (List V)) (st : Nat) (xs : List (List V)) : List (List V):=es.take st ++ xs ++ es.drop (st + xs.length)

def loudX (call : Call) (M : Mem) : OL → List V → Option (V × Mem)
 | .alp d zero,[]=>some (.fa d 0,{ M with B:=setB M.B d zero })
 | .bxp d sz,[x]=>(cellsV x).bind fun cs=>gd (Nat.beq cs.length sz) (some (.fa d 0,{ M with B:=setB M.B d cs }))
 | .als ty esz n zero,[]=>gd (Nat.beq zero.length (n * esz) && Nat.ble 1 esz && Nat.ble 1 n && Nat.ble n 9223372036854775807) (some (.pt M.H.length n 0 0,{ M with H:=M.H ++ [.cs ty esz (chunk esz n zero) 0 false] }))
 | .bxs ty esz n,[x]=>(cellsV x).bind fun cs=>gd (Nat.beq cs.length (n * esz) && Nat.ble 1 esz && Nat.ble 1 n && Nat.ble n 9223372036854775807) (some (.pt M.H.length n 0 0,{ M with H:=M.H ++ [.cs ty esz (chunk esz n cs) 0 false] }))
 | .st sz,[a,x]=>(cellsV x).bind fun cs=>gd (Nat.beq cs.length sz && cs.all oneV) ((writeA M cs a).bind fun M'=>some (.un,M'))
 | .stb d sz,[a,x]=>gd (isFa d a) ((cellsV x).bind fun cs=>gd (Nat.beq cs.length sz && cs.all oneV) ((writeA M cs a).bind fun M'=>some (.un,M')))
 | .str sz,[a,x]=>gd (noFaV a) ((cellsV x).bind fun cs=>gd (Nat.beq cs.length sz && cs.all oneV) ((writeA M cs a).bind fun M'=>some (.un,M')))
 | .mkm,[]=>some (.mp M.H.length,{ M with H:=M.H ++ [.mp [] false] })
 | .mkm,[x]=>match x with
  | .m (.i _ _)=>some (.mp M.H.length,{ M with H:=M.H ++ [.mp [] false] })
  | _=>none
 | .mks ty esz zero bytes,[a,b]=>match b with
  | .m (.i .i64 (.ofNat c))=>(bnd c a).bind fun n=>gd (Nat.ble (c * bytes) 281474976710656 && Nat.ble c 9223372036854775807 && Nat.ble 1 esz && Nat.beq zero.length esz)
   (some (.sl M.H.length n esz 0 n (Nat.beq n c),{ M with H:=M.H ++ [.cs ty esz (List.replicate n zero) 0 false] }))
  | _=>none
 | .bss ty esz zero n places,xs=>(fillEl esz (List.replicate n zero) places xs).bind fun es=>gd (Nat.ble 1 esz && Nat.beq zero.length esz)
   (some (.sl M.H.length n esz 0 n true,{ M with H:=M.H ++ [.cs ty esz es 0 false] }))
 | .bsw ty esz zero n places,xs=>(fillEl esz (List.replicate n zero) places xs).bind fun es=>gd (Nat.ble 1 esz && Nat.beq zero.length esz)
   (some (.sl M.H.length n esz 0 n false,{ M with H:=M.H ++ [.cs ty esz es 0 false] }))
 | .bsf esz zero n places,xs=>(fillEl esz (List.replicate n zero) places xs).bind fun es=>gd (xs.all shallow)
   ((optMap (fun e=>optMap (view 20 M.H) e) es).bind fun l=>(freeze (xs.flatMap refs) M.H).bind fun H'=>some (.ls l,{ M with H:=H' }))
 | .s2r ty,[x]=>match x with
  | .m (.s l)=>newRow M ty 1 1 (l.map fun c : Nat=>[.m (.i .u8 (Int.ofNat c))])
  | _=>none
 | .s2w,[x]=>match x with
  | .sl r ver 1 0 len false=>(nth M.H r).bind fun row=>match row with
   | .cs _ 1 es _ false=>gd (Nat.beq ver es.length && Nat.beq len es.length) (some (.sl r ver 1 0 len false,M))
   | _=>none
  | _=>none
 | .app ty esz bytes,[s,x]=>match x with
  | .m (.s l)=>appX M ty esz bytes s (l.map fun c : Nat=>[.m (.i .u8 (Int.ofNat c))])
  | x=>(elems M.H x).bind fun xs=>appX M ty esz bytes s xs
 | .mup kt,[m,k,x]=>match m with
  | .mp r=>(nth M.H r).bind fun row=>match row with
   | .mp es false=>(keyV k).bind fun key=>gd (noFaV x && okKey kt key) ((updK kt key x es).bind fun es'=>(setEl M.H r (.mp es' false)).bind fun H'=>some (.un,{ M with H:=H' }))
   | _=>none
  | _=>none
 | .mdl kt,[m,k]=>match m with
  | .mp r=>(nth M.H r).bind fun row=>match row with
   | .mp es false=>(keyV k).bind fun key=>(gd (okKey kt key) (delK kt key es)).bind fun es'=>(setEl M.H r (.mp es' false)).bind fun H'=>some (.tu [],{ M with H:=H' })
   | _=>none
  | _=>none
 | .cpy esz0,[d,x]=>(elems M.H x).bind fun xs=>match d with
  | .sl r ver esz st len _=>(nth M.H r).bind fun row=>match row with
   | .cs ty esz' es _ false=>gd (Nat.beq ver es.length && Nat.beq esz esz' && Nat.beq esz0 esz' && xs.all fun e=>Nat.beq e.length esz && e.all oneV)
    ((setEl M.H r (.cs ty esz (cpyEl es st (xs.take len)) es.length false)).bind fun H'=>some (.m (.i .i64 (Int.ofNat (Nat.min xs.length len))),{ M with H:=H' }))
   | _=>none
  | _=>none
 | .clr z,[d]=>match d with
  | .sl r ver esz st len _=>(nth M.H r).bind fun row=>match row with
   | .cs ty esz' es _ false=>gd (Nat.beq ver es.length && Nat.beq esz esz' && Nat.beq esz 1 && oneV z)
    ((setEl M.H r (.cs ty esz' (cpyEl es st (List.replicate len [z])) es.length false)).bind fun H'=>some (.tu [],{ M with H:=H' }))
   | _=>none
  | _=>none
 | .ust ty,[a,n]=>match n with
  | .m (.i .i64 (.ofNat k))=>match a with
   | .m (.nl 0)=>gd (Nat.beq k 0) (some (.m (.s []),M))
   | .pt r ver 0 0=>(nth M.H r).bind fun row=>match row with
    | .cs ty' esz es base false=>gd (Nat.beq ty ty' && Nat.beq esz 1 && Nat.ble base ver && Nat.beq ver es.length && Nat.beq k es.length && Nat.ble 1 k) ((bytes? es).bind fun l=>(setEl M.H r (.cs ty esz es base true)).bind fun H'=>some (.m (.s l),{ M with H:=H' }))
    | _=>none
   | _=>none
  | _=>none
 | .cal f,xs=>(call f xs M.H).bind fun p=>some (p.1,{ M with H:=p.2 })
 | .cav,g :: xs=>match g with
  | .fn f cap=>(call f (xs ++ cap) M.H).bind fun p=>some (p.1,{ M with H:=p.2 })
  | .m (.fn f cap)=>(call f (xs ++ cap.map .m) M.H).bind fun p=>some (p.1,{ M with H:=p.2 })
  | .yl r=>(call yN (.yl r :: xs) M.H).bind fun p=>some (p.1,{ M with H:=p.2 })
  | _=>none
 | _,_=>none

def evO (call : Call) (M : Mem) : O → List V → Option (V × Mem)
 | .p o,vs=>(pureX o vs).bind fun v=>some (v,M)
 | .r o,vs=>(readX M o vs).bind fun v=>some (v,M)
 | .l o,vs=>loudX call M o vs

def evA (s : St) : Opnd → Option V
 | .v n=>getE s.E n
 | .l n=>getE s.L n
 | .k x=>some x

def okDst (n : Nat) : V → Bool
 | .fa d off=>Nat.beq d n && Nat.beq off 0
 | _=>true

def setD (s : St) (d : Dst) (x : V) : Option St:=match d with
 | .no=>some s
 | .v n=>gd (okDst n x) (some { s with E:=setE s.E n x })
 | .l n=>some { s with L:=setE s.L n x }

def wantsD (s : St) : Option (Opnd × Bool) → Option Bool
 | none=>some true
 | some (a,want)=>(evA s a).bind fun v=>match v with
  | .m (.b x)=>some (x == want)
  | .un=>some false
  | _=>none

def noFa (d : Nat) : Env → Bool
 | []=>true
 | (_,.fa k _) :: r=>!Nat.beq k d && noFa d r
 | _ :: r=>noFa d r

def fresh (s : St) : O → Bool
 | .l (.alp d _)=>noFa d s.L
 | .l (.bxp d _)=>noFa d s.L
 | _=>true

def evOp (call : Call) (s : St) (o : Op) : Option St:=(wantsD s o.guard).bind fun q=>match q with
 | true=>gd (fresh s o.op) ((optMap (evA s) o.args).bind fun vs=>(evO call s.M o.op vs).bind fun p=>setD { s with M:=p.2 } o.dst p.1)
 | false=>setD s o.dst .un

def evOps (call : Call) : List Op → St → Option St
 | [],s=>some s
 | o :: r,s=>(evOp call s o).bind fun s'=>evOps call r s'

def dropE : List Nat → Env → Env
 | [],e=>e
 | n :: r,e=>dropE r (rmE e n)

def keepE : Env → Env
 | []=>[]
 | (n,x) :: r=>match noFaV x with
  | true=>(n,x) :: keepE r
  | false=>rmE (keepE r) n

def setAll : Env → List Nat → List V → Env
 | e,p :: ps,x :: xs=>setAll (setE e p x) ps xs
 | e,_,_=>e

def pdX : Option (Option Nat) → Ex
 | none=>.nm
 | some none=>.ret
 | some (some id)=>.ex id

def begLp (r : Nat) (H : Hp) : Option Hp:=(nth H r).bind fun row=>match row with
 | .lp st pd E ps ca cb=>gd (Nat.beq st 0) (setEl H r (.lp 1 pd E ps ca cb))
 | _=>none

def setLp (r st0 st1 : Nat) (pd1 : Option (Option Nat)) (H : Hp) : Option Hp:=(nth H r).bind fun row=>match row with
 | .lp st _ E ps ca cb=>gd (Nat.beq st st0) (setEl H r (.lp st1 pd1 E ps ca cb))
 | _=>none

def endLp (r : Nat) (H : Hp) : Option (Ex × Hp):=(nth H r).bind fun row=>match row with
 | .lp st pd E ps ca cb=>gd (!Nat.beq st 1) ((setEl H r (.lp 3 pd E ps ca cb)).bind fun H'=>some (pdX pd,H'))
 | _=>none

def loopN (body : St → Option (Ex × St)) : Nat → St → Option (Ex × St)
 | 0,_=>none
 | k + 1,s=>(body s).bind fun p=>match p.1 with
  | .nm=>loopN body k p.2
  | e=>some (e,p.2)

def evC (call : Call) (n : Nat) : C → St → Option (Ex × St)
 | .skip,s=>some (.nm,s)
 | .reg ops,s=>(evOps call ops s).bind fun s'=>some (.nm,{ s' with L:=[] })
 | .seq a b,s=>(evC call n a s).bind fun p=>match p.1 with
  | .nm=>evC call n b p.2
  | e=>some (e,p.2)
 | .ite c a b,s=>(evA s c).bind fun v=>match v with
  | .m (.b true)=>evC call n a s
  | .m (.b false)=>evC call n b s
  | _=>none
 | .blk id c,s=>(evC call n c s).bind fun p=>match p.1 with
  | .ex j=>match Nat.beq j id with
   | true=>some (.nm,p.2)
   | false=>some (.ex j,p.2)
  | e=>some (e,p.2)
 | .loop dr c,s=>loopN (fun t=>evC call n c { t with E:=dropE dr t.E }) n s
 | .rng f dr ps ca cb,s=>(evA s f).bind fun fv=>(cavF fv).bind fun gc =>
  (call gc.1 (.yl s.M.H.length :: gc.2) (s.M.H ++ [.lp 0 none (keepE (dropE dr s.E)) ps ca cb])).bind fun p =>
   (endLp s.M.H.length p.2).bind fun q=>some (q.1,{ s with M:={ s.M with H:=q.2 } })
 | .ex id,s=>some (.ex id,s)
 | .ret,s=>some (.ret,s)

def resV (s : St) : Res → Option V
 | .t n=>(getE s.E n).bind fun v=>gd (noFaV v) (some v)
 | .c n sz ag=>(getE s.E n).bind fun a=>(readA s.M sz a).bind fun cs=>valOf ag cs

def envOf : Nat → List V → Env
 | _,[]=>[]
 | k,x :: r=>(k,x) :: envOf (k + 1) r

def tup : List V → V
 | [v]=>v
 | vs=>.tu vs

def resOf (s : St) (rs : List Res) : Option V:=(optMap (resV s) rs).bind fun vs=>some (tup vs)

def evF (call : Call) (n : Nat) (f : F) (vs : List V) (H : Hp) : Option (V × Hp) :=
 gd (vs.all noFaV && Nat.beq vs.length f.np) ((evC call n f.body ⟨envOf 0 vs,[],⟨[],H⟩⟩).bind fun p=>match p.1 with
  | .ex _=>none
  | _=>(resOf p.2 f.res).bind fun v=>some (v,p.2.M.H))

def roundM (call : Call) (n : Nat) (vs : List V) (H : Hp) : Option (V × Hp):=match vs with
 | .yl r :: xs=>(nth H r).bind fun row=>match row with
  | .lp _ _ E ps ca cb=>gd (xs.all noFaV && Nat.beq ps.length xs.length)
   ((evC call n ca ⟨setAll E ps xs,[],⟨[],H⟩⟩).bind fun p=>match p.1 with
    | .nm=>(begLp r p.2.M.H).bind fun H1=>(evC call n cb ⟨p.2.E,[],⟨p.2.M.B,H1⟩⟩).bind fun p2=>match p2.1 with
     | .nm=>(setLp r 1 0 none p2.2.M.H).bind fun H2=>some (.m (.b true),H2)
     | .ret=>(setLp r 1 2 (some none) p2.2.M.H).bind fun H2=>some (.m (.b false),H2)
     | .ex id=>(setLp r 1 2 (some (some id)) p2.2.M.H).bind fun H2=>some (.m (.b false),H2)
    | _=>none)
  | _=>none
 | _=>none

structure Cfg where
 fn : Nat → Option F
 sh : Nat → Bool
 prim : Nat → Option (Call → List V → Hp → Option (V × Hp))

inductive T where
 | nil
 | lf (k : Nat) (f : F)
 | nd (m : Nat) (a b : T)

def T.look : T → Nat → Option F
 | .nil,_=>none
 | .lf k f,n=>match Nat.beq k n with
  | true=>some f
  | false=>none
 | .nd m a b,n=>match Nat.blt n m with
  | true=>a.look n
  | false=>b.look n

def T.all : T → List (Nat × F)
 | .nil=>[]
 | .lf k f=>[(k,f)]
 | .nd _ a b=>a.all ++ b.all

def callP (call : Call) (n : Nat) (fn : F) (vs : List V) (H : Hp) : Option (V × Hp) :=
 (optMap (view 20 H) vs).bind fun is=>(evF call n fn (is.map .m) []).bind fun p=>(viewR p.2 p.1).bind fun r=>match vs.flatMap refs with
  | []=>gd (vs.all shallow) (some (r,H))
  | rs=>match flatV r with
   | true=>some (r,H)
   | false=>gd (vs.all shallow) ((freeze rs H).bind fun H2=>some (r,H2))

def callM (G : Cfg) : Nat → Call
 | 0,_,_,_=>none
 | n + 1,f,vs,H=>match G.prim f with
  | some p=>p (callM G n) vs H
  | none=>match G.fn f with
   | some fn=>match G.sh f with
    | true=>evF (callM G n) n fn vs H
    | false=>callP (callM G n) n fn vs H
   | none=>gd (Nat.beq f yN) (roundM (callM G n) n vs H)

end Go.Mx
set_option linter.unusedSimpArgs false
set_option linter.unusedVariables false
set_option linter.unusedSectionVars false
namespace Go.Mx

structure Hint where
 loc : Nat → Bool
 priv : Nat → Bool
 bs : Nat → Nat

def firstR : Code → Option Nat
 | .region id _ _=>some id
 | .seq a b=>match firstR a with
  | some n=>some n
  | none=>firstR b
 | .cond _ a b=>match firstR a with
  | some n=>some n
  | none=>firstR b
 | .block _ c=>firstR c
 | .loop c=>firstR c
 | .scope c=>firstR c
 | .rangeFunc _ _ a c=>match firstR c with
  | some n=>some n
  | none=>firstR a
 | _=>none

def toV : Value → Option V
 | .bool b=>some (.m (.b b))
 | .int k n=>some (.m (.i k n))
 | .string s=>some (.m (.s (s.data.toList.map UInt8.toNat)))
 | .pointer none=>some (.m (.nl 0))
 | .map none=>some (.m (.nl 1))
 | .nilFunc=>some (.m (.nl 2))
 | .nilIface=>some (.m (.nl 3))
 | .slice none 0 0=>some (.m (.nl 4))
 | _=>none

def cmpA (hi : Hint) (gl : Nat → Option (List I)) : Operand → Option Opnd
 | .tmp t=>some (match hi.loc t with
  | true=>.l t
  | false=>.v t)
 | .const v=>(toV v).bind fun x=>some (.k x)
 | .func f=>gd (!Nat.beq f yN) (some (.k (.m (.fn f []))))
 | .global g=>(gl g).bind fun cs=>some (.k (.m (.pt cs)))

def zeros (P : Program) (t : TypeId) : Option (List V):=(P.info? t).bind fun i=>i.zero.bind fun z=>gd (Nat.beq z.cells.size i.size) (optMap toV z.cells.toList)

def sizeT (P : Program) (t : TypeId) : Option Nat:=(P.info? t).bind fun i=>some i.size
def bytesT (P : Program) (t : TypeId) : Option Nat:=(P.info? t).bind fun i=>some i.bytes

def aggT (P : Program) (t : TypeId) : Option Bool:=(P.underlying t).bind fun d=>match d with
 | .struct _=>some true
 | .array _ _=>some true
 | _=>some false

def zeroAg (P : Program) (t : TypeId) (ag : Bool) : Bool:=match (P.info? t).bind (·.zero) with
 | some (.agg _)=>ag
 | some _=>!ag
 | none=>false

def flatFs (g : TypeId → Option (List Nat)) (sz : TypeId → Option Nat) : Nat → List Field → Option (List Nat)
 | _,[]=>some []
 | o, f :: r => gd (Nat.beq f.offset o && decide (f.name ≠ "_")) ((g f.type).bind fun s => (sz f.type).bind fun s' => gd (Nat.beq s.length s') ((flatFs g sz (o + s') r).bind fun l => some (s ++ l)))

def flatN (P : Program) : Nat → TypeId → Option (List Nat)
 | 0,_=>none
 | k + 1,t=>match P.underlying t with
  | some .bool=>some [0]
  | some (.int _)=>some [1]
  | some .string=>some [2]
  | some (.struct fs)=>gd (!P.stoodInHeld t) (flatFs (flatN P k) (sizeT P) 0 fs.toList)
  | some (.array n e)=>(flatN P k e).bind fun s=>(sizeT P e).bind fun s'=>gd (Nat.beq s.length s') (some (List.replicate n s).flatten)
  | _=>none

def flatT (P : Program) (t : TypeId) : Option (List Nat):=match P.underlying t with
 | some (.struct _)=>gd (!P.eqGuardType P.depth t) (flatN P 6 t)
 | some (.array _ _)=>gd (!P.eqGuardType P.depth t) (flatN P 6 t)
 | _=>none

def isNilC : Nat → Operand → Bool
 | 0,.const (.pointer none)=>true
 | 1,.const (.map none)=>true
 | 2,.const .nilFunc=>true
 | 3,.const .nilIface=>true
 | 4,.const (.slice none 0 0)=>true
 | _,_=>false

def nilT (P : Program) (t : TypeId) : Option Nat:=match P.underlying t with
 | some (.pointer _)=>some 0
 | some (.map _ _)=>some 1
 | some (.func _ _ _)=>some 2
 | some (.interface _)=>some 3
 | some (.slice _)=>some 4
 | _=>none

def placesF (P : Program) (fs : Array Field) : List (Nat × Operand) → Option (List (Nat × Nat))
 | []=>some []
 | (i,_) :: r=>(fs[i]?).bind fun f=>(sizeT P f.type).bind fun s=>(placesF P fs r).bind fun l=>some ((f.offset,s) :: l)

def optO (b : Bool) (o : O) (l : List Operand) : Option (O × List Operand):=gd b (some (o,l))

def cmpEq (P : Program) (neg : Bool) (t : TypeId) (x y : Operand) : Option (O × List Operand) :=
 match P.underlying t with
 | some .bool=>some (.p (.eqb neg),[x,y])
 | _=>match flatT P t with
  | some ks=>some (.p (.eqs neg ks),[x,y])
  | none=>(nilT P t).bind fun k=>match isNilC k y with
   | true=>some (.p (.eqn neg k),[x])
   | false=>match isNilC k x with
    | true=>some (.p (.eqn neg k),[y])
    | false=>none

def cmpBin (P : Program) (op : BinOp) (t : TypeId) (x y : Operand) : Option (O × List Operand) :=
 match P.underlying t with
 | some (.int _)=>some (.p (.bin op),[x,y])
 | some .string=>some (.p (.bin op),[x,y])
 | _=>match op with
  | .eql=>cmpEq P false t x y
  | .neq=>cmpEq P true t x y
  | _=>none

def keyT (P : Program) (t : TypeId) : Option KT:=(flatN P 6 t).bind fun ks=>(aggT P t).bind fun ag=>some ⟨ag,ks⟩

def arrF (P : Program) : List Field → Bool
 | []=>false
 | f :: r=>match P.underlying f.type with
  | some (.array _ e)=>(match sizeT P e with
   | some s=>Nat.beq s 1
   | none=>false) || arrF P r
  | _=>arrF P r
def arrU (P : Program) (t : TypeId) : Option (Nat × Nat):=match P.underlying t with
 | some (.array n e)=>(sizeT P e).bind fun s=>some (n,s)
 | some (.struct fs)=>match arrF P fs.toList with
  | true=>(sizeT P t).bind fun s=>some (s,1)
  | false=>(sizeT P t).bind fun s=>some (1,s)
 | _=>(sizeT P t).bind fun s=>some (1,s)

def stbOf (hi : Hint) : Operand → Option Nat
 | .tmp n=>match Nat.beq (hi.bs n) 6 with
  | true=>some n
  | false=>none
 | _=>none
def strOf (hi : Hint) : Operand → Bool
 | .tmp n=>Nat.beq (hi.bs n) 7
 | _=>false
def cmpO (P : Program) (hi : Hint) (dst : Option Tmp) : Go.Op → Option (O × List Operand)
 | .move x=>some (.p .mv,[x])
 | .assign x=>some (.p .mv,[x])
 | .pick c a b=>some (.p .pick,[c,a,b])
 | .alloc t=>(zeros P t).bind fun zs=>dst.bind fun d=>match hi.priv d with
  | true=>some (.l (.alp d zs),[])
  | false=>(arrU P t).bind fun p=>some (.l (.als t p.2 p.1 zs),[])
 | .box t x=>dst.bind fun d=>match hi.priv d with
  | true=>(sizeT P t).bind fun s=>some (.l (.bxp d s),[x])
  | false=>(arrU P t).bind fun p=>some (.l (.bxs t p.2 p.1),[x])
 | .build t ps=>(zeros P t).bind fun zs=>(P.underlying t).bind fun u=>match u with
  | .struct fs=>gd (fs.toList.all fun f=>(P.info? f.type).isSome) ((placesF P fs ps.toList).bind fun pl=>some (.p (.build zs pl),ps.toList.map (·.2)))
  | .array _ e=>(sizeT P e).bind fun s=>some (.p (.build zs (ps.toList.map fun q=>(q.1 * s,s))),ps.toList.map (·.2))
  | _=>none
 | .buildSlice t n ps=>(P.underlying t).bind fun u=>match u with
  | .slice e=>(sizeT P e).bind fun s=>gd (Nat.ble (n * s) 16777216 && Nat.ble 1 s) ((zeros P e).bind fun zs=>dst.bind fun d=>match hi.bs d with
   | 0=>some (.p (.bsl s zs n (ps.toList.map (·.1))),ps.toList.map (·.2))
   | 1=>some (.l (.bsf s zs n (ps.toList.map (·.1))),ps.toList.map (·.2))
   | 8=>some (.l (.bsw e s zs n (ps.toList.map (·.1))),ps.toList.map (·.2))
   | _=>some (.l (.bss e s zs n (ps.toList.map (·.1))),ps.toList.map (·.2)))
  | _=>none
 | .load t a=>(aggT P t).bind fun ag=>(sizeT P t).bind fun s=>match !ag && Nat.beq s 1 && Nat.beq ((dst.map hi.bs).getD 0) 3 with
  | true=>some (.r .ld1,[a])
  | false=>gd (ag || Nat.beq s 1) (some (match Nat.beq ((dst.map hi.bs).getD 0) 5 with
   | true=>(.r (.ldb ag s),[a])
   | false=>match Nat.ble 100 ((dst.map hi.bs).getD 0) with
    | true=>(.r (.ldx ((dst.map hi.bs).getD 0 - 100) ag s),[a])
    | false=>(.r (.ld ag s),[a])))
 | .store t a x=>match dst with
  | none=>(sizeT P t).bind fun s=>match stbOf hi a with
   | some d=>some (.l (.stb d s),[a,x])
   | none=>match strOf hi a with
    | true=>some (.l (.str s),[a,x])
    | false=>some (.l (.st s),[a,x])
  | some _=>none
 | .nilCheck x=>some (.p .nck,[x])
 | .binOp op t x y _=>cmpBin P op t x y
 | .unOp op _ x=>some (.p (.un op),[x])
 | .convert src d x=>(P.underlying src).bind fun su=>(P.underlying d).bind fun du=>match su,du with
  | .int _,.int k=>some (.p (.cv k),[x])
  | .string,.string=>some (.p .cvs,[x])
  | .string,.slice e=>match P.underlying e with
   | some (.int .u8)=>match Nat.beq ((dst.map hi.bs).getD 0) 4 with
    | true=>some (.l (.s2r e),[x])
    | false=>some (.p .s2b,[x])
   | _=>none
  | .slice e,.string=>match P.underlying e with
   | some (.int .u8)=>some (.r .b2s,[x])
   | _=>none
  | .slice _,.slice e=>match P.underlying e with
   | some (.int .u8)=>gd (Nat.beq src d) (some (.l .s2w,[x]))
   | _=>none
  | _,_=>none
 | .makeFunc fn first cap=>match fn with
  | .func f=>match first.size with
   | 0=>gd (!Nat.beq f yN) (some (.p (.mkf f),cap.toList))
   | _=>none
  | _=>none
 | .makeMap t r=>(P.underlying t).bind fun u=>match u with
  | .map _ _=>some (.l .mkm,r.toList)
  | _=>none
 | .makeSlice t n c=>(P.underlying t).bind fun u=>match u with
  | .slice e=>(zeros P e).bind fun zs=>(sizeT P e).bind fun s=>(bytesT P e).bind fun b=>some (.l (.mks e s zs b),[n,c])
  | _=>none
 | .slice t x lo hi' mx=>(P.underlying t).bind fun u=>match u with
  | .string=>some (.p (.slc 0 lo.isSome hi'.isSome mx.isSome),x :: (lo.toList ++ hi'.toList ++ mx.toList))
  | .slice e=>(sizeT P e).bind fun s=>gd (Nat.ble 1 s) (some (.p (.slc s lo.isSome hi'.isSome mx.isSome),x :: (lo.toList ++ hi'.toList ++ mx.toList)))
  | .array n e=>(sizeT P e).bind fun s=>some (.r (.slcA n s lo.isSome hi'.isSome mx.isSome),x :: (lo.toList ++ hi'.toList ++ mx.toList))
  | .pointer at'=>match P.underlying at' with
   | some (.array n e)=>(sizeT P e).bind fun s=>some (.r (.slcA n s lo.isSome hi'.isSome mx.isSome),x :: (lo.toList ++ hi'.toList ++ mx.toList))
   | _=>none
  | _=>none
 | .fieldAddr t x f=>(P.underlying t).bind fun u=>match u with
  | .struct fs=>(fs[f]?).bind fun fl=>(sizeT P fl.type).bind fun s=>gd (Nat.ble 1 s) (some (.p (.fad fl.offset),[x]))
  | _=>none
 | .field t x f=>(P.underlying t).bind fun u=>match u with
  | .struct fs=>(fs[f]?).bind fun fl=>(sizeT P fl.type).bind fun s=>(aggT P fl.type).bind fun ag=>gd (ag || Nat.beq s 1) (some (.p (.fld ag s fl.offset),[x]))
  | _=>none
 | .indexAddr t x i=>(P.underlying t).bind fun u=>match u with
  | .slice e=>(sizeT P e).bind fun s=>some (.p (.ixa s),[x,i])
  | .array n e=>(sizeT P e).bind fun s=>some (.p (.ixaA n s),[x,i])
  | _=>none
 | .index t x i=>(P.underlying t).bind fun u=>match u with
  | .string=>some (.p .ixs,[x,i])
  | .array n e=>(sizeT P e).bind fun s=>(aggT P e).bind fun ag=>gd (ag || Nat.beq s 1) (some (.p (.ixv n s ag),[x,i]))
  | _=>none
 | .lookup t x i ok=>(P.underlying t).bind fun u=>match u with
  | .map k e=>(zeros P e).bind fun zs=>(aggT P e).bind fun ag=>gd (zeroAg P e ag) ((keyT P k).bind fun kt=>some (.r (.lkp kt zs ag ok),[x,i]))
  | _=>none
 | .mapUpdate t m k x=>match dst with
  | none=>(P.underlying t).bind fun u=>match u with
   | .map kt _=>(keyT P kt).bind fun q=>some (.l (.mup q),[m,k,x])
   | _=>none
  | some _=>none
 | .insert t m k x=>match dst with
  | none=>(P.underlying t).bind fun u=>match u with
   | .map kt _=>(keyT P kt).bind fun q=>some (.l (.mup q),[m,k,x])
   | _=>none
  | some _=>none
 | .extract x j=>some (.p (.ext j),[x])
 | .call c=>match c.callee with
  | .value f=>match f with
   | .func g=>gd (!Nat.beq g yN) (some (.l (.cal g),c.args.toList))
   | f=>some (.l .cav,f :: c.args.toList)
  | .invoke _ _=>none
  | .builtin b=>(c.argTypes[0]?).bind fun t0=>(P.underlying t0).bind fun u0=>match b with
   | .len=>match u0 with
    | .string=>optO (Nat.beq c.args.size 1) (.p (.len true)) c.args.toList
    | .slice _=>optO (Nat.beq c.args.size 1) (.p (.len false)) c.args.toList
    | .map _ _=>optO (Nat.beq c.args.size 1) (.r .lenm) c.args.toList
    | _=>none
   | .min=>match u0 with
    | .int _=>some (.p (.mm false),c.args.toList)
    | _=>none
   | .max=>match u0 with
    | .int _=>some (.p (.mm true),c.args.toList)
    | _=>none
   | .append=>match u0 with
    | .slice e=>(c.argTypes[1]?).bind fun t1=>(P.underlying t1).bind fun u1=>(zeros P e).bind fun _=>(sizeT P e).bind fun s=>(bytesT P e).bind fun b=>gd (Nat.ble 1 s && Nat.ble 1 b && Nat.beq c.args.size 2) (match u1 with
     | .slice _=>some (.l (.app e s b),c.args.toList)
     | .string=>match P.underlying e with
      | some (.int .u8)=>some (.l (.app e s b),c.args.toList)
      | _=>none
     | _=>none)
    | _=>none
   | .copy=>match u0 with
    | .slice e=>(sizeT P e).bind fun s=>gd (Nat.ble 1 s && Nat.beq c.args.size 2) ((c.argTypes[1]?).bind fun t1=>(P.underlying t1).bind fun u1=>match u1 with
     | .slice _=>some (.l (.cpy s),c.args.toList)
     | _=>none)
    | _=>none
   | .clear=>match u0 with
    | .slice e=>match zeros P e with
     | some [z]=>gd (Nat.beq c.args.size 1) (some (.l (.clr z),c.args.toList))
     | _=>none
    | _=>none
   | .delete=>match u0 with
    | .map kt _=>(keyT P kt).bind fun q=>gd (Nat.beq c.args.size 2) (some (.l (.mdl q),c.args.toList))
    | _=>none
   | .unsafeSliceData=>match u0 with
    | .slice _=>optO (Nat.beq c.args.size 1) (.p .usd) c.args.toList
    | _=>none
   | .unsafeString=>match u0 with
    | .pointer e=>(sizeT P e).bind fun s=>optO (Nat.beq c.args.size 2 && Nat.beq c.argTypes.size 2 && Nat.beq s 1) (.l (.ust e)) c.args.toList
    | _=>none
   | _=>none
 | _=>none

def cmpD (hi : Hint) : Option Tmp → Dst
 | none=>.no
 | some d=>match hi.loc d with
  | true=>.l d
  | false=>.v d

def cmpG (hi : Hint) (ops : Array Oper) : Option (Nat × Bool) → Option (Option (Opnd × Bool))
 | none=>some none
 | some (j,want)=>(ops[j]?).bind fun o=>o.dst.bind fun d=>some (some ((match hi.loc d with
  | true=>.l d
  | false=>.v d),want))

def cmpQ (P : Program) (hi : Hint) (gl : Nat → Option (List I)) (o : Oper) : O × List Opnd:=match (cmpO P hi o.dst o.op).bind fun p=>(optMap (cmpA hi gl) p.2).bind fun as=>some (p.1,as) with
 | some r=>r
 | none=>(.p .mv,[])

def cmpOp (P : Program) (hi : Hint) (gl : Nat → Option (List I)) (ops : Array Oper) (o : Oper) : Option Op :=
 (cmpG hi ops o.guard).bind fun g=>some ⟨cmpD hi o.dst,(cmpQ P hi gl o).1,(cmpQ P hi gl o).2,g⟩

theorem cmpOp_some {P : Program} {hi : Hint} {gl : Nat → Option (List I)} {ops : Array Oper} {o : Oper} {q : Op} (h : cmpOp P hi gl ops o = some q) :
  ∃ g qo os,cmpG hi ops o.guard = some g ∧ q = ⟨cmpD hi o.dst,qo,os,g⟩ ∧ ((∃ as,cmpO P hi o.dst o.op = some (qo,as) ∧ optMap (cmpA hi gl) as = some os) ∨ (qo = .p .mv ∧ os = [])):=by
 unfold cmpOp at h
 cases hg : cmpG hi ops o.guard with
 | none=>rw [hg] at h; cases h
 | some g =>
  rw [hg] at h
  simp only [Option.bind_some,Option.some.injEq] at h
  refine ⟨g,_,_,rfl,h.symm,?_⟩
  unfold cmpQ
  cases hq : (cmpO P hi o.dst o.op).bind fun p=>(optMap (cmpA hi gl) p.2).bind fun as=>some (p.1,as) with
  | none=>exact .inr ⟨rfl,rfl⟩
  | some r =>
   cases ho : cmpO P hi o.dst o.op with
   | none=>rw [ho] at hq; cases hq
   | some p =>
    rw [ho] at hq
    simp only [Option.bind_some] at hq
    cases hx : optMap (cmpA hi gl) p.2 with
    | none=>rw [hx] at hq; cases hq
    | some os =>
     rw [hx] at hq
     simp only [Option.bind_some,Option.some.injEq] at hq
     subst hq
     exact .inl ⟨p.2,rfl,hx⟩

/- Which resources two operations share, for regions that draw their order. -/

def opnds : Op → List Opnd
 | o=>match o.guard with
  | none=>o.args
  | some (a,_)=>a :: o.args

def hits : Dst → Opnd → Bool
 | .v n,.v k=>Nat.beq n k
 | .l n,.l k=>Nat.beq n k
 | _,_=>false

def sameD : Dst → Dst → Bool
 | .v n,.v k=>Nat.beq n k
 | .l n,.l k=>Nat.beq n k
 | _,_=>false

def memK (sh : Nat → Bool) : O → Nat
 | .p _=>0
 | .r _=>1
 | .l (.bsf _ _ _ _)=>1
 | .l (.cal f)=>match sh f with
  | true=>match sh (2000000000 + f) with
   | true=>2
   | false=>3
  | false=>1
 | .l (.als _ _ _ _)=>2
 | .l (.bxs _ _ _)=>2
 | .l .mkm=>2
 | .l (.mks _ _ _ _)=>2
 | .l (.bss _ _ _ _ _)=>2
 | .l _=>3

def allocs : O → Bool
 | .l (.alp _ _)=>true
 | .l (.bxp _ _)=>true
 | _=>false

def ldApp : O → O → Bool
 | .r .ld1,.l (.app _ _ _)=>true
 | .r (.ldb _ _),.l (.cal _)=>true
 | .r (.ldb _ _),.l (.app _ _ _)=>true
 | .r (.ldb _ _),.l .cav=>true
 | .r (.ldx d _ _),.l (.stb k _)=>Nat.beq d k
 | .r (.ldb _ _),.l (.str _)=>true
 | _,_=>false

def boxCal (x y : Op) : Bool:=allocs x.op && (match y.op,y.dst with
 | .l (.cal _),.l _=>false
 | .l (.cal _),_=>true
 | _,_=>false)

def seesNo (y : Op) : Bool:=(match y.dst with
 | .l _=>false
 | _=>true) && (match y.op with
 | .p _=>true
 | .r _=>true
 | _=>false) && y.args.all fun a=>match a with
 | .k v=>noFaV v
 | _=>true
def boxAny (x y : Op) : Bool:=match x.op,x.dst with
 | .l (.alp d _),.v n=>Nat.beq d n && seesNo y
 | .l (.bxp d _),.v n=>Nat.beq d n && seesNo y
 | _,_=>false

def boxBox (x y : Op) : Bool:=match x.op,x.dst,y.op,y.dst with
 | .l (.alp d _),.v n,.l (.alp e _),.v m=>Nat.beq d n && Nat.beq e m
 | _,_,_,_=>false
def boxFad (x y : Op) : Bool:=match x.op,x.dst,y.op with
 | .l (.alp d _),.v n,.p (.fad _)=>Nat.beq d n && y.args.all fun a=>match a with
  | .k v=>noFaV v
  | _=>true
 | _,_,_=>false

def apart (sh : Nat → Bool) (x y : Op) : Bool :=
 !(opnds y).any (hits x.dst) && !(opnds x).any (hits y.dst) && !sameD x.dst y.dst &&
  ((!allocs x.op && !allocs y.op && (Nat.beq (memK sh x.op) 0 || Nat.beq (memK sh y.op) 0 || (Nat.beq (memK sh x.op) 1 && Nat.ble (memK sh y.op) 2) || ldApp x.op y.op)) || boxCal x y || boxCal y x || boxAny x y || boxBox x y || boxFad x y)

def binds (o : Oper) : List Nat:=o.after.toList.filterMap fun e=>match Region.binds .any e with
 | true=>some e.on
 | false=>none

def aboveGo : List Nat → List Oper → List Nat
 | acc,[]=>acc
 | acc,o :: r=>aboveGo (acc ++ [(binds o).foldl (fun s j=>Nat.lor s (Nat.lor (Nat.shiftLeft 1 j) (acc.getD j 0))) 0]) r

def okDraw (sh : Nat → Bool) (ops : List Oper) (cs : List Op) : Bool :=
 (ops.length == cs.length) && (List.range cs.length).all fun k=>((ops[k]?).any fun o=>(binds o).all fun j=>Nat.blt j k) && (List.range k).all fun j =>
  Nat.testBit ((aboveGo [] ops).getD k 0) j || match nth cs j,nth cs k with
   | some x,some y=>apart sh x y
   | _,_=>false

/- Where the text's order will not do: what makes rows goes behind what it need not stand ahead of. -/
def isLdb : O → Bool
 | .r (.ldb _ _)=>true
 | _=>false
def isCal : O → Bool
 | .l (.cal _)=>true
 | _=>false
def partO (c : Bool) (sh : Nat → Bool) (ab : List Nat) (cs : List Op) : Nat → List Nat → List Nat × List Nat
 | _,[]=>([],[])
 | bl,j :: r=>match Nat.beq (Nat.land bl (ab.getD j 0)) 0 && (match nth cs j with
   | some y=>match c with
    | true=>Nat.beq (memK sh y.op) 0 || isLdb y.op
    | false=>Nat.ble (memK sh y.op) 1
   | none=>false) with
  | true=>match partO c sh ab cs bl r with
   | (f,t)=>(j :: f,t)
  | false=>match partO c sh ab cs (Nat.lor bl (Nat.shiftLeft 1 j)) r with
   | (f,t)=>(f,j :: t)
def orderO (sh : Nat → Bool) (ab : List Nat) (cs : List Op) : List Nat → List Nat
 | []=>[]
 | k :: r=>match nth cs k with
  | some x=>match Nat.beq (memK sh x.op) 2 || (Nat.beq (memK sh x.op) 3 && isCal x.op) with
   | true=>match partO (Nat.beq (memK sh x.op) 3) sh ab cs (Nat.shiftLeft 1 k) (orderO sh ab cs r) with
    | (f,t)=>f ++ k :: t
   | false=>k :: orderO sh ab cs r
  | none=>k :: orderO sh ab cs r

def orderX (sh : Nat → Bool) (ab : List Nat) (cs : List Op) (n : Nat) : List Nat :=
 let f:=fun k=>Nat.beq (ab.getD k 0) 0 && match nth cs k with
  | some x=>allocs x.op
  | none=>false
 (List.range n).filter f ++ orderO sh ab cs ((List.range n).filter fun k=>!f k)

def pairO (sh : Nat → Bool) (ab : List Nat) (ops : List Oper) (cs : List Op) (j k : Nat) : Bool :=
 !Nat.beq j k && ((ops[j]?).any fun o=>!(binds o).any (Nat.beq k)) && (Nat.testBit (ab.getD k 0) j || match nth cs j,nth cs k with
  | some x,some y=>apart sh x y
  | _,_=>false)
def pairsO (f : Nat → Nat → Bool) : List Nat → Bool
 | []=>true
 | j :: r=>r.all (f j) && pairsO f r
def okOrder (sh : Nat → Bool) (ops : List Oper) (cs : List Op) (l : List Nat) : Bool :=
 Nat.beq l.length cs.length && ((List.range cs.length).all fun k=>((ops[k]?).any fun o=>(binds o).all fun j=>Nat.blt j k) && l.any (Nat.beq k)) && l.all (fun k=>Nat.blt k cs.length) && pairsO (pairO sh (aboveGo [] ops) ops cs) l

def drawC (sh : Nat → Bool) (ops : List Oper) (cs : List Op) : List Op:=match okDraw sh ops cs with
 | true=>cs
 | false=>match gd (okOrder sh ops cs (orderX sh (aboveGo [] ops) cs cs.length)) (optMap (nth cs) (orderX sh (aboveGo [] ops) cs cs.length)) with
  | some qs=>qs
  | none=>[⟨.no,.p .mv,[],none⟩]

def drawX (sh : Nat → Bool) (ops : List Oper) (cs : List Op) : Bool → List Op
 | true=>drawC sh ops cs
 | false=>cs

def haltC : C:=.reg [⟨.no,.p .mv,[],none⟩]
def prune (dr : Nat → List Nat) (c : Code) (x : Option C) : Option C:=match dr (2000000 + (firstR c).getD 0) with
 | []=>x
 | _=>some haltC
theorem prune_or {dr : Nat → List Nat} {c : Code} {x : Option C} {y : C} (h : prune dr c x = some y) : x = some y ∨ y = haltC:=by
 unfold prune at h
 split at h
 ·exact .inl h
 ·exact .inr (Option.some.inj h).symm

def cmpC (P : Program) (hi : Hint) (gl : Nat → Option (List I)) (sh : Nat → Bool) (dr : Nat → List Nat) : Code → Option C
 | .skip=>some .skip
 | .region _ ops draw=>(optMap (cmpOp P hi gl ops) ops.toList).bind fun cs=>some (.reg (drawX sh ops.toList cs draw))
 | .seq a b=>(cmpC P hi gl sh dr a).bind fun x=>(cmpC P hi gl sh dr b).bind fun y=>some (.seq x y)
 | .cond c a b=>(cmpA hi gl c).bind fun o=>(prune dr a (cmpC P hi gl sh dr a)).bind fun x=>(prune dr b (cmpC P hi gl sh dr b)).bind fun y=>some (.ite o x y)
 | .block id c=>(cmpC P hi gl sh dr c).bind fun x=>some (.blk id x)
 | .loop c=>(cmpC P hi gl sh dr c).bind fun x=>some (.loop (dr ((firstR c).getD 0)) x)
 | .exit id=>some (.ex id)
 | .ret=>some .ret
 | .scope c=>cmpC P hi gl sh dr c
 | .label _=>some .skip
 | .rangeFunc g ps a c=>(cmpA hi gl g).bind fun o=>(cmpC P hi gl sh dr a).bind fun x=>(cmpC P hi gl sh dr c).bind fun y=>gd (ps.toList.all fun p=>!hi.loc p) (some (.rng o (dr (1000000 + (firstR c).getD 0)) ps.toList x y))
 | _=>some (.reg [⟨.no,.p .mv,[],none⟩])

def cmpR (P : Program) (hi : Hint) : ResultVar → Option Res
 | .tmp t=>gd (!hi.loc t) (some (.t t))
 | .cell a t=>gd (!hi.loc a) ((aggT P t).bind fun ag=>(sizeT P t).bind fun s=>gd (ag || Nat.beq s 1) (some (.c a s ag)))

def lowOk (hi : Hint) : Nat → Bool
 | 0=>true
 | n + 1=>!hi.loc n && lowOk hi n

def isD (d : Nat) : Dst → Bool
 | .no=>false
 | .v n=>Nat.beq d n
 | .l n=>Nat.beq d n

def wfOp (nt : Nat) (o : Op) : Bool :=
 (match o.dst with
 | .no=>true
 | .v n=>Nat.blt n nt
 | .l n=>Nat.blt n nt) &&
 (match o.op with
 | .l (.alp d _)=>isD d o.dst
 | .l (.bxp d _)=>isD d o.dst
 | _=>true)

def wfC (nt : Nat) : C → Bool
 | .skip=>true
 | .reg ops=>ops.all (wfOp nt)
 | .seq a b=>wfC nt a && wfC nt b
 | .ite _ a b=>wfC nt a && wfC nt b
 | .blk _ c=>wfC nt c
 | .loop _ c=>wfC nt c
 | .rng _ _ ps a b=>ps.all (fun p=>Nat.blt p nt) && (wfC nt a && wfC nt b)
 | .ex _=>true
 | .ret=>true

def cmpF (P : Program) (hi : Hint) (gl : Nat → Option (List I)) (sh : Nat → Bool) (dr : Nat → List Nat) (f : Func) : Option F :=
 f.body.bind fun c=>(cmpC P hi gl sh dr c).bind fun x=>(optMap (cmpR P hi) f.results.toList).bind fun rs =>
  gd (lowOk hi (f.params.size + f.nfree) && Nat.ble (f.params.size + f.nfree) f.ntmps && wfC f.ntmps x) (some ⟨f.params.size + f.nfree,rs,x⟩)

end Go.Mx
