/- The abstract machine: a small deterministic interpreter for compact code, with immutable values (I), values with references (V) and rows of mutable memory. Definitions only; nothing here speaks of a program. -/
import GoSem.Core.Sem
set_option linter.unusedSimpArgs false
set_option linter.unusedVariables false
set_option linter.unusedSectionVars false
namespace Go.Mx
set_option linter.defProp false
def AcL:=@Option.bind_eq_some_iff
def AcM:=@Option.some.injEq
def AcN:=@Prod.mk.injEq
def AcO:=@List.getElem?_eq_some_iff
def AcP:=@Bool.and_eq_true
def AcQ:=@if_neg
def AcR:=@Nat.le_refl
def AcS:=@Option.bind_some
def AcT:=@List.getElem?_eq_getElem
def AcU:=@Array.size_setIfInBounds
def AcV:=@List.length_append
def AcW:=@Nat.eq_of_beq_eq_true
def AcX:=@List.all_eq_true
def AcY:=@if_pos
def AcZ:=@Nat.beq_eq
def Ada:=@List.mem_of_getElem?
def Adb:=@List.getElem?_append_left
def Adc:=@List.length_map
def Ade:=@decide_eq_true
def Adf:=@List.mem_cons
def Adg:=@Nat.zero_le
def Adh:=@List.getElem?_eq_none_iff
def Adi:=@List.getElem?_map
def Adj:=@List.mem_cons_of_mem
def Adk:=@List.length_take
def Adl:=@List.mem_cons_self
def Adm:=@decide_eq_true_eq
def Adn:=@Array.getElem?_eq_some_iff
def Ado:=@List.length_cons
def Adp:=@List.map_cons
def Adq:=@List.eq_nil_of_length_eq_zero
def Adr:=@decide_eq_false
def Ads:=@List.take_of_length_le
def Adt:=@Bool.not_eq_true'
def Adu:=@Array.length_toList
def Adv:=@List.pairwise_cons
def Adw:=@List.getElem?_take
def Adx:=@Nat.ble_eq
def Ady:=@Option.map_eq_some_iff
def Adz:=@List.mem_map
def AdA:=@Nat.blt_eq
def AdB:=@Nat.add_mul
def AdC:=@List.length_nil
def AdD:=@Int.eq_ofNat_of_zero_le
def AdE:=@List.flatten_cons
def AdF:=@Bool.eq_iff_iff
def AdG:=@Option.isSome_iff_exists
def AdH:=@List.getElem?_set_ne
def AdI:=@trivial
def AdJ:=@List.take_length
def AdK:=@Option.map_some
def AdL:=@Option.some.inj
def AdM:=@List.mem_of_mem_take
def AdN:=@List.length_drop
def AdO:=@Nat.mul_le_mul_right
def AdP:=@List.length_set
def AdQ:=@Ne.symm
def AdR:=@Option.bind_assoc
def AdS:=@List.getElem?_append_right
def AdT:=@List.mem_append
def AdU:=@Nat.zero_add
def AdV:=@List.mem_singleton
def AdW:=@List.length_singleton
def AdX:=@Bool.or_eq_true
def AdY:=@List.drop_eq_getElem_cons
def AdZ:=@List.append_nil
def Aea:=@Nat.le_of_ble_eq_true
def Aeb:=@List.append_assoc
def Aec:=@Nat.le_trans
def Aed:=@Nat.lt_of_lt_of_le
def Aee:=@List.drop_drop
def Aef:=@List.map_map
def Aeg:=@List.drop_length
inductive I where
 | b (x : Bool)
 | i (k : IntKind) (n : Int)
 | s (x : List Nat)
 | nl (k : Nat)
 | er
 | sl (es : List (List I))
 | pt (cs : List I)
 | ag (cs : List I)
 | mp (es : List (List I))
 | fn (f : Nat) (cap : List I)
 deriving Inhabited
inductive V where
 | m (x : I)
 | un
 | ls (es : List (List I))
 | sl (r ver esz st len : Nat) (lim : Bool)
 | pt (r ver ix off : Nat)
 | fa (d off : Nat)
 | mp (r : Nat)
 | fn (f : Nat) (cap : List V)
 | ag (cs : List V)
 | tu (vs : List V)
 | yl (r : Nat)
 deriving Inhabited
structure KT where
 ag : Bool
 ks : List Nat
inductive OP where
 | mv | pick
 | un (op : UnOp)
 | bin (op : BinOp)
 | eqb (neg : Bool)
 | eqs (neg : Bool) (ks : List Nat)
 | eqn (neg : Bool) (k : Nat)
 | build (zero : List V) (places : List (Nat × Nat))
 | bsl (esz : Nat) (zero : List V) (n : Nat) (places : List Nat)
 | cv (k : IntKind)
 | cvs
 | s2b
 | fad (off : Nat)
 | fld (ag : Bool) (sz off : Nat)
 | ixa (esz : Nat)
 | ixaA (n esz : Nat)
 | ixv (n esz : Nat) (ag : Bool)
 | ixs
 | ext (j : Nat)
 | mkf (f : Nat)
 | nck
 | mm (mx : Bool)
 | len (str : Bool)
 | usd
 | slc (esz : Nat) (lo hi mx : Bool)
inductive OR where
 | ld (ag : Bool) (sz : Nat)
 | ld1
 | ldb (ag : Bool) (sz : Nat)
 | ldx (d : Nat) (ag : Bool) (sz : Nat)
 | lkp (kt : KT) (zero : List V) (ag ok : Bool)
 | lenm
 | b2s
 | slcA (n esz : Nat) (lo hi mx : Bool)
inductive OL where
 | alp (d : Nat) (zero : List V)
 | bxp (d sz : Nat)
 | als (ty esz n : Nat) (zero : List V)
 | bxs (ty esz n : Nat)
 | st (sz : Nat)
 | stb (d sz : Nat)
 | str (sz : Nat)
 | mkm
 | mks (ty esz : Nat) (zero : List V) (bytes : Nat)
 | bss (ty esz : Nat) (zero : List V) (n : Nat) (places : List Nat)
 | bsw (ty esz : Nat) (zero : List V) (n : Nat) (places : List Nat)
 | bsf (esz : Nat) (zero : List V) (n : Nat) (places : List Nat)
 | s2w
 | app (ty esz bytes : Nat)
 | mup (kt : KT)
 | mdl (kt : KT)
 | cpy (esz : Nat)
 | clr (z : V)
 | ust (ty : Nat)
 | s2r (ty : Nat)
 | cal (f : Nat)
 | cav
inductive O where
 | p (o : OP)
 | r (o : OR)
 | l (o : OL)
inductive Opnd where
 | v (n : Nat)
 | l (n : Nat)
 | k (x : V)
inductive Dst where
 | no
 | v (n : Nat)
 | l (n : Nat)
structure Op where
 dst : Dst
 op : O
 args : List Opnd
 guard : Option (Opnd × Bool)
inductive C where
 | skip
 | reg (ops : List Op)
 | seq (a b : C)
 | ite (c : Opnd) (a b : C)
 | blk (id : Nat) (c : C)
 | loop (drop : List Nat) (c : C)
 | rng (f : Opnd) (drop ps : List Nat) (ca cb : C)
 | ex (id : Nat)
 | ret
inductive Row where
 | cs (ty esz : Nat) (es : List (List V)) (base : Nat) (fz : Bool)
 | mp (es : List (I × V)) (fz : Bool)
 | lp (st : Nat) (pd : Option (Option Nat)) (E : List (Nat × V)) (ps : List Nat) (ca cb : C)
 deriving Inhabited
abbrev Hp:=List Row
abbrev Env:=List (Nat × V)
structure Mem where
 B : List (Nat × List V)
 H : Hp
inductive Res where
 | t (n : Nat)
 | c (n sz : Nat) (ag : Bool)
structure F where
 np : Nat
 res : List Res
 body : C
inductive Ex where
 | nm
 | ex (id : Nat)
 | ret
structure St where
 E : Env
 L : Env
 M : Mem
def gd {α : Type} (b : Bool) (x : Option α) : Option α:=match b with
 | true=>x
 | false=>none
/- Integers: tests by their shapes, which the kernel decides fast. -/
def inR (lo hi : Nat) : Int -> Bool
 | .ofNat m=>Nat.ble m hi
 | .negSucc m=>Nat.blt m lo
def okK : IntKind -> Int -> Bool
 | .i64,n=>inR 9223372036854775808 9223372036854775807 n
 | .u64,n=>inR 0 18446744073709551615 n
 | .i32,n=>inR 2147483648 2147483647 n
 | .u32,n=>inR 0 4294967295 n
 | .i16,n=>inR 32768 32767 n
 | .u16,n=>inR 0 65535 n
 | .i8,n=>inR 128 127 n
 | .u8,n=>inR 0 255 n
def wr (k : IntKind) (n : Int) : Int:=match okK k n with
 | true=>n
 | false=>k.wrap n
def ltI : Int -> Int -> Bool
 | .ofNat a,.ofNat b=>Nat.blt a b
 | .ofNat _,.negSucc _=>false
 | .negSucc _,.ofNat _=>true
 | .negSucc a,.negSucc b=>Nat.blt b a
def eqI : Int -> Int -> Bool
 | .ofNat a,.ofNat b=>Nat.beq a b
 | .negSucc a,.negSucc b=>Nat.beq a b
 | _,_=>false
def leI (a b : Int) : Bool:=!ltI b a
def eqK : IntKind -> IntKind -> Bool
 | .i64,.i64=>true
 | .u64,.u64=>true
 | .i32,.i32=>true
 | .u32,.u32=>true
 | .i16,.i16=>true
 | .u16,.u16=>true
 | .i8,.i8=>true
 | .u8,.u8=>true
 | _,_=>false
def VL : Int -> Option Nat
 | .ofNat m=>some m
 | .negSucc _=>none
def eqL : List Nat -> List Nat -> Bool
 | [],[]=>true
 | a :: x,b :: y=>Nat.beq a b && eqL x y
 | _,_=>false
def ltL : List Nat -> List Nat -> Bool
 | _,[]=>false
 | [],_ :: _=>true
 | a :: x,b :: y=>Nat.blt a b || (Nat.beq a b && ltL x y)
def eqC (k : Nat) : I -> I -> Option Bool
 | .b x,.b y=>gd (Nat.beq k 0) (some (x == y))
 | .i j x,.i j' y=>gd (Nat.beq k 1 && eqK j j') (some (eqI x y))
 | .s x,.s y=>gd (Nat.beq k 2) (some (eqL x y))
 | _,_=>none
def Ey : List Nat -> List I -> List I -> Option Bool
 | [],[],[]=>some true
 | k :: ks,x :: xs,y :: ys=>(eqC k x y).bind fun r=>(Ey ks xs ys).bind fun rs=>some (r && rs)
 | _,_,_=>none
def Cd (kt : KT) (x y : I) : Option Bool:=match kt.ag with
 | true=>match x,y with
  | .ag xs,.ag ys=>Ey kt.ks xs ys
  | _,_=>none
 | false=>match kt.ks with
  | [k]=>eqC k x y
  | _=>none
def EX (kt : KT) (x : I) : Bool:=match Cd kt x x with
 | some _=>true
 | none=>false
def Bn : List V -> Option (List I)
 | []=>some []
 | .m x :: r=>(Bn r).bind fun l=>some (x :: l)
 | _=>none
def mkAg (cs : List V) : V:=match Bn cs with
 | some l=>.m (.ag l)
 | none=>.ag cs
def An : V -> Option (List V)
 | .m (.ag cs)=>some (cs.map .m)
 | .ag cs=>some cs
 | .tu _=>none
 | .un=>none
 | .fa _ _=>none
 | v=>some [v]
def Wt : V -> Option (List V)
 | .m (.ag cs)=>some (cs.map .m)
 | .ag cs=>some cs
 | _=>none
def BA : V -> Bool
 | .m (.ag _)=>false
 | .ag _=>false
 | .tu _=>false
 | .un=>false
 | .fa _ _=>false
 | _=>true
def CL (ag : Bool) (cs : List V) : Option V:=match ag with
 | true=>some (mkAg cs)
 | false=>match cs with
  | [x]=>some x
  | _=>none
def CM (n : Nat) (l : List V) : Option (List V):=gd (Nat.beq (l.take n).length n) (some (l.take n))
def EW (cs : List V) (off : Nat) (xs : List V) : Option (List V) :=
 gd (Nat.ble (off + xs.length) cs.length) (some (cs.take off ++ xs ++ cs.drop (off + xs.length)))
def BJ : Env -> Nat -> Option V
 | [],_=>none
 | (k,x) :: r,n=>match Nat.beq k n with
  | true=>some x
  | false=>BJ r n
def BG : Env -> Nat -> V -> Env
 | [],n,x=>[(n,x)]
 | (k,y) :: r,n,x=>match Nat.blt n k with
  | true=>(n,x) :: (k,y) :: r
  | false=>match Nat.beq k n with
   | true=>(n,x) :: r
   | false=>(k,y) :: BG r n x
def rmE : Env -> Nat -> Env
 | [],_=>[]
 | (k,x) :: r,n=>match Nat.beq k n with
  | true=>rmE r n
  | false=>(k,x) :: rmE r n
def getB : List (Nat × List V) -> Nat -> Option (List V)
 | [],_=>none
 | (k,x) :: r,n=>match Nat.beq k n with
  | true=>some x
  | false=>getB r n
def Dw : List (Nat × List V) -> Nat -> List V -> List (Nat × List V)
 | [],n,x=>[(n,x)]
 | (k,y) :: r,n,x=>match Nat.beq k n with
  | true=>(n,x) :: r
  | false=>match Nat.blt n k with
   | true=>(n,x) :: (k,y) :: r
   | false=>(k,y) :: Dw r n x
def Ac {α β : Type} (f : α -> Option β) : List α -> Option (List β)
 | []=>some []
 | a :: r=>(f a).bind fun x=>(Ac f r).bind fun l=>some (x :: l)
def Ko : IntKind -> Nat
 | .i8=>8
 | .u8=>8
 | .i16=>16
 | .u16=>16
 | .i32=>32
 | .u32=>32
 | .i64=>64
 | .u64=>64
def Jh : IntKind -> Nat
 | .i8=>256
 | .u8=>256
 | .i16=>65536
 | .u16=>65536
 | .i32=>4294967296
 | .u32=>4294967296
 | .i64=>18446744073709551616
 | .u64=>18446744073709551616
def Fp (k : IntKind) : Int -> Nat
 | .ofNat m=>m % Jh k
 | .negSucc m=>Jh k - 1 - m % Jh k
def vi (k : IntKind) (n : Int) : Option V:=some (.m (.i k n))
def vb (x : Bool) : Option V:=some (.m (.b x))
def arX (op : BinOp) (k : IntKind) (x y : Int) : Option V:=match op with
 | .add=>vi k (wr k (x + y))
 | .sub=>vi k (wr k (x - y))
 | .mul=>vi k (wr k (x * y))
 | .quo=>gd (!eqI y 0) (vi k (wr k (x.tdiv y)))
 | .rem=>gd (!eqI y 0) (vi k (x.tmod y))
 | .eql=>vb (eqI x y)
 | .neq=>vb (!eqI x y)
 | .lss=>vb (ltI x y)
 | .leq=>vb (leI x y)
 | .gtr=>vb (ltI y x)
 | .geq=>vb (leI y x)
 | .and=>vi k (wr k (Int.ofNat (Nat.land (Fp k x) (Fp k y))))
 | .or=>vi k (wr k (Int.ofNat (Nat.lor (Fp k x) (Fp k y))))
 | .xor=>vi k (wr k (Int.ofNat (Nat.xor (Fp k x) (Fp k y))))
 | _=>none
def shX (op : BinOp) (k : IntKind) (x : Int) (y : Nat) : Option V:=match op with
 | .shl=>vi k (wr k (x * Int.ofNat (Nat.pow 2 (Nat.min y (Ko k)))))
 | .shr=>vi k (x.fdiv (Int.ofNat (Nat.pow 2 (Nat.min y (Ko k)))))
 | _=>none
def stX (op : BinOp) (x y : List Nat) : Option V:=match op with
 | .add=>gd (Nat.ble (x.length + y.length) 9223372036854775807) (some (.m (.s (x ++ y))))
 | .eql=>vb (eqL x y)
 | .neq=>vb (!eqL x y)
 | .lss=>vb (ltL x y)
 | .leq=>vb (ltL x y || eqL x y)
 | .gtr=>vb (!(ltL x y || eqL x y))
 | .geq=>vb (!ltL x y)
 | _=>none
def Dj (op : BinOp) : V -> V -> Option V
 | .m (.i k x),.m (.i k' y)=>match op with
  | .shl=>(VL y).bind fun n=>shX .shl k x n
  | .shr=>(VL y).bind fun n=>shX .shr k x n
  | op=>gd (eqK k k') (arX op k x y)
 | .m (.s x),.m (.s y)=>stX op x y
 | _,_=>none
def unX (op : UnOp) : V -> Option V
 | .m (.i k x)=>match op with
  | .neg=>vi k (wr k (0 - x))
  | .xor=>vi k (wr k (Int.ofNat (Jh k - 1 - Fp k x)))
  | _=>none
 | .m (.b x)=>match op with
  | .not=>vb (!x)
  | _=>none
 | _=>none
def Er : Nat -> V -> Option Bool
 | 0,.m (.nl 0)=>some true
 | 0,.m (.pt _)=>some false
 | 0,.pt _ _ _ _=>some false
 | 0,.fa _ _=>some false
 | 1,.m (.nl 1)=>some true
 | 1,.m (.mp _)=>some false
 | 1,.mp _=>some false
 | 2,.m (.nl 2)=>some true
 | 2,.m (.fn _ _)=>some false
 | 2,.fn _ _=>some false
 | 3,.m (.nl 3)=>some true
 | 3,.m .er=>some false
 | 4,.m (.nl 4)=>some true
 | 4,.m (.sl _)=>some false
 | 4,.ls _=>some false
 | 4,.sl _ _ _ _ _ _=>some false
 | _,_=>none
def Qf (cs : List V) : List (Nat × Nat) -> List V -> Option (List V)
 | [],[]=>some cs
 | (off,sz) :: ps,x :: xs=>(An x).bind fun l=>gd (Nat.beq l.length sz) ((EW cs off l).bind fun cs'=>Qf cs' ps xs)
 | _,_=>none
def AD {α : Type} : List α -> Nat -> α -> Option (List α)
 | [],_,_=>none
 | _ :: r,0,x=>some (x :: r)
 | y :: r,n + 1,x=>(AD r n x).bind fun l=>some (y :: l)
def Bw (esz : Nat) (es : List (List V)) : List Nat -> List V -> Option (List (List V))
 | [],[]=>some es
 | ix :: ps,x :: xs=>(An x).bind fun l=>gd (Nat.beq l.length esz) ((AD es ix l).bind fun es'=>Bw esz es' ps xs)
 | _,_=>none
def nth {α : Type} : List α -> Nat -> Option α
 | [],_=>none
 | x :: _,0=>some x
 | _ :: r,n + 1=>nth r n
def idx (n : Nat) : V -> Option Nat
 | .m (.i _ (.ofNat j))=>gd (Nat.blt j n) (some j)
 | _=>none
def bnd (n : Nat) : V -> Option Nat
 | .m (.i _ (.ofNat j))=>gd (Nat.ble j n) (some j)
 | _=>none
def Ji (n : Nat) (lo hi mx : Bool) (vs : List V) : Option (Nat × Nat) :=
 match lo,hi,mx,vs with
 | false,false,false,[]=>some (0,n)
 | true,false,false,[a]=>(bnd n a).bind fun l=>some (l,n)
 | false,true,false,[b]=>(bnd n b).bind fun h=>some (0,h)
 | true,true,false,[a,b]=>(bnd n b).bind fun h=>(bnd h a).bind fun l=>some (l,h)
 | false,true,true,[b,c]=>(bnd n c).bind fun m=>(bnd m b).bind fun h=>gd (Nat.beq h m) (some (0,h))
 | true,true,true,[a,b,c]=>(bnd n c).bind fun m=>(bnd m b).bind fun h=>gd (Nat.beq h m) ((bnd h a).bind fun l=>some (l,h))
 | _,_,_,_=>none
def Zw (x y : Int) : Int:=match ltI x y with
 | true=>y
 | false=>x
def Zu (x y : Int) : Int:=match ltI y x with
 | true=>y
 | false=>x
def mmX (mx : Bool) (k : IntKind) (x : Int) : List V -> Option V
 | []=>vi k x
 | .m (.i _ y) :: r=>mmX mx k (match mx with
  | true=>Zw x y
  | false=>Zu x y) r
 | _=>none
def BK {α : Type} (esz : Nat) : Nat -> List α -> List (List α)
 | 0,_=>[]
 | n + 1,l=>l.take esz :: BK esz n (l.drop esz)
def Av : V -> Bool
 | .fa _ _=>false
 | _=>true
def okEl (n : Nat) : List (List I) -> Bool
 | []=>true
 | e :: _=>Nat.beq e.length n
def JK : V -> Bool
 | .m (.s _)=>true
 | _=>false
def eqB : Bool -> Bool -> Bool
 | true,b=>b
 | false,b=>!b
def Ai : OP -> List V -> Option V
 | .mv,[x]=>some x
 | .pick,[c,a,b]=>match c with
  | .m (.b true)=>some a
  | .m (.b false)=>some b
  | _=>none
 | .un op,[x]=>unX op x
 | .bin op,[x,y]=>Dj op x y
 | .eqb neg,[x,y]=>match x,y with
  | .m (.b x),.m (.b y)=>vb (xor neg (x == y))
  | _,_=>none
 | .eqs neg ks,[x,y]=>match x,y with
  | .m (.ag xs),.m (.ag ys)=>(Ey ks xs ys).bind fun r=>vb (xor neg r)
  | _,_=>none
 | .eqn neg k,[x]=>(Er k x).bind fun r=>vb (xor neg r)
 | .build zero places,xs=>(Qf zero places xs).bind fun cs=>some (mkAg cs)
 | .bsl esz zero n places,xs=>(Bw esz (List.replicate n zero) places xs).bind fun es=>(Ac Bn es).bind fun l=>some (.ls l)
 | .cv k,[x]=>match x with
  | .m (.i _ n)=>vi k (wr k n)
  | _=>none
 | .cvs,[x]=>match x with
  | .m (.s x)=>some (.m (.s x))
  | _=>none
 | .s2b,[x]=>match x with
  | .m (.s x)=>gd (Nat.ble x.length 9223372036854775807) (some (.m (.sl (x.map fun c : Nat=>[.i .u8 (Int.ofNat c)]))))
  | _=>none
 | .fad off,[x]=>match x with
  | .fa d o=>some (.fa d (o + off))
  | .pt r ver ix o=>some (.pt r ver ix (o + off))
  | .m (.pt cs)=>some (.m (.pt (cs.drop off)))
  | _=>none
 | .fld ag sz off,[x]=>(Wt x).bind fun cs=>(CM sz (cs.drop off)).bind fun l=>CL ag l
 | .ixa esz,[x,i]=>match x with
  | .m (.sl es)=>(idx es.length i).bind fun j=>(nth es j).bind fun e=>gd (Nat.beq e.length esz) (some (.m (.pt e)))
  | .ls es=>(idx es.length i).bind fun j=>(nth es j).bind fun e=>gd (Nat.beq e.length esz) (some (.m (.pt e)))
  | .sl r ver esz' st len _=>gd (Nat.beq esz esz') ((idx len i).bind fun j=>some (.pt r ver (st + j) 0))
  | _=>none
 | .ixaA n esz,[x,i]=>(idx n i).bind fun j=>match x with
  | .fa d o=>some (.fa d (o + j * esz))
  | .pt r ver ix o=>some (.pt r ver ix (o + j * esz))
  | .m (.pt cs)=>some (.m (.pt (cs.drop (j * esz))))
  | _=>none
 | .ixv n esz ag,[x,i]=>(idx n i).bind fun j=>(Wt x).bind fun cs=>(CM esz (cs.drop (j * esz))).bind fun l=>CL ag l
 | .ixs,[x,i]=>match x with
  | .m (.s l)=>(idx l.length i).bind fun j=>(nth l j).bind fun c=>vi .u8 (Int.ofNat c)
  | _=>none
 | .ext j,[x]=>match x with
  | .tu vs=>nth vs j
  | _=>none
 | .mkf f,xs=>gd (xs.all Av) (some (.fn f xs))
 | .nck,[x]=>match x with
  | .fa _ _=>some x
  | .pt _ _ _ _=>some x
  | .m (.pt _)=>some x
  | .fn _ _=>some x
  | .m (.fn _ _)=>some x
  | .yl _=>some x
  | _=>none
 | .mm mx,x :: r=>match x with
  | .m (.i k x)=>mmX mx k x r
  | _=>none
 | .len str,[x]=>gd (eqB (JK x) str) (match x with
  | .m (.nl 4)=>vi .i64 0
  | .m (.sl es)=>vi .i64 (Int.ofNat es.length)
  | .ls es=>vi .i64 (Int.ofNat es.length)
  | .m (.s l)=>vi .i64 (Int.ofNat l.length)
  | .sl _ _ _ _ len _=>vi .i64 (Int.ofNat len)
  | _=>none)
 | .usd,[x]=>match x with
  | .m (.nl 4)=>some (.m (.nl 0))
  | .sl r ver esz st len _=>gd (Nat.beq esz 1 && Nat.beq st 0 && Nat.ble 1 len) (some (.pt r ver 0 0))
  | _=>none
 | .slc esz lo hi mx,x :: vs=>gd (eqB (JK x) (Nat.beq esz 0)) (match x with
  | .m (.s l)=>gd (!mx) ((Ji l.length lo hi mx vs).bind fun p=>some (.m (.s ((l.drop p.1).take (p.2 - p.1)))))
  | .m (.nl 4)=>(Ji 0 lo hi mx vs).bind fun _=>some (.m (.nl 4))
  | .m (.sl es)=>gd (okEl esz es) ((Ji es.length lo hi mx vs).bind fun p=>some (match mx with
   | true=>.ls ((es.drop p.1).take (p.2 - p.1))
   | false=>.m (.sl ((es.drop p.1).take (p.2 - p.1)))))
  | .ls es=>gd (okEl esz es) ((Ji es.length lo hi mx vs).bind fun p=>some (match mx || Nat.beq p.2 es.length with
   | true=>.ls ((es.drop p.1).take (p.2 - p.1))
   | false=>.m (.sl ((es.drop p.1).take (p.2 - p.1)))))
  | .sl r ver esz' st len lim=>gd (Nat.beq esz esz') ((Ji len lo hi mx vs).bind fun p=>some (.sl r ver esz' (st + p.1) (p.2 - p.1) (mx || (lim && Nat.beq p.2 len))))
  | _=>none)
 | _,_=>none
def IC (kt : KT) (key : I) : List (I × V) -> Option (Option V)
 | []=>some none
 | (k,x) :: r=>(Cd kt key k).bind fun q=>match q with
  | true=>some (some x)
  | false=>IC kt key r
def pairs : List (List I) -> Option (List (I × V))
 | []=>some []
 | [k,x] :: r=>(pairs r).bind fun l=>some ((k,.m x) :: l)
 | _=>none
def mapOf (H : Hp) : V -> Option (List (I × V))
 | .m (.nl 1)=>some []
 | .m (.mp es)=>pairs es
 | .mp r=>(nth H r).bind fun row=>match row with
  | .mp es _=>some es
  | _=>none
 | _=>none
def AY (es : List (List I)) : List (List V):=es.map fun e=>e.map .m
def elems (H : Hp) : V -> Option (List (List V))
 | .m (.nl 4)=>some []
 | .m (.sl es)=>some (AY es)
 | .ls es=>some (AY es)
 | .sl r ver esz st len _=>(nth H r).bind fun row=>match row with
  | .cs _ esz' es base _=>gd (Nat.ble base ver && Nat.beq esz esz') (some ((es.drop st).take len))
  | _=>none
 | _=>none
def BQ : List (List V) -> Option (List Nat)
 | []=>some []
 | [.m (.i .u8 (.ofNat c))] :: r=>gd (Nat.blt c 256) ((BQ r).bind fun l=>some (c :: l))
 | _=>none
def EU (esz : Nat) (es : List (List V)) (ix off sz : Nat) : Option (List V) :=
 match Nat.ble (off % esz + sz) esz with
 | true=>(nth es (ix + off / esz)).bind fun e=>CM sz (e.drop (off % esz))
 | false=>CM sz (es.flatten.drop (ix * esz + off))
def readA (M : Mem) (sz : Nat) : V -> Option (List V)
 | .fa d off=>(getB M.B d).bind fun cs=>CM sz (cs.drop off)
 | .pt r ver ix off=>(nth M.H r).bind fun row=>match row with
  | .cs _ esz es base _=>gd (Nat.ble base ver && (Nat.ble (off + sz) esz || Nat.beq ver es.length)) (EU esz es ix off sz)
  | _=>none
 | .m (.pt cs)=>CM sz (cs.map .m)
 | _=>none
def VT : V -> Option I
 | .m x=>some x
 | _=>none
def okT (ok : Bool) (x : V) (b : Bool) : V:=match ok with
 | true=>.tu [x,.m (.b b)]
 | false=>x
def VO (zero : List V) (ag ok : Bool) : Option V -> Option V
 | some x=>some (okT ok x true)
 | none=>(CL ag zero).bind fun z=>some (okT ok z false)
def SL (d : Nat) : V -> Bool
 | .fa k _=>Nat.beq k d
 | _=>false
def readX (M : Mem) : OR -> List V -> Option V
 | .ld ag sz,[a]=>(readA M sz a).bind fun cs=>CL ag cs
 | .lkp kt zero ag ok,[m,k]=>(mapOf M.H m).bind fun es=>(VT k).bind fun key=>(gd (EX kt key) (IC kt key es)).bind fun q=>VO zero ag ok q
 | .lenm,[m]=>(mapOf M.H m).bind fun es=>vi .i64 (Int.ofNat es.length)
 | .slcA n esz lo hi mx,x :: vs=>match x with
  | .m (.pt cs)=>gd (Nat.beq cs.length (n * esz) && Nat.ble n 9223372036854775807) ((Ji n lo hi mx vs).bind fun p=>some (match mx || Nat.beq p.2 n with
   | true=>.ls (((BK esz n cs).drop p.1).take (p.2 - p.1))
   | false=>.m (.sl (((BK esz n cs).drop p.1).take (p.2 - p.1)))))
  | .pt r ver 0 0=>(nth M.H r).bind fun row=>match row with
   | .cs _ esz' es _ _=>gd (Nat.beq esz esz' && Nat.beq es.length n && Nat.beq ver n) ((Ji n lo hi mx vs).bind fun p=>some (.sl r ver esz p.1 (p.2 - p.1) (mx || Nat.beq p.2 n)))
   | _=>none
  | .pt r ver 0 (off + 1)=>(nth M.H r).bind fun row=>match row with
   | .cs _ esz' es _ _=>gd (Nat.beq esz esz' && Nat.beq esz 1 && Nat.ble (off + 1 + n) es.length && Nat.beq ver es.length) ((Ji n lo hi mx vs).bind fun p=>some (.sl r ver esz (off + 1 + p.1) (p.2 - p.1) (mx || Nat.beq p.2 n)))
   | _=>none
  | _=>none
 | .ld1,[a]=>match a with
  | .pt r ver ix off=>(nth M.H r).bind fun row=>match row with
   | .cs _ esz es base _=>gd (Nat.ble base ver && Nat.blt off esz) ((nth es ix).bind fun e=>nth e off)
   | _=>none
  | _=>none
 | .ldb ag sz,[a]=>match a with
  | .fa d off=>(readA M sz (.fa d off)).bind fun cs=>CL ag cs
  | _=>none
 | .ldx d ag sz,[a]=>gd (!SL d a) ((readA M sz a).bind fun cs=>CL ag cs)
 | .b2s,[x]=>(elems M.H x).bind fun es=>(BQ es).bind fun l=>some (.m (.s l))
 | _,_=>none
def Ct (esz : Nat) (es : List (List V)) (ix off : Nat) (xs : List V) : Option (List (List V)) :=
 match Nat.ble (off % esz + xs.length) esz with
 | true=>(nth es (ix + off / esz)).bind fun e=>(EW e (off % esz) xs).bind fun e'=>AD es (ix + off / esz) e'
 | false=>(EW es.flatten (ix * esz + off) xs).bind fun l=>some (BK esz es.length l)
def Es (M : Mem) (xs : List V) : V -> Option Mem
 | .fa d off=>(getB M.B d).bind fun cs=>(EW cs off xs).bind fun cs'=>some { M with B:=Dw M.B d cs' }
 | .pt r ver ix off=>(nth M.H r).bind fun row=>match row with
  | .cs ty esz es _ fz=>gd (!fz && Nat.beq ver es.length) ((Ct esz es ix off xs).bind fun es'=>(AD M.H r (.cs ty esz es' es.length false)).bind fun H'=>some { M with H:=H' })
  | _=>none
 | _=>none
def RS (kt : KT) (key : I) (x : V) : List (I × V) -> Option (List (I × V))
 | []=>some [(key,x)]
 | (k,y) :: r=>(Cd kt key k).bind fun q=>match q with
  | true=>some ((key,x) :: r)
  | false=>(RS kt key x r).bind fun l=>some ((k,y) :: l)
def Ui (kt : KT) (key : I) : List (I × V) -> Option (List (I × V))
 | []=>some []
 | (k,y) :: r=>(Cd kt key k).bind fun q=>match q with
  | true=>some r
  | false=>(Ui kt key r).bind fun l=>some ((k,y) :: l)
def view : Nat -> Hp -> V -> Option I
 | 0,_,_=>none
 | n + 1,H,v=>match v with
  | .m x=>some x
  | .ls es=>some (.sl es)
  | .sl r ver esz st len lim=>(elems H (.sl r ver esz st len lim)).bind fun es=>(Ac (fun e=>Ac (view n H) e) es).bind fun l=>some (.sl l)
  | .pt r ver ix off=>(nth H r).bind fun row=>match row with
   | .cs _ esz _ _ _=>(readA ⟨[],H⟩ (esz - off) (.pt r ver ix off)).bind fun cs=>(Ac (view n H) cs).bind fun l=>some (.pt l)
   | _=>none
  | .mp r=>(nth H r).bind fun row=>match row with
   | .mp es _=>(Ac (fun (p : I × V)=>(view n H p.2).bind fun x=>some [p.1,x]) es).bind fun l=>some (.mp l)
   | _=>none
  | .fn f cap=>(Ac (view n H) cap).bind fun l=>some (.fn f l)
  | .ag cs=>(Ac (view n H) cs).bind fun l=>some (.ag l)
  | _=>none
def viewR (H : Hp) : V -> Option V
 | .tu vs=>(Ac (view 20 H) vs).bind fun l=>some (.tu (l.map .m))
 | v=>(view 20 H v).bind fun x=>some (.m x)
mutual
def Kc : I -> Bool
 | .b _=>true
 | .i _ _=>true
 | .s _=>true
 | .nl _=>true
 | .er=>true
 | .ag cs=>MN cs
 | _=>false
def MN : List I -> Bool
 | []=>true
 | x :: r=>Kc x && MN r
end
def Hy : V -> Bool
 | .m x=>Kc x
 | .tu vs=>vs.all fun v=>match v with
  | .m x=>Kc x
  | _=>false
 | _=>false
def isM : V -> Bool
 | .m _=>true
 | .ls _=>true
 | _=>false
def HK : V -> List Nat
 | .sl r _ _ _ _ _=>[r]
 | .pt r _ _ _=>[r]
 | .mp r=>[r]
 | _=>[]
def EJ : V -> List Nat
 | .fn _ cap=>cap.flatMap HK
 | .ag cs=>cs.flatMap HK
 | v=>HK v
def AF : Row -> Option Row
 | .cs ty esz es base _=>gd (es.all fun e=>e.all isM) (some (.cs ty esz es base true))
 | .mp es _=>gd (es.all fun p=>isM p.2) (some (.mp es true))
 | .lp _ _ _ _ _ _=>none
def AL : List Nat -> Hp -> Option Hp
 | [],H=>some H
 | r :: rs,H=>(nth H r).bind fun row=>(AF row).bind fun row'=>(AD H r row').bind fun H'=>AL rs H'
def Cn : V -> Bool
 | .fn _ _=>false
 | .ag _=>false
 | .tu _=>false
 | .un=>false
 | .fa _ _=>false
 | _=>true
def Bv : V -> Bool
 | .fn _ cap=>cap.all Cn
 | .ag cs=>cs.all Cn
 | v=>Cn v
abbrev Ba:=Nat -> List V -> Hp -> Option (V × Hp)
abbrev yN : Nat:=1000000000
def Wj : V -> Option (Nat × List V)
 | .fn f cap=>some (f,cap)
 | .m (.fn f cap)=>some (f,cap.map .m)
 | _=>none
def Bq (M : Mem) (ty esz bytes : Nat) (es : List (List V)) : Option (V × Mem) :=
 gd (Nat.ble (es.length * bytes) 140737488355328 && Nat.ble 1 esz && es.all fun e=>Nat.beq e.length esz && e.all BA)
  (some (.sl M.H.length es.length esz 0 es.length false,{ M with H:=M.H ++ [.cs ty esz es 0 false] }))
def Ek (M : Mem) (ty esz bytes : Nat) (s : V) (xs : List (List V)) : Option (V × Mem) :=
 match xs with
 | []=>match s with
  | .m (.nl 4)=>some (s,M)
  | .m (.sl _)=>some (s,M)
  | .ls _=>some (s,M)
  | .sl _ _ _ _ _ _=>some (s,M)
  | _=>none
 | _ :: _=>match s with
  | .m (.nl 4)=>Bq M ty esz bytes xs
  | .ls es=>Bq M ty esz bytes (AY es ++ xs)
  | .sl r ver esz0 st len lim=>(nth M.H r).bind fun row=>match row with
   | .cs ty' esz' es base fz=>match lim with
    | true=>gd (Nat.ble base ver && Nat.beq esz0 esz' && Nat.beq esz esz') (Bq M ty esz bytes ((es.drop st).take len ++ xs))
    | false=>gd (!fz && Nat.beq ty ty' && Nat.beq esz esz' && Nat.beq esz0 esz' && Nat.beq st 0 && Nat.beq ver es.length && Nat.beq len es.length && Nat.ble ((es.length + xs.length) * bytes) 140737488355328 && xs.all fun e=>Nat.beq e.length esz && e.all BA)
     ((AD M.H r (.cs ty' esz' (es ++ xs) base false)).bind fun H'=>some (.sl r (es.length + xs.length) esz' 0 (es.length + xs.length) false,{ M with H:=H' }))
   | _=>none
  | _=>none
def Aaf (es : List (List V)) (st : Nat) (xs : List (List V)) : List (List V):=es.take st ++ xs ++ es.drop (st + xs.length)
def Af (call : Ba) (M : Mem) : OL -> List V -> Option (V × Mem)
 | .alp d zero,[]=>some (.fa d 0,{ M with B:=Dw M.B d zero })
 | .bxp d sz,[x]=>(An x).bind fun cs=>gd (Nat.beq cs.length sz) (some (.fa d 0,{ M with B:=Dw M.B d cs }))
 | .als ty esz n zero,[]=>gd (Nat.beq zero.length (n * esz) && Nat.ble 1 esz && Nat.ble 1 n && Nat.ble n 9223372036854775807) (some (.pt M.H.length n 0 0,{ M with H:=M.H ++ [.cs ty esz (BK esz n zero) 0 false] }))
 | .bxs ty esz n,[x]=>(An x).bind fun cs=>gd (Nat.beq cs.length (n * esz) && Nat.ble 1 esz && Nat.ble 1 n && Nat.ble n 9223372036854775807) (some (.pt M.H.length n 0 0,{ M with H:=M.H ++ [.cs ty esz (BK esz n cs) 0 false] }))
 | .st sz,[a,x]=>(An x).bind fun cs=>gd (Nat.beq cs.length sz && cs.all BA) ((Es M cs a).bind fun M'=>some (.un,M'))
 | .stb d sz,[a,x]=>gd (SL d a) ((An x).bind fun cs=>gd (Nat.beq cs.length sz && cs.all BA) ((Es M cs a).bind fun M'=>some (.un,M')))
 | .str sz,[a,x]=>gd (Av a) ((An x).bind fun cs=>gd (Nat.beq cs.length sz && cs.all BA) ((Es M cs a).bind fun M'=>some (.un,M')))
 | .mkm,[]=>some (.mp M.H.length,{ M with H:=M.H ++ [.mp [] false] })
 | .mkm,[x]=>match x with
  | .m (.i _ _)=>some (.mp M.H.length,{ M with H:=M.H ++ [.mp [] false] })
  | _=>none
 | .mks ty esz zero bytes,[a,b]=>match b with
  | .m (.i .i64 (.ofNat c))=>(bnd c a).bind fun n=>gd (Nat.ble (c * bytes) 281474976710656 && Nat.ble c 9223372036854775807 && Nat.ble 1 esz && Nat.beq zero.length esz)
   (some (.sl M.H.length n esz 0 n (Nat.beq n c),{ M with H:=M.H ++ [.cs ty esz (List.replicate n zero) 0 false] }))
  | _=>none
 | .bss ty esz zero n places,xs=>(Bw esz (List.replicate n zero) places xs).bind fun es=>gd (Nat.ble 1 esz && Nat.beq zero.length esz)
   (some (.sl M.H.length n esz 0 n true,{ M with H:=M.H ++ [.cs ty esz es 0 false] }))
 | .bsw ty esz zero n places,xs=>(Bw esz (List.replicate n zero) places xs).bind fun es=>gd (Nat.ble 1 esz && Nat.beq zero.length esz)
   (some (.sl M.H.length n esz 0 n false,{ M with H:=M.H ++ [.cs ty esz es 0 false] }))
 | .bsf esz zero n places,xs=>(Bw esz (List.replicate n zero) places xs).bind fun es=>gd (xs.all Bv)
   ((Ac (fun e=>Ac (view 20 M.H) e) es).bind fun l=>(AL (xs.flatMap EJ) M.H).bind fun H'=>some (.ls l,{ M with H:=H' }))
 | .s2r ty,[x]=>match x with
  | .m (.s l)=>Bq M ty 1 1 (l.map fun c : Nat=>[.m (.i .u8 (Int.ofNat c))])
  | _=>none
 | .s2w,[x]=>match x with
  | .sl r ver 1 0 len false=>(nth M.H r).bind fun row=>match row with
   | .cs _ 1 es _ false=>gd (Nat.beq ver es.length && Nat.beq len es.length) (some (.sl r ver 1 0 len false,M))
   | _=>none
  | _=>none
 | .app ty esz bytes,[s,x]=>match x with
  | .m (.s l)=>Ek M ty esz bytes s (l.map fun c : Nat=>[.m (.i .u8 (Int.ofNat c))])
  | x=>(elems M.H x).bind fun xs=>Ek M ty esz bytes s xs
 | .mup kt,[m,k,x]=>match m with
  | .mp r=>(nth M.H r).bind fun row=>match row with
   | .mp es false=>(VT k).bind fun key=>gd (Av x && EX kt key) ((RS kt key x es).bind fun es'=>(AD M.H r (.mp es' false)).bind fun H'=>some (.un,{ M with H:=H' }))
   | _=>none
  | _=>none
 | .mdl kt,[m,k]=>match m with
  | .mp r=>(nth M.H r).bind fun row=>match row with
   | .mp es false=>(VT k).bind fun key=>(gd (EX kt key) (Ui kt key es)).bind fun es'=>(AD M.H r (.mp es' false)).bind fun H'=>some (.tu [],{ M with H:=H' })
   | _=>none
  | _=>none
 | .cpy esz0,[d,x]=>(elems M.H x).bind fun xs=>match d with
  | .sl r ver esz st len _=>(nth M.H r).bind fun row=>match row with
   | .cs ty esz' es _ false=>gd (Nat.beq ver es.length && Nat.beq esz esz' && Nat.beq esz0 esz' && xs.all fun e=>Nat.beq e.length esz && e.all BA)
    ((AD M.H r (.cs ty esz (Aaf es st (xs.take len)) es.length false)).bind fun H'=>some (.m (.i .i64 (Int.ofNat (Nat.min xs.length len))),{ M with H:=H' }))
   | _=>none
  | _=>none
 | .clr z,[d]=>match d with
  | .sl r ver esz st len _=>(nth M.H r).bind fun row=>match row with
   | .cs ty esz' es _ false=>gd (Nat.beq ver es.length && Nat.beq esz esz' && Nat.beq esz 1 && BA z)
    ((AD M.H r (.cs ty esz' (Aaf es st (List.replicate len [z])) es.length false)).bind fun H'=>some (.tu [],{ M with H:=H' }))
   | _=>none
  | _=>none
 | .ust ty,[a,n]=>match n with
  | .m (.i .i64 (.ofNat k))=>match a with
   | .m (.nl 0)=>gd (Nat.beq k 0) (some (.m (.s []),M))
   | .pt r ver 0 0=>(nth M.H r).bind fun row=>match row with
    | .cs ty' esz es base false=>gd (Nat.beq ty ty' && Nat.beq esz 1 && Nat.ble base ver && Nat.beq ver es.length && Nat.beq k es.length && Nat.ble 1 k) ((BQ es).bind fun l=>(AD M.H r (.cs ty esz es base true)).bind fun H'=>some (.m (.s l),{ M with H:=H' }))
    | _=>none
   | _=>none
  | _=>none
 | .cal f,xs=>(call f xs M.H).bind fun p=>some (p.1,{ M with H:=p.2 })
 | .cav,g :: xs=>match g with
  | .fn f cap=>(call f (xs ++ cap) M.H).bind fun p=>some (p.1,{ M with H:=p.2 })
  | .m (.fn f cap)=>(call f (xs ++ cap.map .m) M.H).bind fun p=>some (p.1,{ M with H:=p.2 })
  | .yl r=>(call yN (.yl r :: xs) M.H).bind fun p=>some (p.1,{ M with H:=p.2 })
  | _=>none
 | _,_=>none
def evO (call : Ba) (M : Mem) : O -> List V -> Option (V × Mem)
 | .p o,vs=>(Ai o vs).bind fun v=>some (v,M)
 | .r o,vs=>(readX M o vs).bind fun v=>some (v,M)
 | .l o,vs=>Af call M o vs
def evA (s : St) : Opnd -> Option V
 | .v n=>BJ s.E n
 | .l n=>BJ s.L n
 | .k x=>some x
def DJ (n : Nat) : V -> Bool
 | .fa d off=>Nat.beq d n && Nat.beq off 0
 | _=>true
def Cu (s : St) (d : Dst) (x : V) : Option St:=match d with
 | .no=>some s
 | .v n=>gd (DJ n x) (some { s with E:=BG s.E n x })
 | .l n=>some { s with L:=BG s.L n x }
def Ao (s : St) : Option (Opnd × Bool) -> Option Bool
 | none=>some true
 | some (a,want)=>(evA s a).bind fun v=>match v with
  | .m (.b x)=>some (x == want)
  | .un=>some false
  | _=>none
def BB (d : Nat) : Env -> Bool
 | []=>true
 | (_,.fa k _) :: r=>!Nat.beq k d && BB d r
 | _ :: r=>BB d r
def AN (s : St) : O -> Bool
 | .l (.alp d _)=>BB d s.L
 | .l (.bxp d _)=>BB d s.L
 | _=>true
def Dp (call : Ba) (s : St) (o : Op) : Option St:=(Ao s o.guard).bind fun q=>match q with
 | true=>gd (AN s o.op) ((Ac (evA s) o.args).bind fun vs=>(evO call s.M o.op vs).bind fun p=>Cu { s with M:=p.2 } o.dst p.1)
 | false=>Cu s o.dst .un
def BE (call : Ba) : List Op -> St -> Option St
 | [],s=>some s
 | o :: r,s=>(Dp call s o).bind fun s'=>BE call r s'
def AK : List Nat -> Env -> Env
 | [],e=>e
 | n :: r,e=>AK r (rmE e n)
def Ep : Env -> Env
 | []=>[]
 | (n,x) :: r=>match Av x with
  | true=>(n,x) :: Ep r
  | false=>rmE (Ep r) n
def EQ : Env -> List Nat -> List V -> Env
 | e,p :: ps,x :: xs=>EQ (BG e p x) ps xs
 | e,_,_=>e
def pdX : Option (Option Nat) -> Ex
 | none=>.nm
 | some none=>.ret
 | some (some id)=>.ex id
def Wo (r : Nat) (H : Hp) : Option Hp:=(nth H r).bind fun row=>match row with
 | .lp st pd E ps ca cb=>gd (Nat.beq st 0) (AD H r (.lp 1 pd E ps ca cb))
 | _=>none
def NS (r st0 st1 : Nat) (pd1 : Option (Option Nat)) (H : Hp) : Option Hp:=(nth H r).bind fun row=>match row with
 | .lp st _ E ps ca cb=>gd (Nat.beq st st0) (AD H r (.lp st1 pd1 E ps ca cb))
 | _=>none
def SY (r : Nat) (H : Hp) : Option (Ex × Hp):=(nth H r).bind fun row=>match row with
 | .lp st pd E ps ca cb=>gd (!Nat.beq st 1) ((AD H r (.lp 3 pd E ps ca cb)).bind fun H'=>some (pdX pd,H'))
 | _=>none
def Eo (body : St -> Option (Ex × St)) : Nat -> St -> Option (Ex × St)
 | 0,_=>none
 | k + 1,s=>(body s).bind fun p=>match p.1 with
  | .nm=>Eo body k p.2
  | e=>some (e,p.2)
def evC (call : Ba) (n : Nat) : C -> St -> Option (Ex × St)
 | .skip,s=>some (.nm,s)
 | .reg ops,s=>(BE call ops s).bind fun s'=>some (.nm,{ s' with L:=[] })
 | .seq a b,s=>(evC call n a s).bind fun p=>match p.1 with
  | .nm=>evC call n b p.2
  | e=>some (e,p.2)
 | .ite c a b,s=>(evA s c).bind fun v=>match v with
  | .m (.b true)=>evC call n a s
  | .m (.b false)=>evC call n b s
  | _=>none
 | .blk id c,s=>(evC call n c s).bind fun p=>match p.1 with
  | .ex j=>match Nat.beq j id with
   | true=>some (.nm,p.2)
   | false=>some (.ex j,p.2)
  | e=>some (e,p.2)
 | .loop dr c,s=>Eo (fun t=>evC call n c { t with E:=AK dr t.E }) n s
 | .rng f dr ps ca cb,s=>(evA s f).bind fun fv=>(Wj fv).bind fun gc =>
  (call gc.1 (.yl s.M.H.length :: gc.2) (s.M.H ++ [.lp 0 none (Ep (AK dr s.E)) ps ca cb])).bind fun p =>
   (SY s.M.H.length p.2).bind fun q=>some (q.1,{ s with M:={ s.M with H:=q.2 } })
 | .ex id,s=>some (.ex id,s)
 | .ret,s=>some (.ret,s)
def NY (s : St) : Res -> Option V
 | .t n=>(BJ s.E n).bind fun v=>gd (Av v) (some v)
 | .c n sz ag=>(BJ s.E n).bind fun a=>(readA s.M sz a).bind fun cs=>CL ag cs
def CA : Nat -> List V -> Env
 | _,[]=>[]
 | k,x :: r=>(k,x) :: CA (k + 1) r
def tup : List V -> V
 | [v]=>v
 | vs=>.tu vs
def Dm (s : St) (rs : List Res) : Option V:=(Ac (NY s) rs).bind fun vs=>some (tup vs)
def evF (call : Ba) (n : Nat) (f : F) (vs : List V) (H : Hp) : Option (V × Hp) :=
 gd (vs.all Av && Nat.beq vs.length f.np) ((evC call n f.body ⟨CA 0 vs,[],⟨[],H⟩⟩).bind fun p=>match p.1 with
  | .ex _=>none
  | _=>(Dm p.2 f.res).bind fun v=>some (v,p.2.M.H))
def Dx (call : Ba) (n : Nat) (vs : List V) (H : Hp) : Option (V × Hp):=match vs with
 | .yl r :: xs=>(nth H r).bind fun row=>match row with
  | .lp _ _ E ps ca cb=>gd (xs.all Av && Nat.beq ps.length xs.length)
   ((evC call n ca ⟨EQ E ps xs,[],⟨[],H⟩⟩).bind fun p=>match p.1 with
    | .nm=>(Wo r p.2.M.H).bind fun H1=>(evC call n cb ⟨p.2.E,[],⟨p.2.M.B,H1⟩⟩).bind fun p2=>match p2.1 with
     | .nm=>(NS r 1 0 none p2.2.M.H).bind fun H2=>some (.m (.b true),H2)
     | .ret=>(NS r 1 2 (some none) p2.2.M.H).bind fun H2=>some (.m (.b false),H2)
     | .ex id=>(NS r 1 2 (some (some id)) p2.2.M.H).bind fun H2=>some (.m (.b false),H2)
    | _=>none)
  | _=>none
 | _=>none
structure Cfg where
 fn : Nat -> Option F
 sh : Nat -> Bool
 prim : Nat -> Option (Ba -> List V -> Hp -> Option (V × Hp))
inductive T where
 | nil
 | lf (k : Nat) (f : F)
 | nd (m : Nat) (a b : T)
def T.look : T -> Nat -> Option F
 | .nil,_=>none
 | .lf k f,n=>match Nat.beq k n with
  | true=>some f
  | false=>none
 | .nd m a b,n=>match Nat.blt n m with
  | true=>a.look n
  | false=>b.look n
def T.all : T -> List (Nat × F)
 | .nil=>[]
 | .lf k f=>[(k,f)]
 | .nd _ a b=>a.all ++ b.all
def DA (call : Ba) (n : Nat) (fn : F) (vs : List V) (H : Hp) : Option (V × Hp) :=
 (Ac (view 20 H) vs).bind fun is=>(evF call n fn (is.map .m) []).bind fun p=>(viewR p.2 p.1).bind fun r=>match vs.flatMap EJ with
  | []=>gd (vs.all Bv) (some (r,H))
  | rs=>match Hy r with
   | true=>some (r,H)
   | false=>gd (vs.all Bv) ((AL rs H).bind fun H2=>some (r,H2))
def Bg (G : Cfg) : Nat -> Ba
 | 0,_,_,_=>none
 | n + 1,f,vs,H=>match G.prim f with
  | some p=>p (Bg G n) vs H
  | none=>match G.fn f with
   | some fn=>match G.sh f with
    | true=>evF (Bg G n) n fn vs H
    | false=>DA (Bg G n) n fn vs H
   | none=>gd (Nat.beq f yN) (Dx (Bg G n) n vs H)
end Go.Mx
