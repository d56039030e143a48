/- The checked translation of the loaded code into the machine's. Nothing here speaks of a program. -/
import Derived.Test.YtgljapjkjbmicaaGreatDoorMach
import Derived.Calls
import Derived.Laws.AppendOwn
import Derived.Below
import GoSem.Core.Layout
import GoSem.Machine.Frame
set_option linter.unusedSimpArgs false
set_option linter.unusedVariables false
set_option linter.unusedSectionVars false
namespace Go.Mx
structure Hint where
 loc : Nat -> Bool
 priv : Nat -> Bool
 bs : Nat -> Nat
def bO (_ : Nat) : Nat:=0
def bI (l : List (Nat × Nat)) (n : Nat) : Nat:=l.foldr (fun p r=>match Nat.beq n p.1 with | true=>p.2 | false=>r) 0
def dO (_ : Nat) : List Nat:=[]
def dI (l : List (Nat × List Nat)) (n : Nat) : List Nat:=l.foldr (fun p r=>match Nat.beq n p.1 with | true=>p.2 | false=>r) []
def Di : Code -> Option Nat
 | .region id _ _=>some id
 | .seq a b=>match Di a with
  | some n=>some n
  | none=>Di b
 | .cond _ a b=>match Di a with
  | some n=>some n
  | none=>Di b
 | .block _ c=>Di c
 | .loop c=>Di c
 | .scope c=>Di c
 | .rangeFunc _ _ a c=>match Di c with
  | some n=>some n
  | none=>Di a
 | _=>none
def toV : Value -> Option V
 | .bool b=>some (.m (.b b))
 | .int k n=>some (.m (.i k n))
 | .string s=>some (.m (.s (s.data.toList.map UInt8.toNat)))
 | .pointer none=>some (.m (.nl 0))
 | .map none=>some (.m (.nl 1))
 | .nilFunc=>some (.m (.nl 2))
 | .nilIface=>some (.m (.nl 3))
 | .slice none 0 0=>some (.m (.nl 4))
 | _=>none
def OS (hi : Hint) (gl : Nat -> Option (List I)) : Operand -> Option Opnd
 | .tmp t=>some (match hi.loc t with
  | true=>.l t
  | false=>.v t)
 | .const v=>(toV v).bind fun x=>some (.k x)
 | .func f=>gd (!Nat.beq f yN) (some (.k (.m (.fn f []))))
 | .global g=>(gl g).bind fun cs=>some (.k (.m (.pt cs)))
def CM (P : Program) (t : TypeId) : Option (List V):=(P.info? t).bind fun i=>i.zero.bind fun z=>gd (Nat.beq z.cells.size i.size) (Ai toV z.cells.toList)
def Bi (P : Program) (t : TypeId) : Option Nat:=(P.info? t).bind fun i=>some i.size
def HW (P : Program) (t : TypeId) : Option Nat:=(P.info? t).bind fun i=>some i.bytes
def BZ (P : Program) (t : TypeId) : Option Bool:=(P.underlying t).bind fun d=>match d with
 | .struct _=>some true
 | .array _ _=>some true
 | _=>some false
def Je (P : Program) (t : TypeId) (ag : Bool) : Bool:=match (P.info? t).bind (·.zero) with
 | some (.agg _)=>ag
 | some _=>!ag
 | none=>false
def HR (g : TypeId -> Option (List Nat)) (sz : TypeId -> Option Nat) : Nat -> List Field -> Option (List Nat)
 | _,[]=>some []
 | o, f :: r => gd (Nat.beq f.offset o && decide (f.name ≠ "_")) ((g f.type).bind fun s => (sz f.type).bind fun s' => gd (Nat.beq s.length s') ((HR g sz (o + s') r).bind fun l => some (s ++ l)))
def Cq (P : Program) : Nat -> TypeId -> Option (List Nat)
 | 0,_=>none
 | k + 1,t=>match P.underlying t with
  | some .bool=>some [0]
  | some (.int _)=>some [1]
  | some .string=>some [2]
  | some (.struct fs)=>gd (!P.stoodInHeld t) (HR (Cq P k) (Bi P) 0 fs.toList)
  | some (.array n e)=>(Cq P k e).bind fun s=>(Bi P e).bind fun s'=>gd (Nat.beq s.length s') (some (List.replicate n s).flatten)
  | _=>none
def Tc (P : Program) (t : TypeId) : Option (List Nat):=match P.underlying t with
 | some (.struct _)=>gd (!P.eqGuardType P.depth t) (Cq P 6 t)
 | some (.array _ _)=>gd (!P.eqGuardType P.depth t) (Cq P 6 t)
 | _=>none
def HO : Nat -> Operand -> Bool
 | 0,.const (.pointer none)=>true
 | 1,.const (.map none)=>true
 | 2,.const .nilFunc=>true
 | 3,.const .nilIface=>true
 | 4,.const (.slice none 0 0)=>true
 | _,_=>false
def Yw (P : Program) (t : TypeId) : Option Nat:=match P.underlying t with
 | some (.pointer _)=>some 0
 | some (.map _ _)=>some 1
 | some (.func _ _ _)=>some 2
 | some (.interface _)=>some 3
 | some (.slice _)=>some 4
 | _=>none
def GI (P : Program) (fs : Array Field) : List (Nat × Operand) -> Option (List (Nat × Nat))
 | []=>some []
 | (i,_) :: r=>(fs[i]?).bind fun f=>(Bi P f.type).bind fun s=>(GI P fs r).bind fun l=>some ((f.offset,s) :: l)
def VQ (b : Bool) (o : O) (l : List Operand) : Option (O × List Operand):=gd b (some (o,l))
def Tj (P : Program) (neg : Bool) (t : TypeId) (x y : Operand) : Option (O × List Operand) :=
 match P.underlying t with
 | some .bool=>some (.p (.eqb neg),[x,y])
 | _=>match Tc P t with
  | some ks=>some (.p (.eqs neg ks),[x,y])
  | none=>(Yw P t).bind fun k=>match HO k y with
   | true=>some (.p (.eqn neg k),[x])
   | false=>match HO k x with
    | true=>some (.p (.eqn neg k),[y])
    | false=>none
def Qk (P : Program) (op : BinOp) (t : TypeId) (x y : Operand) : Option (O × List Operand) :=
 match P.underlying t with
 | some (.int _)=>some (.p (.bin op),[x,y])
 | some .string=>some (.p (.bin op),[x,y])
 | _=>match op with
  | .eql=>Tj P false t x y
  | .neq=>Tj P true t x y
  | _=>none
def ON (P : Program) (t : TypeId) : Option KT:=(Cq P 6 t).bind fun ks=>(BZ P t).bind fun ag=>some ⟨ag,ks⟩
def arrF (P : Program) : List Field -> Bool
 | []=>false
 | f :: r=>match P.underlying f.type with
  | some (.array _ e)=>(match Bi P e with
   | some s=>Nat.beq s 1
   | none=>false) || arrF P r
  | _=>arrF P r
def arrU (P : Program) (t : TypeId) : Option (Nat × Nat):=match P.underlying t with
 | some (.array n e)=>(Bi P e).bind fun s=>some (n,s)
 | some (.struct fs)=>match arrF P fs.toList with
  | true=>(Bi P t).bind fun s=>some (s,1)
  | false=>(Bi P t).bind fun s=>some (1,s)
 | _=>(Bi P t).bind fun s=>some (1,s)
def stbOf (hi : Hint) : Operand -> Option Nat
 | .tmp n=>match Nat.beq (hi.bs n) 6 with
  | true=>some n
  | false=>match Nat.ble 1000 (hi.bs n) with
   | true=>some (hi.bs n - 1000)
   | false=>none
 | _=>none
def strOf (hi : Hint) : Operand -> Bool
 | .tmp n=>Nat.beq (hi.bs n) 7
 | _=>false
def Eh (P : Program) (hi : Hint) (dst : Option Tmp) : Go.Op -> Option (O × List Operand)
 | .move x=>some (.p .mv,[x])
 | .assign x=>some (.p .mv,[x])
 | .pick c a b=>some (.p .pick,[c,a,b])
 | .alloc t=>(CM P t).bind fun zs=>dst.bind fun d=>match hi.priv d with
  | true=>some (.l (.alp d zs),[])
  | false=>(arrU P t).bind fun p=>some (.l (.als t p.2 p.1 zs),[])
 | .box t x=>dst.bind fun d=>match hi.priv d with
  | true=>(Bi P t).bind fun s=>some (.l (.bxp d s),[x])
  | false=>(arrU P t).bind fun p=>some (.l (.bxs t p.2 p.1),[x])
 | .build t ps=>(CM P t).bind fun zs=>(P.underlying t).bind fun u=>match u with
  | .struct fs=>gd (fs.toList.all fun f=>(P.info? f.type).isSome) ((GI P fs ps.toList).bind fun pl=>some (.p (.build zs pl),ps.toList.map (·.2)))
  | .array _ e=>(Bi P e).bind fun s=>some (.p (.build zs (ps.toList.map fun q=>(q.1 * s,s))),ps.toList.map (·.2))
  | _=>none
 | .buildSlice t n ps=>(P.underlying t).bind fun u=>match u with
  | .slice e=>(Bi P e).bind fun s=>gd (Nat.ble (n * s) 16777216 && Nat.ble 1 s) ((CM P e).bind fun zs=>dst.bind fun d=>match hi.bs d with
   | 0=>some (.p (.bsl s zs n (ps.toList.map (·.1))),ps.toList.map (·.2))
   | 1=>some (.l (.bsf s zs n (ps.toList.map (·.1))),ps.toList.map (·.2))
   | 8=>some (.l (.bsw e s zs n (ps.toList.map (·.1))),ps.toList.map (·.2))
   | _=>some (.l (.bss e s zs n (ps.toList.map (·.1))),ps.toList.map (·.2)))
  | _=>none
 | .load t a=>(BZ P t).bind fun ag=>(Bi P t).bind fun s=>match !ag && Nat.beq s 1 && Nat.beq ((dst.map hi.bs).getD 0) 3 with
  | true=>some (.r .ld1,[a])
  | false=>gd (ag || Nat.beq s 1) (some (match Nat.beq ((dst.map hi.bs).getD 0) 5 with
   | true=>(.r (.ldb ag s),[a])
   | false=>match Nat.ble 100 ((dst.map hi.bs).getD 0) with
    | true=>(.r (.ldx ((dst.map hi.bs).getD 0 - 100) ag s),[a])
    | false=>(.r (.ld ag s),[a])))
 | .store t a x=>match dst with
  | none=>(Bi P t).bind fun s=>match stbOf hi a with
   | some d=>some (.l (.stb d s),[a,x])
   | none=>match strOf hi a with
    | true=>some (.l (.str s),[a,x])
    | false=>some (.l (.st s),[a,x])
  | some _=>none
 | .nilCheck x=>some (.p .nck,[x])
 | .binOp op t x y _=>Qk P op t x y
 | .unOp op _ x=>some (.p (.un op),[x])
 | .convert src d x=>(P.underlying src).bind fun su=>(P.underlying d).bind fun du=>match su,du with
  | .int _,.int k=>some (.p (.cv k),[x])
  | .string,.string=>some (.p .cvs,[x])
  | .string,.slice e=>match P.underlying e with
   | some (.int .u8)=>match Nat.beq ((dst.map hi.bs).getD 0) 4 with
    | true=>some (.l (.s2r e),[x])
    | false=>some (.p .s2b,[x])
   | _=>none
  | .slice e,.string=>match P.underlying e with
   | some (.int .u8)=>some (.r .b2s,[x])
   | _=>none
  | .slice _,.slice e=>match P.underlying e with
   | some (.int .u8)=>gd (Nat.beq src d) (some (.l .s2w,[x]))
   | _=>none
  | _,_=>none
 | .makeFunc fn first cap=>match fn with
  | .func f=>match first.size with
   | 0=>gd (!Nat.beq f yN) (some (.p (.mkf f),cap.toList))
   | _=>none
  | _=>none
 | .makeMap t r=>(P.underlying t).bind fun u=>match u with
  | .map _ _=>some (.l .mkm,r.toList)
  | _=>none
 | .makeSlice t n c=>(P.underlying t).bind fun u=>match u with
  | .slice e=>(CM P e).bind fun zs=>(Bi P e).bind fun s=>(HW P e).bind fun b=>some (.l (.mks e s zs b),[n,c])
  | _=>none
 | .slice t x lo hi' mx=>(P.underlying t).bind fun u=>match u with
  | .string=>some (.p (.slc 0 lo.isSome hi'.isSome mx.isSome),x :: (lo.toList ++ hi'.toList ++ mx.toList))
  | .slice e=>(Bi P e).bind fun s=>gd (Nat.ble 1 s) (some (.p (.slc s lo.isSome hi'.isSome mx.isSome),x :: (lo.toList ++ hi'.toList ++ mx.toList)))
  | .array n e=>(Bi P e).bind fun s=>some (.r (.slcA n s lo.isSome hi'.isSome mx.isSome),x :: (lo.toList ++ hi'.toList ++ mx.toList))
  | .pointer at'=>match P.underlying at' with
   | some (.array n e)=>(Bi P e).bind fun s=>some (.r (.slcA n s lo.isSome hi'.isSome mx.isSome),x :: (lo.toList ++ hi'.toList ++ mx.toList))
   | _=>none
  | _=>none
 | .fieldAddr t x f=>(P.underlying t).bind fun u=>match u with
  | .struct fs=>(fs[f]?).bind fun fl=>(Bi P fl.type).bind fun s=>gd (Nat.ble 1 s) (some (.p (.fad fl.offset),[x]))
  | _=>none
 | .field t x f=>(P.underlying t).bind fun u=>match u with
  | .struct fs=>(fs[f]?).bind fun fl=>(Bi P fl.type).bind fun s=>(BZ P fl.type).bind fun ag=>gd (ag || Nat.beq s 1) (some (.p (.fld ag s fl.offset),[x]))
  | _=>none
 | .indexAddr t x i=>(P.underlying t).bind fun u=>match u with
  | .slice e=>(Bi P e).bind fun s=>some (.p (.ixa s),[x,i])
  | .array n e=>(Bi P e).bind fun s=>some (.p (.ixaA n s),[x,i])
  | _=>none
 | .index t x i=>(P.underlying t).bind fun u=>match u with
  | .string=>some (.p .ixs,[x,i])
  | .array n e=>(Bi P e).bind fun s=>(BZ P e).bind fun ag=>gd (ag || Nat.beq s 1) (some (.p (.ixv n s ag),[x,i]))
  | _=>none
 | .lookup t x i ok=>(P.underlying t).bind fun u=>match u with
  | .map k e=>(CM P e).bind fun zs=>(BZ P e).bind fun ag=>gd (Je P e ag) ((ON P k).bind fun kt=>some (.r (.lkp kt zs ag ok),[x,i]))
  | _=>none
 | .mapUpdate t m k x=>match dst with
  | none=>(P.underlying t).bind fun u=>match u with
   | .map kt _=>(ON P kt).bind fun q=>some (.l (.mup q),[m,k,x])
   | _=>none
  | some _=>none
 | .insert t m k x=>match dst with
  | none=>(P.underlying t).bind fun u=>match u with
   | .map kt _=>(ON P kt).bind fun q=>some (.l (.mup q),[m,k,x])
   | _=>none
  | some _=>none
 | .extract x j=>some (.p (.ext j),[x])
 | .call c=>match c.callee with
  | .value f=>match f with
   | .func g=>gd (!Nat.beq g yN) (some (.l (.cal g),c.args.toList))
   | f=>some (.l .cav,f :: c.args.toList)
  | .invoke _ _=>none
  | .builtin b=>(c.argTypes[0]?).bind fun t0=>(P.underlying t0).bind fun u0=>match b with
   | .len=>match u0 with
    | .string=>VQ (Nat.beq c.args.size 1) (.p (.len true)) c.args.toList
    | .slice _=>VQ (Nat.beq c.args.size 1) (.p (.len false)) c.args.toList
    | .map _ _=>VQ (Nat.beq c.args.size 1) (.r .lenm) c.args.toList
    | _=>none
   | .min=>match u0 with
    | .int _=>some (.p (.mm false),c.args.toList)
    | _=>none
   | .max=>match u0 with
    | .int _=>some (.p (.mm true),c.args.toList)
    | _=>none
   | .append=>match u0 with
    | .slice e=>(c.argTypes[1]?).bind fun t1=>(P.underlying t1).bind fun u1=>(CM P e).bind fun _=>(Bi P e).bind fun s=>(HW P e).bind fun b=>gd (Nat.ble 1 s && Nat.ble 1 b && Nat.beq c.args.size 2) (match u1 with
     | .slice _=>some (.l (.app e s b),c.args.toList)
     | .string=>match P.underlying e with
      | some (.int .u8)=>some (.l (.app e s b),c.args.toList)
      | _=>none
     | _=>none)
    | _=>none
   | .copy=>match u0 with
    | .slice e=>(Bi P e).bind fun s=>gd (Nat.ble 1 s && Nat.beq c.args.size 2) ((c.argTypes[1]?).bind fun t1=>(P.underlying t1).bind fun u1=>match u1 with
     | .slice _=>some (.l (.cpy s),c.args.toList)
     | _=>none)
    | _=>none
   | .clear=>match u0 with
    | .slice e=>match CM P e with
     | some [z]=>gd (Nat.beq c.args.size 1) (some (.l (.clr z),c.args.toList))
     | _=>none
    | _=>none
   | .delete=>match u0 with
    | .map kt _=>(ON P kt).bind fun q=>gd (Nat.beq c.args.size 2) (some (.l (.mdl q),c.args.toList))
    | _=>none
   | .unsafeSliceData=>match u0 with
    | .slice _=>VQ (Nat.beq c.args.size 1) (.p .usd) c.args.toList
    | _=>none
   | .unsafeString=>match u0 with
    | .pointer e=>(Bi P e).bind fun s=>VQ (Nat.beq c.args.size 2 && Nat.beq c.argTypes.size 2 && Nat.beq s 1) (.l (.ust e)) c.args.toList
    | _=>none
   | _=>none
 | _=>none
def Uy (hi : Hint) : Option Tmp -> Dst
 | none=>.no
 | some d=>match hi.loc d with
  | true=>.l d
  | false=>.v d
def XL (hi : Hint) (ops : Array Oper) : Option (Nat × Bool) -> Option (Option (Opnd × Bool))
 | none=>some none
 | some (j,want)=>(ops[j]?).bind fun o=>o.dst.bind fun d=>some (some ((match hi.loc d with
  | true=>.l d
  | false=>.v d),want))
def okO : O -> Bool
  | .p .cvs=>false
  | .p .s2b=>false
  | .p (.fld _ _ _)=>false
  | .p .usd=>false
  | .r .lenm=>false
  | .l (.bss _ _ _ _ _)=>false
  | .l (.bsw _ _ _ _ _)=>false
  | .l .s2w=>false
  | .l (.clr _)=>false
  | .l (.ust _)=>false
  | .l (.s2r _)=>false
  | _=>true
def cmpQ (P : Program) (hi : Hint) (gl : Nat -> Option (List I)) (o : Oper) : O × List Opnd:=match (Eh P hi o.dst o.op).bind fun p=>gd (okO p.1) ((Ai (OS hi gl) p.2).bind fun aq=>some (p.1,aq)) with
 | some r=>r
 | none=>(.p .mv,[])
def Oa (P : Program) (hi : Hint) (gl : Nat -> Option (List I)) (ops : Array Oper) (o : Oper) : Option Op :=
 (XL hi ops o.guard).bind fun g=>some ⟨Uy hi o.dst,(cmpQ P hi gl o).1,(cmpQ P hi gl o).2,g⟩
theorem FK {P : Program} {hi : Hint} {gl : Nat -> Option (List I)} {ops : Array Oper} {o : Oper} {q : Op} (h : Oa P hi gl ops o = some q) :
  ∃ g qo os,XL hi ops o.guard = some g /\ q = ⟨Uy hi o.dst,qo,os,g⟩ /\ ((∃ aq,Eh P hi o.dst o.op = some (qo,aq) /\ okO qo = true /\ Ai (OS hi gl) aq = some os) \/ (qo = .p .mv /\ os = [])):=by
 unfold Oa at h
 cases hg : XL hi ops o.guard with
 | none=>rw [hg] at h; cases h
 | some g =>
  rw [hg] at h
  simp only [AaR,AaG] at h
  refine ⟨g,_,_,rfl,h.symm,?_⟩
  unfold cmpQ
  cases hq : (Eh P hi o.dst o.op).bind fun p=>gd (okO p.1) ((Ai (OS hi gl) p.2).bind fun aq=>some (p.1,aq)) with
  | none=>exact .inr ⟨rfl,rfl⟩
  | some r =>
   cases ho : Eh P hi o.dst o.op with
   | none=>rw [ho] at hq; cases hq
   | some p =>
    rw [ho] at hq
    simp only [AaR] at hq
    have hQ : okO p.1 = true:=by
     cases h : okO p.1 with
     | false=>rw [h] at hq; cases hq
     | true=>rfl
    rw [hQ] at hq
    simp only [gd] at hq
    cases hx : Ai (OS hi gl) p.2 with
    | none=>rw [hx] at hq; cases hq
    | some os =>
     rw [hx] at hq
     simp only [AaR,AaG] at hq
     subst hq
     exact .inl ⟨p.2,rfl,hQ,hx⟩
/- Which resources two operations share, for regions that draw their order. -/
def Gc : Op -> List Opnd
 | o=>match o.guard with
  | none=>o.args
  | some (a,_)=>a :: o.args
def Mu : Dst -> Opnd -> Bool
 | .v n,.v k=>Nat.beq n k
 | .l n,.l k=>Nat.beq n k
 | _,_=>false
def So : Dst -> Dst -> Bool
 | .v n,.v k=>Nat.beq n k
 | .l n,.l k=>Nat.beq n k
 | _,_=>false
def En (sh : Nat -> Bool) : O -> Nat
 | .p _=>0
 | .r _=>1
 | .l (.bsf _ _ _ _)=>1
 | .l (.cal f)=>match sh f with
  | true=>match sh (2000000000 + f) with
   | true=>2
   | false=>3
  | false=>1
 | .l (.als _ _ _ _)=>2
 | .l (.bxs _ _ _)=>2
 | .l .mkm=>2
 | .l (.mks _ _ _ _)=>2
 | .l (.bss _ _ _ _ _)=>2
 | .l _=>3
def CQ : O -> Bool
 | .l (.alp _ _)=>true
 | .l (.bxp _ _)=>true
 | _=>false
def SS : O -> O -> Bool
 | .r .ld1,.l (.app _ _ _)=>true
 | .r (.ldb _ _),.l (.cal _)=>true
 | .r (.ldb _ _),.l (.app _ _ _)=>true
 | .r (.ldb _ _),.l .cav=>true
 | .r (.ldx d _ _),.l (.stb k _)=>Nat.beq d k
 | .r (.ldb _ _),.l (.str _)=>true
 | _,_=>false
def ML (x y : Op) : Bool:=CQ x.op && (match y.op,y.dst with
 | .l (.cal _),.l _=>false
 | .l (.cal _),_=>true
 | _,_=>false)
def LS (y : Op) : Bool:=(match y.dst with
 | .l _=>false
 | _=>true) && (match y.op with
 | .p _=>true
 | .r _=>true
 | .l (.app _ _ _)=>true
 | _=>false) && y.args.all fun a=>match a with
 | .k v=>AE v
 | _=>true
def Qx (x y : Op) : Bool:=match x.op,x.dst with
 | .l (.alp d _),.v n=>Nat.beq d n && LS y
 | .l (.bxp d _),.v n=>Nat.beq d n && LS y
 | _,_=>false
def Qv (x y : Op) : Bool:=match x.op,x.dst,y.op,y.dst with
 | .l (.alp d _),.v n,.l (.alp e _),.v m=>Nat.beq d n && Nat.beq e m
 | _,_,_,_=>false
def Qt (x y : Op) : Bool:=match x.op,x.dst,y.op with
 | .l (.alp d _),.v n,.p (.fad _)=>Nat.beq d n && y.args.all fun a=>match a with
  | .k v=>AE v
  | _=>true
 | _,_,_=>false
def apart (sh : Nat -> Bool) (x y : Op) : Bool :=
 !(Gc y).any (Mu x.dst) && !(Gc x).any (Mu y.dst) && !So x.dst y.dst &&
  ((!CQ x.op && !CQ y.op && (Nat.beq (En sh x.op) 0 || Nat.beq (En sh y.op) 0 || (Nat.beq (En sh x.op) 1 && Nat.ble (En sh y.op) 2) || SS x.op y.op)) || ML x y || ML y x || Qx x y || Qv x y || Qt x y)
def CU (o : Oper) : List Nat:=o.after.toList.filterMap fun e=>match Region.binds .any e with
 | true=>some e.on
 | false=>none
def Ch : List Nat -> List Oper -> List Nat
 | acc,[]=>acc
 | acc,o :: r=>Ch (acc ++ [(CU o).foldl (fun s j=>Nat.lor s (Nat.lor (Nat.shiftLeft 1 j) (acc.getD j 0))) 0]) r
def PG (sh : Nat -> Bool) (ops : List Oper) (cs : List Op) : Bool :=
 (ops.length == cs.length) && (List.range cs.length).all fun k=>((ops[k]?).any fun o=>(CU o).all fun j=>Nat.blt j k) && (List.range k).all fun j =>
  Nat.testBit ((Ch [] ops).getD k 0) j || match nth cs j,nth cs k with
   | some x,some y=>apart sh x y
   | _,_=>false
/- Where the text's order will not do: what makes rows goes behind what it need not stand ahead of. -/
def isLdb : O -> Bool
 | .r (.ldb _ _)=>true
 | _=>false
def isCal : O -> Bool
 | .l (.cal _)=>true
 | .l (.app _ 4 _)=>true
 | _=>false
def VP (c : Bool) (sh : Nat -> Bool) (ab : List Nat) (cs : List Op) : Nat -> List Nat -> List Nat × List Nat
 | _,[]=>([],[])
 | bl,j :: r=>match Nat.beq (Nat.land bl (ab.getD j 0)) 0 && (match nth cs j with
   | some y=>match c with
    | true=>Nat.beq (En sh y.op) 0 || isLdb y.op
    | false=>Nat.ble (En sh y.op) 1
   | none=>false) with
  | true=>match VP c sh ab cs bl r with
   | (f,t)=>(j :: f,t)
  | false=>match VP c sh ab cs (Nat.lor bl (Nat.shiftLeft 1 j)) r with
   | (f,t)=>(f,j :: t)
def Mh (sh : Nat -> Bool) (ab : List Nat) (cs : List Op) : List Nat -> List Nat
 | []=>[]
 | k :: r=>match nth cs k with
  | some x=>match Nat.beq (En sh x.op) 2 || (Nat.beq (En sh x.op) 3 && isCal x.op) with
   | true=>match VP (Nat.beq (En sh x.op) 3) sh ab cs (Nat.shiftLeft 1 k) (Mh sh ab cs r) with
    | (f,t)=>f ++ k :: t
   | false=>k :: Mh sh ab cs r
  | none=>k :: Mh sh ab cs r
def Un (sh : Nat -> Bool) (ab : List Nat) (cs : List Op) (n : Nat) : List Nat :=
 let f:=fun k=>Nat.beq (ab.getD k 0) 0 && match nth cs k with
  | some x=>CQ x.op
  | none=>false
 (List.range n).filter f ++ Mh sh ab cs ((List.range n).filter fun k=>!f k)
def Yt (sh : Nat -> Bool) (ab : List Nat) (ops : List Oper) (cs : List Op) (j k : Nat) : Bool :=
 !Nat.beq j k && ((ops[j]?).any fun o=>!(CU o).any (Nat.beq k)) && (Nat.testBit (ab.getD k 0) j || match nth cs j,nth cs k with
  | some x,some y=>apart sh x y
  | _,_=>false)
def Mg (f : Nat -> Nat -> Bool) : List Nat -> Bool
 | []=>true
 | j :: r=>r.all (f j) && Mg f r
def La (sh : Nat -> Bool) (ops : List Oper) (cs : List Op) (l : List Nat) : Bool :=
 Nat.beq l.length cs.length && ((List.range cs.length).all fun k=>((ops[k]?).any fun o=>(CU o).all fun j=>Nat.blt j k) && l.any (Nat.beq k)) && l.all (fun k=>Nat.blt k cs.length) && Mg (Yt sh (Ch [] ops) ops cs) l
def Zg (sh : Nat -> Bool) (ops : List Oper) (cs : List Op) : List Op:=match PG sh ops cs with
 | true=>cs
 | false=>match gd (La sh ops cs (Un sh (Ch [] ops) cs cs.length)) (Ai (nth cs) (Un sh (Ch [] ops) cs cs.length)) with
  | some qs=>qs
  | none=>[⟨.no,.p .mv,[],none⟩]
def Qf (sh : Nat -> Bool) (ops : List Oper) (cs : List Op) : Bool -> List Op
 | true=>Zg sh ops cs
 | false=>cs
def SW : C:=.reg [⟨.no,.p .mv,[],none⟩]
def SK (dr : Nat -> List Nat) (c : Code) (x : Option C) : Option C:=match dr (2000000 + (Di c).getD 0) with
 | []=>x
 | _=>some SW
theorem Mf {dr : Nat -> List Nat} {c : Code} {x : Option C} {y : C} (h : SK dr c x = some y) : x = some y \/ y = SW:=by
 unfold SK at h
 split at h
 ·exact .inl h
 ·exact .inr (Option.some.inj h).symm
def cmpC (P : Program) (hi : Hint) (gl : Nat -> Option (List I)) (sh : Nat -> Bool) (dr : Nat -> List Nat) : Code -> Option C
 | .skip=>some .skip
 | .region _ ops draw=>(Ai (Oa P hi gl ops) ops.toList).bind fun cs=>some (.reg (Qf sh ops.toList cs draw))
 | .seq a b=>(cmpC P hi gl sh dr a).bind fun x=>(cmpC P hi gl sh dr b).bind fun y=>some (.seq x y)
 | .cond c a b=>(OS hi gl c).bind fun o=>(SK dr a (cmpC P hi gl sh dr a)).bind fun x=>(SK dr b (cmpC P hi gl sh dr b)).bind fun y=>some (.ite o x y)
 | .block id c=>(cmpC P hi gl sh dr c).bind fun x=>some (.blk id x)
 | .loop c=>(cmpC P hi gl sh dr c).bind fun x=>some (.loop (dr ((Di c).getD 0)) x)
 | .exit id=>some (.ex id)
 | .ret=>some .ret
 | .scope c=>cmpC P hi gl sh dr c
 | .label _=>some .skip
 | .rangeFunc g ps a c=>(OS hi gl g).bind fun o=>(cmpC P hi gl sh dr a).bind fun x=>(cmpC P hi gl sh dr c).bind fun y=>gd (ps.toList.all fun p=>!hi.loc p) (some (.rng o (dr (1000000 + (Di c).getD 0)) ps.toList x y))
 | _=>some (.reg [⟨.no,.p .mv,[],none⟩])
def Wn (P : Program) (hi : Hint) : ResultVar -> Option Res
 | .tmp t=>gd (!hi.loc t) (some (.t t))
 | .cell a t=>gd (!hi.loc a) ((BZ P t).bind fun ag=>(Bi P t).bind fun s=>gd (ag || Nat.beq s 1) (some (.c a s ag)))
def PT (hi : Hint) : Nat -> Bool
 | 0=>true
 | n + 1=>!hi.loc n && PT hi n
def isD (d : Nat) : Dst -> Bool
 | .no=>false
 | .v n=>Nat.beq d n
 | .l n=>Nat.beq d n
def KF (nt : Nat) (o : Op) : Bool :=
 (match o.dst with
 | .no=>true
 | .v n=>Nat.blt n nt
 | .l n=>Nat.blt n nt) &&
 (match o.op with
 | .l (.alp d _)=>isD d o.dst
 | .l (.bxp d _)=>isD d o.dst
 | _=>true)
def wfC (nt : Nat) : C -> Bool
 | .skip=>true
 | .reg ops=>ops.all (KF nt)
 | .seq a b=>wfC nt a && wfC nt b
 | .ite _ a b=>wfC nt a && wfC nt b
 | .blk _ c=>wfC nt c
 | .loop _ c=>wfC nt c
 | .rng _ _ ps a b=>ps.all (fun p=>Nat.blt p nt) && (wfC nt a && wfC nt b)
 | .ex _=>true
 | .ret=>true
def XM (P : Program) (hi : Hint) (gl : Nat -> Option (List I)) (sh : Nat -> Bool) (dr : Nat -> List Nat) (f : Func) : Option F :=
 f.body.bind fun c=>(cmpC P hi gl sh dr c).bind fun x=>(Ai (Wn P hi) f.results.toList).bind fun rs =>
  gd (PT hi (f.params.size + f.nfree) && Nat.ble (f.params.size + f.nfree) f.ntmps && wfC f.ntmps x) (some ⟨f.params.size + f.nfree,rs,x⟩)
end Go.Mx
