/- The primitive of the machine for slices.Sorted of what maps.Keys gave, at maps with strings as keys. -/
import Derived.Test.YtjjpbhhgeddgjaaGreatDoorBd
import Derived.Shelf.GgClosure.StringsRunes
import Derived.Shelf.Spec.SlicesGrow
import Derived.Laws.RangeAny
import Derived.Laws.RangeString
import Derived.Shelf.SlIter.Sorted
import Derived.Sort.Walk0
set_option linter.unusedSimpArgs false
set_option linter.unusedVariables false
set_option linter.unusedSectionVars false
set_option maxRecDepth 100000
namespace Go.Mx
open Go.Proofs Go.RowKit
variable {P : Program}
def EG (b : Nat) : Bool:=Nat.blt b 32 || Nat.blt 126 b
def ixN : List Nat -> Nat -> Int
 | [],_=>-1
 | b :: r,k=>match EG b with
  | true=>Int.ofNat k
  | false=>ixN r (k + 1)
def ifG (g : Nat) : List I -> Option I
 | [.s l,.fn f [],.b true]=>gd (Nat.beq f g) (some (.i .i64 (ixN l 0)))
 | _=>none
def UA (P : Program) (f g : Nat) : Prop:=∀ (s : ByteArray) (w : World),Calls P f #[.string s,.func (.func g) #[] #[],.bool true] w fun e w'=>e = .returned (.int .i64 (Lib.idxFunc EG true s)) /\ Below w.heap.size w w'
theorem QB {b : Nat} (h : 128 <= b) : EG b = true:=by
 unfold EG
 have : Nat.blt 126 b = true:=by rw [AdA]; omega
 rw [this,Bool.or_true]
theorem PZ (s : ByteArray) : ∀ (f pos : Nat),s.size <= pos + f -> Lib.idxFuncFrom EG true s f pos = ixN ((s.data.toList.drop pos).map UInt8.toNat) pos
 | 0,pos,h=>by
  have hl : s.data.toList.length = s.size:=Adu
  have : s.data.toList.drop pos = []:=List.drop_eq_nil_of_le (by omega)
  rw [this]
  rfl
 | f + 1,pos,h=>by
  have hl : s.data.toList.length = s.size:=Adu
  unfold Lib.idxFuncFrom
  by_cases hp : pos < s.size
  ·rw [AcY hp]
   have hd : s.data.toList.drop pos = s[pos]'hp :: s.data.toList.drop (pos + 1):=by
    rw [AdY (by omega)]
    simp [ByteArray.getElem_eq_getElem_data]
   rw [hd,Adp]
   unfold ixN
   by_cases ha : (s[pos]'hp).toNat < 128
   ·rw [Go.decode_ascii s pos hp ha]
    dsimp only
    cases hb : EG (s[pos]'hp).toNat with
    | true=>rw [AcY rfl]; rfl
    | false=>rw [AcQ (by decide)]; exact PZ s f (pos + 1) (by omega)
   ·have h1:=(Go.decode_high s pos hp (by omega)).1
    rw [QB h1,QB (b:=(s[pos]'hp).toNat) (by omega),AcY rfl]
    rfl
  ·rw [AcQ hp]
   have : s.data.toList.drop pos = []:=List.drop_eq_nil_of_le (by omega)
   rw [this]
   rfl
theorem VW {f g : Nat} (hD : drawM = false) (hw : UA P f g) {sh : Nat -> Bool} {gl : Nat -> Option (List I)} (hen : Ez P f) (hsh : sh f = true) : PrimOk P gl sh f (puX (ifG g)) where
 shared:=hsh
 enters:=hen
 ok:=by
  intro call vs H v H' _ he w S ρ β B args hok hG hv
  simp only [puX,AcL,AcM,AcN] at he
  obtain ⟨is,his,i,hi,rfl,rfl⟩:=he
  have hv2:=Gi his hv
  unfold ifG at hi
  split at hi
  ·rename_i l f'
   simp only [Ab,AcZ,AcM] at hi
   obtain ⟨rfl,rfl⟩:=hi
   obtain ⟨a1,a2,a3,ha,h1,h2,h3⟩ : ∃ a b c,args.toList = [a,b,c] /\ RepI w S (.s l) a /\ RepI w S (.fn f' []) b /\ RepI w S (.b true) c:=by
    generalize args.toList = m at hv2
    cases hv2 with
    | cons h1 t =>
     cases t with
     | cons h2 t =>
      cases t with
      | cons h3 t =>
       cases t
       exact ⟨_,_,_,rfl,h1,h2,h3⟩
   cases h1 with
   | s x _ hx =>
    cases h3
    obtain ⟨cs,rfl,hcs⟩ : ∃ cs : Array Value,a2 = .func (.func f') #[] cs /\ cs.size = 0:=by
     cases h2 with
     | fn _ _ _ cs hl=>exact ⟨cs,rfl,hl⟩
    have hcs0 : cs = #[]:=Array.eq_empty_of_size_eq_zero hcs
    subst hcs0
    have ha : args = #[.string x,.func (.func f') #[] #[],.bool true]:=by
     apply Array.ext'
     rw [ha]
    subst ha
    refine (hw x w).mono fun e w' he=>?_
    obtain ⟨rfl,hb⟩:=he
    have hg : Gw w w' none:=⟨⟨hb.os,hb.tape,hb.output,hb.size,fun k hk _=>hb.block k hk⟩,fun h=>by rw [hD] at h; cases h⟩
    obtain ⟨k1,k2⟩:=hok.grow (S':=S) hg (fun _ h=>h) (fun b h=>.inl h) (fun b h=>Aed (hok.lt b h) hb.size)
    refine ⟨_,S,ρ,rfl,k1,k2,.m ?_⟩
    have e1 : Lib.idxFunc EG true x = ixN l 0:=by
     unfold Lib.idxFunc
     rw [PZ x x.size 0 (by omega),List.drop_zero,hx]
    rw [e1]
    exact .i _ _
  ·cases hi
def gwX (ty esz : Nat) (_ : Ba) (vs : List V) (H : Hp) : Option (V × Hp):=match vs with
 | [.m (.nl 4),.m (.i .i64 (.ofNat n))]=>match n with
  | 0=>some (.m (.nl 4),H)
  | k + 1=>gd (Nat.ble (k + 1) 1000000) (some (.sl H.length 0 esz 0 0 false,H ++ [.cs ty esz [] 0 false]))
 | _=>none
def UC (P : Program) (f ty esz : Nat) : Prop:=(∀ w : World,Calls P f #[.slice none 0 0,.int .i64 0] w fun e w'=>e = .returned (.slice none 0 0) /\ w' = w) /\
 ∀ (n : Nat) (w : World),0 < n -> n <= 1000000 -> Calls P f #[.slice none 0 0,.int .i64 n] w fun e w'=>∃ cur cap,e = .returned (.slice (some ⟨w.heap.size,0,none⟩) 0 cap) /\ w' = w.drew.alloc (.cells cur ty) /\ cur.size = cap * esz /\ cap <= maxLen
def gwC (P : Program) (t esz : Nat) : Bool:=match P.info? t with
 | some i=>match i.zero with
  | some z=>Nat.blt 0 i.size && (Nat.beq z.cells.size i.size && (Nat.ble i.bytes 1000 && Nat.beq i.size esz))
  | none=>false
 | none=>false
theorem VX {ρ : Go.Shelf.Ren} {esz : Nat} (L : Lays8.n4 P ρ) (h : gwC P (ρ.t 25) esz = true) : UC P (ρ.f 4) (ρ.t 25) esz:=by
 unfold gwC at h
 split at h
 ·rename_i i0 hi0
  split at h
  ·rename_i z hz0
   simp only [AcP,AdA,AcZ,Adx] at h
   obtain ⟨hs0,hzs,hb,rfl⟩:=h
   refine ⟨fun w=>Any8.slices_Grow_room L none 0 0 0 w (by omega) (by omega) (by omega) (by omega),fun n w h0 hn=>?_⟩
   have hm : n * i0.bytes <= 1000000 * 1000:=Nat.mul_le_mul hn hb
   refine (Any8.slices_Grow_grow L i0 z hi0 hz0 hs0 none 0 0 n [] w (by omega) (by omega) (by rw [AdU]; omega) (by omega) (by simp) (fun _=>rfl) (fun a h=>by cases h)).mono fun e w' he=>?_
   obtain ⟨rfl,rfl⟩:=he
   have hcm:=grownCap_le_maxLen w (0 + n) 0 (ρ.t 25) (by unfold maxLen; omega)
   have hge:=grownCap_ge w (0 + n) 0 (ρ.t 25)
   refine ⟨_,_,rfl,rfl,?_,hcm⟩
   simp only [Array.size_append,List.size_toArray,KE,hzs,AdC,AdU,Nat.sub_zero] at hge ⊢
   rw [<- AdB]
   congr 1
   omega
  ·cases h
 ·cases h
theorem VY {f ty esz : Nat} (h0 : 0 < esz) (hw : UC P f ty esz) {sh : Nat -> Bool} {gl : Nat -> Option (List I)} (hen : Ez P f) (hsh : sh f = true) : PrimOk P gl sh f (gwX ty esz) where
 shared:=hsh
 enters:=hen
 ok:=by
  intro call vs H v H' _ he w S ρ β B args hok hG hv
  unfold gwX at he
  split at he
  ·rename_i n
   obtain ⟨a1,a2,ha,h1,h2⟩ : ∃ a b,args.toList = [a,b] /\ RepI w S (.nl 4) a /\ RepI w S (.i .i64 (.ofNat n)) b:=by
    have hv2:=Gi (is:=[.nl 4,.i .i64 (.ofNat n)]) rfl hv
    generalize args.toList = m at hv2
    cases hv2 with
    | cons h1 t =>
     cases t with
     | cons h2 t =>
      cases t
      exact ⟨_,_,rfl,h1,h2⟩
   cases h1
   cases h2
   have ha : args = #[.slice none 0 0,.int .i64 (Int.ofNat n)]:=by
    apply Array.ext'
    rw [ha]
   subst ha
   cases n with
   | zero =>
    simp only [AcM,AcN] at he
    obtain ⟨rfl,rfl⟩:=he
    refine (hw.1 w).mono fun e w' he=>?_
    obtain ⟨rfl,rfl⟩:=he
    exact ⟨_,S,ρ,rfl,hok,Stp.refl _ _ _ _ _,.m .nls⟩
   | succ k =>
    simp only [Ab,Adx,AcM,AcN] at he
    obtain ⟨hk,rfl,rfl⟩:=he
    refine (hw.2 (k + 1) w (by omega) hk).mono fun e w' he=>?_
    obtain ⟨cur,cap,rfl,rfl,hsz,hcm⟩:=he
    have hh:=heap_alloc_new w.drew (.cells cur ty)
    have hS : ¬ S w.heap.size:=fun h=>by have:=hok.lt _ h; omega
    obtain ⟨hok',hst⟩:=Ok.newRow (w':=w.drew.alloc (.cells cur ty)) (S':=S) (g:=w.heap.size) (row:=.cs ty esz [] 0 false) hok (Ch w _) (fun _ h=>h) (fun b h=>.inl h) (fun b h=>by have:=hok.lt b h; simp; omega) (AcR _)
     (fun hto=>⟨Adg _,h0,fun e he=>(by cases he),fun e=>(by cases e),fun _=>by simpa using hS,cur,cap,(0,0),by simpa using hh,fun _=>.inl rfl,hsz,Adg _,hcm,by simpa using RepL.nil⟩)
    refine ⟨_,S,_,rfl,hok',hst,?_⟩
    exact .sl H.length 0 esz 0 0 false ty [] 0 false _ cap (GH _ _) (AcR _) (AcR _) (Adg _) hcm (fun h=>by cases h) ⟨_,rfl⟩ (fun _ h=>absurd h (by omega)) (fun _ _ _ _=>⟨by simp,cur,(0,0),by simpa using hh,hsz⟩)
  ·cases he
end Go.Mx
namespace Go.Mx
open Go.Proofs Go.RowKit Go.Sort
variable {P : Program}
def Uc (x : List Nat) : List (List Nat) -> List (List Nat)
 | []=>[x]
 | y :: r=>match ltL y x with
  | true=>y :: Uc x r
  | false=>x :: y :: r
def NP : List (List Nat) -> List (List Nat)
 | []=>[]
 | x :: r=>Uc x (NP r)
def VJ : List (List Nat) -> Bool
 | []=>true
 | x :: r=>!(r.any (eqL x)) && VJ r
def kyS : List (I × V) -> Option (List (List Nat))
 | []=>some []
 | (k,_) :: r=>match k with
  | .s l=>(kyS r).bind fun t=>some (l :: t)
  | _=>none
def kyV (ks : List (List Nat)) : I:=match ks with
 | []=>.nl 4
 | x :: r=>.sl ((NP (x :: r)).map fun l=>[.s l])
def kyX (g : Nat) (_ : Ba) (vs : List V) (H : Hp) : Option (V × Hp):=match vs with
 | [.fn f [.pt r ver 0 0]]=>gd (Nat.beq f g) ((readA ⟨[],H⟩ 1 (.pt r ver 0 0)).bind fun cs=>match cs with
  | [.mp q]=>(nth H q).bind fun row=>match row with
   | .mp es _=>(kyS es).bind fun ks=>gd (VJ ks && (Nat.ble ks.length 1000000 && ks.all fun l=>Nat.ble l.length 1000000)) (some (.m (kyV ks),H))
   | _=>none
  | _=>none)
 | _=>none
def Uz (P : Program) (f g : Nat) : Prop:=∀ (Bm b : Nat) (ents : Array MapEntry) (clock : Nat) (ks : List (List UInt8)) (w : World),Bm < w.heap.size -> w.cell? ⟨Bm,0,none⟩ = some (.map (some b)) -> w.heap[b]? = some (.map ents clock) -> Brn ents clock ->
 ents.toList.map (·.key) = ks.map encStr -> ks.Nodup -> ks.length <= 1000000 -> (∀ k,k ∈ ks -> k.length <= 1000000) ->
 Calls P f #[.func (.func g) #[] #[.pointer (some ⟨Bm,0,none⟩)]] w fun e w'=>∃ v T,e = .returned v /\ w'.ownsRow w.heap.size T 1 v ks.length ((ks.mergeSort leB).map encStr) /\ (v = .slice none 0 0 ↔ ks = []) /\ Below w.heap.size w w'
theorem VR {ρ σ : Go.Shelf.Ren} (Lk : SlLaysZ.n10 P ρ) (Ls : SlLaysZ.n6 P σ) (hs : ∀ m,AnyZ.SortsIn P σ Fence.wide m) (e9 : ∀ (args : Array Value) (w : World),(callFunc (σ.f 9) args).run P w = .ok (.enter (σ.f 9) args) w) (hk : P.underlying (ρ.t 26) = some .string) : Uz P (σ.f 6) (ρ.f 10):=fun Bm b ents clock ks w hBm hm hh hbr hks hnd hlen hall=>by
 have hsz : ents.size = ks.length:=by
  have:=congrArg List.length hks
  simpa using this
 have hkey : ∀ x,x ∈ ents.toList -> ∃ k,k ∈ ks /\ x.key = encStr k:=fun x hx=>by
  have : x.key ∈ ks.map encStr:=by rw [<- hks]; exact List.mem_map_of_mem hx
  obtain ⟨k,h1,h2⟩:=Adz.1 this
  exact ⟨k,h1,h2.symm⟩
 have hof : ∀ x,x ∈ ents.toList -> ∀ k,k ∈ ks -> x.key = encStr k -> keyOf P (ρ.t 26) x.key = some (.string k):=fun x _ k hk1 e=>by
  rw [e]
  have:=hall k hk1
  have:=WideMaps.keyOf_string_mk hk (s:=⟨k.toArray⟩) (by show k.toArray.size <= maxLen; simp [maxLen]; omega)
  simpa using this
 let R : Value -> Option (DataW Nat × List MemPlace):=fun _=>some (.nil,[])
 have hrd : ∀ x,x ∈ ents.toList -> ∀ k,k ∈ ks -> x.key = encStr k -> WideElems.rg P (ρ.t 26) R x = (.string k,.nil):=fun x hx k hk1 e=>by
  unfold WideElems.rg WideElems.rd
  rw [hof x hx k hk1 e]
  rfl
 have hown : w.ownsMap P (ρ.t 26) R b ents.size (.map ((ents.toList.map (WideElems.rg P (ρ.t 26) R)).foldr DataW.insert [])):=by
  refine ⟨ents,clock,hh,⟨by rw [hsz]; simp [maxLen]; omega,⟨hbr.1,hbr.2,?_⟩,fun x hx=>?_⟩,AcR _,rfl⟩
  ·rw [hks]
   exact hnd.map _ fun a b hab e=>hab (encStr_inj e)
  ·obtain ⟨k,hk1,e⟩:=hkey x hx
   refine ⟨(.string k,.nil),?_⟩
   unfold WideElems.rd
   rw [hof x hx k hk1 e]
   rfl
 have hperm : (strKeys (.map ((ents.toList.map (WideElems.rg P (ρ.t 26) R)).foldr DataW.insert []) : DataW Nat)).Perm ks:=by
  show (((ents.toList.map (WideElems.rg P (ρ.t 26) R)).foldr DataW.insert []).map fun p=>_root_.Go.strOf p.1).Perm ks
  refine ((WideShapes.sorted_perm _).map _).trans ?_
  rw [Aef]
  have key : ∀ (l : List MapEntry) (m : List (List UInt8)),l.map (·.key) = m.map encStr -> (∀ x,x ∈ l -> x ∈ ents.toList) -> (∀ k,k ∈ m -> k ∈ ks) -> l.map ((fun p=>_root_.Go.strOf p.1) ∘ WideElems.rg P (ρ.t 26) R) = m:=by
   intro l
   induction l with
   | nil=>intro m h _ _; cases m with
    | nil=>rfl
    | cons=>cases h
   | cons x r ih=>intro m h h1 h2; cases m with
    | nil=>cases h
    | cons k t =>
     simp only [Adp,List.cons.injEq] at h
     rw [Adp,ih t h.2 (fun y hy=>h1 y (Adj _ hy)) (fun y hy=>h2 y (Adj _ hy))]
     have:=hrd x (h1 x (Adl ..)) k (h2 k (Adl ..)) h.1
     simp only [Function.comp,this]
     rfl
  rw [key ents.toList ks hks (fun _ h=>h) (fun _ h=>h)]
 have hD : Maps.size (.map ((ents.toList.map (WideElems.rg P (ρ.t 26) R)).foldr DataW.insert []) : DataW Nat) = ks.length:=by
  have:=hperm.length_eq
  simpa [strKeys,Maps.size] using this
 have hseq:=AnyZ.keys_gives Lk Fence.wide 2 AdI rfl (by omega) Bm b ents.size _ w hBm hm hown
 have cS:=AnyZ.sorted_in Ls Fence.wide 5 AdI AdI AdI AdI rfl (by omega) (hs _) e9 (ρ.f 10) #[.pointer (some ⟨Bm,0,none⟩)] AdI (Lk.f10.enters rfl) _ _ (by rw [hD]; simp [maxLen]; omega) (by rw [hD]; omega) w hseq
 refine (callsIn_wide.1 cS).mono fun e w' he=>?_
 obtain ⟨v,ss,rfl,hp,hrow,hnil,hb⟩:=he
 have hp:=hp.trans hperm
 have hl:=hp.length_eq
 have e2 : ss.mergeSort (fun x y=>decide (x <= y)) = ks.mergeSort leB:=mergeSort_of_perm hp
 rw [e2,hl] at hrow
 refine ⟨v,_,rfl,hrow,hnil.trans ⟨fun h=>?_,fun h=>?_⟩,hb⟩
 ·subst h
  exact Adq hl.symm
 ·subst h
  exact Adq hl
def bnL (k : List UInt8) : List Nat:=k.map UInt8.toNat
def Ud (x : List UInt8) : List (List UInt8) -> List (List UInt8)
 | []=>[x]
 | y :: r=>if y < x then y :: Ud x r else x :: y :: r
def Pg : List (List UInt8) -> List (List UInt8)
 | []=>[]
 | x :: r=>Ud x (Pg r)
theorem GM (x : List UInt8) : ∀ l : List (List UInt8),(Ud x l).Perm (x :: l)
 | []=>.refl _
 | y :: r=>by
  unfold Ud
  split
  ·exact ((GM x r).cons y).trans (List.Perm.swap x y r)
  ·exact .refl _
theorem EP : ∀ l : List (List UInt8),(Pg l).Perm l
 | []=>.refl _
 | x :: r=>(GM x _).trans ((EP r).cons x)
theorem PW (x : List UInt8) : ∀ l : List (List UInt8),l.Pairwise (· <= ·) -> (Ud x l).Pairwise (· <= ·)
 | [],_=>List.pairwise_singleton _ _
 | y :: r,h=>by
  unfold Ud
  obtain ⟨h1,h2⟩:=Adv.1 h
  split
  ·rename_i e
   refine Adv.2 ⟨fun z hz=>?_,PW x r h2⟩
   rcases Adf.1 ((GM x r).mem_iff.1 hz) with rfl | hz
   ·exact List.le_of_lt e
   ·exact h1 z hz
  ·rename_i e
   have e : x <= y:=List.not_lt.1 e
   refine Adv.2 ⟨fun z hz=>?_,h⟩
   rcases Adf.1 hz with rfl | hz
   ·exact e
   ·exact List.le_trans e (h1 z hz)
theorem Pf : ∀ l : List (List UInt8),(Pg l).Pairwise (· <= ·)
 | []=>.nil
 | x :: r=>PW x _ (Pf r)
theorem NQ (l : List (List UInt8)) : l.mergeSort leB = Pg l:=by
 have tr : ∀ a b c : List UInt8,leB a b = true -> leB b c = true -> leB a c = true:=fun a b c h1 h2=>by simp only [leB,Adm] at *; exact List.le_trans h1 h2
 have to : ∀ a b : List UInt8,(leB a b || leB b a) = true:=fun a b=>by simp only [leB,AdX,Adm]; exact List.le_total a b
 refine List.Perm.eq_of_pairwise (le:=(· <= ·)) (fun a b _ _ h1 h2=>List.le_antisymm h1 h2) ?_ (Pf l) ((List.mergeSort_perm l _).trans (EP l).symm)
 exact (List.pairwise_mergeSort tr to l).imp fun h=>by simpa [leB] using h
theorem Zy (x y : List UInt8) : ltL (bnL x) (bnL y) = decide (x < y):=by
 unfold bnL
 rw [JI,Go.Proofs.bytesLess_eq]
theorem PV (x : List UInt8) : ∀ l : List (List UInt8),Uc (bnL x) (l.map bnL) = (Ud x l).map bnL
 | []=>rfl
 | y :: r=>by
  rw [Adp]
  unfold Uc Ud
  rw [Zy]
  by_cases h : y < x
  ·rw [Ade h,AcY h,Adp,<- PV x r]
  ·rw [Adr h,AcQ h]
   rfl
theorem KF : ∀ l : List (List UInt8),NP (l.map bnL) = (Pg l).map bnL
 | []=>rfl
 | x :: r=>by
  rw [Adp]
  unfold NP Pg
  rw [KF r,PV]
theorem PJ : ∀ {l : List (List UInt8)},VJ (l.map bnL) = true -> l.Nodup
 | [],_=>.nil
 | x :: r,h=>by
  rw [Adp] at h
  unfold VJ at h
  rw [AcP,Adt,List.any_eq_false] at h
  refine List.nodup_cons.2 ⟨fun hm=>?_,PJ h.2⟩
  have:=h.1 (bnL x) (List.mem_map_of_mem hm)
  rw [DN] at this
  simp at this
theorem PT {w : World} {S : Nat -> Prop} {ρ : Nat -> Nat} {H : Hp} : ∀ {es : List (I × V)} {ents : List MapEntry} {ks : List (List Nat)},Ents w S ρ H es ents -> kyS es = some ks -> ∃ bs : List (List UInt8),ks = bs.map bnL /\ ents.map (·.key) = bs.map encStr
 | [],[],ks,_,h=>by
  cases h
  exact ⟨[],rfl,rfl⟩
 | (k,x) :: r,e :: t,ks,.cons hx ht,h=>by
  unfold kyS at h
  split at h
  ·rename_i l
   simp only [AcL,AcM] at h
   obtain ⟨m,hm,rfl⟩:=h
   obtain ⟨bs,rfl,hb⟩:=PT ht hm
   obtain ⟨h1,_⟩:=hx
   generalize hc : e.key = c at h1
   cases h1 with
   | s y _ hy =>
    refine ⟨y.data.toList :: bs,by rw [<- hy]; rfl,?_⟩
    rw [Adp,Adp,hb,hc]
  ·cases h
set_option maxHeartbeats 1000000 in
theorem VS {f g : Nat} (hD : drawM = false) (hw : Uz P f g) {sh : Nat -> Bool} {gl : Nat -> Option (List I)} (hen : Ez P f) (hsh : sh f = true) : PrimOk P gl sh f (kyX g) where
 shared:=hsh
 enters:=hen
 ok:=by
  intro call vs H v H' _ he w S ρ β B args hok hG hv
  unfold kyX at he
  split at he
  ·rename_i f' r ver
   simp only [Ab,AcL,AcZ] at he
   obtain ⟨rfl,cs,hcs,he⟩:=he
   split at he
   ·rename_i q
    simp only [AcL,AE] at he
    obtain ⟨row,hq,he⟩:=he
    split at he
    ·rename_i es fz
     simp only [Ab,AcL,AcM,AcN,AcP,Adx] at he
     obtain ⟨ks,hks,⟨hnd,hkl,hka⟩,rfl,rfl⟩:=he
     obtain ⟨a,ha,h1⟩ : ∃ a,args.toList = [a] /\ RepV w S ρ H (.fn f' [.pt r ver 0 0]) a:=by
      generalize args.toList = m at hv
      cases hv with
      | cons h1 t =>
       cases t
       exact ⟨_,rfl,RepX.toV rfl h1⟩
     obtain ⟨_,cap,rfl,hcap⟩:=h1.fnL
     obtain ⟨cp,ct,hc0,hcp,hct⟩:=RepL.inv_cons (x:=V.pt r ver 0 0) (xs:=[]) hcap
     have hct:=hct.inv_nil
     subst hct
     have hce : cap = #[cp]:=by
      apply Array.ext'
      rw [hc0]
     subst hce
     have hcs2 : readA ⟨B,H⟩ 1 (.pt r ver 0 0) = some [.mp q]:=hcs
     obtain ⟨b0,off0,cells,hx,hlen,hR,hcell,_⟩:=EV hok (RepX.ofV hcp) hcs2
     subst hx
     have hoff : off0 = 0 /\ b0 < w.heap.size:=by
      have hlt0 : ∃ u,cells[0]? = some u:=by
       cases cells with
       | nil=>cases hlen
       | cons u t=>exact ⟨u,rfl⟩
      obtain ⟨u,hu⟩:=hlt0
      have hcu:=hcell 0 u hu
      refine ⟨?_,?_⟩
      ·cases hcp with
       | pt _ _ _ _ ty esz es' base fz' p hrow h2 hx hb =>
        unfold readA at hcs
        simp only [AcL,AE] at hcs
        obtain ⟨row',hrow',hcs⟩:=hcs
        rw [hrow] at hrow'
        cases hrow'
        simp only [Ab,AcP,Adx] at hcs
        obtain ⟨b1,hb1,_⟩:=hb hcs.1.1
        cases hb1
        simp
      ·unfold World.cell? at hcu
       cases hh : w.heap[b0]? with
       | none=>simp [hh] at hcu
       | some o=>exact (Adn.1 hh).1
     obtain ⟨rfl,hb0⟩:=hoff
     obtain ⟨cm,ct,rfl,hcm,hct⟩:=RepL.inv_cons (x:=V.mp q) (xs:=[]) hR
     have hct:=hct.inv_nil
     subst hct
     have hcm2 : cm = .map (some (ρ q)):=by
      cases hcm
      rfl
     subst hcm2
     have hc1:=hcell 0 _ rfl
     obtain ⟨ents,clock,hh,hE,hbr⟩:=Ents.ofRow hok hq
     obtain ⟨bs,rfl,hbk⟩:=PT hE hks
     have hargs : args = #[.func (.func f') #[] #[.pointer (some ⟨b0,0,none⟩)]]:=by
      apply Array.ext'
      rw [ha]
     subst hargs
     rw [Adc] at hkl
     refine (hw b0 (ρ q) ents clock bs w hb0 hc1 hh hbr hbk (PJ hnd) hkl (fun k hk=>by
      have:=AcX.1 hka _ (List.mem_map_of_mem hk)
      simpa [bnL] using this)).mono fun e' w' he=>?_
     obtain ⟨v,T,rfl,hrow,hnil,hb⟩:=he
     have hg : Gw w w' none:=⟨⟨hb.os,hb.tape,hb.output,hb.size,fun k hk _=>hb.block k hk⟩,fun h=>by rw [hD] at h; cases h⟩
     cases bs with
     | nil =>
      obtain ⟨k1,k2⟩:=hok.grow (S':=S) hg (fun _ h=>h) (fun b h=>.inl h) (fun b h=>Aed (hok.lt b h) hb.size)
      rw [hnil.2 rfl]
      exact ⟨_,S,ρ,rfl,k1,k2,.m .nls⟩
     | cons k0 kt =>
      rcases hrow.2 with ⟨e0,_⟩ | ⟨gb,cap,cur,rfl,hbase,hgb,r1,r2,r3,r4⟩
      ·exact absurd (hnil.1 e0) (by simp)
      have hglt:=(Adn.1 hgb).1
      obtain ⟨k1,k2⟩:=hok.grow (S':=fun b=>S b \/ b = gb) hg (fun _ h=>.inl h) (fun b h=>h.elim .inl fun e=>.inr (by omega)) (fun b h=>h.elim (fun h=>Aed (hok.lt b h) hb.size) fun e=>by rw [e]; exact hglt)
      refine ⟨_,_,ρ,rfl,k1,k2,.m ?_⟩
      have hsl : (NP ((k0 :: kt).map bnL)).length = (k0 :: kt).length:=by
       rw [KF,Adc,(EP _).length_eq]
      rw [NQ] at r4
      have hes : (NP ((k0 :: kt).map bnL)).map (fun l=>[I.s l]) = (Pg (k0 :: kt)).map fun k=>[I.s (bnL k)]:=by
       rw [KF,Aef]
       rfl
      have hbl : (Pg (k0 :: kt)).length = (k0 :: kt).length:=(EP _).length_eq
      show RepI w' _ (.sl ((NP ((k0 :: kt).map bnL)).map fun l=>[I.s l])) _
      rw [hes]
      have e3 : (k0 :: kt).length = ((Pg (k0 :: kt)).map fun k=>[I.s (bnL k)]).length:=by rw [Adc,hbl]
      rw [e3] at r1 r4 ⊢
      refine .sl _ _ cap 1 gb 0 (fun i j=>((Pg (k0 :: kt))[i]?.map encStr).getD undef) r1 r2 (fun e he=>?_) (fun _=>⟨rfl,.inr rfl⟩) ⟨_,rfl⟩ (fun i e j x hi hj=>?_) (fun i e j x hi hj=>?_)
      ·obtain ⟨k,_,rfl⟩:=Adz.1 he
       rfl
      ·rw [Adi,Ady] at hi
       obtain ⟨k,hk,rfl⟩:=hi
       have hj0 : j = 0:=by
        cases j with
        | zero=>rfl
        | succ j=>simp at hj
       subst hj0
       have hilt:=(AcO.1 hk).1
       have hcur : cur.toList[i]? = some (encStr k):=by
        have : (cur.toList.take (((Pg (k0 :: kt)).map fun k=>[I.s (bnL k)]).length * 1))[i]? = some (encStr k):=by rw [r4,Adi,hk]; rfl
        rw [Adw,AcY (by rw [Adc]; omega)] at this
        exact this
       rw [hk]
       simp only [World.cell?,hgb]
       simpa using hcur
      ·rw [Adi,Ady] at hi
       obtain ⟨k,hk,rfl⟩:=hi
       have hj0 : j = 0:=by
        cases j with
        | zero=>rfl
        | succ j=>simp at hj
       subst hj0
       simp only [List.getElem?_cons_zero,AcM] at hj
       subst hj
       rw [hk]
       exact .s _ _ (by simp [bnL])
    ·cases he
   ·cases he
  ·cases he
end Go.Mx
